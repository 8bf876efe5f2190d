/-
  Contracts: insertion sort of a part; exchange of parts.
  Conditions: none.
-/
import Derived.Test.YtjcmncmajmoiiaaGreatVY06
import Derived.Test.YtjcmncmajmoiiaaGreatVY07
import Derived.Test.YtjcmncmajmoiiaaGreatVY09
import Derived.Test.YtjcmncmajmoiiaaGreatVY10
import Derived.Test.YtjcmncmajmoiiaaGreatVY08
import Derived.Test.YtjcmncmajmoiiaaGreatProg
import Derived.Shelf.Sort.AssemblyIn
import Derived.Shelf.SlicesE.Clone
import Derived.Shelf.SlicesE.Delete
import Derived.KernelRfl
import Derived.Sort.EveryDepth
import Derived.Sort.OwnSortedInts
import Derived.WalkKit
import Derived.Deep.LoopGhost
import Derived.Lib.Walk
import Derived.Lib.SliceRun
import Derived.Shelf.RegionOpenPlain
set_option maxRecDepth 100000
set_option maxHeartbeats 4000000
set_option linter.all false
open And renaming intro->γj
open Classical renaming not_not->ω
open Go.Vi.AV renaming sc->δg
open Go.Vi.AV.os renaming injEq->εL
open Go.Vi.AV.sc renaming injEq->γX
open Go.Vi.AV.sl renaming injEq->δ6
open Go.Vi.SV renaming si->Θ,ow->γ6,row->Φ,il->γp,ptr->γS
open List renaming map_cons->ι,cons_append->γF,map_nil->γt,length->γn,length_set->γb,drop->γ5,pairwise_append->γY,mem_of_mem_drop->γL,mem_of_mem_take->γl,drop_eq_getElem_cons->γ7,take_append_drop->Δ,drop_drop->γV,append_assoc->γe,length_append->κ,length_take->Ψ,length_drop->γI,getElem_take->εN,getElem_drop->δ1,append_cancel_right->δE,sublist_append_right->ζb,take_of_length_le->γh,mem_append->γc,nil_append->δf,take_zero->εP,length_cons->γB,set_append_right->εh,forall_mem_cons->γq,not_mem_nil->γ3,Pairwise->ζo,range->π,range_succ->δr,mem_range->γH,replicate->ε,getElem?_cons_zero->δq,getElem?_map->δm,getElem?_eq_some_iff->θ,map_append->γd,take->γa,take_length->ψ,all_eq_true->Ξ
open List.Pairwise renaming sublist->δU,nil->δy
open List.cons renaming injEq->ξ
open Nat renaming le_refl->τ,zero_le->εX,lt_of_lt_of_le->γr
open Option renaming map_eq_some_iff->δ
open Option.some renaming injEq->γ
open Prod renaming ext->δ5
namespace Go.Vi
open Go.Proofs.YtjcmncmajmoiiaaGreat.Ir
open Go.Proofs
def yA:Nat->List SV->Option (List Int)
 |0,[.fn (.func 127) [] [.ptr 1 0 20]]=>some []
 |k+1,x::r=>match x.int .i64,yA k r with
  |some n,some l=>some (n::l)
  |_,_=>none
 |_,_=>none
theorem TY:∀{k:Nat} {r:List SV} {l:List Int},yA k r=some l->gL r=gL (l.map (Θ .i64)++[.fn (.func 127) [] [.ptr 1 0 20]])
 |0,r,l,h=>by
  unfold yA at h;split at h;·simp only[γ] at h;subst h;rfl
  ·rename_i h0;cases h0
  ·cases h;|k+1,[],l,h=>by simp[yA] at h;|k+1,x::r,l,h=>by
  simp only[yA] at h;split at h
  ·rename_i n l' h1 h2;simp only[γ] at h;subst h;simp only[gL,ι,γF,TY h2,gU h1];rfl
  ·cases h
theorem T0:∀{l m:List Int} {z:List SV},l.length=m.length->gL (l.map (Θ .i64)++z)=gL (m.map (Θ .i64)++z)->l=m
 |[],[],_,_,_=>rfl
 |[],_::_,_,h,_=>by simp at h;|_::_,[],_,h,_=>by simp at h;|x::l,y::m,z,hl,h=>by
  simp only[ι,γF,gL,ξ,SV.g,γX,Value.int.injEq,true_and] at h;rw[h.1,T0 (by simpa using hl) h.2]
def yB (f:FuncId) (k:Nat) (β:Type) (AW:β->List Int) (T8:List Int->Option β) (h0:∀b,(AW b).length=k) (h1:∀l b,T8 l=some b->l=AW b) (h2:∀b c,AW b=AW c->b=c) (dom:(Nat×List Int×bp)×β->Prop) (out:(Nat×List Int×bp)×β->List Int):cZ where
 f:=f;α:=(Nat×List Int×bp)×β;put a:=.ow 0 a.1.1 1::((AW a.2).map (Θ .i64)++[.fn (.func 127) [] [.ptr 1 0 20]]);st a:=[.row (.i .i64) a.1.2.1 3 true,.cells a.1.2.2.ss 27 20 false];dec v o:=match v,o with
  | .ow 0 n 1::r,[.row t l 3 true,.cells cs 27 20 false]=>match yA k r,iI t (.i .i64) l,sK cs with
   |some xs,some l,some p=>match T8 xs with
    |some b=>some ((n,l,p),b)
    |none=>none
   |_,_,_=>none
  |_,_=>none;ok v o a h:=by
  split at h
  ·split at h
   ·rename_i h3 h4 h5;split at h
    ·rename_i b hb;simp only[γ] at h;subst h;obtain⟨rfl,hh⟩:=nu h4;cases hh;have:=h1 _ _ hb;subst this;refine⟨by simp only[gL,TY h3],?_⟩;simp only[gO,ι,γt,bq.g,vH h5]
    ·cases h
   ·cases h
  ·cases h
 inj a b e1 e2:=by
  obtain⟨⟨n,l,p⟩,x⟩:=a;obtain⟨⟨n',l',p'⟩,x'⟩:=b;simp only[gL,ξ,SV.g,εL,true_and] at e1;simp only[gO,ι,γt,bq.g,ξ,bP.cells.injEq,and_true,true_and] at e2;have h3:p=p':=cY.inj p p' (by simp only[cY,SV.g,e2.2]);have h4:l=l':=by
   have hf:=congrArg γn e2.1;rw[ft,ft] at hf;exact l8 (.i .i64) (by simpa[bk.sz] using hf) e2.1
  have h5:x=x':=h2 _ _ (T0 (by rw[h0,h0]) e1.2);rw[e1.1.1,h3,h4,h5]
 dom:=dom;res _:=.bH [];out a:=[.row (.i .i64) (out a) 3 true,.cells a.1.2.2.ss 27 20 false]
abbrev KF:=Nat×List Int×bp
def AX (b:Int×Int):List Int:=[b.1,b.2]
def KG:List Int->Option (Int×Int)
 |[a,b]=>some (a,b)
 |_=>none
theorem adl:∀l b,KG l=some b->l=AX b:=λl b h=>by
 unfold KG at h;split at h;·simp only[γ] at h;subst h;rfl
 ·cases h
theorem adn:∀b c,AX b=AX c->b=c:=λb c h=>by
 unfold AX at h;simp only[ξ,and_true] at h;exact δ5 h.1 h.2
def wi (b:Int×Int×Int):List Int:=[b.1,b.2.1,b.2.2]
def AY:List Int->Option (Int×Int×Int)
 |[a,b,c]=>some (a,b,c)
 |_=>none
theorem KH:∀l b,AY l=some b->l=wi b:=λl b h=>by
 unfold AY at h;split at h;·simp only[γ] at h;subst h;rfl
 ·cases h
theorem KI:∀b c,wi b=wi c->b=c:=λb c h=>by
 unfold wi at h;simp only[ξ,and_true] at h;exact δ5 h.1 (δ5 h.2.1 h.2.2)
def uI (a:KF):Prop:=(bC a.2.2=0/\a.1=a.2.1.length)/\a.2.1.length<=1000/\∀x∈a.2.1,iz a.2.2 x
def KJ (l:List Int) (a b:Int):Prop:=0<=a/\a<=b/\b<=l.length
theorem s8 {l m:List Int} (h:l=m):(bq.row (.i .i64) l 3 true).same (bq.row (.i .i64) m 3 true):=by subst h;rfl
def KL:cZ:=yB 236 3 (Int×Int×Int) wi AY (λ_=>rfl) KH KI (λa=>a.1.1=a.1.2.1.length/\a.1.2.1.length<=1000/\0<=a.2.1/\0<=a.2.2.2/\a.2.1+a.2.2.2<=a.2.2.1/\a.2.2.1+a.2.2.2<=a.1.2.1.length) λa=>jy a.1.2.1 a.2.1.toNat a.2.2.1.toNat a.2.2.2.toNat
def ado (n:Nat) (l:List Int) (p:bp) (a b k:Int):Nat->cB
 |1=> .inv (Int×List Int) (λx=>⟨[(0,.ow 0 n 1),(1,.si .i64 a),(2,.si .i64 b),(3,.si .i64 k),(10,.si .i64 x.1)],[.row (.i .i64) x.2 3 true,.cells p.ss 27 20 false]⟩) (λs=>(iS s 10,oS (.i .i64) s 0))
   (λx=>(0<=x.1/\x.1<=k)/\x.2=jy l a.toNat b.toNat x.1.toNat) (λx=>(k - x.1).toNat) λ_ _=> .look
 |_=> .look
theorem h363:dK Tryz.prog KL:=by
 refine jm (L:=[]) (W:=[]) KL (λa=>ado a.1.1 a.1.2.1 a.1.2.2 a.2.1 a.2.2.1 a.2.2.2) (by simp) (by simp) ?_;rintro⟨⟨n,l,p⟩,a,b,k⟩ ⟨hn,hl,a0,k0,h1,h2⟩;refine bN (let c:=Θ .i64;let d:=(0:Int);let e:=bV .i64;let f:=bq.row;let q:=γ6 0 n 1;let m:=bk.i .i64;let t:=f m l 3 true;let h:=bq.cells [c p.supply.a0,c p.supply.a1,c p.supply.a2,c p.supply.a3,c p.supply.a4,c p.supply.a5,c p.opn.a0,c p.opn.a1,c p.opn.a2,c p.opn.a3,c p.opn.a4,c p.opn.a5,c p.cls.a0,c p.cls.a1,c p.cls.a2,c p.cls.a3,c p.cls.a4,c p.cls.a5,Φ m p.classes,Φ bk.off p.offers] 27 20 false;(((q.same q/\(c a).same (c a)/\(c b).same (c b)/\(c k).same (c k)/\(γp .i64 0).same (c 0)/\True)/\t.same t/\h.same h/\True)/\(d<=d/\d<=k)/\l=jy l a.toNat b.toNat 0)/\∀(x:Int×List Int),let g:=x.snd.length;let r:=(b+x.fst).toNat;let s:=(a+x.fst).toNat;let o:=x.snd.set s (bj x.snd r d);let j:=x.fst+(1:Int);let u:=c j;let v:=o.set r (bj x.snd s d);let w:=f m v 3 true;(d<=x.fst/\x.fst<=k)/\x.snd=jy l a.toNat b.toNat x.fst.toNat->(decide (x.fst<k)=true->e (a+x.fst)/\e (b+x.fst)/\e (b+x.fst)/\n=g/\d<=b+x.fst/\b+x.fst<(↑g:Int)/\n=g/\r<g/\e (a+x.fst)/\n=g/\d<=a+x.fst/\a+x.fst<(↑g:Int)/\n=g/\s<g/\n=g/\d<=a+x.fst/\a+x.fst<(↑g:Int)/\n=g/\s<g/\n=o.length/\d<=b+x.fst/\b+x.fst<(↑o.length:Int)/\n=o.length/\r<o.length/\e j/\((q.same q/\(c a).same (c a)/\(c b).same (c b)/\(c k).same (c k)/\u.same u/\True)/\w.same w/\h.same h/\True)/\((d<=j/\j<=k)/\v=jy l a.toNat b.toNat j.toNat)/\(k - j).toNat<(k - x.fst).toNat)/\(decide (x.fst<k)=false->(SV.bH []).same (SV.bH [])/\(f m x.snd 3 true).same (f m (jy l a.toNat b.toNat k.toNat) 3 true)/\h.same h/\True)) (by kernel_rfl) ?_;simp only[vcs];have hn:n=l.length:=hn;have hl:l.length<=1000:=hl;have a0:0<=a:=a0;have k0:0<=k:=k0;have h1:a+k<=b:=h1;have h2:b+k<=l.length:=h2;refine⟨⟨⟨by omega,by omega⟩,adi.symm⟩,?_⟩;rintro⟨i,m⟩ ⟨⟨i0,i1⟩,hm⟩;simp only at i0 i1 hm ⊢;have hml:m.length=l.length:=by rw[hm,uH]
 have e:(i+1).toNat=i.toNat+1:=by omega
 have ea:(a+i).toNat=a.toNat+i.toNat:=by omega
 have eb:(b+i).toNat=b.toNat+i.toNat:=by omega
 simp only[γb,hml];refine⟨λhi=>?_,λhi=>s8 ?_⟩
 ·have hs:=@adj l a.toNat b.toNat i.toNat (by omega) (by omega);rw[<-hm] at hs;rw[e,ea,eb,hs];repeat' refine γj ?_ ?_
  all_goals first|omega|rfl
 ·rw[hm,show i=k by omega]
def KN:cZ:=yB 199 2 (Int×Int) AX KG (λ_=>rfl) adl adn (λa=>uI a.1/\KJ a.1.2.1 a.2.1 a.2.2/\(seg a.1.2.1 a.2.1.toNat a.2.2.toNat).Pairwise (·<·)) λa=>di (bM a.1.2.2) a.1.2.1 a.2.1.toNat a.2.2.toNat
def adp (n:Nat) (l:List Int) (p:bp) (a b:Int):Nat->cB
 |1=> .inv (Int×List Int) (λx=>⟨[(0,.ow 0 n 1),(1,.si .i64 a),(2,.si .i64 b),(3,.fn (.func 127) [] [.ptr 1 0 20]),(8,.si .i64 x.1)],[.row (.i .i64) x.2 3 true,.cells p.ss 27 20 false]⟩) (λs=>(iS s 8,oS (.i .i64) s 0))
   (λx=>(a<x.1/\(x.1<=b\/x.1=a+1))/\x.2=di (bM p) l a.toNat (if a<b then x.1 else a).toNat) (λx=>(b - x.1).toNat) λx k=>match k with
    |4=> .inv (Int×List Int) (λy=>⟨[(0,.ow 0 n 1),(1,.si .i64 a),(2,.si .i64 b),(3,.fn (.func 127) [] [.ptr 1 0 20]),(8,.si .i64 x.1),(9,.si .i64 y.1)],[.row (.i .i64) y.2 3 true,.cells p.ss 27 20 false]⟩) (λs=>(iS s 9,oS (.i .i64) s 0))
      (λy=>(a<=y.1/\y.1<=x.1)/\y.2=jw (bM p) l a.toNat x.1.toNat y.1.toNat/\∀s∈(df (bM p) (seg l a.toNat x.1.toNat)).drop (y.1 - a).toNat,gw (bM p) (bj l x.1.toNat 0) s=true) (λy=>(y.1 - a).toNat) λ_ _=> .look
    |_=> .look
 |_=> .look
theorem h343:dK Tryz.prog KN:=by
 refine jm (L:=[]) (W:=[EJ]) KN (λa=>adp a.1.1 a.1.2.1 a.1.2.2 a.2.1 a.2.2) (by simpa using h320) (by simp) ?_;rintro⟨⟨n,l,p⟩,a,b⟩ ⟨⟨⟨hc,hn⟩,hl,ho⟩,⟨a0,a1,a2⟩,hi⟩;refine bN (let c:=Θ .i64;let d:=(0:Int);let e:=bV .i64;let f:=bq.row;let g:=(1:Int);let m:=a+g;let o:=γ6 0 n 1;let q:=SV.fn (Fn.func 127) [] [γS 1 0 20];let E:=c m;let w:=bk.i .i64;let F:=f w l 3 true;let k:=bq.cells [c p.supply.a0,c p.supply.a1,c p.supply.a2,c p.supply.a3,c p.supply.a4,c p.supply.a5,c p.opn.a0,c p.opn.a1,c p.opn.a2,c p.opn.a3,c p.opn.a4,c p.opn.a5,c p.cls.a0,c p.cls.a1,c p.cls.a2,c p.cls.a3,c p.cls.a4,c p.cls.a5,Φ w p.classes,Φ bk.off p.offers] 27 20 false;e m/\(((o.same o/\(c a).same (c a)/\(c b).same (c b)/\q.same q/\E.same E/\True)/\F.same F/\k.same k/\True)/\(a<m/\(m<=b\/m=m))/\l=di (bM p) l a.toNat (if a<b then m else a).toNat)/\∀(x:Int×List Int),let y:=c x.fst;let B:=f w x.snd 3 true;let r:=x.fst.toNat;let C:=df (bM p) (seg l a.toNat r);let t:=x.fst+g;let G:=c t;let N:=di (bM p) l a.toNat (if a<b then t else a).toNat;(a<x.fst/\(x.fst<=b\/x.fst=m))/\x.snd=di (bM p) l a.toNat (if a<b then x.fst else a).toNat->(decide (x.fst<b)=true->(((o.same o/\(c a).same (c a)/\(c b).same (c b)/\q.same q/\y.same y/\y.same y/\True)/\B.same B/\k.same k/\True)/\(a<=x.fst/\x.fst<=x.fst)/\x.snd=jw (bM p) l a.toNat r r/\∀(s:Int),s∈γ5 (x.fst - a).toNat C->gw (bM p) (bj l r d) s=true)/\∀(x_1:Int×List Int),let H:=f w x_1.snd 3 true;let v:=x_1.fst.toNat;let D:=bj x_1.snd v d;let j:=x_1.fst - g;let z:=j.toNat;let A:=bj x_1.snd z d;let h:=x_1.snd.length;let z23:Nat:=(x_1.snd.set v A).length;let I:=c j;let J:=(x_1.snd.set v A).set z D;let K:=f w J 3 true;let L:=e t/\((o.same o/\(c a).same (c a)/\(c b).same (c b)/\q.same q/\G.same G/\True)/\H.same H/\k.same k/\True)/\((a<t/\(t<=b\/t=m))/\x_1.snd=N)/\(b - t).toNat<(b - x.fst).toNat;let M:=λ(u:Bool) ↦decide (s7 p D A<d)=u;((a<=x_1.fst/\x_1.fst<=x.fst)/\x_1.snd=jw (bM p) l a.toNat r v/\∀(s:Int),s∈γ5 (x_1.fst - a).toNat C->gw (bM p) (bj l r d) s=true)->(decide (a<x_1.fst)=true->n=h/\d<=x_1.fst/\x_1.fst<(↑h:Int)/\n=h/\v<h/\e j/\n=h/\d<=j/\j<(↑h:Int)/\n=h/\z<h/\(bC p=d/\iz p D/\iz p A)/\(M true->e j/\e j/\n=h/\d<=j/\j<(↑h:Int)/\n=h/\z<h/\n=h/\d<=x_1.fst/\x_1.fst<(↑h:Int)/\n=h/\v<h/\n=h/\d<=x_1.fst/\x_1.fst<(↑h:Int)/\n=h/\v<h/\n=z23/\d<=j/\j<(↑z23:Int)/\n=z23/\z<z23/\e j/\((o.same o/\(c a).same (c a)/\(c b).same (c b)/\q.same q/\y.same y/\I.same I/\True)/\K.same K/\k.same k/\True)/\((a<=j/\j<=x.fst)/\J=jw (bM p) l a.toNat r z/\∀(s:Int),s∈γ5 (j - a).toNat C->gw (bM p) (bj l r d) s=true)/\(j - a).toNat<(x_1.fst - a).toNat)/\(M false->L))/\(decide (a<x_1.fst)=false->L))/\(decide (x.fst<b)=false->(SV.bH []).same (SV.bH [])/\B.same (f w (di (bM p) l a.toNat b.toNat) 3 true)/\k.same k/\True)) (by kernel_rfl) ?_;simp only[vcs];have hc:bC p=0:=hc;have hn:n=l.length:=hn;have hl:l.length<=1000:=hl;have ho:∀x∈l,iz p x:=ho;have a0:0<=a:=a0;have a1:a<=b:=a1;have a2:b<=l.length:=a2;have hi:(seg l a.toNat b.toNat).Pairwise (·<·):=hi;generalize hD:bM p=D at*;have sl:∀{i:Int},a<=i->i<=b->(di D l a.toNat i.toNat).length=l.length:=λh1 h2=>yy (by omega) (by omega);refine⟨by omega,⟨⟨by omega,.inr trivial⟩,?_⟩,?_⟩
 ·by_cases hab:a<b;·rw[if_pos hab,show(a+1).toNat=a.toNat+1 by omega,ade (by omega)]
  ·rw[if_neg hab,KD]
 rintro⟨i,m⟩ ⟨⟨i0,i1⟩,hm⟩;simp only at i0 i1 hm ⊢;refine⟨λhib=>?_,λhib=>s8 ?_⟩
 ·rw[if_pos (by omega)] at hm;have hx:=ho _ (cK (d:=(0:Int)) (show i.toNat<l.length by omega));have hS:∀s∈df D (seg l a.toNat i.toNat),s<bj l i.toNat 0/\iz p s:=λs hs=>by
   have h1:=yx.1 hs;have h2:(seg l a.toNat (i.toNat+1)).Pairwise (·<·):=by
    refine hi.sublist ?_;unfold seg;exact List.take_sublist_take_left (by omega)
   rw[KC (by omega) (by omega)] at h2;refine⟨(γY.1 h2).2.2 s h1 _ (by simp),ho s ?_⟩;unfold seg at h1;exact γL (γl h1)
  have hSl:(df D (seg l a.toNat i.toNat)).length=i.toNat - a.toNat:=by rw[oz,kS (by omega) (by omega)]
  have il:∀{j:Nat},(jw D l a.toNat i.toNat j).length=l.length:=λ{j}=>TN (by omega) (by omega);refine⟨⟨⟨by omega,by omega⟩,?_,?_⟩,?_⟩;·rw[hm,TP (by omega) (by omega)]
  ·intro s hs;rw[List.drop_of_length_le (by omega)] at hs;simp at hs
  rintro⟨j,m2⟩ ⟨⟨j0,j1⟩,hm2,hle⟩;simp only at j0 j1 hm2 hle ⊢;subst hm2;simp only[γb,il];have fin:(j=a\/gw D (bj (df D (seg l a.toNat i.toNat)) (j.toNat - 1 - a.toNat) 0) (bj l i.toNat 0)=true)->jw D l a.toNat i.toNat j.toNat=di D l a.toNat (if a<b then i+1 else a).toNat:=λh=>by
   rw[if_pos (by omega),show(i+1).toNat=i.toNat+1 by omega];refine TU (by omega) (by omega) (by omega) ?_ ?_;·rw[show j.toNat - a.toNat=(j - a).toNat by omega];exact hle
   ·rcases h with h|h;·exact .inl (by omega)
    ·exact .inr h
  refine⟨λhj=>?_,λhj=>?_⟩
  ·obtain⟨k1,k2,k3⟩:=@TS D l a.toNat i.toNat j.toNat (by omega) (by omega) (by omega);have ej:(j - 1).toNat=j.toNat - 1:=by omega
   rw[ej,k1,k2,k3];have hs:=cK (d:=(0:Int)) (show j.toNat - 1 - a.toNat<(df D (seg l a.toNat i.toNat)).length by omega);obtain⟨s1,s2⟩:=hS _ hs;have hcmp:=TL hc hx s2;rw[hD] at hcmp;rw[hcmp];refine⟨by omega,by omega,by omega,by omega,by omega,by omega,by omega,by omega,by omega,by omega,by omega,⟨hc,hx,s2⟩,λh1=>?_,λh1=>?_⟩
   ·repeat' refine γj ?_ ?_
    all_goals first|omega|rfl|skip
    intro s hs2;rw[show(j - 1 - a).toNat=j.toNat - 1 - a.toNat by omega,γ7 (show j.toNat - 1 - a.toNat<(df D (seg l a.toNat i.toNat)).length by omega)] at hs2;rcases List.mem_cons.1 hs2 with rfl|hs2
    ·rw[<-cM (d:=(0:Int))];exact pv.2 (.inl h1)
    ·refine hle s ?_;rw[show(j - a).toNat=j.toNat - 1 - a.toNat+1 by omega];exact hs2
   ·have:=fin (.inr (pv.2 (by omega)));repeat' refine γj ?_ ?_
    all_goals first|omega|exact this|rfl
  ·have:=fin (.inl (by omega));repeat' refine γj ?_ ?_
   all_goals first|omega|exact this|rfl
 ·rw[hm];by_cases hab:a<b;·rw[if_pos hab,show i=b by omega]
  ·rw[if_neg hab,show a=b by omega]
theorem jz {l:List Int} {a b:Nat} (h1:a<=b):l.drop a=seg l a b++l.drop b:=by
 have:=Δ (b - a) (l.drop a);rw[γV,show a+(b - a)=b by omega] at this;exact this.symm
theorem s9 {P Q R:List Int} {a b:Nat} (ha:a=P.length) (hb:b=P.length+Q.length):seg (P++(Q++R)) a b=Q:=by
 subst ha;subst hb;unfold seg;rw[List.drop_left,show P.length+Q.length - P.length=Q.length by omega,List.take_left]
theorem KO {D:Int->Int} {P Q R:List Int} {a b:Nat} (ha:a=P.length) (hb:b=P.length+Q.length):di D (P++(Q++R)) a b=P++(df D Q++R):=by
 have h:=@s9 P Q R a b ha hb;unfold di;rw[h,ha,hb,List.take_left];have:(P++(Q++R)).drop (P.length+Q.length)=R:=by rw[<-γe,<-κ,List.drop_left]
 rw[this];simp
theorem yC {l:List Int} {a b:Nat} {x:Int}:x∈seg l a b↔∃k,a<=k/\k<b/\k<l.length/\bj l k 0=x:=by
 unfold seg;constructor
 ·intro h;obtain⟨j,hj,rfl⟩:=List.getElem_of_mem h;simp only[Ψ,γI] at hj;refine⟨a+j,by omega,by omega,by omega,?_⟩;rw[εN,δ1,cM (show a+j<l.length by omega)]
 ·rintro⟨k,h1,h2,h3,rfl⟩;have hj:k - a<((l.drop a).take (b - a)).length:=by simp only[Ψ,γI];omega
  have:((l.drop a).take (b - a))[k - a]=bj l k 0:=by
   rw[εN,δ1,cM h3];congr 1;omega
  rw[<-this];exact List.getElem_mem hj
theorem adq {D:Int->Int} {l:List Int} {a b:Nat} (h:iJ D (seg l a b)) {i j:Nat} (h1:a<=i) (h2:i<j) (h3:j<b) (h4:b<=l.length):gw D (bj l i 0) (bj l j 0)=true:=by
 have hl:=kS (l:=l) (show a<=b by omega) h4;have:=List.pairwise_iff_getElem.1 h (i - a) (j - a) (by omega) (by omega) (by omega);have e1:(seg l a b)[i - a]'(by omega)=bj l i 0:=by
  unfold seg;rw[εN,δ1,cM (show i<l.length by omega)];congr 1;omega
 have e2:(seg l a b)[j - a]'(by omega)=bj l j 0:=by
  unfold seg;rw[εN,δ1,cM (show j<l.length by omega)];congr 1;omega
 rwa [e1,e2] at this
theorem EL {D:Int->Int} {x y:Int} (h:gw D x y=true):D y<=D x:=by rw[pv] at h;omega
theorem adr {D:Int->Int} {x:Int}:gw D x x=true:=pv.2 (by omega)
theorem EM {D:Int->Int} {l:List Int} {a b:Nat} (h:iJ D (seg l a b)) {i j:Nat} (h1:a<=i) (h2:i<=j) (h3:j<b) (h4:b<=l.length):gw D (bj l i 0) (bj l j 0)=true:=by
 by_cases hij:i=j;·subst hij;exact adr
 ·exact adq h h1 (by omega) h3 h4
theorem uJ {l:List Int} {a b c d:Nat} (h1:a<=c) (h2:d<=b):(seg l c d).Sublist (seg l a b):=by
 by_cases hcd:c<=d
 ·by_cases hb:d<=l.length
  ·have e:seg l a b=seg l a c++(seg l c d++(seg (l.take b) d b)):=by
    apply δE (bs:=l.drop b);have e1:=jz (l:=l) (show a<=b by omega);have e2:=jz (l:=l) (show a<=c by omega);have e3:=jz (l:=l) hcd;have e4:=jz (l:=l) (show d<=b by omega);have e5:seg (l.take b) d b=seg l d b:=by
     unfold seg;rw[List.drop_take,List.take_take];congr 1;omega
    rw[<-e1,e2,e3,e4,e5];simp
   rw[e];exact(List.sublist_append_left _ _).trans (ζb _ _)
  ·have e:seg l c d=l.drop c:=by unfold seg;exact γh (by rw[γI];omega)
   have e2:seg l a b=l.drop a:=by unfold seg;exact γh (by rw[γI];omega)
   rw[e,e2,jz (l:=l) h1];exact ζb _ _
 ·have:seg l c d=[]:=by unfold seg;rw[show d - c=0 by omega];simp
  rw[this];exact List.nil_sublist _
theorem T9 {l:List Int} {a m b:Nat} (h1:a<=m) (h2:m<=b) (h3:b<=l.length):(rotR l a m b).length=l.length:=by
 unfold rotR;simp only[κ,Ψ,γI,kS h1 (show m<=l.length by omega),kS h2 h3];omega
theorem KP {l:List Int} {a b:Nat} {x:Int} (h:x∈seg l a b):x∈l:=by
 unfold seg at h;exact γL (γl h)
theorem ads {l:List Int} {a m b:Nat} {x:Int} (h:x∈rotR l a m b):x∈l:=by
 unfold rotR at h;simp only[γc] at h;rcases h with h|h|h|h;·exact γl h
 ·exact KP h
 ·exact KP h
 ·exact γL h
theorem AZ {D:Int->Int} {l:List Int} {a b:Nat} {x:Int} (h:x∈di D l a b):x∈l:=by
 unfold di at h;simp only[γc] at h;rcases h with(h|h)|h;·exact γl h
 ·exact KP (yx.1 h)
 ·exact γL h
theorem adt {l:List Int} {a m b:Nat} (h1:a<=m) (h2:m<=b) (h3:b<=l.length) (h:a=m\/m=b):rotR l a m b=l:=by
 have:=TX h1 h2 h3;conv=>rhs;rw[this]
 unfold rotR;rcases h with rfl|rfl;·rw[AS];simp
 ·rw[AS];simp
theorem KQ {D:Int->Int} {l:List Int} {a b:Nat} (h1:a<=b) (h:iJ D (seg l a b)):di D l a b=l:=by
 unfold di;rw[KB h,γe,<-jz h1,Δ]
theorem adu {D:Int->Int} {l:List Int} {a s m e b mid:Nat} (h1:a<=s) (h2:s<=m) (h3:m<=e) (h4:e<=b) (h5:b<=l.length) (hmid:mid=s+(e - m)) (hL:iJ D (seg l a m)) (hR:iJ D (seg l m b))
  (H1:∀x∈seg l a s,∀y∈seg l e b,gw D x y=true) (H2:∀x∈seg l m e,∀y∈seg l s m,gw D x y=true):
  (seg (rotR l s m e) a s=seg l a s/\seg (rotR l s m e) s mid=seg l m e/\seg (rotR l s m e) a mid=seg l a s++seg l m e)/\
  (seg (di D (rotR l s m e) a mid) mid e=seg l s m/\seg (di D (rotR l s m e) a mid) e b=seg l e b/\seg (di D (rotR l s m e) a mid) mid b=seg l s m++seg l e b)/\
  di D (di D (rotR l s m e) a mid) mid b=di D l a b:=by
 have la:(l.take a).length=a:=by rw[Ψ];omega
 have l1:=kS (l:=l) h1 (show s<=l.length by omega);have l2:=kS (l:=l) h2 (show m<=l.length by omega);have l3:=kS (l:=l) h3 (show e<=l.length by omega);have l4:=kS (l:=l) h4 h5;have hsp:l=l.take a++(seg l a s++(seg l s m++(seg l m e++(seg l e b++l.drop b)))):=by
  rw[<-jz h4,<-jz h3,<-jz h2,<-jz h1,Δ]
 have hts:l.take s=l.take a++seg l a s:=by
  conv=>lhs;rw[hsp]
  rw[<-γe];exact List.take_left' (by rw[κ,la,l1];omega)
 have adv:rotR l s m e=l.take a++(seg l a s++(seg l m e++(seg l s m++(seg l e b++l.drop b)))):=by
  unfold rotR;rw[hts,jz h4];simp
 have Ua:seg l a m=seg l a s++seg l s m:=by
  have:=jz (l:=l) (show a<=m by omega);rw[jz h1,jz h2,<-γe] at this;exact(δE this).symm
 have hRR:seg l m b=seg l m e++seg l e b:=by
  have:=jz (l:=l) (show m<=b by omega);rw[jz h3,jz h4,<-γe] at this;exact(δE this).symm
 have hWh:seg l a b=seg l a s++(seg l s m++(seg l m e++seg l e b)):=by
  have:=jz (l:=l) (show a<=b by omega);rw[jz (show a<=m by omega),jz (show m<=b by omega),<-γe] at this;rw[<-δE this,Ua,hRR];simp
 have hsr:di D l a b=l.take a++df D (seg l a b)++l.drop b:=rfl;rw[adv,hsr,hWh];rw[Ua,iJ,γY] at hL;rw[hRR,iJ,γY] at hR;generalize l.take a=A at*;generalize seg l a s=X1 at*;generalize seg l s m=X2 at*;generalize seg l m e=Y1 at*;generalize seg l e b=Y2 at*;generalize l.drop b=Z at*;have hs1:A++(X1++(Y1++(X2++(Y2++Z))))=A++((X1++Y1)++(X2++(Y2++Z))):=by simp
 have g1:di D (A++(X1++(Y1++(X2++(Y2++Z))))) a mid=A++(df D (X1++Y1)++(X2++(Y2++Z))):=by
  rw[hs1];exact KO (by omega) (by rw[κ];omega)
 have hs2:A++(df D (X1++Y1)++(X2++(Y2++Z)))=(A++df D (X1++Y1))++((X2++Y2)++Z):=by simp
 have lS:(df D (X1++Y1)).length=X1.length+Y1.length:=by rw[oz,κ]
 refine⟨⟨s9 (by omega) (by omega),?_,?_⟩,⟨?_,?_,?_⟩,?_⟩
 ·rw[<-γe];exact s9 (by rw[κ];omega) (by rw[κ];omega)
 ·rw[hs1];exact s9 (by omega) (by rw[κ];omega)
 ·rw[g1,<-γe];exact s9 (by rw[κ,lS];omega) (by rw[κ,lS];omega)
 ·rw[g1,<-γe,<-γe];exact s9 (by rw[κ,κ,lS];omega) (by rw[κ,κ,lS];omega)
 ·rw[g1,hs2];exact s9 (by rw[κ,lS];omega) (by rw[κ,κ,lS];omega)
 ·rw[g1,hs2,KO (by rw[κ,lS];omega) (by rw[κ,κ,lS];omega)];have:df D (X1++Y1)++df D (X2++Y2)=df D (X1++(X2++(Y1++Y2))):=by
   refine AQ ?_ ?_
   ·refine(List.Perm.append rU rU).trans ?_;rw[γe];refine List.Perm.append_left X1 ?_;rw[<-γe,<-γe];exact List.Perm.append_right Y2 List.perm_append_comm
   ·rw[iJ,γY];refine⟨wh,wh,λx hx y hy=>?_⟩;have hx:=yx.1 hx;have hy:=yx.1 hy;rcases γc.1 hx with hx|hx
    ·rcases γc.1 hy with hy|hy;·exact hL.2.2 x hx y hy
     ·exact H1 x hx y hy
    ·rcases γc.1 hy with hy|hy;·exact H2 x hx y hy
     ·exact hR.2.2 x hx y hy
  rw[<-this];simp
theorem adw {A X Y B:List Int} {i j:Nat} (hi:X.length=i) (hj:Y.length=j) (h:j<i) {m:Nat} (hm:A.length+i=m):
  jy (A++(X++(Y++B))) (m - i) m j=(A++Y)++(X.drop j++(X.take j++B)):=by
 have e:A++(X++(Y++B))=A++(X.take j++(X.drop j++(Y++B))):=by
  rw[<-γe (X.take j),Δ]
 have lt:(X.take j).length=j:=by rw[Ψ];omega
 have ld:(X.drop j).length=i - j:=by rw[γI];omega
 have hs:=@KE A (X.take j) (X.drop j) Y B (by omega);rw[lt,ld,show A.length+j+(i - j)=m by omega] at hs;rw[e,show m - i=A.length by omega,hs];simp
theorem adx {A X Y B:List Int} {i j:Nat} (hi:X.length=i) (hj:Y.length=j) (h:i<j) {m:Nat} (hm:A.length+i=m):
  jy (A++(X++(Y++B))) (m - i) (m+j - i) i=A++(Y.drop (j - i)++(Y.take (j - i)++(X++B))):=by
 have e:A++(X++(Y++B))=A++(X++(Y.take (j - i)++(Y.drop (j - i)++B))):=by
  rw[<-γe (Y.take (j - i)),Δ]
 have lt:(Y.take (j - i)).length=j - i:=by rw[Ψ];omega
 have ld:(Y.drop (j - i)).length=i:=by rw[γI];omega
 have hs:=@KE A X (Y.take (j - i)) (Y.drop (j - i)) B (by omega);rw[hi,lt,show A.length+i+(j - i)=m+j - i by omega] at hs;rw[e,show m - i=A.length by omega,hs]
theorem ady {A X Y B:List Int} {i:Nat} (hi:X.length=i) (hj:Y.length=i) {m:Nat} (hm:A.length+i=m):
  jy (A++(X++(Y++B))) (m - i) m i=A++(Y++(X++B)):=by
 have hs:=@KE A X [] Y B (by omega);simp only[δf,List.length_nil,Nat.add_zero] at hs;rw[hi,hm] at hs;rw[show m - i=A.length by omega,hs]
theorem KR {l:List Int} {a b k:Nat} (h:k<(seg l a b).length):(seg l a b)[k]=bj l (a+k) 0:=by
 have h2:bj (seg l a b) k 0=bj l (a+k) 0:=by
  have h3:k<b - a:=by
   unfold seg at h;rw[Ψ] at h;omega
  unfold seg bj;rw[List.getElem?_take,if_pos h3,List.getElem?_drop]
 rwa [cM h] at h2
def mB (l:List Int) (a b c:Nat):List Int:=l.take a++((seg l (a+1) b).take c++bj l a 0::((seg l (a+1) b).drop c++l.drop b))
theorem adz {l:List Int} {a b:Nat} (h1:a<b) (h2:b<=l.length):mB l a b 0=l:=by
 unfold mB;rw[εP,List.drop_zero,δf,<-jz (by omega),<-EK (by omega),Δ]
theorem adA {l:List Int} {a b c:Nat} (h1:a<b) (h2:b<=l.length):(mB l a b c).length=l.length:=by
 have:=kS (l:=l) (show a+1<=b by omega) h2;unfold mB;simp only[κ,γB,Ψ,γI,this];omega
theorem adB {l:List Int} {a b c:Nat} (h1:a+1+c<b) (h2:b<=l.length):
  bj (mB l a b c) (a+c) 0=bj l a 0/\bj (mB l a b c) (a+c+1) 0=bj l (a+1+c) 0/\((mB l a b c).set (a+c) (bj l (a+1+c) 0)).set (a+c+1) (bj l a 0)=mB l a b (c+1):=by
 have hl:=kS (l:=l) (show a+1<=b by omega) h2;have hc:c<(seg l (a+1) b).length:=by omega
 have hy:(seg l (a+1) b)[c]=bj l (a+1+c) 0:=KR hc;have t1:(seg l (a+1) b).take (c+1)=(seg l (a+1) b).take c++[bj l (a+1+c) 0]:=by rw[List.take_succ_eq_append_getElem hc,hy]
 have t2:(seg l (a+1) b).drop c=bj l (a+1+c) 0::(seg l (a+1) b).drop (c+1):=by rw[γ7 hc,hy]
 have f1:mB l a b c=(l.take a++(seg l (a+1) b).take c)++bj l a 0::bj l (a+1+c) 0::((seg l (a+1) b).drop (c+1)++l.drop b):=by
  unfold mB;rw[t2];simp
 have f2:mB l a b (c+1)=(l.take a++(seg l (a+1) b).take c)++bj l (a+1+c) 0::bj l a 0::((seg l (a+1) b).drop (c+1)++l.drop b):=by
  unfold mB;rw[t1];simp
 have f3:(l.take a++(seg l (a+1) b).take c).length=a+c:=by
  rw[κ,Ψ,Ψ];omega
 rw[f1,f2];generalize l.take a++(seg l (a+1) b).take c=A at*;generalize (seg l (a+1) b).drop (c+1)++l.drop b=B at*;generalize bj l a 0=x at*;generalize bj l (a+1+c) 0=y at*;rw[<-f3];refine⟨TQ,TR,?_⟩;rw[εh _ _ (by omega),εh _ _ (by omega)];simp
theorem adE {D:Int->Int} {l:List Int} {a b c:Nat} (h1:a+1+c<=b) (h2:b<=l.length) (hT:iJ D (seg l (a+1) b)) (h3:∀s∈(seg l (a+1) b).drop c,gw D (bj l a 0) s=true) (h4:c=0\/gw D (bj l (a+c) 0) (bj l a 0)=true):mB l a b c=di D l a b:=by
 have hl:=kS (l:=l) (show a+1<=b by omega) h2;have key:iJ D ((seg l (a+1) b).take c++bj l a 0::(seg l (a+1) b).drop c):=by
  refine TT hT h3 ?_;rcases h4 with rfl|h4;·exact .inl rfl
  ·by_cases hc:c=0;·exact .inl hc
   ·refine .inr ⟨by omega,?_⟩;have:bj (seg l (a+1) b) (c - 1) 0=bj l (a+c) 0:=by
     rw[cM (show c - 1<(seg l (a+1) b).length by omega),KR];congr 1;omega
    rw[this];exact h4
 have hs:seg l a b=bj l a 0::seg l (a+1) b:=by
  have e1:=jz (l:=l) (show a<=b by omega);rw[EK (show a<l.length by omega),jz (show a+1<=b by omega),<-γF] at e1;exact(δE e1).symm
 have hp:((seg l (a+1) b).take c++bj l a 0::(seg l (a+1) b).drop c).Perm (seg l a b):=by
  rw[hs];refine List.perm_middle.trans ?_;rw[Δ]
 unfold mB di;rw[<-AQ hp key];simp
def KT:cZ:=yB 224 3 (Int×Int×Int) wi AY (λ_=>rfl) KH KI (λa=>a.1.1=a.1.2.1.length/\a.1.2.1.length<=1000/\0<=a.2.1/\a.2.1<a.2.2.1/\a.2.2.1<a.2.2.2/\a.2.2.2<=a.1.2.1.length) λa=>rotR a.1.2.1 a.2.1.toNat a.2.2.1.toNat a.2.2.2.toNat
def adF (n:Nat) (l:List Int) (p:bp) (a m b:Int):Nat->cB
 |2=> .inv (Int×Int×List Int) (λx=>⟨[(0,.ow 0 n 1),(2,.si .i64 m),(4,.fn (.func 127) [] [.ptr 1 0 20]),(10,.si .i64 x.1),(11,.si .i64 x.2.1)],[.row (.i .i64) x.2.2 3 true,.cells p.ss 27 20 false]⟩) (λs=>(iS s 10,iS s 11,oS (.i .i64) s 0))
   (λx=>(0<x.1/\0<x.2.1)/\∃A X Y B:List Int,x.2.2=A++(X++(Y++B))/\(A.length:Int)+x.1=m/\(X.length:Int)=x.1/\(Y.length:Int)=x.2.1/\A++(Y++(X++B))=rotR l a.toNat m.toNat b.toNat) (λx=>(x.1+x.2.1).toNat) λ_ _=> .look
 |_=> .look
theorem h351:dK Tryz.prog KT:=by
 refine jm (L:=[]) (W:=[KL]) KT (λa=>adF a.1.1 a.1.2.1 a.1.2.2 a.2.1 a.2.2.1 a.2.2.2) (by simpa using h363) (by simp) ?_;rintro⟨⟨n,l,p⟩,a,m,b⟩ ⟨hn,hl,a0,h1,h2,h3⟩;refine bN (let c:=Θ .i64;let d:=bV .i64;let e:=(0:Int);let f:=bq.row;let h:=γ6 0 n 1;let j:=SV.fn (Fn.func 127) [] [γS 1 0 20];let t:=c (m - a);let v:=c (b - m);let k:=bk.i .i64;let w:=f k l 3 true;let g:=bq.cells [c p.supply.a0,c p.supply.a1,c p.supply.a2,c p.supply.a3,c p.supply.a4,c p.supply.a5,c p.opn.a0,c p.opn.a1,c p.opn.a2,c p.opn.a3,c p.opn.a4,c p.opn.a5,c p.cls.a0,c p.cls.a1,c p.cls.a2,c p.cls.a3,c p.cls.a4,c p.cls.a5,Φ k p.classes,Φ bk.off p.offers] 27 20 false;let q:=rotR l a.toNat m.toNat b.toNat;d (m - a)/\d (b - m)/\(((h.same h/\(c m).same (c m)/\j.same j/\t.same t/\v.same v/\True)/\w.same w/\g.same g/\True)/\(e<m - a/\e<b - m)/\∃(A:List Int),∃(X:List Int),∃(Y:List Int),∃(B:List Int),l=A++(X++(Y++B))/\(↑A.length:Int)+(m - a)=m/\(↑X.length:Int)=m - a/\(↑Y.length:Int)=b - m/\A++(Y++(X++B))=q)/\∀(x:Int×Int×List Int),let o:=x.snd.snd.length;let s:=(m - x.fst).toNat;let y:=(x.fst+x.snd.fst).toNat;let z:=decide (x.fst≠x.snd.fst);let C:=decide (x.snd.fst<x.fst);let r:=x.fst - x.snd.fst;let D:=c r;let E:=c x.snd.fst;let F:=jy x.snd.snd s m.toNat x.snd.fst.toNat;let G:=f k F 3 true;let H:=m+x.snd.fst - x.fst;let N:=λ(u u_1 u_2 u_3 u_4:Int) ↦let I:=c u_3;let J:=jy x.snd.snd s u_1.toNat u.toNat;let K:=f k J 3 true;(n=o/\o<=1000/\e<=m - x.fst/\e<=u/\m - x.fst+u<=u_1/\u_1+u<=(↑o:Int))/\d (u_2 - u)/\((h.same h/\(c m).same (c m)/\j.same j/\I.same I/\(c u_4).same (c u_4)/\True)/\K.same K/\g.same g/\True)/\((e<u_3/\e<u_4)/\∃(A:List Int),∃(X:List Int),∃(Y:List Int),∃(B:List Int),J=A++(X++(Y++B))/\(↑A.length:Int)+u_3=m/\(↑X.length:Int)=u_3/\(↑Y.length:Int)=u_4/\A++(Y++(X++B))=q)/\(u_3+u_4).toNat<y;let L:=λ(u:Int) (u_1:List Int) ↦(e<u/\e<x.snd.fst)/\∃(A:List Int),∃(X:List Int),∃(Y:List Int),∃(B:List Int),u_1=A++(X++(Y++B))/\(↑A.length:Int)+u=m/\(↑X.length:Int)=u/\(↑Y.length:Int)=x.snd.fst/\A++(Y++(X++B))=q;let M:=λ(u:Int) ↦n=o/\o<=1000/\e<=m - x.fst/\e<=u/\m - x.fst+u<=m/\m+u<=(↑o:Int);L x.fst x.snd.snd->(z=true->(C=true->d (m - x.fst)/\M x.snd.fst/\d r/\((h.same h/\(c m).same (c m)/\j.same j/\D.same D/\E.same E/\True)/\G.same G/\g.same g/\True)/\L r F/\(r+x.snd.fst).toNat<y)/\(C=false->d (m - x.fst)/\d (m+x.snd.fst)/\d H/\N x.fst H x.snd.fst x.fst (x.snd.fst - x.fst)))/\(z=false->d (m - x.fst)/\M x.fst/\(SV.bH []).same (SV.bH [])/\(f k (jy x.snd.snd s m.toNat x.fst.toNat) 3 true).same (f k q 3 true)/\g.same g/\True)) (by kernel_rfl) ?_;simp only[vcs];have hn:n=l.length:=hn;have hl:l.length<=1000:=hl;have a0:0<=a:=a0;have h1:a<m:=h1;have h2:m<b:=h2;have h3:b<=l.length:=h3;have la:(l.take a.toNat).length=a.toNat:=by rw[Ψ];omega
 have l1:=kS (l:=l) (a:=a.toNat) (b:=m.toNat) (by omega) (by omega);have l2:=kS (l:=l) (a:=m.toNat) (b:=b.toNat) (by omega) (by omega);refine⟨by omega,by omega,⟨⟨by omega,by omega⟩,l.take a.toNat,seg l a.toNat m.toNat,seg l m.toNat b.toNat,l.drop b.toNat,TX (by omega) (by omega) (by omega),by omega,by omega,by omega,rfl⟩,?_⟩;rintro⟨i,j,w⟩ ⟨⟨i0,j0⟩,A,X,Y,B,hw,hA,hX,hY,hf⟩;simp only at i0 j0 hw hA hX hY ⊢;have hfl:=congrArg γn hf;rw[T9 (by omega) (by omega) (by omega)] at hfl;simp only[κ] at hfl;have hwl:w.length=l.length:=by rw[hw];simp only[κ];omega
 rw[hwl];refine⟨λhne=>⟨λhgt=>?_,λhle=>?_⟩,λheq=>?_⟩
 ·have hs:=adw (A:=A) (X:=X) (Y:=Y) (B:=B) (i:=i.toNat) (j:=j.toNat) (by omega) (by omega) (by omega) (m:=m.toNat) (by omega);rw[<-hw,show m.toNat - i.toNat=(m - i).toNat by omega] at hs;refine⟨by omega,⟨by omega,by omega,by omega,by omega,by omega,by omega⟩,by omega,⟨⟨by omega,by omega⟩,A++Y,X.drop j.toNat,X.take j.toNat,B,hs,?_,?_,?_,?_⟩,by omega⟩;·rw[κ];omega
  ·rw[γI];omega
  ·rw[Ψ];omega
  ·rw[<-hf];rw[<-γe (X.take j.toNat),Δ];simp
 ·have hs:=adx (A:=A) (X:=X) (Y:=Y) (B:=B) (i:=i.toNat) (j:=j.toNat) (by omega) (by omega) (by omega) (m:=m.toNat) (by omega);rw[<-hw,show m.toNat - i.toNat=(m - i).toNat by omega,show m.toNat+j.toNat - i.toNat=(m+j - i).toNat by omega] at hs;refine⟨by omega,by omega,by omega,⟨by omega,by omega,by omega,by omega,by omega,by omega⟩,by omega,⟨⟨by omega,by omega⟩,A,Y.drop (j.toNat - i.toNat),Y.take (j.toNat - i.toNat),X++B,hs,by omega,?_,?_,?_⟩,by omega⟩;·rw[γI];omega
  ·rw[Ψ];omega
  ·rw[<-hf];rw[<-γe (Y.take (j.toNat - i.toNat)),Δ]
 ·have hij:i=j:=by omega
  have hs:=ady (A:=A) (X:=X) (Y:=Y) (B:=B) (i:=i.toNat) (by omega) (by omega) (m:=m.toNat) (by omega);rw[<-hw,show m.toNat - i.toNat=(m - i).toNat by omega,hf] at hs;refine⟨?_,⟨?_,?_,?_,?_,?_,?_⟩,s8 hs⟩<;>omega
theorem Ub {l:List Int} {a b c:Nat}:(seg l a b).drop c=seg l (a+c) b:=by
 unfold seg;rw[List.drop_take,γV,show b - a - c=b - (a+c) by omega]
abbrev SyA:=KF×Int×Int×Int
def qd (a:SyA):Prop:=uI a.1/\(0<=a.2.1/\a.2.1<a.2.2.1/\a.2.2.1<a.2.2.2/\a.2.2.2<=a.1.2.1.length)/\iJ (bM a.1.2.2) (seg a.1.2.1 a.2.1.toNat a.2.2.1.toNat)/\iJ (bM a.1.2.2) (seg a.1.2.1 a.2.2.1.toNat a.2.2.2.toNat)/\
 ∀x∈seg a.1.2.1 a.2.1.toNat a.2.2.1.toNat,∀y∈seg a.1.2.1 a.2.2.1.toNat a.2.2.2.toNat,x<y
def q0 (k:Nat):cZ:=yB 200 3 (Int×Int×Int) wi AY (λ_=>rfl) KH KI (λa=>qd a/\(a.2.2.2 - a.2.1).toNat<k) λa=>di (bM a.1.2.2) a.1.2.1 a.2.1.toNat a.2.2.2.toNat
def A0 (k:Nat):List cZ:=[q0 k,KT,EJ]
def A1 (l:List Int) (p:bp):bW:=[.row (.i .i64) l 3 true,.cells p.ss 27 20 false]
def Uc (n:Nat) (l:List Int) (p:bp) (a m b:Int):Nat->cB
 |3=> .inv (Int×Int) (λx=>⟨[(0,.ow 0 n 1),(1,.si .i64 a),(4,.fn (.func 127) [] [.ptr 1 0 20]),(10,.si .i64 x.1),(11,.si .i64 x.2)],A1 l p⟩) (λs=>(iS s 10,iS s 11))
   (λx=>(m<=x.1/\x.1<=x.2/\x.2<=b)/\(∀k:Nat,m<=k->(k:Int)<x.1->bM p (bj l a.toNat 0)<bM p (bj l k 0))/\∀k:Nat,x.2<=k->(k:Int)<b->¬bM p (bj l a.toNat 0)<bM p (bj l k 0)) (λx=>(x.2 - x.1).toNat) λ_ _=> .look
 |9=> .inv (Int×Int×List Int) (λx=>⟨[(0,.ow 0 n 1),(10,.si .i64 x.2.1),(13,.si .i64 x.1)],A1 x.2.2 p⟩) (λs=>(iS s 13,iS s 10,oS (.i .i64) s 0))
   (λx=>(a<=x.1/\x.1<=x.2.1 - 1/\m<=x.2.1/\x.2.1<=b)/\((∀k:Nat,m<=k->(k:Int)<x.2.1->bM p (bj l a.toNat 0)<bM p (bj l k 0))/\∀k:Nat,x.2.1<=k->(k:Int)<b->¬bM p (bj l a.toNat 0)<bM p (bj l k 0))/\x.2.2=mB l a.toNat b.toNat (x.1 - a).toNat) (λx=>(x.2.1 - x.1).toNat) λ_ _=> .look
 |15=> .inv (Int×Int) (λx=>⟨[(0,.ow 0 n 1),(2,.si .i64 m),(4,.fn (.func 127) [] [.ptr 1 0 20]),(14,.si .i64 x.1),(15,.si .i64 x.2)],A1 l p⟩) (λs=>(iS s 14,iS s 15))
   (λx=>(a<=x.1/\x.1<=x.2/\x.2<=m)/\(∀k:Nat,a<=k->(k:Int)<x.1->¬bM p (bj l k 0)<bM p (bj l m.toNat 0))/\∀k:Nat,x.2<=k->(k:Int)<m->bM p (bj l k 0)<bM p (bj l m.toNat 0)) (λx=>(x.2 - x.1).toNat) λ_ _=> .look
 |21=> .inv (Int×Int×List Int) (λx=>⟨[(0,.ow 0 n 1),(14,.si .i64 x.2.1),(17,.si .i64 x.1)],A1 x.2.2 p⟩) (λs=>(iS s 17,iS s 14,oS (.i .i64) s 0))
   (λx=>(x.2.1<=x.1/\x.1<=m/\a<=x.2.1)/\((∀k:Nat,a<=k->(k:Int)<x.2.1->¬bM p (bj l k 0)<bM p (bj l m.toNat 0))/\∀k:Nat,x.2.1<=k->(k:Int)<m->bM p (bj l k 0)<bM p (bj l m.toNat 0))/\x.2.2=jw (bM p) l a.toNat m.toNat x.1.toNat) (λx=>(x.1 - x.2.1).toNat) λ_ _=> .look
 |33=> .inv (Int×Int) (λx=>⟨[(0,.ow 0 n 1),(1,.si .i64 a),(2,.si .i64 m),(3,.si .i64 b),(4,.fn (.func 127) [] [.ptr 1 0 20]),(18,.si .i64 ((a+b) / 2^1)),(19,.si .i64 ((a+b) / 2^1+m)),(20,.si .i64 x.1),(21,.si .i64 x.2),(22,.si .i64 ((a+b) / 2^1+m - 1))],A1 l p⟩) (λs=>(iS s 20,iS s 21))
   (λx=>((if(a+b) / 2<m then(a+b) / 2+m - b else a)<=x.1/\x.1<=x.2/\x.2<=(if(a+b) / 2<m then(a+b) / 2 else m))/\(∀k:Nat,(if(a+b) / 2<m then(a+b) / 2+m - b else a)<=k->(k:Int)<x.1->¬bM p (bj l k 0)<bM p (bj l ((a+b) / 2+m - 1 - k).toNat 0))/\
    ∀k:Nat,x.2<=k->(k:Int)<(if(a+b) / 2<m then(a+b) / 2 else m)->bM p (bj l k 0)<bM p (bj l ((a+b) / 2+m - 1 - k).toNat 0)) (λx=>(x.2 - x.1).toNat) λ_ _=> .look
 |_=> .look
def EN (D:Int->Int) (n k:Nat) (l V:List Int) (p:bp) (a b mid e:Int):Prop:=
 (mid<e->(e<b->(qd ((n,V,p),mid,e,b)/\(b - mid).toNat<k)/\(bq.row (bk.i IntKind.i64) (di D V mid.toNat b.toNat) 3 true).same (bq.row (bk.i IntKind.i64) (di D l a.toNat b.toNat) 3 true))/\
  (¬e<b->(bq.row (bk.i IntKind.i64) V 3 true).same (bq.row (bk.i IntKind.i64) (di D l a.toNat b.toNat) 3 true)))/\(¬mid<e->(bq.row (bk.i IntKind.i64) V 3 true).same (bq.row (bk.i IntKind.i64) (di D l a.toNat b.toNat) 3 true))
def EO (D:Int->Int) (n k:Nat) (l W:List Int) (p:bp) (a b mid e s:Int):Prop:=
 (a<s->(s<mid->(qd ((n,W,p),a,s,mid)/\(mid - a).toNat<k)/\EN D n k l (di D W a.toNat mid.toNat) p a b mid e)/\(¬s<mid->EN D n k l W p a b mid e))/\(¬a<s->EN D n k l W p a b mid e)
def Ud (D:Int->Int) (n k:Nat) (l:List Int) (p:bp) (a m b mid s:Int):Prop:=
 (-9223372036854775808<=mid+m - s/\mid+m - s<=9223372036854775807)/\
 (s<m->(m<mid+m - s->(n=l.length/\l.length<=1000/\0<=s/\s<m/\m<mid+m - s/\mid+m - s<=l.length)/\EO D n k l (rotR l s.toNat m.toNat (mid+m - s).toNat) p a b mid (mid+m - s) s)/\
  (¬m<mid+m - s->EO D n k l l p a b mid (mid+m - s) s))/\(¬s<m->EO D n k l l p a b mid (mid+m - s) s)
theorem adH {D:Int->Int} {n k:Nat} {l:List Int} {p:bp} {a m b mid s:Int} (hD:bM p=D) (E:bC p=0) (I:n=l.length) (L:l.length<=1000) (K:∀x∈l,iz p x) (a0:0<=a) (a1:a<=s) (s1:s<=m) (sm:s<=mid) (am:a<mid) (mb:mid<b)
  (Q:m<=mid+m - s) (Y:mid+m - s<=b) (X:b<=l.length) (q:iJ D (seg l a.toNat m.toNat)) (r:iJ D (seg l m.toNat b.toNat)) (w:∀x∈seg l a.toNat m.toNat,∀y∈seg l m.toNat b.toNat,x<y)
  (J:∀x y,x∈seg l a.toNat s.toNat->y∈seg l (mid+m - s).toNat b.toNat->gw D x y=true) (M:∀x y,x∈seg l m.toNat (mid+m - s).toNat->y∈seg l s.toNat m.toNat->gw D x y=true) (V:(b - a).toNat<k+1):
  Ud D n k l p a m b mid s:=by
 generalize U:mid+m - s=e at*;obtain⟨⟨G,N,W⟩,⟨O,F,y3⟩,i⟩:=@adu D l a.toNat s.toNat m.toNat e.toNat b.toNat mid.toNat (by omega) (by omega) (by omega) (by omega) (by omega) (by omega) q r (λx h y g=>J x y h g) (λx h y g=>M x y h g);have rl:(rotR l s.toNat m.toNat e.toNat).length=l.length:=T9 (by omega) (by omega) (by omega);have t:∀x∈rotR l s.toNat m.toNat e.toNat,iz p x:=λx h=>K x (ads h);have r0:(¬s<m\/¬m<e)->rotR l s.toNat m.toNat e.toNat=l:=λh=>adt (by omega) (by omega) (by omega) (by omega);generalize H:rotR l s.toNat m.toNat e.toNat=R at*;have S:(di D R a.toNat mid.toNat).length=R.length:=yy (by omega) (by omega);have P:∀x∈di D R a.toNat mid.toNat,iz p x:=λx h=>t x (AZ h);have A:iJ D (seg l a.toNat s.toNat):=δU (uJ (by omega) (by omega)) q;have B:iJ D (seg l s.toNat m.toNat):=δU (uJ (by omega) (by omega)) q;have u:iJ D (seg l m.toNat e.toNat):=δU (uJ (by omega) (by omega)) r;have f:iJ D (seg l e.toNat b.toNat):=δU (uJ (by omega) (by omega)) r;have v:(¬a<s\/¬s<mid)->di D R a.toNat mid.toNat=R:=by
  intro h;refine KQ (by omega) ?_;grind
 generalize Z:di D R a.toNat mid.toNat=T at*;have z:(¬mid<e\/¬e<b)->di D T mid.toNat b.toNat=T:=by
  intro h;refine KQ (by omega) ?_;rcases h with h|h;·rw[show mid.toNat=e.toNat by omega,F];exact f
  grind
 have C:EN D n k l T p a b mid e:=by
  refine⟨λc=>⟨λd=>⟨⟨⟨⟨⟨E,by simp_all⟩,by simp_all,P⟩,⟨by grind,c,d,by simp_all⟩,?_,?_,?_⟩,by omega⟩,s8 i⟩,λd=>s8 ((z (.inr d)).symm.trans i)⟩,λc=>s8 ((z (.inl c)).symm.trans i)⟩;·simp_all
  ·simp_all
  ·simp only[O,F];exact λx j y o=>w x ((uJ (by omega) (by omega)).subset j) y ((uJ (by omega) (by omega)).subset o)
 have hW:EO D n k l R p a b mid e s:=by
  refine⟨λc=>⟨λd=>⟨⟨⟨⟨⟨E,by simp_all⟩,by simp_all,t⟩,⟨by omega,c,d,by grind⟩,?_,?_,?_⟩,by omega⟩,by simp_all⟩,λd=>v (.inr d)▸C⟩,λc=>v (.inl c)▸C⟩;·simp_all
  ·simp_all
  ·simp only[G,N];exact λx j y o=>w x ((uJ (by omega) (by omega)).subset j) y ((uJ (by omega) (by omega)).subset o)
 refine⟨by omega,λc=>⟨λd=>⟨⟨I,L,by omega,c,by omega,by omega⟩,by simp_all⟩,λd=>?_⟩,λc=>?_⟩;all_goals simp_all
theorem adI (k n:Nat) (l:List Int) (p:bp) (a m b:Int) (hd:qd ((n,l,p),a,m,b)) (hk:(b - a).toNat<k+1):
  Vc (vx (lZ [] (fU (A0 k)) oY oZ gB) (Uc n l p a m b) (fG 200) ((q0 (k+1)).put ((n,l,p),a,m,b)) ((q0 (k+1)).st ((n,l,p),a,m,b)) λv t=>v.same ((q0 (k+1)).res ((n,l,p),a,m,b))/\jk t ((q0 (k+1)).out ((n,l,p),a,m,b))):=by
 obtain⟨⟨⟨hc,hn⟩,hl,ho⟩,⟨a0,a1,a2,a3⟩,hL,hR,hx⟩:=hd;simp only at hc hn hl ho a0 a1 a2 a3 hL hR hx;refine bN (let c:=Θ .i64;let d:=(0:Int);let e:=bV .i64;let f:=SV.bH;let g:=(1:Int);let h:=bq.row;let j:=(64:Int);let o:=(2:Int);let r:=(a+b) / o;let v:=r+m;let L:=if r<m then v - b else a;let M:=if r<m then r else m;let z:=v - g;let N:=(↑l.length:Int);let s:=γ6 0 n 1;let G:=SV.fn (Fn.func 127) [] [γS 1 0 20];let W:=c r;let X:=c v;let Y:=c z;let t:=bk.i .i64;let O:=h t l 3 true;let q:=bq.cells [c p.supply.a0,c p.supply.a1,c p.supply.a2,c p.supply.a3,c p.supply.a4,c p.supply.a5,c p.opn.a0,c p.opn.a1,c p.opn.a2,c p.opn.a3,c p.opn.a4,c p.opn.a5,c p.cls.a0,c p.cls.a1,c p.cls.a2,c p.cls.a3,c p.cls.a4,c p.cls.a5,Φ t p.classes,Φ bk.off p.offers] 27 20 false;let P:=r.toNat;let w:=h t (di (bM p) l a.toNat b.toNat) 3 true;let Z:=di (bM p) l a.toNat P;let ad:=decide (m - a=g);let B:=bj l a.toNat d;let ae:=decide (b - m=g);let y:=bj l m.toNat d;let aT:=∀(x:Int×Int),let H:=decide (r<v - x.fst);let I:=decide (v - x.fst<b);let a6:=(r,v - x.fst,b);let Q:=rotR l x.fst.toNat m.toNat (v - x.fst).toNat;let a9:=x.fst+x.snd;let A:=a9 / o;let af:=bj l (z - A).toNat d;let ag:=bj l A.toNat d;let ah:=decide (x.fst<x.snd);let ai:=decide (m<v - x.fst);let a7:=di (bM p) Q a.toNat P;let aj:=let ak:=(H=true->(I=true->(qd ((n,l,p),a6)/\(b - r).toNat<k)/\(f []).same (f [])/\(h t (di (bM p) l P b.toNat) 3 true).same w/\q.same q/\True)/\(I=false->(f []).same (f [])/\O.same w/\q.same q/\True))/\(H=false->(f []).same (f [])/\O.same w/\q.same q/\True);(decide (a<x.fst)=true->(decide (x.fst<r)=true->(qd ((n,l,p),a,x.fst,r)/\(r - a).toNat<k)/\(H=true->(I=true->(qd ((n,Z,p),a6)/\(b - r).toNat<k)/\(f []).same (f [])/\(h t (di (bM p) Z P b.toNat) 3 true).same w/\q.same q/\True)/\(I=false->(f []).same (f [])/\(h t Z 3 true).same w/\q.same q/\True))/\(H=false->(f []).same (f [])/\(h t Z 3 true).same w/\q.same q/\True))/\(decide (x.fst<r)=false->ak))/\(decide (a<x.fst)=false->ak);let al:=(H=true->(I=true->(qd ((n,Q,p),a6)/\(b - r).toNat<k)/\(f []).same (f [])/\(h t (di (bM p) Q P b.toNat) 3 true).same w/\q.same q/\True)/\(I=false->(f []).same (f [])/\(h t Q 3 true).same w/\q.same q/\True))/\(H=false->(f []).same (f [])/\(h t Q 3 true).same w/\q.same q/\True);let am:=λ(u u_1:Int) ↦let an:=c u;((s.same s/\(c a).same (c a)/\(c m).same (c m)/\(c b).same (c b)/\G.same G/\W.same W/\X.same X/\an.same an/\(c u_1).same (c u_1)/\Y.same Y/\True)/\O.same O/\q.same q/\True)/\((L<=u/\u<=u_1/\u_1<=M)/\(∀(k:Nat),L<=(↑k:Int)->(↑k:Int)<u->bM p (bj l k d)<bM p (bj l (z - (↑k:Int)).toNat d)->False)/\∀(k:Nat),u_1<=(↑k:Int)->(↑k:Int)<M->bM p (bj l k d)<bM p (bj l (z - (↑k:Int)).toNat d))/\(u_1 - u).toNat<(x.snd - x.fst).toNat;let ao:=λ(u:Bool) ↦(!decide (s7 p af ag<d))=u;((L<=x.fst/\x.fst<=x.snd/\x.snd<=M)/\(∀(k:Nat),L<=(↑k:Int)->(↑k:Int)<x.fst->bM p (bj l k d)<bM p (bj l (z - (↑k:Int)).toNat d)->False)/\∀(k:Nat),x.snd<=(↑k:Int)->(↑k:Int)<M->bM p (bj l k d)<bM p (bj l (z - (↑k:Int)).toNat d))->(ah=true->e a9/\bV .u64 a9/\d<=g/\g<=j/\e A/\e (z - A)/\n=l.length/\d<=z - A/\z - A<N/\n=l.length/\(z - A).toNat<l.length/\n=l.length/\d<=A/\A<N/\n=l.length/\A.toNat<l.length/\(bC p=d/\iz p af/\iz p ag)/\(ao true->e (A+g)/\am (A+g) x.snd)/\(ao false->am x.fst A))/\(ah=false->e (v - x.fst)/\(decide (x.fst<m)=true->(ai=true->(n=l.length/\l.length<=1000/\d<=x.fst/\x.fst<m/\m<v - x.fst/\v - x.fst<=(↑l.length:Int))/\(decide (a<x.fst)=true->(decide (x.fst<r)=true->(qd ((n,Q,p),a,x.fst,r)/\(r - a).toNat<k)/\(H=true->(I=true->(qd ((n,a7,p),a6)/\(b - r).toNat<k)/\(f []).same (f [])/\(h t (di (bM p) a7 P b.toNat) 3 true).same w/\q.same q/\True)/\(I=false->(f []).same (f [])/\(h t a7 3 true).same w/\q.same q/\True))/\(H=false->(f []).same (f [])/\(h t a7 3 true).same w/\q.same q/\True))/\(decide (x.fst<r)=false->al))/\(decide (a<x.fst)=false->al))/\(ai=false->aj))/\(decide (x.fst<m)=false->aj));let R:=O.same O/\q.same q/\True;let ap:=λ(u u_1:Int) ↦let aq:=c u;e z/\(((s.same s/\(c a).same (c a)/\(c m).same (c m)/\(c b).same (c b)/\G.same G/\W.same W/\X.same X/\aq.same aq/\(c u_1).same (c u_1)/\Y.same Y/\True)/\R)/\(L<=u/\u<=u_1/\u_1<=M)/\(∀(k:Nat),L<=(↑k:Int)->(↑k:Int)<u->bM p (bj l k d)<bM p (bj l (z - (↑k:Int)).toNat d)->False)/\∀(k:Nat),u_1<=(↑k:Int)->(↑k:Int)<M->bM p (bj l k d)<bM p (bj l (z - (↑k:Int)).toNat d))/\aT;let ar:=λ(u u_1 u_2:Int) ↦let au:=c u;let av:=c u_1;(s.same s/\au.same au/\G.same G/\av.same av/\(c u_2).same (c u_2)/\True)/\R;e (m - a)/\(ad=true->(ar a m b/\(m<=m/\m<=b/\b<=b)/\(∀(k:Nat),m<=(↑k:Int)->(↑k:Int)<m->bM p B<bM p (bj l k d))/\∀(k:Nat),b<=(↑k:Int)->(↑k:Int)<b->bM p B<bM p (bj l k d)->False)/\∀(x:Int×Int),let aa:=x.fst+x.snd;let J:=aa / o;let aw:=bj l J.toNat d;let ax:=decide (x.fst<x.snd);let ay:=c x.fst;let az:=λ(u u_1:Int) ↦let aA:=c u;((s.same s/\(c a).same (c a)/\G.same G/\aA.same aA/\(c u_1).same (c u_1)/\True)/\R)/\((m<=u/\u<=u_1/\u_1<=b)/\(∀(k:Nat),m<=(↑k:Int)->(↑k:Int)<u->bM p B<bM p (bj l k d))/\∀(k:Nat),u_1<=(↑k:Int)->(↑k:Int)<b->bM p B<bM p (bj l k d)->False)/\(u_1 - u).toNat<(x.snd - x.fst).toNat;let aB:=λ(u:Bool) ↦decide (s7 p aw B<d)=u;((m<=x.fst/\x.fst<=x.snd/\x.snd<=b)/\(∀(k:Nat),m<=(↑k:Int)->(↑k:Int)<x.fst->bM p B<bM p (bj l k d))/\∀(k:Nat),x.snd<=(↑k:Int)->(↑k:Int)<b->bM p B<bM p (bj l k d)->False)->(ax=true->e aa/\bV .u64 aa/\d<=g/\g<=j/\e J/\n=l.length/\d<=J/\J<N/\n=l.length/\J.toNat<l.length/\n=l.length/\d<=a/\a<N/\n=l.length/\a.toNat<l.length/\(bC p=d/\iz p aw/\iz p B)/\(aB true->e (J+g)/\az (J+g) x.snd)/\(aB false->az x.fst J))/\(ax=false->(((s.same s/\ay.same ay/\(c a).same (c a)/\True)/\R)/\(a<=a/\a<=x.fst - g/\m<=x.fst/\x.fst<=b)/\((∀(k:Nat),m<=(↑k:Int)->(↑k:Int)<x.fst->bM p B<bM p (bj l k d))/\∀(k:Nat),x.fst<=(↑k:Int)->(↑k:Int)<b->bM p B<bM p (bj l k d)->False)/\l=mB l a.toNat b.toNat (a - a).toNat)/\∀(x:Int×Int×List Int),let ab:=x.snd.fst - g;let aC:=decide (x.fst<ab);let F:=x.fst+g;let C:=x.snd.snd.length;let a8:=F.toNat;let S:=x.snd.snd.set x.fst.toNat (bj x.snd.snd a8 d);let aD:=c x.snd.fst;let aE:=c F;let aF:=S.set a8 (bj x.snd.snd x.fst.toNat d);let aG:=h t aF 3 true;let aH:=λ(u:Int) (u_1:List Int) ↦(a<=u/\u<=ab/\m<=x.snd.fst/\x.snd.fst<=b)/\((∀(k:Nat),m<=(↑k:Int)->(↑k:Int)<x.snd.fst->bM p B<bM p (bj l k d))/\∀(k:Nat),x.snd.fst<=(↑k:Int)->(↑k:Int)<b->bM p B<bM p (bj l k d)->False)/\u_1=mB l a.toNat b.toNat (u - a).toNat;aH x.fst x.snd.snd->e ab/\(aC=true->e F/\e F/\n=C/\d<=F/\F<(↑C:Int)/\n=C/\a8<C/\n=C/\d<=x.fst/\x.fst<(↑C:Int)/\n=C/\x.fst.toNat<C/\n=C/\d<=x.fst/\x.fst<(↑C:Int)/\n=C/\x.fst.toNat<C/\n=S.length/\d<=F/\F<(↑S.length:Int)/\n=S.length/\a8<S.length/\e F/\((s.same s/\aD.same aD/\aE.same aE/\True)/\aG.same aG/\q.same q/\True)/\aH F aF/\(x.snd.fst - F).toNat<(x.snd.fst - x.fst).toNat)/\(aC=false->(f []).same (f [])/\(h t x.snd.snd 3 true).same w/\q.same q/\True)))/\(ad=false->e (b - m)/\(ae=true->(ar m a m/\(a<=a/\a<=m/\m<=m)/\(∀(k:Nat),a<=(↑k:Int)->(↑k:Int)<a->bM p (bj l k d)<bM p y->False)/\∀(k:Nat),m<=(↑k:Int)->(↑k:Int)<m->bM p (bj l k d)<bM p y)/\∀(x:Int×Int),let ac:=x.fst+x.snd;let K:=ac / o;let aI:=bj l K.toNat d;let aJ:=decide (x.fst<x.snd);let aK:=c x.fst;let aL:=λ(u u_1:Int) ↦let aM:=c u;((s.same s/\(c m).same (c m)/\G.same G/\aM.same aM/\(c u_1).same (c u_1)/\True)/\R)/\((a<=u/\u<=u_1/\u_1<=m)/\(∀(k:Nat),a<=(↑k:Int)->(↑k:Int)<u->bM p (bj l k d)<bM p y->False)/\∀(k:Nat),u_1<=(↑k:Int)->(↑k:Int)<m->bM p (bj l k d)<bM p y)/\(u_1 - u).toNat<(x.snd - x.fst).toNat;let aN:=λ(u:Bool) ↦(!decide (s7 p y aI<d))=u;((a<=x.fst/\x.fst<=x.snd/\x.snd<=m)/\(∀(k:Nat),a<=(↑k:Int)->(↑k:Int)<x.fst->bM p (bj l k d)<bM p y->False)/\∀(k:Nat),x.snd<=(↑k:Int)->(↑k:Int)<m->bM p (bj l k d)<bM p y)->(aJ=true->e ac/\bV .u64 ac/\d<=g/\g<=j/\e K/\n=l.length/\d<=m/\m<N/\n=l.length/\m.toNat<l.length/\n=l.length/\d<=K/\K<N/\n=l.length/\K.toNat<l.length/\(bC p=d/\iz p y/\iz p aI)/\(aN true->e (K+g)/\aL (K+g) x.snd)/\(aN false->aL x.fst K))/\(aJ=false->(((s.same s/\aK.same aK/\(c m).same (c m)/\True)/\R)/\(x.fst<=m/\m<=m/\a<=x.fst)/\((∀(k:Nat),a<=(↑k:Int)->(↑k:Int)<x.fst->bM p (bj l k d)<bM p y->False)/\∀(k:Nat),x.fst<=(↑k:Int)->(↑k:Int)<m->bM p (bj l k d)<bM p y)/\l=jw (bM p) l a.toNat m.toNat m.toNat)/\∀(x:Int×Int×List Int),let T:=x.fst.toNat;let aO:=decide (x.snd.fst<x.fst);let D:=x.fst - g;let E:=x.snd.snd.length;let U:=D.toNat;let V:=x.snd.snd.set T (bj x.snd.snd U d);let aP:=c x.snd.fst;let aQ:=c D;let aR:=V.set U (bj x.snd.snd T d);let aS:=h t aR 3 true;(x.snd.fst<=x.fst/\x.fst<=m/\a<=x.snd.fst)/\((∀(k:Nat),a<=(↑k:Int)->(↑k:Int)<x.snd.fst->bM p (bj l k d)<bM p y->False)/\∀(k:Nat),x.snd.fst<=(↑k:Int)->(↑k:Int)<m->bM p (bj l k d)<bM p y)/\x.snd.snd=jw (bM p) l a.toNat m.toNat T->(aO=true->e D/\e D/\n=E/\d<=D/\D<(↑E:Int)/\n=E/\U<E/\n=E/\d<=x.fst/\x.fst<(↑E:Int)/\n=E/\T<E/\n=E/\d<=x.fst/\x.fst<(↑E:Int)/\n=E/\T<E/\n=V.length/\d<=D/\D<(↑V.length:Int)/\n=V.length/\U<V.length/\e D/\((s.same s/\aP.same aP/\aQ.same aQ/\True)/\aS.same aS/\q.same q/\True)/\((x.snd.fst<=D/\D<=m/\a<=x.snd.fst)/\((∀(k:Nat),a<=(↑k:Int)->(↑k:Int)<x.snd.fst->bM p (bj l k d)<bM p y->False)/\∀(k:Nat),x.snd.fst<=(↑k:Int)->(↑k:Int)<m->bM p (bj l k d)<bM p y)/\aR=jw (bM p) l a.toNat m.toNat U)/\(D - x.snd.fst).toNat<(x.fst - x.snd.fst).toNat)/\(aO=false->(f []).same (f [])/\(h t x.snd.snd 3 true).same w/\q.same q/\True)))/\(ae=false->e (a+b)/\bV .u64 (a+b)/\d<=g/\g<=j/\e r/\e v/\(decide (r<m)=true->e (v - b)/\ap (v - b) r)/\(decide (r<m)=false->ap a m)))) (by kernel_rfl) ?_;simp only[vcs];have hV:∀k:Nat,k<l.length->iz p (bj l k 0):=λk hk=>ho _ (cK hk);have hcmp:∀i j:Nat,i<l.length->j<l.length->(s7 p (bj l i 0) (bj l j 0)<0↔bM p (bj l j 0)<bM p (bj l i 0)):=λi j hi hj=>TL hc (hV i hi) (hV j hj);have hxi:∀i j:Nat,a<=i->(i:Int)<m->m<=j->(j:Int)<b->bj l i 0<bj l j 0:=λi j h1 h2 h3 h4=>hx _ (yC.2 ⟨i,by omega,by omega,by omega,rfl⟩) _ (yC.2 ⟨j,by omega,by omega,by omega,rfl⟩);have u64:∀{v:Int},0<=v->v<=100000->bV .u64 v:=λh1 h2=>u64_in h1 (by omega);generalize hD:bM p=D at*;refine⟨by omega,λh1=>?_,λh1=>⟨by omega,λh2=>?_,λh2=>?_⟩⟩
 ·have hm:m=a+1:=by omega
  have mono:∀i j:Nat,m<=i->i<=j->(j:Int)<b->D (bj l j 0)<=D (bj l i 0):=λi j q1 q2 q3=>EL (EM hR (by omega) q2 (by omega) (by omega));refine⟨⟨⟨by omega,by omega,by omega⟩,λk q1 q2=>by omega,λk q1 q2=>by omega⟩,?_⟩;rintro⟨i,j⟩ ⟨⟨i0,i1,i2⟩,q1,q2⟩;simp only at i0 i1 i2 q1 q2 ⊢;refine⟨λhij=>?_,λhij=>⟨⟨⟨by omega,by omega,by omega,by omega⟩,⟨q1,λk w1 w2=>q2 k (by omega) w2⟩,?_⟩,?_⟩⟩
  ·rw[hcmp _ _ (by omega) (by omega)];generalize hh:(i+j) / 2=h;have Ue:i<=h/\h<j:=by omega
   refine⟨by omega,u64 (by omega) (by omega),by omega,by omega,by omega,by omega,by omega,by omega,by omega,by omega,by omega,by omega,by omega,by omega,by omega,⟨hc,hV _ (by omega),hV _ (by omega)⟩,λhlt=>⟨by omega,⟨⟨by omega,by omega,by omega⟩,λk w1 w2=>?_,λk w1 w2=>q2 k w1 w2⟩,by omega⟩,λhge=>⟨⟨⟨by omega,by omega,by omega⟩,λk w1 w2=>q1 k w1 w2,λk w1 w2=>?_⟩,by omega⟩⟩
   ·have:=mono k h.toNat (by omega) (by omega) (by omega);omega
   ·have:=mono h.toNat k (by omega) (by omega) (by omega);omega
  ·rw[show(a - a).toNat=0 by omega,adz (by omega) (by omega)]
  ·rintro⟨k,i',w⟩ ⟨⟨k0,k1,k2,k3⟩,⟨q1,q2⟩,hw⟩;simp only at k0 k1 k2 k3 q1 q2 hw ⊢;have hwl:w.length=l.length:=by rw[hw,adA (by omega) (by omega)]
   refine⟨by omega,λhk=>?_,λhk=>?_⟩
   ·obtain⟨e1,e2,e3⟩:=@adB l a.toNat b.toNat (k - a).toNat (by omega) (by omega);rw[<-hw] at e1 e2 e3;rw[show a.toNat+(k - a).toNat=k.toNat by omega] at e1 e2 e3;rw[show k.toNat+1=(k+1).toNat by omega] at e2 e3;rw[show(k - a).toNat+1=(k+1 - a).toNat by omega] at e3;rw[e1,e2,e3];simp only[γb,hwl];refine⟨by omega,by omega,by omega,by omega,by omega,by omega,by omega,by omega,by omega,by omega,by omega,by omega,by omega,by omega,by omega,by omega,by omega,by omega,by omega,by omega,by omega,by omega,by omega,⟨⟨by omega,by omega,by omega,by omega⟩,⟨q1,q2⟩,trivial⟩,by omega⟩
   ·have hki:k=i' - 1:=by omega
    refine s8 ?_;rw[hw];refine adE (by omega) (by omega) (by rw[show a.toNat+1=m.toNat by omega];exact hR) ?_ ?_
    ·intro s hs;rw[Ub,yC] at hs;obtain⟨k',w1,w2,w3,rfl⟩:=hs;have h9:¬D (bj l a.toNat 0)<D (bj l k' 0):=q2 k' (by omega) (by omega);have:=hxi a.toNat k' (by omega) (by omega) (by omega) (by omega);exact pv.2 (by omega)
    ·by_cases hka:k=a;·exact .inl (by omega)
     ·refine .inr (pv.2 (.inl ?_));rw[show a.toNat+(k - a).toNat=k.toNat by omega];exact q1 k.toNat (by omega) (by omega)
 ·have hb:b=m+1:=by omega
  have mono:∀i j:Nat,a<=i->i<=j->(j:Int)<m->D (bj l j 0)<=D (bj l i 0):=λi j q1 q2 q3=>EL (EM hL (by omega) q2 (by omega) (by omega));refine⟨⟨⟨by omega,by omega,by omega⟩,λk q1 q2=>by omega,λk q1 q2=>by omega⟩,?_⟩;rintro⟨i,j⟩ ⟨⟨i0,i1,i2⟩,q1,q2⟩;simp only at i0 i1 i2 q1 q2 ⊢;refine⟨λhij=>?_,λhij=>⟨⟨⟨by omega,by omega,by omega⟩,⟨q1,λk w1 w2=>q2 k (by omega) w2⟩,?_⟩,?_⟩⟩
  ·rw[hcmp _ _ (by omega) (by omega)];generalize hh:(i+j) / 2=h;have Ue:i<=h/\h<j:=by omega
   refine⟨by omega,u64 (by omega) (by omega),by omega,by omega,by omega,by omega,by omega,by omega,by omega,by omega,by omega,by omega,by omega,by omega,by omega,⟨hc,hV _ (by omega),hV _ (by omega)⟩,λhge=>⟨by omega,⟨⟨by omega,by omega,by omega⟩,λk w1 w2=>?_,λk w1 w2=>q2 k w1 w2⟩,by omega⟩,λhlt=>⟨⟨⟨by omega,by omega,by omega⟩,λk w1 w2=>q1 k w1 w2,λk w1 w2=>?_⟩,by omega⟩⟩
   ·have:=mono k h.toNat (by omega) (by omega) (by omega);omega
   ·have:=mono h.toNat k (by omega) (by omega) (by omega);omega
  ·rw[TP (by omega) (by omega),KQ (by omega) hL]
  ·rintro⟨k,i',w⟩ ⟨⟨k0,k1,k2⟩,⟨q1,q2⟩,hw⟩;simp only at k0 k1 k2 q1 q2 hw ⊢;have hwl:w.length=l.length:=by rw[hw,TN (by omega) (by omega)]
   have hso:df D (seg l a.toNat m.toNat)=seg l a.toNat m.toNat:=KB hL;have hsl:=kS (l:=l) (a:=a.toNat) (b:=m.toNat) (by omega) (by omega);refine⟨λhk=>?_,λhk=>?_⟩
   ·obtain⟨e1,e2,e3⟩:=@TS D l a.toNat m.toNat k.toNat (by omega) (by omega) (by omega);rw[<-hw] at e1 e2 e3;rw[show k.toNat - 1=(k - 1).toNat by omega] at e2 e3;rw[e1,e2,e3];simp only[γb,hwl];refine⟨by omega,by omega,by omega,by omega,by omega,by omega,by omega,by omega,by omega,by omega,by omega,by omega,by omega,by omega,by omega,by omega,by omega,by omega,by omega,by omega,by omega,by omega,by omega,⟨⟨by omega,by omega,by omega⟩,⟨q1,q2⟩,trivial⟩,by omega⟩
   ·have hki:k=i':=by omega
    refine s8 ?_;rw[hw,show b.toNat=m.toNat+1 by omega];refine TU (by omega) (by omega) (by omega) ?_ ?_
    ·intro s hs;rw[hso,Ub,yC] at hs;obtain⟨k',w1,w2,w3,rfl⟩:=hs;have h9:D (bj l k' 0)<D (bj l m.toNat 0):=q2 k' (by omega) (by omega);exact pv.2 (by omega)
    ·by_cases hka:k=a;·exact .inl (by omega)
     ·refine .inr ?_;rw[hso,cM (show k.toNat - 1 - a.toNat<(seg l a.toNat m.toNat).length by omega),KR];have h9:¬D (bj l (a.toNat+(k.toNat - 1 - a.toNat)) 0)<D (bj l m.toNat 0):=q1 (a.toNat+(k.toNat - 1 - a.toNat)) (by omega) (by omega);have:=hxi (a.toNat+(k.toNat - 1 - a.toNat)) m.toNat (by omega) (by omega) (by omega) (by omega);exact pv.2 (by omega)
 ·generalize hmd:(a+b) / 2=mid;have md:2*mid<=a+b/\a+b<=2*mid+1:=by omega
  clear hmd;have hlh:∃lo hi,lo=(if mid<m then mid+m - b else a)/\hi=(if mid<m then mid else m):=⟨_,_,rfl,rfl⟩;obtain⟨lo,hi,EP,ER⟩:=hlh;rw[<-EP,<-ER];have hlo:(mid<m/\lo=mid+m - b/\hi=mid)\/(m<=mid/\lo=a/\hi=m):=by
   rcases Int.lt_or_le mid m with h|h;·exact .inl ⟨h,by rw[EP,if_pos h],by rw[ER,if_pos h]⟩
   ·exact .inr ⟨h,by rw[EP,if_neg (by omega)],by rw[ER,if_neg (by omega)]⟩
  clear EP ER;have ES:∀i j:Nat,a<=i->i<=j->(j:Int)<m->D (bj l j 0)<=D (bj l i 0):=λi j q1 q2 q3=>EL (EM hL (by omega) q2 (by omega) (by omega));have ET:∀i j:Nat,m<=i->i<=j->(j:Int)<b->D (bj l j 0)<=D (bj l i 0):=λi j q1 q2 q3=>EL (EM hR (by omega) q2 (by omega) (by omega));have tail:∀s:Int,lo<=s->s<=hi->(∀k:Nat,lo<=k->(k:Int)<s->D (bj l k 0)<D (bj l (mid+m - 1 - k).toNat 0)->False)->(∀k:Nat,s<=k->(k:Int)<hi->D (bj l k 0)<D (bj l (mid+m - 1 - k).toNat 0))->
    Ud D n k l p a m b mid s:=by
   intro s s1 s2 q1 q2;refine adH hD hc hn hl ho a0 (by omega) (by omega) (by omega) (by omega) (by omega) (by omega) (by omega) a3 hL hR hx ?_ ?_ hk
   ·rintro x y hX hY;rw[yC] at hX hY;obtain⟨i,i1,i2,i3,rfl⟩:=hX;obtain⟨j,j1,j2,j3,rfl⟩:=hY;have h3:=q1 (s - 1).toNat (by omega) (by omega);rw[show(mid+m - 1 - ((s - 1).toNat:Int)).toNat=(mid+m - s).toNat by omega] at h3;have h4:=ES i (s - 1).toNat (by omega) (by omega) (by omega);have h5:=ET (mid+m - s).toNat j (by omega) (by omega) (by omega);have h6:=hxi i j (by omega) (by omega) (by omega) (by omega);have h7:¬D (bj l (s - 1).toNat 0)<D (bj l (mid+m - s).toNat 0):=h3;exact pv.2 (by omega)
   ·rintro x y hX hY;rw[yC] at hX hY;obtain⟨j,j1,j2,j3,rfl⟩:=hX;obtain⟨i,i1,i2,i3,rfl⟩:=hY;have h3:=q2 s.toNat (by omega) (by omega);have h4:=ES s.toNat i (by omega) (by omega) (by omega);have h5:=ET j (mid+m - 1 - (s.toNat:Int)).toNat (by omega) (by omega) (by omega);exact pv.2 (by omega)
  refine⟨by omega,u64 (by omega) (by omega),by omega,by omega,by omega,by omega,λhm=>⟨by omega,by omega,⟨⟨by omega,by omega,by omega⟩,λk w1 w2=>by omega,λk w1 w2=>by omega⟩,?_⟩,λhm=>⟨by omega,⟨⟨by omega,by omega,by omega⟩,λk w1 w2=>by omega,λk w1 w2=>by omega⟩,?_⟩⟩;all_goals
   rintro⟨i,j⟩ ⟨⟨i0,i1,i2⟩,q1,q2⟩;simp only at i0 i1 i2 q1 q2 ⊢;refine⟨λhij=>?_,λhij=>?_⟩
   ·generalize hh:(i+j) / 2=h;have Ue:i<=h/\h<j:=by omega
    rw[hcmp _ _ (by omega) (by omega)];refine⟨by omega,u64 (by omega) (by omega),by omega,by omega,by omega,by omega,by omega,by omega,by omega,by omega,by omega,by omega,by omega,by omega,by omega,by omega,⟨hc,hV _ (by omega),hV _ (by omega)⟩,λhge=>⟨by omega,⟨⟨by omega,by omega,by omega⟩,λk w1 w2=>?_,λk w1 w2=>q2 k w1 w2⟩,by omega⟩,λhlt=>⟨⟨⟨by omega,by omega,by omega⟩,λk w1 w2=>q1 k w1 w2,λk w1 w2=>?_⟩,by omega⟩⟩
    ·have h3:=ES k h.toNat (by omega) (by omega) (by omega);have h4:=ET (mid+m - 1 - h).toNat (mid+m - 1 - (k:Int)).toNat (by omega) (by omega) (by omega);omega
    ·have h3:=ES h.toNat k (by omega) (by omega) (by omega);have h4:=ET (mid+m - 1 - (k:Int)).toNat (mid+m - 1 - h).toNat (by omega) (by omega) (by omega);omega
   ·have hij':i=j:=by omega
    have h3:=tail i i0 (by omega) q1 (λk w1 w2=>q2 k (by omega) w2);exact h3
theorem KU:∀n,dK Tryz.prog (q0 n)
 |0=>by
  rintro⟨⟨c,l,p⟩,a,m,b⟩ ⟨_,h⟩;exact absurd h (Nat.not_lt_zero _);|n+1=>by
  rintro⟨⟨c,l,p⟩,a,m,b⟩ ⟨h1,h2⟩;by_cases hc:(b - a).toNat<n;·exact KU n ⟨⟨c,l,p⟩,a,m,b⟩ ⟨h1,hc⟩
  ·refine C9 (q0 (n+1)) (W:=A0 n) (Λ:=λx=>Uc x.1.1 x.1.2.1 x.1.2.2 x.2.1 x.2.2.1 x.2.2.2) pT (by simp only[A0,γq,γ3,false_implies,implies_true,and_true];exact⟨KU n,h351,h320⟩) (by simp)
    (show gB 200=some (fG 200) by kernel_rfl) (λ_=>rfl) ⟨⟨c,l,p⟩,a,m,b⟩ ?_ (adI n c l p a m b h1 h2).out;intro d hd b' hb1 hb2 hb3;have hd2:d=q0 n:=by
    have:k9 200 (A0 n)=some (q0 n):=rfl;have hd3:k9 200 (A0 n)=some d:=hd;rw[this] at hd3;injection hd3 with hd3;exact hd3.symm
   subst hd2;have hb:(⟨⟨c,l,p⟩,a,m,b⟩:KF×Int×Int×Int)=b':=(q0 n).inj ⟨⟨c,l,p⟩,a,m,b⟩ b' hb1 hb2;subst hb;exact hc hb3.2
def A2 (b:Int):List Int:=[b]
def KV:List Int->Option Int
 |[a]=>some a
 |_=>none
theorem adJ:∀l b,KV l=some b->l=A2 b:=λl b h=>by
 unfold KV at h;split at h;·simp only[γ] at h;subst h;rfl
 ·cases h
theorem adK:∀b c,A2 b=A2 c->b=c:=λb c h=>by
 simp_all[A2]
def EU (_:Unit):List Int:=[]
def KW:List Int->Option Unit
 |[]=>some ()
 |_=>none
theorem adL:∀l b,KW l=some b->l=EU b:=λl b h=>by
 unfold KW at h;split at h;·rfl
 ·cases h
theorem adM:∀b c,EU b=EU c->b=c:=λ_ _ _=>rfl
theorem KX {D:Int->Int} {l:List Int} {n:Nat} (h:n=l.length):di D l 0 n=df D l:=by
 grind[di,seg]
def m20 (D:Int->Int) (l:List Int):List Int:=df D (l.take 20)++(df D (l.drop 20)++[])
theorem adN {D:Int->Int} {l:List Int} (h:20<=l.length):di D l 0 20=df D (l.take 20)++(l.drop 20++[]):=by
 grind[di,seg]
theorem Uf {D:Int->Int} {l:List Int} {n:Nat} (b:n=l.length) (h:20<=l.length):di D (di D l 0 20) 20 n=m20 D l:=by
 have a:(df D (l.take 20)).length=20:=by grind[oz]
 rw[adN h];exact KO a.symm (by simp_all)
theorem EV {D:Int->Int} {l:List Int}:(m20 D l).length=l.length:=by
 grind[m20,oz]
theorem Ug {D:Int->Int} {l:List Int}:(m20 D l).Perm l:=by
 unfold m20;rw[List.append_nil];refine(rU.append rU).trans ?_;simp_all
theorem adO {D:Int->Int} {l:List Int} {n:Nat} (b:n=l.length) (h:20<=l.length):seg (m20 D l) 0 20=df D (l.take 20)/\seg (m20 D l) 20 n=df D (l.drop 20):=by
 have a:(df D (l.take 20)).length=20:=by grind[oz]
 refine⟨?_,?_⟩
 ·have:=@s9 [] (df D (l.take 20)) (df D (l.drop 20)++[]) 0 20 rfl (by rw[a];rfl);exact this
 ·exact s9 a.symm (by grind[oz])
theorem Uh {D:Int->Int} {l:List Int} {n:Nat} (a:n=l.length):di D (m20 D l) 0 n=df D l:=by
 rw[KX (by grind[EV])];exact AQ (rU.trans Ug) wh
theorem Ui {D:Int->Int} {l:List Int} {b c d:Nat} (h:b<=c) (e:b<=l.length):seg (di D l 0 b) c d=seg l c d:=by
 have a:(df D (seg l 0 b)).length=b:=by grind[oz,kS]
 unfold di;have:(l.take 0++df D (seg l 0 b)++l.drop b).drop c=l.drop c:=by
  rw[εP,δf,List.drop_append,List.drop_eq_nil_of_le (by omega),δf,γV,a,show b+(c - b)=c by omega]
 grind[seg]
theorem adP {l:List Int} {p:bp} {n:Nat} (b:bC p=0) (i:n=l.length) (h:20<l.length) (g:l.length<=1000) (e:∀x∈l,iz p x) (j:l.Pairwise (·<·)):qd ((n,m20 (bM p) l,p),0,20,(l.length:Int)):=by
 obtain⟨f,d⟩:=@adO (bM p) l l.length rfl (by omega);refine⟨⟨⟨b,by grind[EV]⟩,by grind[EV],λx a=>e x (Ug.mem_iff.1 a)⟩,⟨by simp_all,by simp_all,by grind,by grind[EV]⟩,?_,?_,?_⟩;·simp_all[wh]
 ·simp_all[wh]
 ·show ∀x∈seg _ 0 20,∀y∈seg _ 20 _,x<y;rw[show((l.length:Int)).toNat=l.length by omega,f,d];intro x a y c;rw[yx] at a c;have:=Δ 20 l;grind
def KY:cZ:=yB 168 1 Int A2 KV (λ_=>rfl) adJ adK (λa=>(uI a.1/\a.1.2.1.Pairwise (·<·))/\a.2=a.1.2.1.length/\a.1.2.1.length<=40) λa=>df (bM a.1.2.2) a.1.2.1
def adQ (n:Nat) (l:List Int) (p:bp):Nat->cB
 |2=> .inv (Int×Int×List Int) (λx=>⟨[(0,.ow 0 n 1),(1,.si .i64 l.length),(2,.fn (.func 127) [] [.ptr 1 0 20]),(6,.si .i64 20),(7,.si .i64 x.1),(8,.si .i64 x.2.1)],[.row (.i .i64) x.2.2 3 true,.cells p.ss 27 20 false]⟩) (λs=>(iS s 7,iS s 8,oS (.i .i64) s 0))
   (λx=>x.2.1=x.1+20/\(x.1=0/\x.2.2=l\/x.1=20/\20<=l.length/\x.2.2=di (bM p) l 0 20\/x.1=40/\l.length=40/\x.2.2=di (bM p) (di (bM p) l 0 20) 20 40)) (λx=>(1000 - x.1).toNat) λ_ _=> .look
 |7=> .inv (Int×List Int) (λx=>⟨[(0,.ow 0 n 1),(1,.si .i64 l.length),(2,.fn (.func 127) [] [.ptr 1 0 20]),(6,.si .i64 x.1)],[.row (.i .i64) x.2 3 true,.cells p.ss 27 20 false]⟩) (λs=>(iS s 6,oS (.i .i64) s 0))
   (λx=>x.1=20/\(l.length<=20/\x.2=df (bM p) l\/20<l.length/\x.2=m20 (bM p) l)\/x.1=40/\x.2=df (bM p) l) (λx=>(1000 - x.1).toNat) λx k=>match k with
    |9=> .inv (Int×Int×List Int) (λy=>⟨[(0,.ow 0 n 1),(1,.si .i64 l.length),(2,.fn (.func 127) [] [.ptr 1 0 20]),(6,.si .i64 x.1),(7,.si .i64 y.1),(8,.si .i64 y.2.1)],[.row (.i .i64) y.2.2 3 true,.cells p.ss 27 20 false]⟩) (λs=>(iS s 7,iS s 8,oS (.i .i64) s 0))
      (λy=>y.1=0/\y.2.1=40/\y.2.2=m20 (bM p) l\/y.1=40/\y.2.1=80/\l.length=40/\y.2.2=df (bM p) l) (λy=>(1000 - y.1).toNat) λ_ _=> .look
    |_=> .look
 |_=> .look
theorem h333:dK Tryz.prog KY:=by
 refine jm (L:=[]) (W:=[KN,q0 1001]) KY (λa=>adQ a.1.1 a.1.2.1 a.1.2.2) (by simp only[γq,γ3,false_implies,implies_true,and_true];exact⟨h343,KU 1001⟩) (by simp) ?_;rintro⟨⟨n,l,p⟩,N⟩ ⟨⟨⟨⟨hc,hn⟩,hl,ho⟩,hi⟩,hN,h40⟩;simp only at hc hn hl ho hi hN h40;subst hN;refine bN (let a:=Θ .i64;let b:=(20:Int);let c:=(40:Int);let d:=(0:Int);let e:=(1000:Int);let f:=bq.row;let g:=bV .i64;let h:=γp .i64;let j:=γp .i64 0;let k:=(80:Int);let o:=γ6 0 n 1;let q:=(↑l.length:Int);let r:=a q;let s:=SV.fn (Fn.func 127) [] [γS 1 0 20];let w:=a 20;let v:=bk.i .i64;let M:=f v l 3 true;let m:=bq.cells [a p.supply.a0,a p.supply.a1,a p.supply.a2,a p.supply.a3,a p.supply.a4,a p.supply.a5,a p.opn.a0,a p.opn.a1,a p.opn.a2,a p.opn.a3,a p.opn.a4,a p.opn.a5,a p.cls.a0,a p.cls.a1,a p.cls.a2,a p.cls.a3,a p.cls.a4,a p.cls.a5,Φ v p.classes,Φ bk.off p.offers] 27 20 false;let C:=di (bM p) l 0 20;let J:=di (bM p) C 20 40;let t:=df (bM p) l;let y:=m20 (bM p) l;(((o.same o/\r.same r/\s.same s/\(h 20).same w/\(h 0).same (a 0)/\(h 20).same w/\True)/\M.same M/\m.same m/\True)/\b=b/\(d=d/\l=l\/d=b/\20<=l.length/\l=C\/d=c/\l.length=40/\l=J))/\∀(x:Int×Int×List Int),let N:=decide (x.snd.fst<=q);let D:=x.fst.toNat;let E:=x.snd.fst+b;let O:=a x.snd.fst;let P:=a E;let F:=di (bM p) x.snd.snd D x.snd.fst.toNat;let Q:=f v F 3 true;let G:=di (bM p) x.snd.snd D q.toNat;let R:=f v G 3 true;x.snd.fst=x.fst+b/\(x.fst=d/\x.snd.snd=l\/x.fst=b/\20<=l.length/\x.snd.snd=C\/x.fst=c/\l.length=40/\x.snd.snd=J)->(N=true->(uI (n,x.snd.snd,p)/\KJ x.snd.snd x.fst x.snd.fst/\ζo (λ(x1 x2:Int) ↦x1<x2) (seg x.snd.snd D x.snd.fst.toNat))/\g E/\((o.same o/\r.same r/\s.same s/\w.same w/\O.same O/\P.same P/\True)/\Q.same Q/\m.same m/\True)/\(E=E/\(x.snd.fst=d/\F=l\/x.snd.fst=b/\20<=l.length/\F=C\/x.snd.fst=c/\l.length=40/\F=J))/\(e - x.snd.fst).toNat<(e - x.fst).toNat)/\(N=false->(uI (n,x.snd.snd,p)/\KJ x.snd.snd x.fst q/\ζo (λ(x1 x2:Int) ↦x1<x2) (seg x.snd.snd D q.toNat))/\(((o.same o/\r.same r/\s.same s/\w.same w/\True)/\R.same R/\m.same m/\True)/\(b=b/\(l.length<=20/\G=t\/20<l.length/\G=y)\/b=c/\G=t))/\∀(x:Int×List Int),let z:=(2:Int)*x.fst;let H:=a x.fst;let S:=a z;let K:=f v x.snd 3 true;let A:=x.fst*(2:Int);let T:=a A;x.fst=b/\(l.length<=20/\x.snd=t\/20<l.length/\x.snd=y)\/x.fst=c/\x.snd=t->(decide (x.fst<q)=true->g z/\(((o.same o/\r.same r/\s.same s/\H.same H/\(h 0).same (a 0)/\S.same S/\True)/\K.same K/\m.same m/\True)/\(d=d/\z=c/\x.snd=y\/d=c/\z=k/\l.length=40/\x.snd=t))/\∀(x_1:Int×Int×List Int),let B:=x_1.fst+x.fst;let U:=decide (x_1.snd.fst<=q);let I:=x_1.snd.fst+z;let V:=a x_1.snd.fst;let W:=a I;let L:=di (bM p) x_1.snd.snd x_1.fst.toNat x_1.snd.fst.toNat;let X:=f v L 3 true;let Y:=λ(u:List Int) ↦let Z:=f v u 3 true;g A/\((o.same o/\r.same r/\s.same s/\T.same T/\True)/\Z.same Z/\m.same m/\True)/\(A=b/\(l.length<=20/\u=t\/20<l.length/\u=y)\/A=c/\u=t)/\(e - A).toNat<(e - x.fst).toNat;let a6:=λ(u:Int) ↦qd ((n,x_1.snd.snd,p),x_1.fst,B,u)/\(u - x_1.fst).toNat<1001;x_1.fst=d/\x_1.snd.fst=c/\x_1.snd.snd=y\/x_1.fst=c/\x_1.snd.fst=k/\l.length=40/\x_1.snd.snd=t->(U=true->g B/\a6 x_1.snd.fst/\g z/\g I/\((o.same o/\r.same r/\s.same s/\H.same H/\V.same V/\W.same W/\True)/\X.same X/\m.same m/\True)/\(x_1.snd.fst=d/\I=c/\L=y\/x_1.snd.fst=c/\I=k/\l.length=40/\L=t)/\(e - x_1.snd.fst).toNat<(e - x_1.fst).toNat)/\(U=false->g B/\(decide (B<q)=true->a6 q/\Y (di (bM p) x_1.snd.snd x_1.fst.toNat q.toNat))/\(decide (B<q)=false->Y x_1.snd.snd)))/\(decide (x.fst<q)=false->(SV.bH []).same (SV.bH [])/\K.same (f v t 3 true)/\m.same m/\True))) (by kernel_rfl) ?_;simp only[vcs];have pw:∀a b,(seg l a b).Pairwise (·<·):=λa b=>δU ((List.take_sublist _ _).trans (List.drop_sublist _ _)) hi;have e0:((l.length:Int)).toNat=l.length:=by omega
 rw[e0];refine⟨.inl trivial,?_⟩;rintro⟨a,b,w⟩ ⟨hb,hw⟩;simp only at hb hw ⊢;subst hb;refine⟨λh=>?_,λh=>?_⟩
 ·rcases hw with⟨rfl,rfl⟩|⟨rfl,h2,rfl⟩|⟨rfl,h2,rfl⟩;·refine⟨⟨⟨⟨hc,hn⟩,hl,ho⟩,⟨?_,?_,?_⟩,pw _ _⟩,?_,.inr (.inl ⟨?_,?_,rfl⟩),?_⟩<;>omega
  ·have hw:=@yy (bM p) l 0 20 (by omega) (by omega);exact⟨⟨⟨⟨hc,by simp only[hw];exact hn⟩,by simp only[hw];exact hl,λx hx=>ho x (AZ hx)⟩,⟨by omega,by omega,by rw[hw];omega⟩,by rw[Ui (by omega) (by omega)];exact pw _ _⟩,by omega,.inr (.inr ⟨by omega,by omega,rfl⟩),by omega⟩
  ·omega
 ·refine⟨?_,?_,?_⟩
  ·rcases hw with⟨rfl,rfl⟩|⟨rfl,h2,rfl⟩|⟨rfl,h2,rfl⟩;·refine⟨⟨⟨hc,hn⟩,hl,ho⟩,⟨?_,?_,?_⟩,pw _ _⟩<;>omega
   ·have hw:=@yy (bM p) l 0 20 (by omega) (by omega);exact⟨⟨⟨hc,by simp only[hw];exact hn⟩,by simp only[hw];exact hl,λx hx=>ho x (AZ hx)⟩,⟨by omega,by omega,by rw[hw];omega⟩,by rw[Ui (by omega) (by omega)];exact pw _ _⟩
   ·have hw:=@yy (bM p) l 0 20 (by omega) (by omega);have hw2:=@yy (bM p) (di (bM p) l 0 20) 20 40 (by omega) (by omega);rw[hw] at hw2;refine⟨⟨⟨hc,by simp only[hw2];exact hn⟩,by simp only[hw2];exact hl,λx hx=>ho x (AZ (AZ hx))⟩,⟨by omega,by omega,by rw[hw2];omega⟩,?_⟩;rw[h2];show(seg _ 40 40).Pairwise _;rw[AS];exact δy
  ·left;rcases hw with⟨rfl,rfl⟩|⟨rfl,h2,rfl⟩|⟨rfl,h2,rfl⟩;·exact .inl ⟨by omega,KX rfl⟩
   ·rcases Nat.lt_or_ge 20 l.length with h3|h3;·exact .inr ⟨h3,Uf rfl (by omega)⟩
    ·refine .inl ⟨h3,?_⟩;rw[show l.length=20 by omega];show di _ _ 20 20=_;rw[KD];exact KX (by omega)
   ·refine .inr ⟨by omega,?_⟩;rw[h2];show di _ _ 40 40=_;rw[KD];exact Uf h2.symm (by omega)
  ·rintro⟨s,w⟩ hw;simp only at hw ⊢;refine⟨λh=>?_,λh=>s8 ?_⟩
   ·have hs:s=20/\20<l.length/\w=m20 (bM p) l:=by
     rcases hw with⟨h1,h2|h2⟩|h2;·omega
     ·exact⟨h1,h2⟩
     ·omega
    obtain⟨rfl,h20,rfl⟩:=hs;refine⟨by omega,.inl ⟨by omega,rfl⟩,?_⟩;rintro⟨a,b,w⟩ hy;simp only at hy ⊢;have hd:=@adP l p n hc hn h20 hl ho hi;rcases hy with⟨rfl,rfl,rfl⟩|⟨rfl,rfl,h4,rfl⟩
    ·refine⟨λh5=>?_,λh5=>⟨by omega,λh6=>?_,λh6=>by omega⟩⟩
     ·have h6:l.length=40:=by omega
      refine⟨by omega,⟨?_,by omega⟩,by omega,by omega,.inr ⟨by omega,by omega,h6,Uh h6.symm⟩,by omega⟩;rw[h6] at hd;exact hd
     ·refine⟨⟨hd,?_⟩,?_,.inr ⟨?_,Uh rfl⟩,?_⟩<;>omega
    ·refine⟨λh5=>by omega,λh5=>⟨by omega,λh6=>by omega,λh6=>⟨by omega,.inr ⟨by omega,rfl⟩,by omega⟩⟩⟩
   ·rcases hw with⟨h1,h2|h2⟩|h2;·exact h2.2
    ·omega
    ·exact h2.2
def KZ:cZ:=yB 126 0 Unit EU KW (λ_=>rfl) adL adM (λa=>(uI a.1/\a.1.2.1.Pairwise (·<·))/\a.1.2.1.length<=40) λa=>df (bM a.1.2.2) a.1.2.1
theorem h319:dK Tryz.prog KZ:=by
 refine jm (L:=[]) (W:=[KY]) KZ lk (by grind[h333]) (by simp) ?_;rintro⟨⟨n,l,p⟩,u⟩ ⟨⟨⟨⟨g,h⟩,d,c⟩,e⟩,a⟩;simp only at g h d c e a;refine bN (let f:=bq.row (bk.i .i64) (df (bM p) l) 3 true;let b:=bq.cells (bp.ss p) 27 20 false;((uI (n,l,p)/\ζo (λj k ↦j<k) l)/\(↑n:Int)=(↑l.length:Int)/\l.length<=40)/\(SV.bH []).same (SV.bH [])/\f.same f/\b.same b/\True) (by kernel_rfl) ?_;simp only[vcs];exact⟨⟨⟨⟨g,h⟩,d,c⟩,e⟩,by omega,a⟩
def dT (n:Nat):List Int:=(π n).map λi:Nat=>(i:Int)
theorem jA {n:Nat}:(dT n).length=n:=by simp[dT]
theorem yD {n:Nat}:dT (n+1)=dT n++[(n:Int)]:=by simp[dT,δr]
theorem A4 {n:Nat}:(dT n).Pairwise (·<·):=by
 unfold dT;rw[List.pairwise_map];exact List.pairwise_lt_range.imp λh=>by omega
theorem rV {n:Nat} {x:Int}:x∈dT n↔0<=x/\x<n:=by
 unfold dT;rw[List.mem_map];constructor;·grind
 ·rintro⟨b,a⟩;exact⟨x.toNat,γH.2 (by omega),by omega⟩
def mY (n i:Nat):List Int:=dT i++ε (n - i) 0
theorem Uj {n i:Nat} (h:i<=n):(mY n i).length=n:=by grind[mY,jA]
theorem adS {n:Nat}:mY n 0=ε n 0:=by simp[mY,dT]
theorem adT {n:Nat}:mY n n=dT n:=by simp[mY]
theorem adU {n i:Nat} (h:i<n):(mY n i).set i (i:Int)=mY n (i+1):=by
 unfold mY;rw[εh _ _ (by grind[jA]),jA,Nat.sub_self,show n - i=(n - (i+1))+1 by omega,List.replicate_succ,List.set_cons_zero,yD,γe];rfl
def wj (p:bp):List Int:=df (bM p) (dT p.offers.length)
def K0:bL:=⟨89,bp,.one cY,λp=>p.offers.length<=40,λp=> .row (.i .i64) (if bC p=0 then wj p else[])⟩
def adV (p:bp):Nat->cB
 |5=> .inv Int (λi=>⟨[(1,.ptr 0 0 20),(3,.ow 1 (mY p.offers.length i.toNat).length 1),(13,.si .i64 p.offers.length),(14,.si .i64 i)],[.cells p.ss 27 20 false,.row (.i .i64) (mY p.offers.length i.toNat) 3 true]⟩)
   (λs=>iS s 14) (λi=>0<=i/\i<=p.offers.length) (λi=>(p.offers.length - i).toNat) λ_ _=> .look
 |_=> .look
theorem h308:Holds Tryz.prog K0:=by
 refine con (L:=[pU]) (W:=fU [KZ]) K0 adV (lg (by grind[h319])) (by grind[h79]) ?_;intro(p:bp) (C:p.offers.length<=40);refine bN (let h:=Θ .i64;let k:=(0:Int);let o:=bq.row;let s:=Φ;let t:=γ6;let q:=decide (bC p≠k);let d:=bk.i .i64;let r:=s d (if bC p=k then wj p else[]);let f:=(↑p.offers.length:Int);let m:=γS 0 0 20;let g:=p.offers.length;let e:=(↑g:Int);let n:=h e;let l:=bq.cells [h p.supply.a0,h p.supply.a1,h p.supply.a2,h p.supply.a3,h p.supply.a4,h p.supply.a5,h p.opn.a0,h p.opn.a1,h p.opn.a2,h p.opn.a3,h p.opn.a4,h p.opn.a5,h p.cls.a0,h p.cls.a1,h p.cls.a2,h p.cls.a3,h p.cls.a4,h p.cls.a5,s d p.classes,s bk.off p.offers] 27 20 false;True/\(q=true->(s d []).same r)/\(q=false->k<=f/\f<=f/\f*(8:Int)<=(140737488355328:Int)/\f<=(1000000000000:Int)/\(((m.same m/\(t 1 f.toNat 1).same (t 1 (mY g 0).length 1)/\(h (↑f.toNat:Int)).same n/\(γp .i64 0).same (h 0)/\True)/\l.same l/\(o d (ε f.toNat k) 3 true).same (o d (mY g 0) 3 true)/\True)/\k<=k/\k<=e)/\∀(x:Int),let c:=mY g x.toNat;let b:=c.length;let a:=x+(1:Int);let j:=h a;k<=x/\x<=e->(decide (x<e)=true->b=c.length/\k<=x/\x<(↑c.length:Int)/\b=c.length/\x.toNat<c.length/\bV .i64 a/\((m.same m/\(t 1 b 1).same (t 1 (mY g a.toNat).length 1)/\n.same n/\j.same j/\True)/\l.same l/\(o d (c.set x.toNat x) 3 true).same (o d (mY g a.toNat) 3 true)/\True)/\(k<=a/\a<=e)/\(e - a).toNat<(e - x).toNat)/\(decide (x<e)=false->((uI (b,c,p)/\ζo (λB v ↦B<v) c)/\b<=40)/\b=(df (bM p) c).length/\(s d (df (bM p) c)).same r))) (by kernel_rfl) ?_;simp only[vcs];refine⟨λh=>by rw[if_neg h],λh=>?_⟩;have s:bC p=0:=ω.1 h;rw[if_pos s];have A:((p.offers.length:Int)).toNat=p.offers.length:=by omega
 have k:∀{x y:Nat},x=y->(γ6 1 x 1).same (γ6 1 y 1):=by rintro _ _ rfl;rfl
 rw[A,adS];refine⟨by omega,by omega,by omega,by omega,⟨⟨⟨k (by simp),rfl⟩,rfl⟩,by omega,by omega⟩,?_⟩;rintro i ⟨u,D⟩;have E:=@Uj p.offers.length i.toNat (by omega);refine⟨λz=>?_,λz=>?_⟩
 ·have o:=@adU p.offers.length i.toNat (by omega);rw[show((i.toNat:Nat):Int)=i by omega] at o;have t:=@Uj p.offers.length (i.toNat+1) (by omega);rw[show(i+1).toNat=i.toNat+1 by omega,o];exact⟨u,by omega,by omega,by omega,⟨k (by omega),rfl⟩,by omega,by omega⟩
 ·rw[show i.toNat=p.offers.length by omega,adT];refine⟨⟨⟨⟨⟨s,rfl⟩,by grind[jA],λx w=>by have:=rV.1 w;exact this⟩,A4⟩,by grind[jA]⟩,by rw[oz],rfl⟩
end Go.Vi
namespace Go.Proofs
open Go.Shelf
def Tryz.layS_ren:Ren:=
 ⟨λ
  |189=>130
  |125=>171
  |257=>170
  |128=>210
  |129=>211
  |294=>201
  |295=>202
  |296=>203
  |297=>204
  |298=>205
  |299=>206
  |216=>207
  |300=>208
  |301=>209
  |328=>225
  |329=>226
  |330=>227
  |331=>228
  |332=>229
  |215=>230
  |343=>237
  |n=>n,
 λ
  |28=>24
  |3=>3
  |46=>245
  |0=>0
  |51=>235
  |53=>231
  |4=>4
  |183=>275
  |182=>274
  |131=>181
  |5=>5
  |9=>9
  |218=>284
  |222=>288
  |228=>297
  |229=>106
  |n=>n,
 λn=>n⟩
def Tryz.layC_ren:Ren:=
 ⟨λ
  |41=>86
  |n=>n,
 λ
  |22=>24
  |23=>3
  |4=>4
  |n=>n,
 λn=>n⟩
def Tryz.layD_ren:Ren:=
 ⟨λ
  |45=>166
  |n=>n,
 λ
  |22=>24
  |23=>3
  |3=>3
  |4=>4
  |0=>0
  |n=>n,
 λn=>n⟩
theorem Tryz.layS:Lays.n189 Tryz.prog Tryz.layS_ren:={mixed:=by kernel_rfl,f125:=Tryz.func171.trans (by kernel_rfl),f128:=Tryz.func210.trans (by kernel_rfl),f129:=Tryz.func211.trans (by kernel_rfl),f189:=Tryz.func130.trans (by kernel_rfl),f215:=Tryz.func230.trans (by kernel_rfl),f216:=Tryz.func207.trans (by kernel_rfl),f257:=Tryz.func170.trans (by kernel_rfl),f294:=Tryz.func201.trans (by kernel_rfl),f295:=Tryz.func202.trans (by kernel_rfl),f296:=Tryz.func203.trans (by kernel_rfl),f297:=Tryz.func204.trans (by kernel_rfl),f298:=Tryz.func205.trans (by kernel_rfl),f299:=Tryz.func206.trans (by kernel_rfl),f300:=Tryz.func208.trans (by kernel_rfl),f301:=Tryz.func209.trans (by kernel_rfl),f328:=Tryz.func225.trans (by kernel_rfl),f329:=Tryz.func226.trans (by kernel_rfl),f330:=Tryz.func227.trans (by kernel_rfl),f331:=Tryz.func228.trans (by kernel_rfl),f332:=Tryz.func229.trans (by kernel_rfl),f343:=Tryz.func237.trans (by kernel_rfl),t0:=Tryz.underlying0,a0:=Tryz.isAgg0,z0:=Tryz.sizeOf0,v0:=Tryz.zeroValue0,t3:=Tryz.underlying3,a3:=Tryz.isAgg3,z3:=Tryz.sizeOf3,v3:=Tryz.zeroValue3,t4:=Tryz.underlying4,a4:=Tryz.isAgg4,z4:=Tryz.sizeOf4,v4:=Tryz.zeroValue4,t5:=Tryz.underlying5,a5:=Tryz.isAgg5,z5:=Tryz.sizeOf5,v5:=Tryz.zeroValue5,t9:=Tryz.underlying9,a9:=Tryz.isAgg9,z9:=Tryz.sizeOf9,v9:=Tryz.zeroValue9,t28:=Tryz.underlying24,a28:=Tryz.isAgg24,z28:=Tryz.sizeOf24,v28:=Tryz.zeroValue24,t46:=Tryz.underlying245,a46:=Tryz.isAgg245,z46:=Tryz.sizeOf245,v46:=Tryz.zeroValue245,t51:=Tryz.underlying235,a51:=Tryz.isAgg235,z51:=Tryz.sizeOf235,v51:=Tryz.zeroValue235,t53:=Tryz.underlying231,a53:=Tryz.isAgg231,z53:=Tryz.sizeOf231,v53:=Tryz.zeroValue231,t131:=Tryz.underlying181,a131:=Tryz.isAgg181,z131:=Tryz.sizeOf181,v131:=Tryz.zeroValue181,t182:=Tryz.underlying274,a182:=Tryz.isAgg274,z182:=Tryz.sizeOf274,v182:=Tryz.zeroValue274,t183:=Tryz.underlying275,a183:=Tryz.isAgg275,z183:=Tryz.sizeOf275,v183:=Tryz.zeroValue275,t218:=Tryz.underlying284,a218:=Tryz.isAgg284,z218:=Tryz.sizeOf284,v218:=Tryz.zeroValue284,t222:=Tryz.underlying288,a222:=Tryz.isAgg288,z222:=Tryz.sizeOf288,v222:=Tryz.zeroValue288,t228:=Tryz.underlying297,a228:=Tryz.isAgg297,z228:=Tryz.sizeOf297,v228:=Tryz.zeroValue297,t229:=Tryz.underlying106,a229:=Tryz.isAgg106,z229:=Tryz.sizeOf106,v229:=Tryz.zeroValue106}
theorem Tryz.layC:SlLaysE0.n41 Tryz.prog Tryz.layC_ren:={mixed:=by kernel_rfl,f41:=⟨Tryz.f86.name,by decide,Tryz.func86.trans (by kernel_rfl)⟩,t4:=Tryz.underlying4,a4:=Tryz.isAgg4,z4:=Tryz.sizeOf4,v4:=Tryz.zeroValue4,t22:=Tryz.underlying24,a22:=Tryz.isAgg24,z22:=Tryz.sizeOf24,v22:=Tryz.zeroValue24}
theorem Tryz.layD:SlLaysE.n45 Tryz.prog Tryz.layD_ren:={mixed:=by kernel_rfl,f45:=⟨Tryz.f166.name,by decide,Tryz.func166.trans (by kernel_rfl)⟩,t0:=Tryz.underlying0,a0:=Tryz.isAgg0,z0:=Tryz.sizeOf0,v0:=Tryz.zeroValue0,t3:=Tryz.underlying3,a3:=Tryz.isAgg3,z3:=Tryz.sizeOf3,v3:=Tryz.zeroValue3,t4:=Tryz.underlying4,a4:=Tryz.isAgg4,z4:=Tryz.sizeOf4,v4:=Tryz.zeroValue4,t22:=Tryz.underlying24,a22:=Tryz.isAgg24,z22:=Tryz.sizeOf24,v22:=Tryz.zeroValue24,a23:=Tryz.isAgg3,z23:=Tryz.sizeOf3}
end Go.Proofs
namespace Go.Proofs
open Go.Shelf Go.RowKit Go.Lib
theorem adW {P:Program} {ρ:Ren} (L:SlLaysE0.n41 P ρ) (i0:TypeInfo) (z:Value) (b g:Nat) (I:P.info? (ρ.t 23)=some i0) (x:i0.zero=some z) (y:i0.size=b) (q:i0.bytes=g) (m:z.cells.size=b) (o:0<b)
  (Q:∀w,(Go.sizeOf (ρ.t 23)).run P w= .ok b w) (p:Addr) (n c:Nat) (d:List Value) (w:World) (K:d.length=n*b) (U:n<=maxLen) (B:n*g<=140737488355328)
  (C:∀j u,d[j]?=some u->w.cell? (p.add j)=some u) (E:∀u∈d,u.oneCell'=true):
  Calls P (ρ.f 41) #[.slice (some p) n c] w λe w'=>∃l,e= .returned l/\w'.ownsRow w.heap.size (ρ.t 23) b l n d/\l≠ .slice none 0 0/\Below w.heap.size w w':=by
 have v:=L.mixed;have W:=L.t4;have V:=L.a4;have T:=L.z4;have S:=L.v4;have i:=L.t22;have N:=L.a22;have O:=L.z22;have H:=L.v22;have G:∀(w:World) (a:Option Addr) (n c r s:Nat),(binOp .eql (ρ.t 22) (.slice a n c) (.slice none r s)).run P w= .ok (.bool a.isNone) w:=λw a n c r s=>Lib.run_eql_slice_nil w _ _ a n c r s L.t22;have F:∀w,Sem.run P (underlying (ρ.t 22)) w= .ok (TypeDesc.slice (ρ.t 23)) w:=run_underlying i;have A:Aside (∀j u,d[j]?=some u->w.cell? (p.add j)=some u):=C;clear C;obtain⟨_,_,M⟩:=L.f41;go_enter M,SlBodyN.n41_ntmps ρ;go_wp2_with (at_builtin;refine wpList_append_own _ rfl _ _ (ρ.t 22) rfl w.heap.size (ρ.t 23) i0 z b g i I x y q m o _ _ _ rfl (World.ownsRow_made w #[] 0 (τ _) (εX _) (by simp)) p n c d rfl ?qc1 ?qc2 ?qc3 ?qc4 ?qc5 ?qc6 ?_);case qc1=>exact K
 case qc2=>
  intro j u J;exact Lib.cell?_alloc_some _ (A.out j u J)
 case qc3=>exact E
 case qc4=>omega
 case qc5=>simp_all
 case qc6=>simp
 intro l R D h k;go_wp2;go_ret;refine⟨l,rfl,by omega,?_,?_⟩;·exact k
 ·exact((Below.refl _ w).alloc (τ _) _).grown h (by simp) (by grind[Value.ownBlock])
end Go.Proofs
namespace Go.Vi
open Go.Proofs.YtjcmncmajmoiiaaGreat.Ir
open Go.Proofs
theorem oC (l:List Int):cC (.i .i64) l=l.map λx=>δg (.int .i64 x):=by
 unfold cC;induction l with
 |nil=>rfl;|cons x l a=>rw[List.flatMap_cons,a];rfl
theorem Uk {A:dL} {w:World} {σ:bX} {l:List Int} {e:TypeId} (d:bU A w σ [.cells (l.map λx=>δg (.int .i64 x)) e 1 true]) (s:1<=l.length):
  ∃b cap arr,σ=[some (b,cap)]/\cap<=maxLen/\w.heap[b]?=some (.cells arr e (0,0))/\arr.size=cap/\l.length<=cap/\arr.toList.take l.length=l.map (Value.int .i64):=by
 have f:=d.obj 0 _ rfl;simp only[dB] at f;obtain⟨_,_,h|⟨b,cap,arr,a,n,g,r,p,i⟩⟩:=f;·simp_all
 ·have c:=d.len;simp at c;have m:l.length<=arr.size:=by simp_all
  refine⟨b,cap,arr,?_,n,g,by omega,by omega,?_⟩;·match σ,c,a with
   |[x],_,a=>simp_all
  ·apply List.ext_getElem?;intro j;by_cases k:j<l.length
   ·obtain⟨v,o,q⟩:=i j (.sc (.int .i64 l[j])) (by simp[k]);grind[bw]
   simp_all
def eW (l:List Int):List Int:=l.mergeSort λx y=>decide (x<=y)
theorem wm {l:List Int}:(eW l).length=l.length:=(List.mergeSort_perm _ _).length_eq
def A5:cZ where
 f:=130;α:=Nat×List Int;put a:=[.ow 0 a.1 1];st a:=[.row (.i .i64) a.2 3 true];dec v o:=match v,o with
  |[.ow 0 n 1],[.row t l 3 true]=>match iI t (.i .i64) l with
   |some l=>some (n,l)
   |_=>none
  |_,_=>none;ok v o a h:=by
  split at h
  ·split at h
   ·rename_i h4;simp only[γ] at h;subst h;obtain⟨rfl,hh⟩:=nu h4;cases hh;exact⟨rfl,rfl⟩
   ·cases h
  ·cases h
 inj a b e1 e2:=by
  obtain⟨n,l⟩:=a;obtain⟨n',l'⟩:=b;simp only[gL,ξ,SV.g,εL,true_and] at e1;simp only[gO,ι,γt,bq.g,ξ,bP.cells.injEq,and_true,true_and] at e2;have h4:l=l':=by
   have hf:=congrArg γn e2;rw[ft,ft] at hf;exact l8 (.i .i64) (by simpa[bk.sz] using hf) e2
  rw[e1.1.1,h4]
 dom a:=a.1=a.2.length/\1<=a.2.length/\a.2.length<=1000000;res _:=.bH [];out a:=[.row (.i .i64) (eW a.2) 3 true]
theorem h337:dK Tryz.prog A5:=by
 rintro⟨n,l⟩ ⟨E,H,V⟩;simp only at E H V;subst E;refine⟨by kernel_rfl,?_⟩;intro A w F Q q s;have C:∀m:List Int,gO [bq.row (.i .i64) m 3 true]=[bP.cells (m.map λx=>δg (.int .i64 x)) 3 1 true]:=λm=>by
  simp only[gO,ι,γt,bq.g,oC];rfl
 have T:gL (A5.put (l.length,l))=[.os 0 0 l.length (l.length*1)]:=rfl;show Calls _ _ _ _ λe h=>∃u p,e= .returned u/\bU A h p (gO [bq.row (.i .i64) (eW l) 3 true])/\bw A h p (gO [bq.row (.i .i64) (eW l) 3 true]) (.bH []) u/\Ext w F (gO [bq.row (.i .i64) l 3 true]) h p (gO [bq.row (.i .i64) (eW l) 3 true]);replace q:bU A w F (gO [bq.row (.i .i64) l 3 true]):=q;replace s:bE A w F (gO [bq.row (.i .i64) l 3 true]) (gL (A5.put (l.length,l))) Q:=s;rw[C] at q s;rw[C,C];rw[T] at s;obtain⟨b,Y,d,rfl,U,L,q4,q5,N⟩:=Uk q H;simp only[bE] at s;obtain⟨v,r,rfl,I,rfl⟩:=s;simp only[bw] at I;obtain⟨O,a,y,rfl,a0,B⟩:=I;have K:=B 1 ⟨_,_,_,rfl,by simp⟩;simp only[kB,δq] at K;obtain⟨rfl,rfl⟩:=K.2.1 trivial trivial (by omega);have P:b<w.heap.size:=q.bnd 0 b y rfl;have R:=holds_of_blockI (ss:=l) L N;have S:Calls Tryz.prog (A5).f #[.slice (some ⟨b,0,none⟩) l.length y] w λe h=>e= .returned (.tuple #[])/\∃n z,h=Sort.grow (Sort.putRow (Value.int .i64) (Sort.ahead w n) b 0 (eW l).toArray) z:=
  calls_of_every_depth λD=>AnyS.slices_Sort_int_in Tryz.layS D b 0 y l w R P (by omega);refine Calls.mono S ?_;rintro e h ⟨rfl,n,z,rfl⟩;have t:=grownBy_sortedI (w:=w) (g:=b) (n:=n) (os:=z) (eW l).toArray;have W:=heap_sortedI (w:=w) (n:=n) (os:=z) (eW l).toArray L;have X:=take_putCellsI d (eW l) (by rw[wm];omega);have hz:(Sort.putCells (Value.int .i64) 0 (eW l).toArray d).size=d.size:=by simp[Sort.putCells]
 generalize Sort.grow (Sort.putRow (Value.int .i64) (Sort.ahead w n) b 0 (eW l).toArray) z=h at*;generalize Sort.putCells (Value.int .i64) 0 (eW l).toArray d=o at*;have hU:=q.upd (w':=h) (id:=0) (x':=.cells ((eW l).map λx=>δg (.int .i64 x)) 3 1 true) (s':=some (b,y)) rfl t.size t.os t.tape t.output
  (λk M E=>t.block k M λe=>by simp_all) (λb' c' e=>by simp_all)
  ⟨_,_,_,rfl,by simp[wm],λ_=>rfl⟩ ?_;·grind[bw,bE]
 ·intro hx;simp only[dB];refine⟨λ_=>by rw[<-oC];grind[qD],by rw[<-oC];grind[CJ],.inr ⟨b,y,o,rfl,U,W,by omega,by grind[wm],?_⟩⟩;intro j c J;rw[δm] at J;obtain⟨x,G,rfl⟩:=δ.1 J;have Z:=(θ.1 G).1;refine⟨.int .i64 x,?_,by simp[bw,Value.oneCell']⟩;have h9:(o.toList.take (eW l).length)[j]?=((eW l).map (Value.int .i64))[j]?:=by rw[X]
  grind
theorem Ul {A:dL} {w:World} {l:List Int} {vs:List Value} {m:FuncId} (n:m=Tryz.layC_ren.f 41) (N:bU A w [] []) (K:l.length<=1000000) (B:bE A w [] [] [.sl l.length (l.map λx=>δg (.int .i64 x))] vs):
  Calls Tryz.prog m vs.toArray w λe w'=>RowKit.Below w.heap.size w w'/\((e= .returned (.slice none 0 0)/\l=[])\/∃g cap c,e= .returned (.slice (some ⟨g,0,none⟩) l.length cap)/\w.heap.size<=g/\w'.heap[g]?=some (.cells c 3 (0,0))/\l.length<=cap/\cap<=maxLen/\c.size=cap/\c.toList.take l.length=l.map (Value.int .i64)):=by
 subst n;simp only[bE] at B;obtain⟨v,r,rfl,t,rfl⟩:=B;simp only[bw] at t;obtain⟨a,cap,rfl,q,_,C⟩:=t;cases a with
 |none=>
  have z:l=[]:=by
   cases l<;>grind[dA]
  grind[Calls.mono,AnyE.slices_Clone_nil,Tryz.layC,RowKit.Below.refl];|some p=>
  have H:∀j u,(l.map (Value.int .i64))[j]?=some u->w.cell? (p.add j)=some u:=by
   intro j u s;rw[δm] at s;obtain⟨x,F,rfl⟩:=δ.1 s;obtain⟨b,v,e,_,o,y⟩:=dA.get _ _ _ C j (.sc (.int .i64 x)) (by simp[F]);grind[bw]
  refine Calls.mono (adW Tryz.layC Tryz.t3 (.int .i64 0) 1 8 (by kernel_rfl) (by kernel_rfl) (by kernel_rfl) (by kernel_rfl) (by kernel_rfl) (by omega) Tryz.sizeOf3 p l.length cap (l.map (Value.int .i64)) w (by simp) (by grind[maxLen]) (by omega) H (by simp[Value.oneCell'])) ?_;rintro e w' ⟨L,rfl,k,E,i⟩;refine⟨i,.inr ?_⟩;obtain⟨_,h|⟨g,d,c,rfl,J,I,D,G,M,O⟩⟩:=k;·simp_all
  ·exact⟨g,d,c,rfl,J,I,D,G,by omega,by simp_all⟩
def EW:bL:=⟨86,List Int,.one (dW (.i .i64)),λl=>l.length<=1000000,λl=> .row (.i .i64) l⟩
theorem h330:Holds Tryz.prog EW:=by
 intro(l:List Int) (hl:l.length<=1000000);refine⟨by kernel_rfl,?_⟩;intro A w σ vs hS hR;have hσ:σ=[]:=by have:=hS.len;simpa using this
 subst hσ;have e1:gL (EW.A.put l)=[.sl l.length (l.map λx=>δg (.int .i64 x))]:=by rw[<-oC];rfl
 have e2:(EW.res l).G= .sl l.length (l.map λx=>δg (.int .i64 x)):=by rw[<-oC];rfl
 rw[e1] at hR;rw[e2];refine Calls.mono (Ul (by rfl) hS hl hR) ?_;rintro e w' ⟨hb,h⟩;have hS':bU A w' [] []:=⟨rfl,by simp,by simp,by simp,by simp,λb h=>γr (hS.jX b h) hb.size⟩;have hE:Ext w [] [] w' [] []:=⟨hb.size,λb h _=>⟨hb.block b h,λ⟨i,c,hi⟩=>by simp at hi⟩,τ _,λ_ _ ⟨_,_,_,_,h,_⟩=>by simp at h,λ_ ⟨_,_,_,h⟩=>by simp at h,hb.os,hb.tape,hb.output⟩;rcases h with⟨rfl,rfl⟩|⟨g,cap,cur,rfl,h1,h2,h3,h4,h5,h6⟩;·exact⟨_,[],rfl,hS',by simp only[bw];exact⟨none,0,rfl,by simp,by rw[<-oC];exact qD _ _,by simp[dA]⟩,hE⟩
 ·refine⟨_,[],rfl,hS',?_,hE⟩;simp only[bw];refine⟨_,_,rfl,h3,by rw[<-oC];exact qD _ _,dA.lT _ _ _ λi c hi=>?_⟩;rw[δm] at hi;obtain⟨x,hx,rfl⟩:=δ.1 hi;have hil:=(θ.1 hx).1;have h9:(cur.toList.take l.length)[i]?=(l.map (Value.int .i64))[i]?:=by rw[h6]
  rw[List.getElem?_take_of_lt hil,Array.getElem?_toList,δm,hx] at h9;refine⟨⟨g,0,none⟩,.int .i64 x,rfl,⟨λ⟨i,c,hi⟩=>by simp at hi,λhA=>by have:=hS.jX g hA;omega⟩,?_,by simp[bw,Value.oneCell']⟩;rw[Addr.add_lit];simp only[World.cell?,h2,Nat.zero_add,Option.isSome_none,Bool.false_eq_true,if_false];exact h9
def wo:cZ where
 f:=86;α:=List Int;put a:=[.row (.i .i64) a];st a:=[];dec v o:=match v,o with
  |[.row t l],[]=>iI t (.i .i64) l
  |_,_=>none;ok v o a h:=by
  split at h
  ·obtain⟨rfl,hh⟩:=nu h;cases hh;exact⟨rfl,rfl⟩
  ·cases h
 inj a b e1 e2:=by
  simp only[gL,ξ,SV.g,δ6,and_true] at e1;exact l8 (.i .i64) (by simpa using e1.1) e1.2
 dom a:=a.length<=1000000;res a:=.ow 0 a.length 1;out a:=[.row (.i .i64) a 3 true]
theorem h330o:dK Tryz.prog wo:=by
 intro(l:List Int) (E:l.length<=1000000);refine⟨by kernel_rfl,?_⟩;intro A w s G k p;replace k:bU A w s []:=k;replace p:bE A w s [] (gL (wo.put l)) G:=p;have q:s=[]:=by have:=k.len;simp_all
 subst q;have F:gL (wo.put l)=[.sl l.length (l.map λx=>δg (.int .i64 x))]:=by rw[<-oC];rfl
 have B:(wo.res l).g= .os 0 0 l.length (l.length*1):=rfl;have D:gO (wo.out l)=[bP.cells (l.map λx=>δg (.int .i64 x)) 3 1 true]:=by rw[<-oC];rfl
 rw[F] at p;rw[B,D];show Calls _ _ _ _ λe n=>∃u f,e= .returned u/\bU A n f [bP.cells (l.map λx=>δg (.int .i64 x)) 3 1 true]/\bw A n f [bP.cells (l.map λx=>δg (.int .i64 x)) 3 1 true] (.os 0 0 l.length (l.length*1)) u/\Ext w [] [] n f [bP.cells (l.map λx=>δg (.int .i64 x)) 3 1 true];refine Calls.mono (Ul (by rfl) k E p) ?_;rintro e n ⟨d,h⟩;have t:tC [bP.cells (l.map λx=>δg (.int .i64 x)) 3 1 true] 0 (l.length*1):=⟨_,_,_,_,rfl,by simp⟩;rcases h with⟨rfl,rfl⟩|⟨g,m,o,rfl,P,z,C,J,O,I⟩
 ·refine⟨_,[none],rfl,⟨rfl,?_,?_,?_,?_,λb h=>γr (k.jX b h) d.size⟩,?_,d.size,λb h _=>⟨d.block b h,?_⟩,εX _,λ_ _ ⟨_,_,_,_,h,_⟩=>by simp at h,λ_ ⟨_,_,_,h⟩=>by simp at h,d.os,d.tape,d.output⟩;·grind
  ·grind
  ·intro i x a;cases i with
   |zero=>
    simp at a;subst a;simp only[dB];exact⟨λ_=>rfl,rfl,.inl (by simp)⟩;|succ i=>simp at a
  ·grind
  ·grind[bw,kB]
  ·rintro⟨i,c,a⟩;grind
 ·have L:g<n.heap.size:=(Array.getElem?_eq_some_iff.1 z).1;refine⟨_,[some (g,m)],rfl,⟨rfl,?_,?_,?_,?_,λb h=>γr (k.jX b h) d.size⟩,?_,d.size,λb h _=>⟨d.block b h,?_⟩,εX _,λ_ _ ⟨_,_,_,_,h,_⟩=>by simp at h,λ_ ⟨_,_,_,h⟩=>by simp at h,d.os,d.tape,d.output⟩;·grind
  ·grind
  ·intro i x a;cases i with
   |zero=>
    simp at a;subst a;simp only[dB];refine⟨λ_=>by rw[<-oC];grind[qD],by rw[<-oC];grind[CJ],.inr ⟨g,m,o,rfl,J,z,by omega,by simp;omega,?_⟩⟩;intro j c v;rw[δm] at v;obtain⟨x,r,rfl⟩:=δ.1 v;have H:=(θ.1 r).1;refine⟨.int .i64 x,?_,by simp[bw,Value.oneCell']⟩;have N:(o.toList.take l.length)[j]?=(l.map (Value.int .i64))[j]?:=by rw[I]
    grind;|succ i=>simp at a
  ·intro i b c a;cases i with
   |zero=>
    simp at a;intro K;have:=k.jX b K;omega;|succ i=>simp at a
  ·simp only[bw];refine⟨t,_,_,rfl,C,λM y=>?_⟩;obtain⟨_,_,_,y,_⟩:=y;grind[kB,pJ]
  ·rintro⟨i,c,a⟩;grind
def lL (l:List Int) (i j:Nat):List Int:=l.take i++l.drop j++ε (j - i) 0
theorem Um {l:List Int} {i j:Nat} (a:i<=j) (b:j<=l.length):(lL l i j).length=l.length:=by
 grind[lL]
def wq:cZ where
 f:=166;α:=(Nat×List Int)×Int×Int;put a:=[.ow 0 a.1.1 1,.si .i64 a.2.1,.si .i64 a.2.2];st a:=[.row (.i .i64) a.1.2 3 true];dec v o:=match v,o with
  |[.ow 0 n 1,x,y],[.row t l 3 true]=>match iI t (.i .i64) l,x.int .i64,y.int .i64 with
   |some l,some i,some j=>some ((n,l),i,j)
   |_,_,_=>none
  |_,_=>none;ok v o a h:=by
  split at h
  ·split at h
   ·rename_i h4 h5 h6;simp only[γ] at h;subst h;obtain⟨rfl,hh⟩:=nu h4;cases hh;refine⟨?_,rfl⟩;simp only[gL,gU h5,gU h6];rfl
   ·cases h
  ·cases h
 inj a b e1 e2:=by
  obtain⟨⟨n,l⟩,i,j⟩:=a;obtain⟨⟨n',l'⟩,i',j'⟩:=b;simp only[gL,ξ,SV.g,εL,true_and,and_true,γX,Value.int.injEq] at e1;simp only[gO,ι,γt,bq.g,ξ,bP.cells.injEq,and_true,true_and] at e2;have h4:l=l':=by
   have hf:=congrArg γn e2;rw[ft,ft] at hf;exact l8 (.i .i64) (by simpa[bk.sz] using hf) e2
  rw[e1.1.1,h4,e1.2.1,e1.2.2]
 dom a:=(a.1.1=a.1.2.length/\1<=a.1.2.length/\a.1.2.length<=1000000)/\0<=a.2.1/\a.2.1<=a.2.2/\a.2.2<=a.1.2.length;res a:=.os 0 0 (a.1.2.length - (a.2.2 - a.2.1).toNat) a.1.1 1;out a:=[.row (.i .i64) (lL a.1.2 a.2.1.toNat a.2.2.toNat) 3 true]
theorem h347:dK Tryz.prog wq:=by
 rintro⟨⟨n,l⟩,i,j⟩ ⟨⟨H,K,h2⟩,i0,ij,Y⟩;simp only at H K h2 i0 ij Y;subst H;obtain⟨i,rfl⟩:∃k:Nat,i=k:=⟨i.toNat,by omega⟩;obtain⟨j,rfl⟩:∃k:Nat,j=k:=⟨j.toNat,by omega⟩;refine⟨by kernel_rfl,?_⟩;intro A w F X t z;have I:∀m:List Int,gO [bq.row (.i .i64) m 3 true]=[bP.cells (m.map λx=>δg (.int .i64 x)) 3 1 true]:=λm=>by
  simp only[gO,ι,γt,bq.g,oC];rfl
 have V:gL (wq.put ((l.length,l),(i:Int),(j:Int)))=[.os 0 0 l.length (l.length*1),.sc (.int .i64 i),.sc (.int .i64 j)]:=rfl;have Z:(wq.res ((l.length,l),(i:Int),(j:Int))).g= .os 0 0 (l.length - (j - i)) (l.length*1):=by
  show AV.os 0 (0*1) (l.length - ((j:Int) - (i:Int)).toNat) (l.length*1)=_;simp_all
 show Calls _ _ _ _ λe h=>∃u p,e= .returned u/\bU A h p (gO [bq.row (.i .i64) (lL l i j) 3 true])/\bw A h p (gO [bq.row (.i .i64) (lL l i j) 3 true]) (wq.res ((l.length,l),(i:Int),(j:Int))).g u/\Ext w F (gO [bq.row (.i .i64) l 3 true]) h p (gO [bq.row (.i .i64) (lL l i j) 3 true]);replace t:bU A w F (gO [bq.row (.i .i64) l 3 true]):=t;replace z:bE A w F (gO [bq.row (.i .i64) l 3 true]) (gL (wq.put ((l.length,l),(i:Int),(j:Int)))) X:=z;rw[I] at t z;rw[I,I,Z];rw[V] at z;obtain⟨b,a2,d,rfl,S,Q,q4,q5,q6⟩:=Uk t K;simp only[bE] at z;obtain⟨v,r,rfl,M,v2,r2,rfl,C,v3,r3,rfl,D,rfl⟩:=z;simp only[bw] at M C D;obtain⟨a0,a,s,rfl,a3,J⟩:=M;obtain⟨rfl,_⟩:=C;obtain⟨rfl,_⟩:=D;have O:=J 1 ⟨_,_,_,rfl,by simp⟩;simp only[kB,δq] at O;obtain⟨rfl,rfl⟩:=O.2.1 trivial trivial (by omega);have hb:b<w.heap.size:=t.bnd 0 b s rfl;have W:=holds_of_blockI (ss:=l) Q q6;have T:maxLen=9223372036854775807:=rfl;have B:=@Um l i j (by omega) (by omega);have E:Calls Tryz.prog (wq).f #[.slice (some ⟨b,0,none⟩) l.length s,.int .i64 i,.int .i64 j] w λe h=>e= .returned (.slice (some ⟨b,0,none⟩) (l.length - (j - i)) s)/\∃q,h=Sort.putRow (Value.int .i64) (Sort.ahead w q) b 0 (lL l i j).toArray:=by
  exact AnyE.slices_Delete Tryz.layD (Value.int .i64) (λ_=>rfl) 0 Tryz.zeroValue3 Tryz.t3 (by kernel_rfl) (by kernel_rfl) b 0 s i j l.toArray w W (by omega) (by omega) (by omega) (by simp;omega)
 refine Calls.mono E ?_;rintro e h ⟨rfl,q,rfl⟩;have y:=grownBy_sortedI (w:=w) (g:=b) (n:=q) (os:=#[]) (lL l i j).toArray;have L:=heap_sortedI (w:=w) (n:=q) (os:=#[]) (lL l i j).toArray Q;rw[Sort.grow_empty] at y L;have R:=take_putCellsI d (lL l i j) (by omega);have hz:(Sort.putCells (Value.int .i64) 0 (lL l i j).toArray d).size=d.size:=by simp[Sort.putCells]
 generalize Sort.putRow (Value.int .i64) (Sort.ahead w q) b 0 (lL l i j).toArray=h at*;generalize Sort.putCells (Value.int .i64) 0 (lL l i j).toArray d=o at*;have N:=t.upd (w':=h) (id:=0) (x':=.cells ((lL l i j).map λx=>δg (.int .i64 x)) 3 1 true) (s':=some (b,s)) rfl y.size y.os y.tape y.output
  (λk U H=>y.block k U λe=>by simp_all) (λb' c' e=>by simp_all)
  ⟨_,_,_,rfl,by simp[B],λ_=>rfl⟩ ?_
 ·refine⟨_,[some (b,s)],rfl,N.1,?_,N.2⟩;simp only[bw];refine⟨⟨_,_,_,_,rfl,by simp[B]⟩,_,_,rfl,by omega,λsz E=>?_⟩;obtain⟨_,_,_,E,_⟩:=E;grind[kB]
 ·intro hx;simp only[dB];refine⟨λ_=>by rw[<-oC];exact qD _ _,by rw[<-oC];exact CJ _ _,.inr ⟨b,s,o,rfl,S,L,by omega,by simp_all,?_⟩⟩;intro k c P;rw[δm] at P;obtain⟨x,G,rfl⟩:=δ.1 P;have a1:=(θ.1 G).1;refine⟨.int .i64 x,?_,by simp[bw,Value.oneCell']⟩;have h9:(o.toList.take (lL l i j).length)[k]?=((lL l i j).map (Value.int .i64))[k]?:=by rw[R]
  grind
structure Game where
 rows:List (List Int)
 bounds:List Int
 offers:List Off
def A6:oV Game where
 put a:=.agg [.row (.bJ (.i .i64)) a.rows,.row (.i .i64) a.bounds,.row .off a.offers];dec
  | .agg [r,v,x]=>match gj (.bJ (.i .i64)) r,gj (.i .i64) v,gj .off x with
   |some c,some v,some x=>some ⟨c,v,x⟩
   |_,_,_=>none
  |_=>none;ok v a h:=by
  grind[SV.g,gL,jK]
 inj a b h:=by
  obtain⟨c,v,x⟩:=a;obtain⟨l,k,j⟩:=b;simp only[SV.g,gL,AV.agg.injEq,ξ,and_true,true_and,δ6] at h;have e:=l8 (.bJ (.i .i64)) h.1.1 h.1.2;have d:=l8 (.i .i64) h.2.1.1 h.2.1.2;have f:=l8 .off h.2.2.1 h.2.2.2;rw[e,d,f]
def EX:bL:=⟨59,bp,.one cY,λ_=>True,λp=> .si .i64 (if bC p=0 then dn p else 0)⟩
theorem h335:Holds Tryz.prog EX:=by
 refine cF (L:=[pU,xF]) EX lk (by grind[h79,h157]) ?_;rintro(p:bp) -;refine bN (let c:=(0:Int);let b:=decide (bC p≠c);let a:=Θ .i64 (if bC p=c then dn p else c);True/\(b=true->(γp .i64 0).same a)/\(b=false->p.classes.length<=8/\(Θ .i64 (dn p)).same a)) (by kernel_rfl) ?_;simp only[vcs];refine⟨λh=>by rw[if_neg h],λh=>?_⟩;have c:bC p=0:=ω.1 h;rw[if_pos c];have:=(dm c).1;omega
def jO (p:bp) (r:Int) (n:Nat):List Int:=(p.offers.take n).map (eT p r)
def K1:bL:=⟨122,bp×Int,.cons cY (.one (dV .i64)),λa=>bC a.1=0/\0<=a.2/\a.2<dn a.1,λa=> .bH [.row (.i .i64) (jO a.1 a.2 a.1.offers.length),.si .i64 (dC a.1 a.2)]⟩
def adX (a:bp×Int):Nat->cB
 |5=> .inv Int (λi=>⟨[(1,.si .i64 a.2),(4,.ow 1 (jO a.1 a.2 i.toNat).length 1),(6,.ptr 2 0 20),(20,.row .off a.1.offers),(21,.si .i64 a.1.offers.length),(22,.si .i64 i)],[.cells a.1.ss 27 20 false,.row (.i .i64) (jO a.1 a.2 i.toNat) 3 true,.cells a.1.ss 110 20 false]⟩)
   (λs=>iS s 22) (λi=>0<=i/\i<=a.1.offers.length) (λi=>(a.1.offers.length - i).toNat) λ_ _=> .look
 |_=> .look
theorem h336:Holds Tryz.prog K1:=by
 refine cF (L:=[EX,xH,xG]) K1 adX (by simpa using⟨h335,h156,h158⟩) ?_;rintro⟨p,r⟩ ⟨hc,r0,r1⟩;simp only at hc r0 r1;refine bN (let a:=Θ .i64;let b:=(0:Int);let c:=Φ;let d:=bq.row;let e:=SV.bH;let f:=γ6;let g:=bk.i .i64;let l:=c bk.off p.offers;let v:=decide (r<b);let o:=γp .i64 0;let w:=[a (dC p r)];let q:=e (c g (jO p r p.offers.length)::w);let y:=decide ((if bC p=b then dn p else b)<=r);let m:=γS 2 0 20;let z:=(↑p.offers.length:Int);let h:=(↑p.offers.length:Int);let s:=a h;let n:=λ(u:Nat) ↦let A:=bq.cells [a p.supply.a0,a p.supply.a1,a p.supply.a2,a p.supply.a3,a p.supply.a4,a p.supply.a5,a p.opn.a0,a p.opn.a1,a p.opn.a2,a p.opn.a3,a p.opn.a4,a p.opn.a5,a p.cls.a0,a p.cls.a1,a p.cls.a2,a p.cls.a3,a p.cls.a4,a p.cls.a5,c g p.classes,l] u 20 false;A.same A;(v=true->0=0/\(e [c g [],o]).same q)/\(v=false->True/\(y=true->0=0/\(e [c g [],o]).same q)/\(y=false->((((a r).same (a r)/\(f 1 0 1).same (f 1 (jO p r 0).length 1)/\m.same m/\l.same l/\(a z).same s/\o.same (a 0)/\True)/\n 27/\(d g [] 3 true).same (d g (jO p r 0) 3 true)/\n 110/\True)/\b<=b/\b<=h)/\∀(x:Int),let t:=bj p.offers x.toNat bk.off.dflt;let j:=jO p r x.toNat;let B:=j.length+1;let k:=x+(1:Int);let C:=j++[eT p r t];let D:=a k;b<=x/\x<=h->(decide (x<h)=true->b<=x/\x<z/\x.toNat<p.offers.length/\(p.classes.length<=8/\b<=r/\r<dn p/\b<=t.bD/\t.bD<(↑p.classes.length:Int))/\j.length=j.length/\B*8<=140737488355328/\B<=1000000000000/\bV .i64 k/\(((a r).same (a r)/\(f 1 C.length 1).same (f 1 (jO p r k.toNat).length 1)/\m.same m/\l.same l/\s.same s/\D.same D/\True)/\n 27/\(d g C 3 true).same (d g (jO p r k.toNat) 3 true)/\n 110/\True)/\(b<=k/\k<=h)/\(h - k).toNat<(h - x).toNat)/\(decide (x<h)=false->(p.classes.length<=8/\b<=r/\r<dn p)/\j.length=j.length/\(e (c g j::w)).same q)))) (by kernel_rfl) ?_;simp only[vcs];obtain⟨g1,g2,g3,g4,g5⟩:=dm hc;have how:∀{x y:Nat},x=y->(γ6 1 x 1).same (γ6 1 y 1):=by rintro _ _ rfl;rfl
 have hrow:∀{x y:List Int},x=y->(bq.row (.i .i64) x 3 true).same (bq.row (.i .i64) y 3 true):=by rintro _ _ rfl;rfl
 rw[if_pos hc];refine⟨λh=>by omega,λ_=>⟨λh=>by omega,λ_=>⟨⟨?_,by omega,by omega⟩,?_⟩⟩⟩;·exact⟨how rfl,hrow rfl⟩
 ·rintro i ⟨i0,i1⟩;have hL:(jO p r i.toNat).length<=160:=by unfold jO;rw[List.length_map,Ψ];omega
  refine⟨λhi=>?_,λhi=>?_⟩
  ·have hx:=g5 _ (cK (d:=bk.off.dflt) (show i.toNat<p.offers.length by omega));have e:jO p r (i+1).toNat=jO p r i.toNat++[eT p r (bj p.offers i.toNat bk.off.dflt)]:=by
    unfold jO;rw[jo (d:=bk.off.dflt) i0 hi,γd];rfl
   rw[e];refine⟨i0,hi,?_,⟨g1,r0,r1,hx.1,hx.2.1⟩,?_,?_,?_,⟨how rfl,hrow rfl⟩,?_,?_⟩<;>omega
  ·rw[show i.toNat=p.offers.length by omega];exact⟨⟨g1,r0,r1⟩,rfl⟩
def mC (p:bp) (n:Nat):List (List Int):=(π n).map λr:Nat=>jO p r p.offers.length
def kn (p:bp) (n:Nat):List Int:=(π n).map λr:Nat=>dC p r
def nR (p:bp):Nat:=if bC p=0 then p.classes.length+12 else 0
def cH (p:bp):Game:=⟨mC p (nR p),kn p (nR p),p.offers⟩
theorem Un {p:bp} {n:Nat}:(mC p n).length=n:=by simp[mC]
theorem EY {p:bp} {n:Nat}:(kn p n).length=n:=by simp[kn]
theorem adY {p:bp} {i:Int} (h:0<=i):mC p (i+1).toNat=mC p i.toNat++[jO p i p.offers.length]:=by
 unfold mC;rw[show(i+1).toNat=i.toNat+1 from by omega,δr,γd];grind
theorem adZ {p:bp} {i:Int} (h:0<=i):kn p (i+1).toNat=kn p i.toNat++[dC p i]:=by
 unfold kn;rw[show(i+1).toNat=i.toNat+1 from by omega,δr,γd];grind
def EZ:bL:=⟨85,bp,.one cY,λ_=>True,λp=>A6.put (cH p)⟩
def ad1 (p:bp):Nat->cB
 |3=> .inv Int (λi=>⟨[(1,.ptr 0 0 20),(2,.ptr 1 0 3),(3,.ptr 2 0 3),(11,.si .i64 (nR p)),(12,.si .i64 i)],[.cells p.ss 27 20 false,.cells [.sc (.slice none 0 0),.sc (.slice none 0 0),.sc (.slice none 0 0)] 124 3 false,.cells [.ow 4 (mC p i.toNat).length 1,.ow 3 (kn p i.toNat).length 1,.row .off p.offers] 124 3 false,.row (.i .i64) (kn p i.toNat) 3 true,.row (.bJ (.i .i64)) (mC p i.toNat) 24 false]⟩)
   (λs=>iS s 12) (λi=>0<=i/\i<=nR p) (λi=>(nR p - i).toNat) λ_ _=> .look
 |_=> .look
theorem h325:Holds Tryz.prog EZ:=by
 refine cF (L:=[EX,K1]) EZ ad1 (by simpa using⟨h335,h336⟩) ?_;rintro(p:bp) -;refine bN (let a:=Θ .i64;let b:=bq.row;let c:=(0:Int);let d:=bq.cells;let e:=Φ;let f:=γ6;let g:=γS;let o:=g 0 0 20;let q:=g 1 0 3;let r:=g 2 0 3;let k:=(↑(nR p):Int);let u:=a k;let h:=bk.i .i64;let n:=[e bk.off p.offers];let s:=d (a p.supply.a0::a p.supply.a1::a p.supply.a2::a p.supply.a3::a p.supply.a4::a p.supply.a5::a p.opn.a0::a p.opn.a1::a p.opn.a2::a p.opn.a3::a p.opn.a4::a p.opn.a5::a p.cls.a0::a p.cls.a1::a p.cls.a2::a p.cls.a3::a p.cls.a4::a p.cls.a5::e h p.classes::n) 27 20 false;let v:=SV.sc (Value.slice none 0 0);let t:=d [v,v,v] 124 3 false;True/\(((o.same o/\q.same q/\r.same r/\(a (if bC p=c then dn p else c)).same u/\(γp .i64 0).same (a 0)/\True)/\s.same s/\t.same t/\(d (f 4 0 1::f 3 0 1::n) 124 3 false).same (d (f 4 (mC p 0).length 1::f 3 (kn p 0).length 1::n) 124 3 false)/\(b h [] 3 true).same (b h (kn p 0) 3 true)/\(b h.bJ [] 24 false).same (b h.bJ (mC p 0) 24 false)/\True)/\c<=c/\c<=k)/\∀(x:Int),let m:=mC p x.toNat;let w:=m.length+1;let l:=kn p x.toNat;let y:=l.length+1;let j:=x+(1:Int);let z:=a j;let A:=m++[jO p x p.offers.length];c<=x/\x<=k->(decide (x<k)=true->(bC p=c/\c<=x/\x<dn p)/\1=1/\m.length=m.length/\w*24<=140737488355328/\w<=1000000000000/\1=1/\l.length=l.length/\y*8<=140737488355328/\y<=1000000000000/\bV .i64 j/\((o.same o/\q.same q/\r.same r/\u.same u/\z.same z/\True)/\s.same s/\t.same t/\(d (f 4 A.length 1::f 3 (l++[dC p x]).length 1::n) 124 3 false).same (d (f 4 (mC p j.toNat).length 1::f 3 (kn p j.toNat).length 1::n) 124 3 false)/\(b h (l++[dC p x]) 3 true).same (b h (kn p j.toNat) 3 true)/\(b h.bJ A 24 false).same (b h.bJ (mC p j.toNat) 24 false)/\True)/\(c<=j/\j<=k)/\(k - j).toNat<(k - x).toNat)/\(decide (x<k)=false->m.length=m.length/\l.length=l.length/\(SV.agg (e h.bJ m::e h l::n)).same (SV.agg [e h.bJ (cH p).rows,e h (cH p).bounds,e bk.off (cH p).offers]))) (by kernel_rfl) ?_;simp only[vcs];have hn:∀x:Int,0<=x->x<nR p->bC p=0/\x<dn p/\nR p<=20:=by
  intro x hx0 hx;unfold nR at hx ⊢;split at hx
  ·rename_i hc;have:=(dm hc).1;rw[if_pos hc];exact⟨hc,by unfold dn;omega,by omega⟩
  ·omega
 have e0:(if bC p=0 then dn p else 0)=((nR p:Nat):Int):=by
  unfold nR dn;split;·omega
  ·rfl
 have hcell:∀{a a' b b':Nat} {l:List Off},a=a'->b=b'->(bq.cells [.ow 4 a 1,.ow 3 b 1,.row .off l] 124 3 false).same (.cells [.ow 4 a' 1,.ow 3 b' 1,.row .off l] 124 3 false):=by rintro _ _ _ _ _ rfl rfl;rfl
 have hrow:∀{x y:List Int},x=y->(bq.row (.i .i64) x 3 true).same (bq.row (.i .i64) y 3 true):=by rintro _ _ rfl;rfl
 have hrow2:∀{x y:List (List Int)},x=y->(bq.row (.bJ (.i .i64)) x 24 false).same (bq.row (.bJ (.i .i64)) y 24 false):=by rintro _ _ rfl;rfl
 refine⟨⟨⟨e0,hcell rfl rfl,hrow rfl,hrow2 rfl⟩,by omega,by omega⟩,?_⟩;rintro i ⟨i0,i1⟩;refine⟨λhi=>?_,λhi=>?_⟩
 ·obtain⟨hc,h1,h2⟩:=hn i i0 hi;have l1:=@Un p i.toNat;have l2:=@EY p i.toNat;rw[adY i0,adZ i0];refine⟨⟨hc,i0,h1⟩,?_,?_,?_,?_,?_,⟨hcell rfl rfl,hrow rfl,hrow2 rfl⟩,?_,?_⟩<;>omega
 ·rw[show i.toNat=nR p by omega];rfl
def nP (g:Game):Prop:=(g.rows.length=g.bounds.length/\g.bounds.length<=1000/\g.offers.length<=1000)/\(∀r∈g.rows,r.length=g.offers.length/\∀x∈r,0<=x/\x<=1000)/\∀b∈g.bounds, -1000<=b/\b<=1000
def qe (g:Game) (c:List Int):Prop:=∀x∈c,0<=(bj g.offers x.toNat bk.off.dflt).value/\(bj g.offers x.toNat bk.off.dflt).value<=1000000
def px (g:Game) (c:List Int):Prop:=c.length<=1000/\∀x∈c,0<=x/\x<g.offers.length
def mD (g:Game) (c:List Int) (r:Nat):Int:=(c.map λx=>bj (bj g.rows r []) x.toNat 0).sum
def lq (g:Game) (c:List Int):Bool:=(π g.bounds.length).all λr=>decide (0<=bj g.bounds r 0 - mD g c r)
def dF (g:Game) (c:List Int):Int:=(c.map λx=>(bj g.offers x.toNat bk.off.dflt).value).sum
theorem Uo {f:Int->Int} {c:List Int} {i:Int} (a:0<=i) (h:i<c.length):((c.take (i+1).toNat).map f).sum=((c.take i.toNat).map f).sum+f (bj c i.toNat 0):=by
 grind[jo]
theorem K2 {f:Int->Int} {c:List Int} {k:Nat} {m:Int} (b:0<=m) (h:∀x∈c,0<=f x/\f x<=m):0<=((c.take k).map f).sum/\((c.take k).map f).sum<=c.length*m:=by
 induction c generalizing k with
 |nil=>simp;|cons x c a=>
  cases k with
  |zero=>simp;exact Int.mul_nonneg (by omega) b;|succ k=>
   have i:=h x (by simp);obtain⟨g,e⟩:=a (k:=k) λy d=>h y (by simp[d]);simp only[List.take_succ_cons,ι,List.sum_cons,γB];grind
def E0:bL:=⟨91,Game×List Int,.cons A6 (.one (dW (.i .i64))),λa=>nP a.1/\px a.1 a.2,λa=> .sb (lq a.1 a.2)⟩
def ad2 (g:Game) (c:List Int):Nat->cB
 |2=> .inv Int (λi=>⟨[(1,.row (.i .i64) c),(2,.ptr 0 0 3),(10,.row (.i .i64) g.bounds),(11,.si .i64 g.bounds.length),(12,.si .i64 i)],[.cells [.row (.bJ (.i .i64)) g.rows,.row (.i .i64) g.bounds,.row .off g.offers] 124 3 false]⟩)
   (λs=>iS s 12) (λi=>(0<=i/\i<=g.bounds.length)/\∀r:Nat,r<i->0<=bj g.bounds r 0 - mD g c r) (λi=>(g.bounds.length - i).toNat) λi k=>match k with
   |5=> .inv (Int×Int) (λy=>⟨[(1,.row (.i .i64) c),(2,.ptr 0 0 3),(5,.si .i64 i),(6,.si .i64 y.2),(10,.row (.i .i64) g.bounds),(11,.si .i64 g.bounds.length),(12,.si .i64 i),(17,.row (.i .i64) c),(18,.si .i64 c.length),(19,.si .i64 y.1)],[.cells [.row (.bJ (.i .i64)) g.rows,.row (.i .i64) g.bounds,.row .off g.offers] 124 3 false]⟩)
     (λs=>(iS s 19,iS s 6)) (λy=>(0<=y.1/\y.1<=c.length)/\y.2=bj g.bounds i.toNat 0 - mD g (c.take y.1.toNat) i.toNat) (λy=>(c.length - y.1).toNat) λ_ _=> .look
   |_=> .look
 |_=> .look
theorem h327:Holds Tryz.prog E0:=by
 refine cF (L:=[]) E0 (λa=>ad2 a.1 a.2) (by simp) ?_;rintro⟨g,c⟩ ⟨⟨⟨q1,q2,q3⟩,hr,hb⟩,hcl,hci⟩;simp only at q1 q2 q3 hr hb hcl hci;refine bN (let a:=(0:Int);let b:=Θ .i64;let d:=Φ;let e:=γp .i64 0;let f:=bV .i64;let h:=bk.i .i64;let k:=γS 0 0 3;let j:=d h g.bounds;let z:=(↑g.bounds.length:Int);let l:=(↑g.bounds.length:Int);let o:=b l;let m:=bq.cells [d h.bJ g.rows,j,d bk.off g.offers] 124 3 false;let n:=(↑c.length:Int);let v:=b n;((((d h c).same (d h c)/\k.same k/\j.same j/\(b z).same o/\(e).same (b 0)/\True)/\m.same m/\True)/\(a<=a/\a<=l)/\∀(r:Nat),(↑r:Int)<a->a<=bj g.bounds r a - mD g c r)/\∀(x:Int),let s:=bj g.bounds x.toNat a;let A:=b s;let w:=bj g.rows x.toNat h.bJ.dflt;let p:=x+(1:Int);let B:=b p;((a<=x/\x<=l)/\∀(r:Nat),(↑r:Int)<x->a<=bj g.bounds r a - mD g c r)->(decide (x<l)=true->a<=x/\x<z/\x.toNat<g.bounds.length/\((((d h c).same (d h c)/\k.same k/\(b x).same (b x)/\A.same A/\j.same j/\o.same o/\(b x).same (b x)/\(d h c).same (d h c)/\(b (↑c.length:Int)).same v/\(e).same (b 0)/\True)/\m.same m/\True)/\(a<=a/\a<=n)/\s=s - mD g [] x.toNat)/\∀(x_1:Int×Int),let t:=bj c x_1.fst.toNat a;let y:=x_1.snd - bj w t.toNat a;let q:=x_1.fst+(1:Int);let u:=b x;let C:=b y;let D:=b q;let E:=decide (x_1.snd<a);(a<=x_1.fst/\x_1.fst<=n)/\x_1.snd=s - mD g (γa x_1.fst.toNat c) x.toNat->(decide (x_1.fst<n)=true->a<=x_1.fst/\x_1.fst<(↑c.length:Int)/\x_1.fst.toNat<c.length/\a<=x/\x<(↑g.rows.length:Int)/\x.toNat<g.rows.length/\a<=t/\t<(↑w.length:Int)/\t.toNat<w.length/\f y/\f q/\(((d h c).same (d h c)/\k.same k/\u.same u/\C.same C/\j.same j/\o.same o/\u.same u/\(d h c).same (d h c)/\v.same v/\D.same D/\True)/\m.same m/\True)/\((a<=q/\q<=n)/\y=s - mD g (γa q.toNat c) x.toNat)/\(n - q).toNat<(n - x_1.fst).toNat)/\(decide (x_1.fst<n)=false->(E=true->(SV.bl false).same (SV.sb (lq g c)))/\(E=false->f p/\(((d h c).same (d h c)/\k.same k/\j.same j/\o.same o/\B.same B/\True)/\m.same m/\True)/\((a<=p/\p<=l)/\∀(r:Nat),(↑r:Int)<p->a<=bj g.bounds r a - mD g c r)/\(l - p).toNat<(l - x).toNat)))/\(decide (x<l)=false->(SV.bl true).same (SV.sb (lq g c)))) (by kernel_rfl) ?_;simp only[vcs];have hd:(bk.i IntKind.i64).bJ.dflt=([]:List Int):=rfl;rw[hd];have hrr:∀r:Nat,r<g.rows.length->(bj g.rows r []).length=g.offers.length/\∀x∈c,0<=bj (bj g.rows r []) x.toNat 0/\bj (bj g.rows r []) x.toNat 0<=1000:=λr h=>by
  have:=hr _ (cK (d:=[]) h);refine⟨this.1,λx hx=>?_⟩;have h2:=hci x hx;exact this.2 _ (cK (by rw[this.1];omega))
 refine⟨⟨by omega,λr h=>by omega⟩,?_⟩;rintro i ⟨⟨i0,i1⟩,hdone⟩;refine⟨λhi=>⟨i0,hi,by omega,⟨by omega,by simp[mD]⟩,?_⟩,λhi=>?_⟩
 ·obtain⟨hrl,hrx⟩:=hrr i.toNat (by omega);have hbi:=hb _ (cK (d:=0) (show i.toNat<g.bounds.length by omega));rintro⟨j,v⟩ ⟨⟨j0,j1⟩,hv⟩;simp only at j0 j1 hv ⊢;refine⟨λhj=>?_,λhj=>?_⟩
  ·have hx:=hci _ (cK (d:=0) (show j.toNat<c.length by omega));have hs:mD g (c.take (j+1).toNat) i.toNat=mD g (c.take j.toNat) i.toNat+bj (bj g.rows i.toNat []) (bj c j.toNat 0).toNat 0:=Uo (f:=λx=>bj (bj g.rows i.toNat []) x.toNat 0) j0 hj;have hbd:0<=mD g (c.take j.toNat) i.toNat/\mD g (c.take j.toNat) i.toNat<=c.length*1000:=K2 (f:=λx=>bj (bj g.rows i.toNat []) x.toNat 0) (m:=1000) (by omega) hrx;have hvx:=hrx _ (cK (d:=0) (show j.toNat<c.length by omega));rw[hs,hrl];refine⟨j0,hj,?_,i0,?_,?_,hx.1,hx.2,?_,?_,?_,⟨?_,?_⟩,?_⟩<;>omega
  ·have hjc:j.toNat=c.length:=by omega
   rw[hjc,ψ] at hv;refine⟨λhneg=>?_,λhpos=>⟨by omega,⟨by omega,λr h=>?_⟩,by omega⟩⟩
   ·symm;rw[<-Bool.not_eq_true,lq,Ξ];intro h;have:=of_decide_eq_true (h i.toNat (γH.2 (by omega)));omega
   ·by_cases h2:(r:Int)<i;·exact hdone r h2
    ·rw[show r=i.toNat by omega,<-hv];omega
 ·symm;rw[lq,Ξ];intro r h;rw[γH] at h;exact decide_eq_true (hdone r (by omega))
def yE:bL:=⟨88,Game×List Int,.cons A6 (.one (dW (.i .i64))),λa=>nP a.1/\px a.1 a.2/\qe a.1 a.2,λa=> .si .i64 (dF a.1 a.2)⟩
def ad3 (g:Game) (c:List Int):Nat->cB
 |3=> .inv Int (λi=>⟨[(2,.ptr 0 0 3),(5,.si .i64 (dF g (c.take i.toNat))),(8,.row (.i .i64) c),(9,.si .i64 c.length),(10,.si .i64 i)],[.cells [.row (.bJ (.i .i64)) g.rows,.row (.i .i64) g.bounds,.row .off g.offers] 124 3 false]⟩)
   (λs=>iS s 10) (λi=>0<=i/\i<=c.length) (λi=>(c.length - i).toNat) λ_ _=> .look
 |_=> .look
theorem h328:Holds Tryz.prog yE:=by
 refine cF (L:=[]) yE (λa=>ad3 a.1 a.2) (by simp) ?_;rintro⟨g,c⟩ ⟨⟨⟨q1,q2,q3⟩,hr,hb⟩,⟨hcl,hci⟩,hvv⟩;simp only[qe] at q1 q2 q3 hr hb hcl hci hvv;refine bN (let a:=Θ .i64;let b:=(0:Int);let d:=Φ;let j:=γS 0 0 3;let n:=γp .i64 0;let f:=bk.i .i64;let e:=(↑c.length:Int);let m:=a e;let k:=bq.cells [d f.bJ g.rows,d f g.bounds,d bk.off g.offers] 124 3 false;(((j.same j/\n.same (a (dF g []))/\(d f c).same (d f c)/\(a (↑c.length:Int)).same m/\n.same (a 0)/\True)/\k.same k/\True)/\b<=b/\b<=e)/\∀(x:Int),let l:=bj c x.toNat b;let o:=dF g (γa x.toNat c);let p:=o+(bj g.offers l.toNat bk.off.dflt).value;let h:=x+(1:Int);let q:=a h;b<=x/\x<=e->(decide (x<e)=true->b<=x/\x<(↑c.length:Int)/\x.toNat<c.length/\b<=l/\l<(↑g.offers.length:Int)/\l.toNat<g.offers.length/\bV .i64 p/\bV .i64 h/\((j.same j/\(a p).same (a (dF g (γa h.toNat c)))/\(d f c).same (d f c)/\m.same m/\q.same q/\True)/\k.same k/\True)/\(b<=h/\h<=e)/\(e - h).toNat<(e - x).toNat)/\(decide (x<e)=false->(a o).same (a (dF g c)))) (by kernel_rfl) ?_;conv=>zeta
 try simp only[vcs]
 refine⟨⟨by simp[dF],by omega,by omega⟩,?_⟩;rintro i ⟨i0,i1⟩;refine⟨λhi=>?_,λhi=>?_⟩
 ·have hx:=hci _ (cK (d:=0) (show i.toNat<c.length by omega));have hs:dF g (c.take (i+1).toNat)=dF g (c.take i.toNat)+(bj g.offers (bj c i.toNat 0).toNat bk.off.dflt).value:=Uo (f:=λx=>(bj g.offers x.toNat bk.off.dflt).value) i0 hi;have hbd:0<=dF g (c.take i.toNat)/\dF g (c.take i.toNat)<=c.length*1000000:=K2 (f:=λx=>(bj g.offers x.toNat bk.off.dflt).value) (m:=1000000) (by omega) hvv;have hv1:=hvv _ (cK (d:=0) (show i.toNat<c.length by omega));rw[hs];refine⟨i0,hi,by omega,hx.1,hx.2,by omega,by omega,by omega,by first|trivial|rfl,by omega,by omega⟩
 ·rw[show i.toNat=c.length by omega,ψ]
end Go.Vi

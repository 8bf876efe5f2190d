/-
  Contracts: comparisons, the units of a bundle, the order of offers by density.
  Conditions: none.
-/
import Derived.Test.YtbnhiekmnpikhaaGreatDA06
import Derived.Test.YtbnhiekmnpikhaaGreatDA07
import Derived.Test.YtbnhiekmnpikhaaGreatProg
import Derived.Shelf.Sort.AssemblyIn
import Derived.Shelf.SlicesE.Clone
import Derived.Shelf.SlicesE.Delete
import Derived.Shelf.SlSortCmp.NoneTotal
import Derived.KernelRfl
import Derived.Sort.EveryDepth
import Derived.Sort.OwnSortedInts
import Derived.WalkKit
import Derived.Deep.LoopGhost
import Derived.Lib.Walk
import Derived.Lib.SliceRun
import Derived.Shelf.RegionOpenPlain
import Derived.Test.YtbnhiekmnpikhaaGreatDA04
set_option maxRecDepth 100000
set_option maxHeartbeats 4000000
set_option linter.all false
open And renaming intro->γj
open Bool renaming and_eq_true->θ
open Classical renaming not_not->γf
open Go.Vi.AV renaming sc->δg
open Go.Vi.AV.os renaming injEq->εC
open Go.Vi.AV.sc renaming injEq->δd
open Go.Vi.AV.sl renaming injEq->δ5
open Go.Vi.SV renaming sb->γx,il->γA,si->γg,g->γD,ow->γZ,ptr->γP,row->Ω,agg->γQ,bl->δf
open Int renaming mul_nonneg->γu
open List renaming map_cons->π,map_nil->γr,cons_append->γH,length->γc,drop->γ7,mem_of_mem_drop->γU,mem_of_mem_take->γm,mem_append->γk,nil_append->δK,drop_drop->δj,Pairwise->ζB,take_sublist->ζ0,range->ω,range_succ->εg,mem_map->Ψ,mem_range->γp,replicate->δ,mergeSort_perm->δu,getElem?_cons_zero->δo,getElem?_map->γE,getElem?_eq_some_iff->ζ,length_take->γw,map_append->γa,take_succ_cons->δt,length_cons->γF,take->Δ,take_length->ψ,take_of_length_le->γo,length_append->γi,map_map->γ3,map_congr_left->γY,pairwise_cons->γB,exists_of_findSome?_eq_some->δX,nodup_cons->γW,foldr_cons->ε7,foldr->θe,getElem_cons_drop->ζE
open List.Pairwise renaming nil->δH
open List.cons renaming injEq->Γ
open Nat renaming le_refl->ν,zero_le->δ4,lt_of_lt_of_le->γh
open Option renaming map_eq_some_iff->ε
open Option.some renaming injEq->γ
open Prod renaming ext->εH
namespace Go.Vi
open Go.Proofs.YtbnhiekmnpikhaaGreat.Ir
open Go.Proofs
def I4:bM:=⟨150,Int,.one (eZ .i64),λ_=>True,λ_=> .sb false⟩
theorem h334:Holds Tryz.prog I4:=by
 refine cH (L:=[]) I4 lk (by simp) ?_;rintro(x:Int) -;refine bQ ((γx (decide (x≠x))).same (γx false)) (by kernel_rfl) ?_;simp_all
def yi (x y:Int):Int:=if x<y then -1 else if y<x then 1 else 0
def I5:bM:=⟨113,Int×Int,.cons (eZ .i64) (.one (eZ .i64)),λ_=>True,λa=> .si .i64 (yi a.1 a.2)⟩
theorem h321:Holds Tryz.prog I5:=by
 refine cH (L:=[I4]) I5 lk (by grind[h334]) ?_;rintro⟨x,y⟩ -;refine bQ (let b:=γA .i64;let c:=γA .i64 0;let a:=γg .i64 (yi x y);True/\True/\(false=true->(false=true->(b 0).same a)/\(false=false->(b (-1:Int)).same a))/\(false=false->(false=true->(b 1).same a)/\(false=false->(decide (x<y)=true->(b (-1:Int)).same a)/\(decide (x<y)=false->(decide (y<x)=true->(b 1).same a)/\(decide (y<x)=false->(b 0).same a))))) (by kernel_rfl) ?_;simp_all[yi,if_neg]
def wj (b:bC):Int:=b.a0+b.a1+b.a2+b.a3+b.a4+b.a5
def I6:bM:=⟨114,bC,.one (dY .ff),λb=>b.ok=true,λb=> .si .i64 (wj b)⟩
theorem h322:Holds Tryz.prog I6:=by
 refine cH (L:=[]) I6 (λ_ _=> .qy 7) (by simp) ?_;rintro(b:bC) (h:b.ok=true);have h:=bC.jb.1 h;refine bQ (let d:=cq .i64;let a:=(0:Int)+b.a0+b.a1;let c:=a+b.a2+b.a3+b.a4;d ((0:Int)+b.a0)/\d a/\d (a+b.a2)/\d (a+b.a2+b.a3)/\d c/\d (c+b.a5)/\(γg .i64 (c+b.a5)).same (γg .i64 (wj b))) (by kernel_rfl) ?_;simp only[vcs];unfold wj;omega
def oI (p:bn) (i:Int):Off:=bj p.offers i.toNat bp.off.dflt
def rL (p:bn) (i:Int):Int:=(oI p i).value
def pW (p:bn) (i:Int):Int:=wj (oI p i).want
def fE (p:bn) (i:Int):Int:=rL p i*(5354228880 / pW p i)
def mM (p:bn) (i:Int):Prop:=0<=i/\i<p.offers.length
theorem AP {p:bn} (b:bz p=0) {i:Int} (h:mM p i):(1<=rL p i/\rL p i<=1000000)/\(1<=pW p i/\pW p i<=24)/\(oI p i).want.ok=true:=by
 obtain⟨j,k⟩:=h;have c:=dq (d:=bp.off.dflt) (show i.toNat<p.offers.length by omega);have a:=(dQ b).2.2.2.2 _ c;have g:=(H5 ((vY b).2 _ c)).2.1;have e:=bC.jb.1 a.2.2.1;have f:¬((oI p i).want.a0=0/\(oI p i).want.a1=0/\(oI p i).want.a2=0/\(oI p i).want.a3=0/\(oI p i).want.a4=0/\(oI p i).want.a5=0):=λh=>g (Dq.2 h);have e:(0<=(oI p i).want.a0/\(oI p i).want.a0<=4)/\(0<=(oI p i).want.a1/\(oI p i).want.a1<=4)/\(0<=(oI p i).want.a2/\(oI p i).want.a2<=4)/\(0<=(oI p i).want.a3/\(oI p i).want.a3<=4)/\(0<=(oI p i).want.a4/\(oI p i).want.a4<=4)/\(0<=(oI p i).want.a5/\(oI p i).want.a5<=4):=e;refine⟨⟨a.2.2.2.1,a.2.2.2.2⟩,?_,a.2.2.1⟩;unfold pW wj;omega
theorem RB {t:Int} (a:1<=t) (b:t<=24):t*(5354228880 / t)=5354228880/\1<=5354228880 / t:=by
 have:t=1\/t=2\/t=3\/t=4\/t=5\/t=6\/t=7\/t=8\/t=9\/t=10\/t=11\/t=12\/t=13\/t=14\/t=15\/t=16\/t=17\/t=18\/t=19\/t=20\/t=21\/t=22\/t=23\/t=24:=by omega
 rcases this with rfl|rfl|rfl|rfl|rfl|rfl|rfl|rfl|rfl|rfl|rfl|rfl|rfl|rfl|rfl|rfl|rfl|rfl|rfl|rfl|rfl|rfl|rfl|rfl<;>decide
theorem abQ {p:bn} (g:bz p=0) {x y:Int} (j:mM p x) (i:mM p y):fE p x<fE p y↔rL p x*pW p y<rL p y*pW p x:=by
 obtain⟨m,e,_⟩:=AP g j;obtain⟨u,f,_⟩:=AP g i;obtain⟨v,q⟩:=RB e.1 e.2;obtain⟨o,r⟩:=RB f.1 f.2;unfold fE;generalize 5354228880 / pW p x=d at*;generalize 5354228880 / pW p y=c at*;generalize rL p x=a at*;generalize rL p y=b at*;generalize pW p x=s at*;generalize pW p y=t at*;have k:0<d*c:=Int.mul_pos (by omega) (by omega);have l:(a*t)*(d*c)=(a*d)*5354228880:=by grind
 have n:(b*s)*(d*c)=(b*c)*5354228880:=by grind
 constructor
 ·intro h;have:(a*t)*(d*c)<(b*s)*(d*c):=by omega
  exact Int.lt_of_mul_lt_mul_right this (by omega)
 ·intro h;have:(a*t)*(d*c)<(b*s)*(d*c):=Int.mul_lt_mul_of_pos_right h k;omega
def AQ (p:bn) (x y:Int):Int:=yi (rL p y*pW p x) (rL p x*pW p y)
theorem abR {p:bn} (a:bz p=0) {x y:Int} (c:mM p x) (b:mM p y):AQ p x y<0↔fE p y<fE p x:=by
 rw[abQ a b c];grind[AQ,yi]
def I7:dG where
 f:=112;α:=Int×Int×bn;put a:=[.si .i64 a.1,.si .i64 a.2.1,.ptr 0 0 20];st a:=[.cells a.2.2.ss 27 20 false];dec v o:=match v,o with
  |[x,y,.ptr 0 0 20],[.cells cs 27 20 false]=>match x.int .i64,y.int .i64,vV cs with
   |some x,some y,some p=>some (x,y,p)
   |_,_,_=>none
  |_,_=>none;ok v o a h:=by
  split at h
  ·split at h
   ·rename_i h1 h2 h3;simp only[γ] at h;subst h;refine⟨by simp only[gL,iP h1,iP h2];rfl,?_⟩;simp only[gO,π,γr,bq.g,Ah h3]
   ·cases h
  ·cases h
 inj a b h1 h2:=by
  simp only[gL,Γ,and_true,γD,δd,Value.int.injEq,true_and] at h1;simp only[gO,π,γr,bq.g,Γ,bR.cells.injEq,and_true] at h2;have h3:=dO.inj a.2.2 b.2.2 (by simp only[dO,γD,h2]);exact εH h1.1 (εH h1.2 h3)
 dom a:=bz a.2.2=0/\mM a.2.2 a.1/\mM a.2.2 a.2.1;res a:=.si .i64 (AQ a.2.2 a.1 a.2.1);out a:=[.cells a.2.2.ss 27 20 false]
theorem h320:ec Tryz.prog I7:=by
 refine lB (L:=[I6,I5]) (W:=[]) I7 lk (by simp) (by grind[h322,h321]) ?_;rintro⟨x,y,p⟩ ⟨f,e,c⟩;refine bQ (let a:=bp.off.dflt;let d:=p.offers.length;let g:=bj p.offers x.toNat a;let h:=bj p.offers y.toNat a;let k:=h.value*wj g.want;let l:=g.value*wj h.want;let j:=bq.cells (bn.ss p) 27 20 false;(0:Int)<=x/\x<(↑d:Int)/\x.toNat<d/\(0:Int)<=y/\y<(↑d:Int)/\y.toNat<d/\g.want.ok=true/\cq .i64 k/\h.want.ok=true/\cq .i64 l/\True/\(γg .i64 (yi k l)).same (γg .i64 (AQ p x y))/\j.same j/\True) (by kernel_rfl) ?_;simp only[vcs];have f:bz p=0:=f;have e:mM p x:=e;have c:mM p y:=c;obtain⟨s,w,q⟩:=AP f e;obtain⟨m,A,z⟩:=AP f c;obtain⟨o,n⟩:=e;obtain⟨B,r⟩:=c;have i:∀{v t:Int},1<=v/\v<=1000000->1<=t/\t<=24-> -9223372036854775808<=v*t/\v*t<=9223372036854775807:=λ{v t} C u=>by
  have a:=γu (show 0<=v by omega) (show 0<=t by omega);have b:=Int.mul_le_mul C.2 u.2 (by omega) (show(0:Int)<=1000000 by omega);omega
 exact⟨o,n,by omega,B,r,by omega,q,i m w,z,i s A,rfl⟩
def yj:Nat->List SV->Option (List Int)
 |0,[.fn (.func 112) [] [.ptr 1 0 20]]=>some []
 |k+1,x::r=>match x.int .i64,yj k r with
  |some n,some l=>some (n::l)
  |_,_=>none
 |_,_=>none
theorem RD:∀{k:Nat} {r:List SV} {l:List Int},yj k r=some l->gL r=gL (l.map (γg .i64)++[.fn (.func 112) [] [.ptr 1 0 20]])
 |0,r,l,h=>by
  unfold yj at h;split at h;·simp only[γ] at h;subst h;rfl
  ·rename_i h0;cases h0
  ·cases h;|k+1,[],l,h=>by simp[yj] at h;|k+1,x::r,l,h=>by
  simp only[yj] at h;split at h
  ·rename_i n l' h1 h2;simp only[γ] at h;subst h;simp only[gL,π,γH,RD h2,iP h1];rfl
  ·cases h
theorem RE:∀{l m:List Int} {z:List SV},l.length=m.length->gL (l.map (γg .i64)++z)=gL (m.map (γg .i64)++z)->l=m
 |[],[],_,_,_=>rfl
 |[],_::_,_,h,_=>by simp at h;|_::_,[],_,h,_=>by simp at h;|x::l,y::m,z,hl,h=>by
  simp only[π,γH,gL,Γ,γD,δd,Value.int.injEq,true_and] at h;rw[h.1,RE (by simpa using hl) h.2]
def I8 (f:FuncId) (k:Nat) (β:Type) (AS:β->List Int) (RF:List Int->Option β) (h0:∀b,(AS b).length=k) (h1:∀l b,RF l=some b->l=AS b) (h2:∀b c,AS b=AS c->b=c) (dom:(Nat×List Int×bn)×β->Prop) (out:(Nat×List Int×bn)×β->List Int):dG where
 f:=f;α:=(Nat×List Int×bn)×β;put a:=.ow 0 a.1.1 1::((AS a.2).map (γg .i64)++[.fn (.func 112) [] [.ptr 1 0 20]]);st a:=[.row (.i .i64) a.1.2.1 3 true,.cells a.1.2.2.ss 27 20 false];dec v o:=match v,o with
  | .ow 0 n 1::r,[.row t l 3 true,.cells cs 27 20 false]=>match yj k r,iH t (.i .i64) l,vV cs with
   |some xs,some l,some p=>match RF xs with
    |some b=>some ((n,l,p),b)
    |none=>none
   |_,_,_=>none
  |_,_=>none;ok v o a h:=by
  split at h
  ·split at h
   ·rename_i h3 h4 h5;split at h
    ·rename_i b hb;simp only[γ] at h;subst h;obtain⟨rfl,hh⟩:=mJ h4;cases hh;have:=h1 _ _ hb;subst this;refine⟨by simp only[gL,RD h3],?_⟩;simp only[gO,π,γr,bq.g,Ah h5]
    ·cases h
   ·cases h
  ·cases h
 inj a b e1 e2:=by
  obtain⟨⟨n,l,p⟩,x⟩:=a;obtain⟨⟨n',l',p'⟩,x'⟩:=b;simp only[gL,Γ,γD,εC,true_and] at e1;simp only[gO,π,γr,bq.g,Γ,bR.cells.injEq,and_true,true_and] at e2;have h3:p=p':=dO.inj p p' (by simp only[dO,γD,e2.2]);have h4:l=l':=by
   have hf:=congrArg γc e2.1;rw[eY,eY] at hf;exact lA (.i .i64) (by simpa[bp.sz] using hf) e2.1
  have h5:x=x':=h2 _ _ (RE (by rw[h0,h0]) e1.2);rw[e1.1.1,h3,h4,h5]
 dom:=dom;res _:=.bI [];out a:=[.row (.i .i64) (out a) 3 true,.cells a.1.2.2.ss 27 20 false]
abbrev Srg:=Nat×List Int×bn
def AW (b:Int×Int):List Int:=[b.1,b.2]
def I9:List Int->Option (Int×Int)
 |[a,b]=>some (a,b)
 |_=>none
theorem abT:∀l b,I9 l=some b->l=AW b:=λl b h=>by
 unfold I9 at h;split at h;·simp only[γ] at h;subst h;rfl
 ·cases h
theorem abU:∀b c,AW b=AW c->b=c:=λb c h=>by
 unfold AW at h;simp only[Γ,and_true] at h;exact εH h.1 h.2
def wm (a:Srg):Prop:=(bz a.2.2=0/\a.1=a.2.1.length)/\a.2.1.length<=1000/\∀x∈a.2.1,mM a.2.2 x
def Ja (l:List Int) (a b:Int):Prop:=0<=a/\a<=b/\b<=l.length
theorem RG {l m:List Int} (h:l=m):(bq.row (.i .i64) l 3 true).same (bq.row (.i .i64) m 3 true):=by subst h;rfl
def Jb:dG:=I8 172 2 (Int×Int) AW I9 (λ_=>rfl) abT abU (λa=>wm a.1/\Ja a.1.2.1 a.2.1 a.2.2/\(seg a.1.2.1 a.2.1.toNat a.2.2.toNat).Pairwise (·<·)) λa=>hJ (fE a.1.2.2) a.1.2.1 a.2.1.toNat a.2.2.toNat
def abV (n:Nat) (l:List Int) (p:bn) (a b:Int):Nat->cC
 |1=> .inv (Int×List Int) (λx=>⟨[(0,.ow 0 n 1),(1,.si .i64 a),(2,.si .i64 b),(3,.fn (.func 112) [] [.ptr 1 0 20]),(8,.si .i64 x.1)],[.row (.i .i64) x.2 3 true,.cells p.ss 27 20 false]⟩) (λs=>(iS s 8,oS (.i .i64) s 0))
   (λx=>(a<x.1/\(x.1<=b\/x.1=a+1))/\x.2=hJ (fE p) l a.toNat (if a<b then x.1 else a).toNat) (λx=>(b - x.1).toNat) λx k=>match k with
    |4=> .inv (Int×List Int) (λy=>⟨[(0,.ow 0 n 1),(1,.si .i64 a),(2,.si .i64 b),(3,.fn (.func 112) [] [.ptr 1 0 20]),(8,.si .i64 x.1),(9,.si .i64 y.1)],[.row (.i .i64) y.2 3 true,.cells p.ss 27 20 false]⟩) (λs=>(iS s 9,oS (.i .i64) s 0))
      (λy=>(a<=y.1/\y.1<=x.1)/\y.2=lj (fE p) l a.toNat x.1.toNat y.1.toNat/\∀s∈(dX (fE p) (seg l a.toNat x.1.toNat)).drop (y.1 - a).toNat,kn (fE p) (bj l x.1.toNat 0) s=true) (λy=>(y.1 - a).toNat) λ_ _=> .look
    |_=> .look
 |_=> .look
theorem h343:ec Tryz.prog Jb:=by
 refine lB (L:=[]) (W:=[I7]) Jb (λa=>abV a.1.1 a.1.2.1 a.1.2.2 a.2.1 a.2.2) (by simpa using h320) (by simp) ?_;rintro⟨⟨n,l,p⟩,a,b⟩ ⟨⟨⟨hc,hn⟩,hl,ho⟩,⟨a0,a1,a2⟩,hi⟩;refine bQ (let c:=γg .i64;let d:=(0:Int);let e:=cq .i64;let f:=bq.row;let g:=(1:Int);let m:=a+g;let o:=γZ 0 n 1;let q:=SV.fn (Fn.func 112) [] [γP 1 0 20];let E:=c m;let w:=bp.i .i64;let F:=f w l 3 true;let k:=bq.cells [c p.supply.a0,c p.supply.a1,c p.supply.a2,c p.supply.a3,c p.supply.a4,c p.supply.a5,c p.opn.a0,c p.opn.a1,c p.opn.a2,c p.opn.a3,c p.opn.a4,c p.opn.a5,c p.cls.a0,c p.cls.a1,c p.cls.a2,c p.cls.a3,c p.cls.a4,c p.cls.a5,Ω w p.classes,Ω bp.off p.offers] 27 20 false;e m/\(((o.same o/\(c a).same (c a)/\(c b).same (c b)/\q.same q/\E.same E/\True)/\F.same F/\k.same k/\True)/\(a<m/\(m<=b\/m=m))/\l=hJ (fE p) l a.toNat (if a<b then m else a).toNat)/\∀(x:Int×List Int),let y:=c x.fst;let B:=f w x.snd 3 true;let r:=x.fst.toNat;let C:=dX (fE p) (seg l a.toNat r);let t:=x.fst+g;let G:=c t;let N:=hJ (fE p) l a.toNat (if a<b then t else a).toNat;(a<x.fst/\(x.fst<=b\/x.fst=m))/\x.snd=hJ (fE p) l a.toNat (if a<b then x.fst else a).toNat->(decide (x.fst<b)=true->(((o.same o/\(c a).same (c a)/\(c b).same (c b)/\q.same q/\y.same y/\y.same y/\True)/\B.same B/\k.same k/\True)/\(a<=x.fst/\x.fst<=x.fst)/\x.snd=lj (fE p) l a.toNat r r/\∀(s:Int),s∈γ7 (x.fst - a).toNat C->kn (fE p) (bj l r d) s=true)/\∀(x_1:Int×List Int),let H:=f w x_1.snd 3 true;let v:=x_1.fst.toNat;let D:=bj x_1.snd v d;let j:=x_1.fst - g;let z:=j.toNat;let A:=bj x_1.snd z d;let h:=x_1.snd.length;let z23:Nat:=(x_1.snd.set v A).length;let I:=c j;let J:=(x_1.snd.set v A).set z D;let K:=f w J 3 true;let L:=e t/\((o.same o/\(c a).same (c a)/\(c b).same (c b)/\q.same q/\G.same G/\True)/\H.same H/\k.same k/\True)/\((a<t/\(t<=b\/t=m))/\x_1.snd=N)/\(b - t).toNat<(b - x.fst).toNat;let M:=λ(u:Bool) ↦decide (AQ p D A<d)=u;((a<=x_1.fst/\x_1.fst<=x.fst)/\x_1.snd=lj (fE p) l a.toNat r v/\∀(s:Int),s∈γ7 (x_1.fst - a).toNat C->kn (fE p) (bj l r d) s=true)->(decide (a<x_1.fst)=true->n=h/\d<=x_1.fst/\x_1.fst<(↑h:Int)/\n=h/\v<h/\e j/\n=h/\d<=j/\j<(↑h:Int)/\n=h/\z<h/\(bz p=d/\mM p D/\mM p A)/\(M true->e j/\e j/\n=h/\d<=j/\j<(↑h:Int)/\n=h/\z<h/\n=h/\d<=x_1.fst/\x_1.fst<(↑h:Int)/\n=h/\v<h/\n=h/\d<=x_1.fst/\x_1.fst<(↑h:Int)/\n=h/\v<h/\n=z23/\d<=j/\j<(↑z23:Int)/\n=z23/\z<z23/\e j/\((o.same o/\(c a).same (c a)/\(c b).same (c b)/\q.same q/\y.same y/\I.same I/\True)/\K.same K/\k.same k/\True)/\((a<=j/\j<=x.fst)/\J=lj (fE p) l a.toNat r z/\∀(s:Int),s∈γ7 (j - a).toNat C->kn (fE p) (bj l r d) s=true)/\(j - a).toNat<(x_1.fst - a).toNat)/\(M false->L))/\(decide (a<x_1.fst)=false->L))/\(decide (x.fst<b)=false->(SV.bI []).same (SV.bI [])/\B.same (f w (hJ (fE p) l a.toNat b.toNat) 3 true)/\k.same k/\True)) (by kernel_rfl) ?_;simp only[vcs];have hc:bz p=0:=hc;have hn:n=l.length:=hn;have hl:l.length<=1000:=hl;have ho:∀x∈l,mM p x:=ho;have a0:0<=a:=a0;have a1:a<=b:=a1;have a2:b<=l.length:=a2;have hi:(seg l a.toNat b.toNat).Pairwise (·<·):=hi;generalize hD:fE p=D at*;have sl:∀{i:Int},a<=i->i<=b->(hJ D l a.toNat i.toNat).length=l.length:=λh1 h2=>Ry (by omega) (by omega);refine⟨by omega,⟨⟨by omega,.inr trivial⟩,?_⟩,?_⟩
 ·by_cases hab:a<b;·rw[if_pos hab,show(a+1).toNat=a.toNat+1 by omega,abD (by omega)]
  ·rw[if_neg hab,RA]
 rintro⟨i,m⟩ ⟨⟨i0,i1⟩,hm⟩;simp only at i0 i1 hm ⊢;refine⟨λhib=>?_,λhib=>RG ?_⟩
 ·rw[if_pos (by omega)] at hm;have hx:=ho _ (dq (d:=(0:Int)) (show i.toNat<l.length by omega));have hS:∀s∈dX D (seg l a.toNat i.toNat),s<bj l i.toNat 0/\mM p s:=λs hs=>by
   have h1:=I2.1 hs;have h2:(seg l a.toNat (i.toNat+1)).Pairwise (·<·):=by
    refine hi.sublist ?_;unfold seg;exact List.take_sublist_take_left (by omega)
   rw[I3 (by omega) (by omega)] at h2;refine⟨(List.pairwise_append.1 h2).2.2 s h1 _ (by simp),ho s ?_⟩;unfold seg at h1;exact γU (γm h1)
  have hSl:(dX D (seg l a.toNat i.toNat)).length=i.toNat - a.toNat:=by rw[sY,wi (by omega) (by omega)]
  have il:∀{j:Nat},(lj D l a.toNat i.toNat j).length=l.length:=λ{j}=>abE (by omega) (by omega);refine⟨⟨⟨by omega,by omega⟩,?_,?_⟩,?_⟩;·rw[hm,abG (by omega) (by omega)]
  ·intro s hs;rw[List.drop_of_length_le (by omega)] at hs;simp at hs
  rintro⟨j,m2⟩ ⟨⟨j0,j1⟩,hm2,hle⟩;simp only at j0 j1 hm2 hle ⊢;subst hm2;simp only[List.length_set,il];have fin:(j=a\/kn D (bj (dX D (seg l a.toNat i.toNat)) (j.toNat - 1 - a.toNat) 0) (bj l i.toNat 0)=true)->lj D l a.toNat i.toNat j.toNat=hJ D l a.toNat (if a<b then i+1 else a).toNat:=λh=>by
   rw[if_pos (by omega),show(i+1).toNat=i.toNat+1 by omega];refine abO (by omega) (by omega) (by omega) ?_ ?_;·rw[show j.toNat - a.toNat=(j - a).toNat by omega];exact hle
   ·rcases h with h|h;·exact .inl (by omega)
    ·exact .inr h
  refine⟨λhj=>?_,λhj=>?_⟩
  ·obtain⟨k1,k2,k3⟩:=@abL D l a.toNat i.toNat j.toNat (by omega) (by omega) (by omega);have ej:(j - 1).toNat=j.toNat - 1:=by omega
   rw[ej,k1,k2,k3];have hs:=dq (d:=(0:Int)) (show j.toNat - 1 - a.toNat<(dX D (seg l a.toNat i.toNat)).length by omega);obtain⟨s1,s2⟩:=hS _ hs;have hcmp:=abR hc hx s2;rw[hD] at hcmp;rw[hcmp];refine⟨by omega,by omega,by omega,by omega,by omega,by omega,by omega,by omega,by omega,by omega,by omega,⟨hc,hx,s2⟩,λh1=>?_,λh1=>?_⟩
   ·repeat' refine γj ?_ ?_
    all_goals first|omega|rfl|skip
    intro s hs2;rw[show(j - 1 - a).toNat=j.toNat - 1 - a.toNat by omega,List.drop_eq_getElem_cons (show j.toNat - 1 - a.toNat<(dX D (seg l a.toNat i.toNat)).length by omega)] at hs2;rcases List.mem_cons.1 hs2 with rfl|hs2
    ·rw[<-cV (d:=(0:Int))];exact AL.2 (.inl h1)
    ·refine hle s ?_;rw[show(j - a).toNat=j.toNat - 1 - a.toNat+1 by omega];exact hs2
   ·have:=fin (.inr (AL.2 (by omega)));repeat' refine γj ?_ ?_
    all_goals first|omega|exact this|rfl
  ·have:=fin (.inl (by omega));repeat' refine γj ?_ ?_
   all_goals first|omega|exact this|rfl
 ·rw[hm];by_cases hab:a<b;·rw[if_pos hab,show i=b by omega]
  ·rw[if_neg hab,show a=b by omega]
theorem abW {l:List Int} {a b:Nat} {x:Int} (h:x∈seg l a b):x∈l:=by
 unfold seg at h;exact γU (γm h)
theorem abX {D:Int->Int} {l:List Int} {a b:Nat} {x:Int} (h:x∈hJ D l a b):x∈l:=by
 unfold hJ at h;simp only[γk] at h;rcases h with(h|h)|h;·exact γm h
 ·exact abW (I2.1 h)
 ·exact γU h
def AX (b:Int):List Int:=[b]
def Jc:List Int->Option Int
 |[a]=>some a
 |_=>none
theorem abY:∀l b,Jc l=some b->l=AX b:=λl b h=>by
 unfold Jc at h;split at h;·simp only[γ] at h;subst h;rfl
 ·cases h
theorem abZ:∀b c,AX b=AX c->b=c:=λb c h=>by
 simp_all[AX]
def D1 (_:Unit):List Int:=[]
def Jd:List Int->Option Unit
 |[]=>some ()
 |_=>none
theorem ab0:∀l b,Jd l=some b->l=D1 b:=λl b h=>by
 unfold Jd at h;split at h;·rfl
 ·cases h
theorem ab1:∀b c,D1 b=D1 c->b=c:=λ_ _ _=>rfl
theorem RI {D:Int->Int} {l:List Int} {n:Nat} (h:n=l.length):hJ D l 0 n=dX D l:=by
 grind[hJ,seg]
theorem ab2 {D:Int->Int} {l:List Int} {b c d:Nat} (h:b<=c) (e:b<=l.length):seg (hJ D l 0 b) c d=seg l c d:=by
 have a:(dX D (seg l 0 b)).length=b:=by grind[sY,wi]
 unfold hJ;have:(l.take 0++dX D (seg l 0 b)++l.drop b).drop c=l.drop c:=by
  rw[List.take_zero,δK,List.drop_append,List.drop_eq_nil_of_le (by omega),δK,δj,a,show b+(c - b)=c by omega]
 grind[seg]
def Je:dG:=I8 149 1 Int AX Jc (λ_=>rfl) abY abZ (λa=>(wm a.1/\a.1.2.1.Pairwise (·<·))/\a.2=a.1.2.1.length/\a.1.2.1.length<=20) λa=>dX (fE a.1.2.2) a.1.2.1
def ab3 (n:Nat) (l:List Int) (p:bn):Nat->cC
 |2=> .inv (Int×Int×List Int) (λx=>⟨[(0,.ow 0 n 1),(1,.si .i64 l.length),(2,.fn (.func 112) [] [.ptr 1 0 20]),(6,.si .i64 20),(7,.si .i64 x.1),(8,.si .i64 x.2.1)],[.row (.i .i64) x.2.2 3 true,.cells p.ss 27 20 false]⟩) (λs=>(iS s 7,iS s 8,oS (.i .i64) s 0))
   (λx=>x.2.1=x.1+20/\(x.1=0/\x.2.2=l\/x.1=20/\l.length=20/\x.2.2=hJ (fE p) l 0 20)) (λx=>(1000 - x.1).toNat) λ_ _=> .look
 |7=> .inv (Int×List Int) (λx=>⟨[(0,.ow 0 n 1),(1,.si .i64 l.length),(2,.fn (.func 112) [] [.ptr 1 0 20]),(6,.si .i64 x.1)],[.row (.i .i64) x.2 3 true,.cells p.ss 27 20 false]⟩) (λs=>(iS s 6,oS (.i .i64) s 0))
   (λx=>x.1=20/\x.2=dX (fE p) l) (λx=>(1000 - x.1).toNat) λ_ _=> .look
 |_=> .look
theorem h333:ec Tryz.prog Je:=by
 refine lB (L:=[]) (W:=[Jb]) Je (λa=>ab3 a.1.1 a.1.2.1 a.1.2.2) (by simpa using h343) (by simp) ?_;rintro⟨⟨n,l,p⟩,N⟩ ⟨⟨⟨⟨hc,hn⟩,hl,ho⟩,hi⟩,hN,h20⟩;simp only at hc hn hl ho hi hN h20;subst hN;refine bQ (let a:=γg .i64;let b:=(20:Int);let c:=bq.row;let d:=(0:Int);let e:=γA .i64;let g:=γZ 0 n 1;let h:=(↑l.length:Int);let j:=a h;let k:=SV.fn (Fn.func 112) [] [γP 1 0 20];let m:=a 20;let v:=e 0;let o:=bp.i .i64;let w:=c o l 3 true;let f:=bq.cells [a p.supply.a0,a p.supply.a1,a p.supply.a2,a p.supply.a3,a p.supply.a4,a p.supply.a5,a p.opn.a0,a p.opn.a1,a p.opn.a2,a p.opn.a3,a p.opn.a4,a p.opn.a5,a p.cls.a0,a p.cls.a1,a p.cls.a2,a p.cls.a3,a p.cls.a4,a p.cls.a5,Ω o p.classes,Ω bp.off p.offers] 27 20 false;let s:=hJ (fE p) l 0 20;let t:=dX (fE p) l;(((g.same g/\j.same j/\k.same k/\(e 20).same m/\v.same (a 0)/\(e 20).same m/\True)/\w.same w/\f.same f/\True)/\b=b/\(d=d/\l=l\/d=b/\l.length=20/\l=s))/\∀(x:Int×Int×List Int),let y:=decide (x.snd.fst<=h);let q:=x.fst.toNat;let r:=x.snd.fst+b;let z:=a x.snd.fst;let A:=a r;let u:=hJ (fE p) x.snd.snd q x.snd.fst.toNat;let B:=c o u 3 true;let C:=hJ (fE p) x.snd.snd q h.toNat;let D:=c o C 3 true;x.snd.fst=x.fst+b/\(x.fst=d/\x.snd.snd=l\/x.fst=b/\l.length=20/\x.snd.snd=s)->(y=true->(wm (n,x.snd.snd,p)/\Ja x.snd.snd x.fst x.snd.fst/\ζB (λx1 x2 ↦x1<x2) (seg x.snd.snd q x.snd.fst.toNat))/\cq .i64 r/\((g.same g/\j.same j/\k.same k/\m.same m/\z.same z/\A.same A/\True)/\B.same B/\f.same f/\True)/\(r=r/\(x.snd.fst=d/\u=l\/x.snd.fst=b/\l.length=20/\u=s))/\((1000:Int) - x.snd.fst).toNat<((1000:Int) - x.fst).toNat)/\(y=false->(wm (n,x.snd.snd,p)/\Ja x.snd.snd x.fst h/\ζB (λx1 x2 ↦x1<x2) (seg x.snd.snd q h.toNat))/\(((g.same g/\j.same j/\k.same k/\m.same m/\True)/\D.same D/\f.same f/\True)/\b=b/\C=t)/\∀(x:Int×List Int),let E:=c o x.snd 3 true;x.fst=b/\x.snd=t->(decide (x.fst<h)=true->cq .i64 ((2:Int)*x.fst)/\Look (cu.mk [(0,g),(1,j),(2,k),(6,a x.fst),(7,v),(8,a ((2:Int)*x.fst))] [E,f]))/\(decide (x.fst<h)=false->(SV.bI []).same (SV.bI [])/\E.same (c o t 3 true)/\f.same f/\True))) (by kernel_rfl) ?_;simp only[vcs];have pw:∀a b,(seg l a b).Pairwise (·<·):=λa b=>List.Pairwise.sublist ((ζ0 _ _).trans (List.drop_sublist _ _)) hi;have e0:((l.length:Int)).toNat=l.length:=by omega
 rw[e0];refine⟨.inl trivial,?_⟩;rintro⟨a,b,w⟩ ⟨hb,hw⟩;simp only at hb hw ⊢;subst hb;refine⟨λh=>?_,λh=>?_⟩
 ·rcases hw with⟨rfl,rfl⟩|⟨rfl,h2,rfl⟩;·refine⟨⟨⟨⟨hc,hn⟩,hl,ho⟩,⟨?_,?_,?_⟩,pw _ _⟩,?_,.inr ⟨?_,?_,rfl⟩,?_⟩<;>omega
  ·omega
 ·refine⟨?_,?_,?_⟩
  ·rcases hw with⟨rfl,rfl⟩|⟨rfl,h2,rfl⟩;·refine⟨⟨⟨hc,hn⟩,hl,ho⟩,⟨?_,?_,?_⟩,pw _ _⟩<;>omega
   ·have hw:=@Ry (fE p) l 0 20 (by omega) (by omega);exact⟨⟨⟨hc,by simp only[hw];exact hn⟩,by simp only[hw];exact hl,λx hx=>ho x (abX hx)⟩,⟨by omega,by omega,by rw[hw];omega⟩,by rw[ab2 (by omega) (by omega)];exact pw _ _⟩
  ·rcases hw with⟨rfl,rfl⟩|⟨rfl,h2,rfl⟩;·exact RI rfl
   ·rw[h2];show hJ _ _ 20 20=_;rw[RA];exact RI h2.symm
  ·rintro⟨s,w⟩ hw;simp only at hw ⊢;exact⟨λh=>by omega,λh=>RG hw.2⟩
def Jf:dG:=I8 111 0 Unit D1 Jd (λ_=>rfl) ab0 ab1 (λa=>(wm a.1/\a.1.2.1.Pairwise (·<·))/\a.1.2.1.length<=20) λa=>dX (fE a.1.2.2) a.1.2.1
theorem h319:ec Tryz.prog Jf:=by
 refine lB (L:=[]) (W:=[Je]) Jf lk (by simpa using h333) (by simp) ?_;rintro⟨⟨n,l,p⟩,u⟩ ⟨⟨⟨⟨hc,hn⟩,hl,ho⟩,hi⟩,h20⟩;simp only at hc hn hl ho hi h20;refine bQ (let a:=bq.row (bp.i .i64) (dX (fE p) l) 3 true;let b:=bq.cells (bn.ss p) 27 20 false;((wm (n,l,p)/\ζB (λx1 x2 ↦x1<x2) l)/\(↑n:Int)=(↑l.length:Int)/\l.length<=20)/\(SV.bI []).same (SV.bI [])/\a.same a/\b.same b/\True) (by kernel_rfl) ?_;simp only[vcs];exact⟨⟨⟨⟨hc,hn⟩,hl,ho⟩,hi⟩,by omega,h20⟩
def cG (n:Nat):List Int:=(ω n).map λi:Nat=>(i:Int)
theorem fU {n:Nat}:(cG n).length=n:=by simp[cG]
theorem pX {n:Nat}:cG (n+1)=cG n++[(n:Int)]:=by simp[cG,εg]
theorem rM {n:Nat}:(cG n).Pairwise (·<·):=by
 unfold cG;rw[List.pairwise_map];exact List.pairwise_lt_range.imp λh=>by omega
theorem jv {n:Nat} {x:Int}:x∈cG n↔0<=x/\x<n:=by
 unfold cG;rw[Ψ];constructor;·grind
 ·rintro⟨b,a⟩;exact⟨x.toNat,γp.2 (by omega),by omega⟩
def mN (n i:Nat):List Int:=cG i++δ (n - i) 0
theorem RJ {n i:Nat} (h:i<=n):(mN n i).length=n:=by grind[mN,fU]
theorem ab4 {n:Nat}:mN n 0=δ n 0:=by simp[mN,cG]
theorem ab5 {n:Nat}:mN n n=cG n:=by simp[mN]
theorem ab6 {n i:Nat} (h:i<n):(mN n i).set i (i:Int)=mN n (i+1):=by
 unfold mN;rw[List.set_append_right _ _ (by grind[fU]),fU,Nat.sub_self,show n - i=(n - (i+1))+1 by omega,List.replicate_succ,List.set_cons_zero,pX,List.append_assoc];rfl
def wo (p:bn):List Int:=dX (fE p) (cG p.offers.length)
def Jg:bM:=⟨76,bn,.one dO,λp=>p.offers.length<=20,λp=> .row (.i .i64) (if bz p=0 then wo p else[])⟩
def ab7 (p:bn):Nat->cC
 |5=> .inv Int (λi=>⟨[(1,.ptr 0 0 20),(3,.ow 1 (mN p.offers.length i.toNat).length 1),(13,.si .i64 p.offers.length),(14,.si .i64 i)],[.cells p.ss 27 20 false,.row (.i .i64) (mN p.offers.length i.toNat) 3 true]⟩)
   (λs=>iS s 14) (λi=>0<=i/\i<=p.offers.length) (λi=>(p.offers.length - i).toNat) λ_ _=> .look
 |_=> .look
theorem h308:Holds Tryz.prog Jg:=by
 refine con (L:=[po]) (W:=gP [Jf]) Jg ab7 (lg (by simpa using h319)) (by simpa using h79) ?_;intro(p:bn) (hp:p.offers.length<=20);refine bQ (let a:=γg .i64;let b:=(0:Int);let c:=bq.row;let d:=Ω;let e:=γZ;let r:=decide (bz p≠b);let g:=bp.i .i64;let s:=d g (if bz p=b then wo p else[]);let h:=(↑p.offers.length:Int);let n:=γP 0 0 20;let l:=p.offers.length;let j:=(↑l:Int);let q:=a j;let o:=bq.cells [a p.supply.a0,a p.supply.a1,a p.supply.a2,a p.supply.a3,a p.supply.a4,a p.supply.a5,a p.opn.a0,a p.opn.a1,a p.opn.a2,a p.opn.a3,a p.opn.a4,a p.opn.a5,a p.cls.a0,a p.cls.a1,a p.cls.a2,a p.cls.a3,a p.cls.a4,a p.cls.a5,d g p.classes,d bp.off p.offers] 27 20 false;True/\(r=true->(d g []).same s)/\(r=false->b<=h/\h<=h/\h*(8:Int)<=(140737488355328:Int)/\h<=(1000000000000:Int)/\(((n.same n/\(e 1 h.toNat 1).same (e 1 (mN l 0).length 1)/\(a (↑h.toNat:Int)).same q/\(γA .i64 0).same (a 0)/\True)/\o.same o/\(c g (δ h.toNat b) 3 true).same (c g (mN l 0) 3 true)/\True)/\b<=b/\b<=j)/\∀(x:Int),let f:=mN l x.toNat;let m:=f.length;let k:=x+(1:Int);let t:=a k;b<=x/\x<=j->(decide (x<j)=true->m=f.length/\b<=x/\x<(↑f.length:Int)/\m=f.length/\x.toNat<f.length/\cq .i64 k/\((n.same n/\(e 1 m 1).same (e 1 (mN l k.toNat).length 1)/\q.same q/\t.same t/\True)/\o.same o/\(c g (f.set x.toNat x) 3 true).same (c g (mN l k.toNat) 3 true)/\True)/\(b<=k/\k<=j)/\(j - k).toNat<(j - x).toNat)/\(decide (x<j)=false->((wm (m,f,p)/\ζB (λx1 x2 ↦x1<x2) f)/\m<=20)/\m=(dX (fE p) f).length/\(d g (dX (fE p) f)).same s))) (by kernel_rfl) ?_;simp only[vcs];refine⟨λh=>by rw[if_neg h],λh=>?_⟩;have hc:bz p=0:=γf.1 h;rw[if_pos hc];have e0:((p.offers.length:Int)).toNat=p.offers.length:=by omega
 have how:∀{x y:Nat},x=y->(γZ 1 x 1).same (γZ 1 y 1):=by rintro _ _ rfl;rfl
 rw[e0,ab4];refine⟨by omega,by omega,by omega,by omega,⟨⟨⟨how (by simp),rfl⟩,rfl⟩,by omega,by omega⟩,?_⟩;rintro i ⟨i0,i1⟩;have hL:=@RJ p.offers.length i.toNat (by omega);refine⟨λhi=>?_,λhi=>?_⟩
 ·have hs:=@ab6 p.offers.length i.toNat (by omega);rw[show((i.toNat:Nat):Int)=i by omega] at hs;have hL2:=@RJ p.offers.length (i.toNat+1) (by omega);rw[show(i+1).toNat=i.toNat+1 by omega,hs];exact⟨i0,by omega,by omega,by omega,⟨how (by omega),rfl⟩,by omega,by omega⟩
 ·rw[show i.toNat=p.offers.length by omega,ab5];refine⟨⟨⟨⟨⟨hc,rfl⟩,by simp only[fU];omega,λx hx=>by have:=jv.1 hx;exact this⟩,rM⟩,by simp only[fU];omega⟩,by rw[sY],rfl⟩
end Go.Vi
namespace Go.Proofs
open Go.Shelf
def Tryz.layS_ren:Ren:=
 ⟨λ
  |189=>57
  |125=>69
  |257=>82
  |128=>98
  |129=>99
  |294=>117
  |295=>118
  |296=>119
  |297=>120
  |298=>121
  |299=>122
  |216=>123
  |300=>124
  |301=>125
  |328=>151
  |329=>127
  |330=>128
  |331=>152
  |332=>153
  |215=>154
  |343=>174
  |n=>n,
 λ
  |28=>24
  |3=>3
  |46=>55
  |0=>0
  |51=>172
  |53=>53
  |4=>4
  |183=>165
  |182=>164
  |131=>169
  |5=>5
  |9=>9
  |218=>209
  |222=>213
  |228=>246
  |229=>109
  |n=>n,
 λn=>n⟩
def Tryz.layC_ren:Ren:=
 ⟨λ
  |41=>52
  |n=>n,
 λ
  |22=>24
  |23=>3
  |4=>4
  |n=>n,
 λn=>n⟩
def Tryz.layD_ren:Ren:=
 ⟨λ
  |45=>147
  |n=>n,
 λ
  |22=>24
  |23=>3
  |3=>3
  |4=>4
  |0=>0
  |n=>n,
 λn=>n⟩
def Tryz.layR_ren:Ren:=
 ⟨λ
  |6=>50
  |15=>69
  |14=>68
  |28=>98
  |29=>99
  |20=>90
  |21=>91
  |22=>92
  |23=>93
  |24=>94
  |25=>95
  |26=>96
  |27=>97
  |46=>126
  |47=>127
  |48=>128
  |49=>129
  |50=>130
  |57=>155
  |n=>n,
 λ
  |22=>30
  |24=>24
  |25=>34
  |3=>3
  |39=>55
  |0=>0
  |53=>172
  |55=>53
  |4=>4
  |46=>165
  |45=>164
  |50=>169
  |5=>5
  |9=>9
  |66=>209
  |70=>213
  |76=>246
  |77=>109
  |n=>n,
 λn=>n⟩
theorem Tryz.layS:Lays.n189 Tryz.prog Tryz.layS_ren:={mixed:=by kernel_rfl,f125:=Tryz.func69.trans (by kernel_rfl),f128:=Tryz.func98.trans (by kernel_rfl),f129:=Tryz.func99.trans (by kernel_rfl),f189:=Tryz.func57.trans (by kernel_rfl),f215:=Tryz.func154.trans (by kernel_rfl),f216:=Tryz.func123.trans (by kernel_rfl),f257:=Tryz.func82.trans (by kernel_rfl),f294:=Tryz.func117.trans (by kernel_rfl),f295:=Tryz.func118.trans (by kernel_rfl),f296:=Tryz.func119.trans (by kernel_rfl),f297:=Tryz.func120.trans (by kernel_rfl),f298:=Tryz.func121.trans (by kernel_rfl),f299:=Tryz.func122.trans (by kernel_rfl),f300:=Tryz.func124.trans (by kernel_rfl),f301:=Tryz.func125.trans (by kernel_rfl),f328:=Tryz.func151.trans (by kernel_rfl),f329:=Tryz.func127.trans (by kernel_rfl),f330:=Tryz.func128.trans (by kernel_rfl),f331:=Tryz.func152.trans (by kernel_rfl),f332:=Tryz.func153.trans (by kernel_rfl),f343:=Tryz.func174.trans (by kernel_rfl),t0:=Tryz.underlying0,a0:=Tryz.isAgg0,z0:=Tryz.sizeOf0,v0:=Tryz.zeroValue0,t3:=Tryz.underlying3,a3:=Tryz.isAgg3,z3:=Tryz.sizeOf3,v3:=Tryz.zeroValue3,t4:=Tryz.underlying4,a4:=Tryz.isAgg4,z4:=Tryz.sizeOf4,v4:=Tryz.zeroValue4,t5:=Tryz.underlying5,a5:=Tryz.isAgg5,z5:=Tryz.sizeOf5,v5:=Tryz.zeroValue5,t9:=Tryz.underlying9,a9:=Tryz.isAgg9,z9:=Tryz.sizeOf9,v9:=Tryz.zeroValue9,t28:=Tryz.underlying24,a28:=Tryz.isAgg24,z28:=Tryz.sizeOf24,v28:=Tryz.zeroValue24,t46:=Tryz.underlying55,a46:=Tryz.isAgg55,z46:=Tryz.sizeOf55,v46:=Tryz.zeroValue55,t51:=Tryz.underlying172,a51:=Tryz.isAgg172,z51:=Tryz.sizeOf172,v51:=Tryz.zeroValue172,t53:=Tryz.underlying53,a53:=Tryz.isAgg53,z53:=Tryz.sizeOf53,v53:=Tryz.zeroValue53,t131:=Tryz.underlying169,a131:=Tryz.isAgg169,z131:=Tryz.sizeOf169,v131:=Tryz.zeroValue169,t182:=Tryz.underlying164,a182:=Tryz.isAgg164,z182:=Tryz.sizeOf164,v182:=Tryz.zeroValue164,t183:=Tryz.underlying165,a183:=Tryz.isAgg165,z183:=Tryz.sizeOf165,v183:=Tryz.zeroValue165,t218:=Tryz.underlying209,a218:=Tryz.isAgg209,z218:=Tryz.sizeOf209,v218:=Tryz.zeroValue209,t222:=Tryz.underlying213,a222:=Tryz.isAgg213,z222:=Tryz.sizeOf213,v222:=Tryz.zeroValue213,t228:=Tryz.underlying246,a228:=Tryz.isAgg246,z228:=Tryz.sizeOf246,v228:=Tryz.zeroValue246,t229:=Tryz.underlying109,a229:=Tryz.isAgg109,z229:=Tryz.sizeOf109,v229:=Tryz.zeroValue109}
theorem Tryz.layC:SlLaysE0.n41 Tryz.prog Tryz.layC_ren:={mixed:=by kernel_rfl,f41:=⟨Tryz.f52.name,by decide,Tryz.func52.trans (by kernel_rfl)⟩,t4:=Tryz.underlying4,a4:=Tryz.isAgg4,z4:=Tryz.sizeOf4,v4:=Tryz.zeroValue4,t22:=Tryz.underlying24,a22:=Tryz.isAgg24,z22:=Tryz.sizeOf24,v22:=Tryz.zeroValue24}
theorem Tryz.layD:SlLaysE.n45 Tryz.prog Tryz.layD_ren:={mixed:=by kernel_rfl,f45:=⟨Tryz.f147.name,by decide,Tryz.func147.trans (by kernel_rfl)⟩,t0:=Tryz.underlying0,a0:=Tryz.isAgg0,z0:=Tryz.sizeOf0,v0:=Tryz.zeroValue0,t3:=Tryz.underlying3,a3:=Tryz.isAgg3,z3:=Tryz.sizeOf3,v3:=Tryz.zeroValue3,t4:=Tryz.underlying4,a4:=Tryz.isAgg4,z4:=Tryz.sizeOf4,v4:=Tryz.zeroValue4,t22:=Tryz.underlying24,a22:=Tryz.isAgg24,z22:=Tryz.sizeOf24,v22:=Tryz.zeroValue24,a23:=Tryz.isAgg3,z23:=Tryz.sizeOf3}
theorem Tryz.layR:SlLaysF.n6 Tryz.prog Tryz.layR_ren:={mixed:=by kernel_rfl,f6:=⟨Tryz.f50.name,by decide,Tryz.func50.trans (by kernel_rfl)⟩,f14:=⟨Tryz.f68.name,by decide,Tryz.func68.trans (by kernel_rfl)⟩,f15:=Tryz.func69.trans (by kernel_rfl),f20:=⟨Tryz.f90.name,by decide,Tryz.func90.trans (by kernel_rfl)⟩,f21:=⟨Tryz.f91.name,by decide,Tryz.func91.trans (by kernel_rfl)⟩,f22:=⟨Tryz.f92.name,by decide,Tryz.func92.trans (by kernel_rfl)⟩,f23:=⟨Tryz.f93.name,by decide,Tryz.func93.trans (by kernel_rfl)⟩,f24:=⟨Tryz.f94.name,by decide,Tryz.func94.trans (by kernel_rfl)⟩,f25:=⟨Tryz.f95.name,by decide,Tryz.func95.trans (by kernel_rfl)⟩,f26:=⟨Tryz.f96.name,by decide,Tryz.func96.trans (by kernel_rfl)⟩,f27:=⟨Tryz.f97.name,by decide,Tryz.func97.trans (by kernel_rfl)⟩,f28:=Tryz.func98.trans (by kernel_rfl),f29:=Tryz.func99.trans (by kernel_rfl),f46:=⟨Tryz.f126.name,by decide,Tryz.func126.trans (by kernel_rfl)⟩,f47:=Tryz.func127.trans (by kernel_rfl),f48:=Tryz.func128.trans (by kernel_rfl),f49:=⟨Tryz.f129.name,by decide,Tryz.func129.trans (by kernel_rfl)⟩,f50:=⟨Tryz.f130.name,by decide,Tryz.func130.trans (by kernel_rfl)⟩,f57:=⟨Tryz.f155.name,by decide,Tryz.func155.trans (by kernel_rfl)⟩,t0:=Tryz.underlying0,a0:=Tryz.isAgg0,z0:=Tryz.sizeOf0,v0:=Tryz.zeroValue0,t3:=Tryz.underlying3,a3:=Tryz.isAgg3,z3:=Tryz.sizeOf3,v3:=Tryz.zeroValue3,t4:=Tryz.underlying4,a4:=Tryz.isAgg4,z4:=Tryz.sizeOf4,v4:=Tryz.zeroValue4,t5:=Tryz.underlying5,a5:=Tryz.isAgg5,z5:=Tryz.sizeOf5,v5:=Tryz.zeroValue5,t9:=Tryz.underlying9,a9:=Tryz.isAgg9,z9:=Tryz.sizeOf9,v9:=Tryz.zeroValue9,t22:=Tryz.underlying30,a22:=Tryz.isAgg30,z22:=Tryz.sizeOf30,v22:=Tryz.zeroValue30,a24:=Tryz.isAgg24,z24:=Tryz.sizeOf24,t25:=Tryz.underlying34,a25:=Tryz.isAgg34,z25:=Tryz.sizeOf34,v25:=Tryz.zeroValue34,t39:=Tryz.underlying55,a39:=Tryz.isAgg55,z39:=Tryz.sizeOf55,v39:=Tryz.zeroValue55,t45:=Tryz.underlying164,a45:=Tryz.isAgg164,z45:=Tryz.sizeOf164,v45:=Tryz.zeroValue164,t46:=Tryz.underlying165,a46:=Tryz.isAgg165,z46:=Tryz.sizeOf165,v46:=Tryz.zeroValue165,t50:=Tryz.underlying169,a50:=Tryz.isAgg169,z50:=Tryz.sizeOf169,v50:=Tryz.zeroValue169,t53:=Tryz.underlying172,a53:=Tryz.isAgg172,z53:=Tryz.sizeOf172,v53:=Tryz.zeroValue172,t55:=Tryz.underlying53,a55:=Tryz.isAgg53,z55:=Tryz.sizeOf53,v55:=Tryz.zeroValue53,t66:=Tryz.underlying209,a66:=Tryz.isAgg209,z66:=Tryz.sizeOf209,v66:=Tryz.zeroValue209,t70:=Tryz.underlying213,a70:=Tryz.isAgg213,z70:=Tryz.sizeOf213,v70:=Tryz.zeroValue213,t76:=Tryz.underlying246,a76:=Tryz.isAgg246,z76:=Tryz.sizeOf246,v76:=Tryz.zeroValue246,t77:=Tryz.underlying109,a77:=Tryz.isAgg109,z77:=Tryz.sizeOf109,v77:=Tryz.zeroValue109}
end Go.Proofs
namespace Go.Proofs
open Go.Shelf Go.RowKit Go.Lib
theorem RL {P:Program} {ρ:Ren} (L:SlLaysE0.n41 P ρ) (i0:TypeInfo) (z:Value) (b g:Nat) (I:P.info? (ρ.t 23)=some i0) (x:i0.zero=some z) (y:i0.size=b) (q:i0.bytes=g) (m:z.cells.size=b) (o:0<b)
  (Q:∀w,(Go.sizeOf (ρ.t 23)).run P w= .ok b w) (p:Addr) (n c:Nat) (d:List Value) (w:World) (K:d.length=n*b) (U:n<=maxLen) (B:n*g<=140737488355328)
  (C:∀j u,d[j]?=some u->w.cell? (p.add j)=some u) (E:∀u∈d,u.oneCell'=true):
  Calls P (ρ.f 41) #[.slice (some p) n c] w λe w'=>∃l,e= .returned l/\w'.ownsRow w.heap.size (ρ.t 23) b l n d/\l≠ .slice none 0 0/\Below w.heap.size w w':=by
 have v:=L.mixed;have W:=L.t4;have V:=L.a4;have T:=L.z4;have S:=L.v4;have i:=L.t22;have N:=L.a22;have O:=L.z22;have H:=L.v22;have G:∀(w:World) (a:Option Addr) (n c r s:Nat),(binOp .eql (ρ.t 22) (.slice a n c) (.slice none r s)).run P w= .ok (.bool a.isNone) w:=λw a n c r s=>Lib.run_eql_slice_nil w _ _ a n c r s L.t22;have F:∀w,Sem.run P (underlying (ρ.t 22)) w= .ok (TypeDesc.slice (ρ.t 23)) w:=run_underlying i;have A:Aside (∀j u,d[j]?=some u->w.cell? (p.add j)=some u):=C;clear C;obtain⟨_,_,M⟩:=L.f41;go_enter M,SlBodyN.n41_ntmps ρ;go_wp2_with (at_builtin;refine wpList_append_own _ rfl _ _ (ρ.t 22) rfl w.heap.size (ρ.t 23) i0 z b g i I x y q m o _ _ _ rfl (World.ownsRow_made w #[] 0 (ν _) (δ4 _) (by simp)) p n c d rfl ?qc1 ?qc2 ?qc3 ?qc4 ?qc5 ?qc6 ?_);case qc1=>exact K
 case qc2=>
  intro j u J;exact Lib.cell?_alloc_some _ (A.out j u J)
 case qc3=>exact E
 case qc4=>omega
 case qc5=>simp_all
 case qc6=>simp
 intro l R D h k;go_wp2;go_ret;refine⟨l,rfl,by omega,?_,?_⟩;·exact k
 ·exact((Below.refl _ w).alloc (ν _) _).grown h (by simp) (by grind[Value.ownBlock])
end Go.Proofs
namespace Go.Vi
open Go.Proofs.YtbnhiekmnpikhaaGreat.Ir
open Go.Proofs
theorem mO (l:List Int):cF (.i .i64) l=l.map λx=>δg (.int .i64 x):=by
 unfold cF;induction l with
 |nil=>rfl;|cons x l a=>rw[List.flatMap_cons,a];rfl
theorem RN {A:dM} {w:World} {σ:bX} {l:List Int} {e:TypeId} (d:bU A w σ [.cells (l.map λx=>δg (.int .i64 x)) e 1 true]) (s:1<=l.length):
  ∃b cap arr,σ=[some (b,cap)]/\cap<=maxLen/\w.heap[b]?=some (.cells arr e (0,0))/\arr.size=cap/\l.length<=cap/\arr.toList.take l.length=l.map (Value.int .i64):=by
 have f:=d.obj 0 _ rfl;simp only[dE] at f;obtain⟨_,_,h|⟨b,cap,arr,a,n,g,r,p,i⟩⟩:=f;·simp_all
 ·have c:=d.len;simp at c;have m:l.length<=arr.size:=by simp_all
  refine⟨b,cap,arr,?_,n,g,by omega,by omega,?_⟩;·match σ,c,a with
   |[x],_,a=>simp_all
  ·apply List.ext_getElem?;intro j;by_cases k:j<l.length
   ·obtain⟨v,o,q⟩:=i j (.sc (.int .i64 l[j])) (by simp[k]);grind[bw]
   simp_all
def dZ (l:List Int):List Int:=l.mergeSort λx y=>decide (x<=y)
theorem rN {l:List Int}:(dZ l).length=l.length:=(δu _ _).length_eq
def AY:dG where
 f:=57;α:=Nat×List Int;put a:=[.ow 0 a.1 1];st a:=[.row (.i .i64) a.2 3 true];dec v o:=match v,o with
  |[.ow 0 n 1],[.row t l 3 true]=>match iH t (.i .i64) l with
   |some l=>some (n,l)
   |_=>none
  |_,_=>none;ok v o a h:=by
  split at h
  ·split at h
   ·rename_i h4;simp only[γ] at h;subst h;obtain⟨rfl,hh⟩:=mJ h4;cases hh;exact⟨rfl,rfl⟩
   ·cases h
  ·cases h
 inj a b e1 e2:=by
  obtain⟨n,l⟩:=a;obtain⟨n',l'⟩:=b;simp only[gL,Γ,γD,εC,true_and] at e1;simp only[gO,π,γr,bq.g,Γ,bR.cells.injEq,and_true,true_and] at e2;have h4:l=l':=by
   have hf:=congrArg γc e2;rw[eY,eY] at hf;exact lA (.i .i64) (by simpa[bp.sz] using hf) e2
  rw[e1.1.1,h4]
 dom a:=a.1=a.2.length/\1<=a.2.length/\a.2.length<=1000000;res _:=.bI [];out a:=[.row (.i .i64) (dZ a.2) 3 true]
theorem h337:ec Tryz.prog AY:=by
 rintro⟨n,l⟩ ⟨E,H,V⟩;simp only at E H V;subst E;refine⟨by kernel_rfl,?_⟩;intro A w F Q q s;have C:∀m:List Int,gO [bq.row (.i .i64) m 3 true]=[bR.cells (m.map λx=>δg (.int .i64 x)) 3 1 true]:=λm=>by
  simp only[gO,π,γr,bq.g,mO];rfl
 have T:gL (AY.put (l.length,l))=[.os 0 0 l.length (l.length*1)]:=rfl;show Calls _ _ _ _ λe h=>∃u p,e= .returned u/\bU A h p (gO [bq.row (.i .i64) (dZ l) 3 true])/\bw A h p (gO [bq.row (.i .i64) (dZ l) 3 true]) (.bI []) u/\Ext w F (gO [bq.row (.i .i64) l 3 true]) h p (gO [bq.row (.i .i64) (dZ l) 3 true]);replace q:bU A w F (gO [bq.row (.i .i64) l 3 true]):=q;replace s:bG A w F (gO [bq.row (.i .i64) l 3 true]) (gL (AY.put (l.length,l))) Q:=s;rw[C] at q s;rw[C,C];rw[T] at s;obtain⟨b,Y,d,rfl,U,L,q4,q5,N⟩:=RN q H;simp only[bG] at s;obtain⟨v,r,rfl,I,rfl⟩:=s;simp only[bw] at I;obtain⟨O,a,y,rfl,a0,B⟩:=I;have K:=B 1 ⟨_,_,_,rfl,by simp⟩;simp only[kE,δo] at K;obtain⟨rfl,rfl⟩:=K.2.1 trivial trivial (by omega);have P:b<w.heap.size:=q.bnd 0 b y rfl;have R:=holds_of_blockI (ss:=l) L N;have S:Calls Tryz.prog (AY).f #[.slice (some ⟨b,0,none⟩) l.length y] w λe h=>e= .returned (.tuple #[])/\∃n z,h=Sort.grow (Sort.putRow (Value.int .i64) (Sort.ahead w n) b 0 (dZ l).toArray) z:=
  calls_of_every_depth λD=>AnyS.slices_Sort_int_in Tryz.layS D b 0 y l w R P (by omega);refine Calls.mono S ?_;rintro e h ⟨rfl,n,z,rfl⟩;have t:=grownBy_sortedI (w:=w) (g:=b) (n:=n) (os:=z) (dZ l).toArray;have W:=heap_sortedI (w:=w) (n:=n) (os:=z) (dZ l).toArray L;have X:=take_putCellsI d (dZ l) (by rw[rN];omega);have hz:(Sort.putCells (Value.int .i64) 0 (dZ l).toArray d).size=d.size:=by simp[Sort.putCells]
 generalize Sort.grow (Sort.putRow (Value.int .i64) (Sort.ahead w n) b 0 (dZ l).toArray) z=h at*;generalize Sort.putCells (Value.int .i64) 0 (dZ l).toArray d=o at*;have hU:=q.upd (w':=h) (id:=0) (x':=.cells ((dZ l).map λx=>δg (.int .i64 x)) 3 1 true) (s':=some (b,y)) rfl t.size t.os t.tape t.output
  (λk M E=>t.block k M λe=>by simp_all) (λb' c' e=>by simp_all)
  ⟨_,_,_,rfl,by simp[rN],λ_=>rfl⟩ ?_;·grind[bw,bG]
 ·intro hx;simp only[dE];refine⟨λ_=>by rw[<-mO];grind[o9],by rw[<-mO];grind[CZ],.inr ⟨b,y,o,rfl,U,W,by omega,by grind[rN],?_⟩⟩;intro j c J;rw[γE] at J;obtain⟨x,G,rfl⟩:=ε.1 J;have Z:=(ζ.1 G).1;refine⟨.int .i64 x,?_,by simp[bw,Value.oneCell']⟩;have h9:(o.toList.take (dZ l).length)[j]?=((dZ l).map (Value.int .i64))[j]?:=by rw[X]
  grind
theorem RO {A:dM} {w:World} {l:List Int} {vs:List Value} {m:FuncId} (n:m=Tryz.layC_ren.f 41) (N:bU A w [] []) (K:l.length<=1000000) (B:bG A w [] [] [.sl l.length (l.map λx=>δg (.int .i64 x))] vs):
  Calls Tryz.prog m vs.toArray w λe w'=>RowKit.Below w.heap.size w w'/\((e= .returned (.slice none 0 0)/\l=[])\/∃g cap c,e= .returned (.slice (some ⟨g,0,none⟩) l.length cap)/\w.heap.size<=g/\w'.heap[g]?=some (.cells c 3 (0,0))/\l.length<=cap/\cap<=maxLen/\c.size=cap/\c.toList.take l.length=l.map (Value.int .i64)):=by
 subst n;simp only[bG] at B;obtain⟨v,r,rfl,t,rfl⟩:=B;simp only[bw] at t;obtain⟨a,cap,rfl,q,_,C⟩:=t;cases a with
 |none=>
  have z:l=[]:=by
   cases l<;>grind[dr]
  grind[Calls.mono,AnyE.slices_Clone_nil,Tryz.layC,RowKit.Below.refl];|some p=>
  have H:∀j u,(l.map (Value.int .i64))[j]?=some u->w.cell? (p.add j)=some u:=by
   intro j u s;rw[γE] at s;obtain⟨x,F,rfl⟩:=ε.1 s;obtain⟨b,v,e,_,o,y⟩:=dr.get _ _ _ C j (.sc (.int .i64 x)) (by simp[F]);grind[bw]
  refine Calls.mono (RL Tryz.layC Tryz.t3 (.int .i64 0) 1 8 (by kernel_rfl) (by kernel_rfl) (by kernel_rfl) (by kernel_rfl) (by kernel_rfl) (by omega) Tryz.sizeOf3 p l.length cap (l.map (Value.int .i64)) w (by simp) (by grind[maxLen]) (by omega) H (by simp[Value.oneCell'])) ?_;rintro e w' ⟨L,rfl,k,E,i⟩;refine⟨i,.inr ?_⟩;obtain⟨_,h|⟨g,d,c,rfl,J,I,D,G,M,O⟩⟩:=k;·simp_all
  ·exact⟨g,d,c,rfl,J,I,D,G,by omega,by simp_all⟩
def AZ:bM:=⟨52,List Int,.one (dL (.i .i64)),λl=>l.length<=1000000,λl=> .row (.i .i64) l⟩
theorem h330:Holds Tryz.prog AZ:=by
 intro(l:List Int) (hl:l.length<=1000000);refine⟨by kernel_rfl,?_⟩;intro A w σ vs hS hR;have hσ:σ=[]:=by have:=hS.len;simpa using this
 subst hσ;have e1:gL (AZ.A.put l)=[.sl l.length (l.map λx=>δg (.int .i64 x))]:=by rw[<-mO];rfl
 have e2:(AZ.res l).G= .sl l.length (l.map λx=>δg (.int .i64 x)):=by rw[<-mO];rfl
 rw[e1] at hR;rw[e2];refine Calls.mono (RO (by rfl) hS hl hR) ?_;rintro e w' ⟨hb,h⟩;have hS':bU A w' [] []:=⟨rfl,by simp,by simp,by simp,by simp,λb h=>γh (hS.jH b h) hb.size⟩;have hE:Ext w [] [] w' [] []:=⟨hb.size,λb h _=>⟨hb.block b h,λ⟨i,c,hi⟩=>by simp at hi⟩,ν _,λ_ _ ⟨_,_,_,_,h,_⟩=>by simp at h,λ_ ⟨_,_,_,h⟩=>by simp at h,hb.os,hb.tape,hb.output⟩;rcases h with⟨rfl,rfl⟩|⟨g,cap,cur,rfl,h1,h2,h3,h4,h5,h6⟩;·exact⟨_,[],rfl,hS',by simp only[bw];exact⟨none,0,rfl,by simp,by rw[<-mO];exact o9 _ _,by simp[dr]⟩,hE⟩
 ·refine⟨_,[],rfl,hS',?_,hE⟩;simp only[bw];refine⟨_,_,rfl,h3,by rw[<-mO];exact o9 _ _,dr.k9 _ _ _ λi c hi=>?_⟩;rw[γE] at hi;obtain⟨x,hx,rfl⟩:=ε.1 hi;have hil:=(ζ.1 hx).1;have h9:(cur.toList.take l.length)[i]?=(l.map (Value.int .i64))[i]?:=by rw[h6]
  rw[List.getElem?_take_of_lt hil,Array.getElem?_toList,γE,hx] at h9;refine⟨⟨g,0,none⟩,.int .i64 x,rfl,⟨λ⟨i,c,hi⟩=>by simp at hi,λhA=>by have:=hS.jH g hA;omega⟩,?_,by simp[bw,Value.oneCell']⟩;rw[Addr.add_lit];simp only[World.cell?,h2,Nat.zero_add,Option.isSome_none,Bool.false_eq_true,if_false];exact h9
def wq:dG where
 f:=52;α:=List Int;put a:=[.row (.i .i64) a];st a:=[];dec v o:=match v,o with
  |[.row t l],[]=>iH t (.i .i64) l
  |_,_=>none;ok v o a h:=by
  split at h
  ·obtain⟨rfl,hh⟩:=mJ h;cases hh;exact⟨rfl,rfl⟩
  ·cases h
 inj a b e1 e2:=by
  simp only[gL,Γ,γD,δ5,and_true] at e1;exact lA (.i .i64) (by simpa using e1.1) e1.2
 dom a:=a.length<=1000000;res a:=.ow 0 a.length 1;out a:=[.row (.i .i64) a 3 true]
theorem h330o:ec Tryz.prog wq:=by
 intro(l:List Int) (E:l.length<=1000000);refine⟨by kernel_rfl,?_⟩;intro A w s G k p;replace k:bU A w s []:=k;replace p:bG A w s [] (gL (wq.put l)) G:=p;have q:s=[]:=by have:=k.len;simp_all
 subst q;have F:gL (wq.put l)=[.sl l.length (l.map λx=>δg (.int .i64 x))]:=by rw[<-mO];rfl
 have B:(wq.res l).g= .os 0 0 l.length (l.length*1):=rfl;have D:gO (wq.out l)=[bR.cells (l.map λx=>δg (.int .i64 x)) 3 1 true]:=by rw[<-mO];rfl
 rw[F] at p;rw[B,D];show Calls _ _ _ _ λe n=>∃u f,e= .returned u/\bU A n f [bR.cells (l.map λx=>δg (.int .i64 x)) 3 1 true]/\bw A n f [bR.cells (l.map λx=>δg (.int .i64 x)) 3 1 true] (.os 0 0 l.length (l.length*1)) u/\Ext w [] [] n f [bR.cells (l.map λx=>δg (.int .i64 x)) 3 1 true];refine Calls.mono (RO (by rfl) k E p) ?_;rintro e n ⟨d,h⟩;have t:tP [bR.cells (l.map λx=>δg (.int .i64 x)) 3 1 true] 0 (l.length*1):=⟨_,_,_,_,rfl,by simp⟩;rcases h with⟨rfl,rfl⟩|⟨g,m,o,rfl,P,z,C,J,O,I⟩
 ·refine⟨_,[none],rfl,⟨rfl,?_,?_,?_,?_,λb h=>γh (k.jH b h) d.size⟩,?_,d.size,λb h _=>⟨d.block b h,?_⟩,δ4 _,λ_ _ ⟨_,_,_,_,h,_⟩=>by simp at h,λ_ ⟨_,_,_,h⟩=>by simp at h,d.os,d.tape,d.output⟩;·grind
  ·grind
  ·intro i x a;cases i with
   |zero=>
    simp at a;subst a;simp only[dE];exact⟨λ_=>rfl,rfl,.inl (by simp)⟩;|succ i=>simp at a
  ·grind
  ·grind[bw,kE]
  ·rintro⟨i,c,a⟩;grind
 ·have L:g<n.heap.size:=(Array.getElem?_eq_some_iff.1 z).1;refine⟨_,[some (g,m)],rfl,⟨rfl,?_,?_,?_,?_,λb h=>γh (k.jH b h) d.size⟩,?_,d.size,λb h _=>⟨d.block b h,?_⟩,δ4 _,λ_ _ ⟨_,_,_,_,h,_⟩=>by simp at h,λ_ ⟨_,_,_,h⟩=>by simp at h,d.os,d.tape,d.output⟩;·grind
  ·grind
  ·intro i x a;cases i with
   |zero=>
    simp at a;subst a;simp only[dE];refine⟨λ_=>by rw[<-mO];grind[o9],by rw[<-mO];grind[CZ],.inr ⟨g,m,o,rfl,J,z,by omega,by simp;omega,?_⟩⟩;intro j c v;rw[γE] at v;obtain⟨x,r,rfl⟩:=ε.1 v;have H:=(ζ.1 r).1;refine⟨.int .i64 x,?_,by simp[bw,Value.oneCell']⟩;have N:(o.toList.take l.length)[j]?=(l.map (Value.int .i64))[j]?:=by rw[I]
    grind;|succ i=>simp at a
  ·intro i b c a;cases i with
   |zero=>
    simp at a;intro K;have:=k.jH b K;omega;|succ i=>simp at a
  ·simp only[bw];refine⟨t,_,_,rfl,C,λM y=>?_⟩;obtain⟨_,_,_,y,_⟩:=y;grind[kE,pK]
  ·rintro⟨i,c,a⟩;grind
def lH (l:List Int) (i j:Nat):List Int:=l.take i++l.drop j++δ (j - i) 0
theorem RP {l:List Int} {i j:Nat} (a:i<=j) (b:j<=l.length):(lH l i j).length=l.length:=by
 grind[lH]
def wt:dG where
 f:=147;α:=(Nat×List Int)×Int×Int;put a:=[.ow 0 a.1.1 1,.si .i64 a.2.1,.si .i64 a.2.2];st a:=[.row (.i .i64) a.1.2 3 true];dec v o:=match v,o with
  |[.ow 0 n 1,x,y],[.row t l 3 true]=>match iH t (.i .i64) l,x.int .i64,y.int .i64 with
   |some l,some i,some j=>some ((n,l),i,j)
   |_,_,_=>none
  |_,_=>none;ok v o a h:=by
  split at h
  ·split at h
   ·rename_i h4 h5 h6;simp only[γ] at h;subst h;obtain⟨rfl,hh⟩:=mJ h4;cases hh;refine⟨?_,rfl⟩;simp only[gL,iP h5,iP h6];rfl
   ·cases h
  ·cases h
 inj a b e1 e2:=by
  obtain⟨⟨n,l⟩,i,j⟩:=a;obtain⟨⟨n',l'⟩,i',j'⟩:=b;simp only[gL,Γ,γD,εC,true_and,and_true,δd,Value.int.injEq] at e1;simp only[gO,π,γr,bq.g,Γ,bR.cells.injEq,and_true,true_and] at e2;have h4:l=l':=by
   have hf:=congrArg γc e2;rw[eY,eY] at hf;exact lA (.i .i64) (by simpa[bp.sz] using hf) e2
  rw[e1.1.1,h4,e1.2.1,e1.2.2]
 dom a:=(a.1.1=a.1.2.length/\1<=a.1.2.length/\a.1.2.length<=1000000)/\0<=a.2.1/\a.2.1<=a.2.2/\a.2.2<=a.1.2.length;res a:=.os 0 0 (a.1.2.length - (a.2.2 - a.2.1).toNat) a.1.1 1;out a:=[.row (.i .i64) (lH a.1.2 a.2.1.toNat a.2.2.toNat) 3 true]
theorem h347:ec Tryz.prog wt:=by
 rintro⟨⟨n,l⟩,i,j⟩ ⟨⟨H,K,h2⟩,i0,ij,Y⟩;simp only at H K h2 i0 ij Y;subst H;obtain⟨i,rfl⟩:∃k:Nat,i=k:=⟨i.toNat,by omega⟩;obtain⟨j,rfl⟩:∃k:Nat,j=k:=⟨j.toNat,by omega⟩;refine⟨by kernel_rfl,?_⟩;intro A w F X t z;have I:∀m:List Int,gO [bq.row (.i .i64) m 3 true]=[bR.cells (m.map λx=>δg (.int .i64 x)) 3 1 true]:=λm=>by
  simp only[gO,π,γr,bq.g,mO];rfl
 have V:gL (wt.put ((l.length,l),(i:Int),(j:Int)))=[.os 0 0 l.length (l.length*1),.sc (.int .i64 i),.sc (.int .i64 j)]:=rfl;have Z:(wt.res ((l.length,l),(i:Int),(j:Int))).g= .os 0 0 (l.length - (j - i)) (l.length*1):=by
  show AV.os 0 (0*1) (l.length - ((j:Int) - (i:Int)).toNat) (l.length*1)=_;simp_all
 show Calls _ _ _ _ λe h=>∃u p,e= .returned u/\bU A h p (gO [bq.row (.i .i64) (lH l i j) 3 true])/\bw A h p (gO [bq.row (.i .i64) (lH l i j) 3 true]) (wt.res ((l.length,l),(i:Int),(j:Int))).g u/\Ext w F (gO [bq.row (.i .i64) l 3 true]) h p (gO [bq.row (.i .i64) (lH l i j) 3 true]);replace t:bU A w F (gO [bq.row (.i .i64) l 3 true]):=t;replace z:bG A w F (gO [bq.row (.i .i64) l 3 true]) (gL (wt.put ((l.length,l),(i:Int),(j:Int)))) X:=z;rw[I] at t z;rw[I,I,Z];rw[V] at z;obtain⟨b,a2,d,rfl,S,Q,q4,q5,q6⟩:=RN t K;simp only[bG] at z;obtain⟨v,r,rfl,M,v2,r2,rfl,C,v3,r3,rfl,D,rfl⟩:=z;simp only[bw] at M C D;obtain⟨a0,a,s,rfl,a3,J⟩:=M;obtain⟨rfl,_⟩:=C;obtain⟨rfl,_⟩:=D;have O:=J 1 ⟨_,_,_,rfl,by simp⟩;simp only[kE,δo] at O;obtain⟨rfl,rfl⟩:=O.2.1 trivial trivial (by omega);have hb:b<w.heap.size:=t.bnd 0 b s rfl;have W:=holds_of_blockI (ss:=l) Q q6;have T:maxLen=9223372036854775807:=rfl;have B:=@RP l i j (by omega) (by omega);have E:Calls Tryz.prog (wt).f #[.slice (some ⟨b,0,none⟩) l.length s,.int .i64 i,.int .i64 j] w λe h=>e= .returned (.slice (some ⟨b,0,none⟩) (l.length - (j - i)) s)/\∃q,h=Sort.putRow (Value.int .i64) (Sort.ahead w q) b 0 (lH l i j).toArray:=by
  exact AnyE.slices_Delete Tryz.layD (Value.int .i64) (λ_=>rfl) 0 Tryz.zeroValue3 Tryz.t3 (by kernel_rfl) (by kernel_rfl) b 0 s i j l.toArray w W (by omega) (by omega) (by omega) (by simp;omega)
 refine Calls.mono E ?_;rintro e h ⟨rfl,q,rfl⟩;have y:=grownBy_sortedI (w:=w) (g:=b) (n:=q) (os:=#[]) (lH l i j).toArray;have L:=heap_sortedI (w:=w) (n:=q) (os:=#[]) (lH l i j).toArray Q;rw[Sort.grow_empty] at y L;have R:=take_putCellsI d (lH l i j) (by omega);have hz:(Sort.putCells (Value.int .i64) 0 (lH l i j).toArray d).size=d.size:=by simp[Sort.putCells]
 generalize Sort.putRow (Value.int .i64) (Sort.ahead w q) b 0 (lH l i j).toArray=h at*;generalize Sort.putCells (Value.int .i64) 0 (lH l i j).toArray d=o at*;have N:=t.upd (w':=h) (id:=0) (x':=.cells ((lH l i j).map λx=>δg (.int .i64 x)) 3 1 true) (s':=some (b,s)) rfl y.size y.os y.tape y.output
  (λk U H=>y.block k U λe=>by simp_all) (λb' c' e=>by simp_all)
  ⟨_,_,_,rfl,by simp[B],λ_=>rfl⟩ ?_
 ·refine⟨_,[some (b,s)],rfl,N.1,?_,N.2⟩;simp only[bw];refine⟨⟨_,_,_,_,rfl,by simp[B]⟩,_,_,rfl,by omega,λsz E=>?_⟩;obtain⟨_,_,_,E,_⟩:=E;grind[kE]
 ·intro hx;simp only[dE];refine⟨λ_=>by rw[<-mO];exact o9 _ _,by rw[<-mO];exact CZ _ _,.inr ⟨b,s,o,rfl,S,L,by omega,by simp_all,?_⟩⟩;intro k c P;rw[γE] at P;obtain⟨x,G,rfl⟩:=ε.1 P;have a1:=(ζ.1 G).1;refine⟨.int .i64 x,?_,by simp[bw,Value.oneCell']⟩;have h9:(o.toList.take (lH l i j).length)[k]?=((lH l i j).map (Value.int .i64))[k]?:=by rw[R]
  grind
structure Game where
 rows:List (List Int)
 bounds:List Int
 offers:List Off
def A0:qB Game where
 put a:=.agg [.row (.bD (.i .i64)) a.rows,.row (.i .i64) a.bounds,.row .off a.offers];dec
  | .agg [r,v,x]=>match jJ (.bD (.i .i64)) r,jJ (.i .i64) v,jJ .off x with
   |some c,some v,some x=>some ⟨c,v,x⟩
   |_,_,_=>none
  |_=>none;ok v a h:=by
  grind[γD,gL,pe]
 inj a b h:=by
  obtain⟨c,v,x⟩:=a;obtain⟨l,k,j⟩:=b;simp only[γD,gL,AV.agg.injEq,Γ,and_true,true_and,δ5] at h;have e:=lA (.bD (.i .i64)) h.1.1 h.1.2;have d:=lA (.i .i64) h.2.1.1 h.2.1.2;have f:=lA .off h.2.2.1 h.2.2.2;rw[e,d,f]
def yk:bM:=⟨61,bn,.one dO,λ_=>True,λp=> .si .i64 (if bz p=0 then df p else 0)⟩
theorem h335:Holds Tryz.prog yk:=by
 refine cH (L:=[po,xX]) yk lk (by grind[h79,h157]) ?_;rintro(p:bn) -;refine bQ (let c:=(0:Int);let b:=decide (bz p≠c);let a:=γg .i64 (if bz p=c then df p else c);True/\(b=true->(γA .i64 0).same a)/\(b=false->p.classes.length<=8/\(γg .i64 (df p)).same a)) (by kernel_rfl) ?_;simp only[vcs];refine⟨λh=>by rw[if_neg h],λh=>?_⟩;have c:bz p=0:=γf.1 h;rw[if_pos c];have:=(dQ c).1;omega
def iC (p:bn) (r:Int) (n:Nat):List Int:=(p.offers.take n).map (dW p r)
def D2:bM:=⟨107,bn×Int,.cons dO (.one (eZ .i64)),λa=>bz a.1=0/\0<=a.2/\a.2<df a.1,λa=> .bI [.row (.i .i64) (iC a.1 a.2 a.1.offers.length),.si .i64 (dm a.1 a.2)]⟩
def ab8 (a:bn×Int):Nat->cC
 |5=> .inv Int (λi=>⟨[(1,.si .i64 a.2),(4,.ow 1 (iC a.1 a.2 i.toNat).length 1),(6,.ptr 2 0 20),(20,.row .off a.1.offers),(21,.si .i64 a.1.offers.length),(22,.si .i64 i)],[.cells a.1.ss 27 20 false,.row (.i .i64) (iC a.1 a.2 i.toNat) 3 true,.cells a.1.ss 87 20 false]⟩)
   (λs=>iS s 22) (λi=>0<=i/\i<=a.1.offers.length) (λi=>(a.1.offers.length - i).toNat) λ_ _=> .look
 |_=> .look
theorem h336:Holds Tryz.prog D2:=by
 refine cH (L:=[yk,xZ,xY]) D2 ab8 (by simpa using⟨h335,h156,h158⟩) ?_;rintro⟨p,r⟩ ⟨hc,r0,r1⟩;simp only at hc r0 r1;refine bQ (let a:=γg .i64;let b:=(0:Int);let c:=Ω;let d:=bq.row;let e:=SV.bI;let f:=γZ;let g:=bp.i .i64;let l:=c bp.off p.offers;let v:=decide (r<b);let o:=γA .i64 0;let w:=[a (dm p r)];let q:=e (c g (iC p r p.offers.length)::w);let y:=decide ((if bz p=b then df p else b)<=r);let m:=γP 2 0 20;let z:=(↑p.offers.length:Int);let h:=(↑p.offers.length:Int);let s:=a h;let n:=λ(u:Nat) ↦let A:=bq.cells [a p.supply.a0,a p.supply.a1,a p.supply.a2,a p.supply.a3,a p.supply.a4,a p.supply.a5,a p.opn.a0,a p.opn.a1,a p.opn.a2,a p.opn.a3,a p.opn.a4,a p.opn.a5,a p.cls.a0,a p.cls.a1,a p.cls.a2,a p.cls.a3,a p.cls.a4,a p.cls.a5,c g p.classes,l] u 20 false;A.same A;(v=true->0=0/\(e [c g [],o]).same q)/\(v=false->True/\(y=true->0=0/\(e [c g [],o]).same q)/\(y=false->((((a r).same (a r)/\(f 1 0 1).same (f 1 (iC p r 0).length 1)/\m.same m/\l.same l/\(a z).same s/\o.same (a 0)/\True)/\n 27/\(d g [] 3 true).same (d g (iC p r 0) 3 true)/\n 87/\True)/\b<=b/\b<=h)/\∀(x:Int),let t:=bj p.offers x.toNat bp.off.dflt;let j:=iC p r x.toNat;let B:=j.length+1;let k:=x+(1:Int);let C:=j++[dW p r t];let D:=a k;b<=x/\x<=h->(decide (x<h)=true->b<=x/\x<z/\x.toNat<p.offers.length/\(p.classes.length<=8/\b<=r/\r<df p/\b<=t.bT/\t.bT<(↑p.classes.length:Int))/\j.length=j.length/\B*8<=140737488355328/\B<=1000000000000/\cq .i64 k/\(((a r).same (a r)/\(f 1 C.length 1).same (f 1 (iC p r k.toNat).length 1)/\m.same m/\l.same l/\s.same s/\D.same D/\True)/\n 27/\(d g C 3 true).same (d g (iC p r k.toNat) 3 true)/\n 87/\True)/\(b<=k/\k<=h)/\(h - k).toNat<(h - x).toNat)/\(decide (x<h)=false->(p.classes.length<=8/\b<=r/\r<df p)/\j.length=j.length/\(e (c g j::w)).same q)))) (by kernel_rfl) ?_;simp only[vcs];obtain⟨g1,g2,g3,g4,g5⟩:=dQ hc;have how:∀{x y:Nat},x=y->(γZ 1 x 1).same (γZ 1 y 1):=by rintro _ _ rfl;rfl
 have hrow:∀{x y:List Int},x=y->(bq.row (.i .i64) x 3 true).same (bq.row (.i .i64) y 3 true):=by rintro _ _ rfl;rfl
 rw[if_pos hc];refine⟨λh=>by omega,λ_=>⟨λh=>by omega,λ_=>⟨⟨?_,by omega,by omega⟩,?_⟩⟩⟩;·exact⟨how rfl,hrow rfl⟩
 ·rintro i ⟨i0,i1⟩;have hL:(iC p r i.toNat).length<=160:=by unfold iC;rw[List.length_map,γw];omega
  refine⟨λhi=>?_,λhi=>?_⟩
  ·have hx:=g5 _ (dq (d:=bp.off.dflt) (show i.toNat<p.offers.length by omega));have e:iC p r (i+1).toNat=iC p r i.toNat++[dW p r (bj p.offers i.toNat bp.off.dflt)]:=by
    unfold iC;rw[jZ (d:=bp.off.dflt) i0 hi,γa];rfl
   rw[e];refine⟨i0,hi,?_,⟨g1,r0,r1,hx.1,hx.2.1⟩,?_,?_,?_,⟨how rfl,hrow rfl⟩,?_,?_⟩<;>omega
  ·rw[show i.toNat=p.offers.length by omega];exact⟨⟨g1,r0,r1⟩,rfl⟩
def me (p:bn) (n:Nat):List (List Int):=(ω n).map λr:Nat=>iC p r p.offers.length
def ko (p:bn) (n:Nat):List Int:=(ω n).map λr:Nat=>dm p r
def nR (p:bn):Nat:=if bz p=0 then p.classes.length+12 else 0
def cQ (p:bn):Game:=⟨me p (nR p),ko p (nR p),p.offers⟩
theorem RR {p:bn} {n:Nat}:(me p n).length=n:=by simp[me]
theorem D3 {p:bn} {n:Nat}:(ko p n).length=n:=by simp[ko]
theorem ab9 {p:bn} {i:Int} (h:0<=i):me p (i+1).toNat=me p i.toNat++[iC p i p.offers.length]:=by
 unfold me;rw[show(i+1).toNat=i.toNat+1 from by omega,εg,γa];grind
theorem acd {p:bn} {i:Int} (h:0<=i):ko p (i+1).toNat=ko p i.toNat++[dm p i]:=by
 unfold ko;rw[show(i+1).toNat=i.toNat+1 from by omega,εg,γa];grind
def D4:bM:=⟨73,bn,.one dO,λ_=>True,λp=>A0.put (cQ p)⟩
def ace (p:bn):Nat->cC
 |3=> .inv Int (λi=>⟨[(1,.ptr 0 0 20),(2,.ptr 1 0 3),(3,.ptr 2 0 3),(11,.si .i64 (nR p)),(12,.si .i64 i)],[.cells p.ss 27 20 false,.cells [.sc (.slice none 0 0),.sc (.slice none 0 0),.sc (.slice none 0 0)] 130 3 false,.cells [.ow 4 (me p i.toNat).length 1,.ow 3 (ko p i.toNat).length 1,.row .off p.offers] 130 3 false,.row (.i .i64) (ko p i.toNat) 3 true,.row (.bD (.i .i64)) (me p i.toNat) 24 false]⟩)
   (λs=>iS s 12) (λi=>0<=i/\i<=nR p) (λi=>(nR p - i).toNat) λ_ _=> .look
 |_=> .look
theorem h325:Holds Tryz.prog D4:=by
 refine cH (L:=[yk,D2]) D4 ace (by grind[h335,h336]) ?_;rintro(p:bn) -;refine bQ (let a:=γg .i64;let b:=bq.row;let h:=(0:Int);let j:=bq.cells;let l:=Ω;let o:=γZ;let y:=γP;let w:=y 0 0 20;let s:=y 1 0 3;let t:=y 2 0 3;let g:=(↑(nR p):Int);let z:=a g;let f:=bp.i .i64;let k:=[l bp.off p.offers];let u:=j (a p.supply.a0::a p.supply.a1::a p.supply.a2::a p.supply.a3::a p.supply.a4::a p.supply.a5::a p.opn.a0::a p.opn.a1::a p.opn.a2::a p.opn.a3::a p.opn.a4::a p.opn.a5::a p.cls.a0::a p.cls.a1::a p.cls.a2::a p.cls.a3::a p.cls.a4::a p.cls.a5::l f p.classes::k) 27 20 false;let A:=SV.sc (Value.slice none 0 0);let v:=j [A,A,A] 130 3 false;True/\(((w.same w/\s.same s/\t.same t/\(a (if bz p=h then df p else h)).same z/\(γA .i64 0).same (a 0)/\True)/\u.same u/\v.same v/\(j (o 4 0 1::o 3 0 1::k) 130 3 false).same (j (o 4 (me p 0).length 1::o 3 (ko p 0).length 1::k) 130 3 false)/\(b f [] 3 true).same (b f (ko p 0) 3 true)/\(b f.bD [] 24 false).same (b f.bD (me p 0) 24 false)/\True)/\h<=h/\h<=g)/\∀(x:Int),let e:=me p x.toNat;let n:=e.length+1;let d:=ko p x.toNat;let m:=d.length+1;let c:=x+(1:Int);let r:=a c;let q:=e++[iC p x p.offers.length];h<=x/\x<=g->(decide (x<g)=true->(bz p=h/\h<=x/\x<df p)/\1=1/\e.length=e.length/\n*24<=140737488355328/\n<=1000000000000/\1=1/\d.length=d.length/\m*8<=140737488355328/\m<=1000000000000/\cq .i64 c/\((w.same w/\s.same s/\t.same t/\z.same z/\r.same r/\True)/\u.same u/\v.same v/\(j (o 4 q.length 1::o 3 (d++[dm p x]).length 1::k) 130 3 false).same (j (o 4 (me p c.toNat).length 1::o 3 (ko p c.toNat).length 1::k) 130 3 false)/\(b f (d++[dm p x]) 3 true).same (b f (ko p c.toNat) 3 true)/\(b f.bD q 24 false).same (b f.bD (me p c.toNat) 24 false)/\True)/\(h<=c/\c<=g)/\(g - c).toNat<(g - x).toNat)/\(decide (x<g)=false->e.length=e.length/\d.length=d.length/\(γQ (l f.bD e::l f d::k)).same (γQ [l f.bD (cQ p).rows,l f (cQ p).bounds,l bp.off (cQ p).offers]))) (by kernel_rfl) ?_;simp only[vcs];have J:∀x:Int,0<=x->x<nR p->bz p=0/\x<df p/\nR p<=20:=by
  intro x H B;unfold nR at B ⊢;split at B
  ·rename_i G;have:=(dQ G).1;simp_all[df]
  ·omega
 have E:(if bz p=0 then df p else 0)=((nR p:Nat):Int):=by
  grind[nR,df]
 have j:∀{a C b D:Nat} {l:List Off},a=C->b=D->(bq.cells [.ow 4 a 1,.ow 3 b 1,.row .off l] 130 3 false).same (.cells [.ow 4 C 1,.ow 3 D 1,.row .off l] 130 3 false):=by rintro _ _ _ _ _ rfl rfl;rfl
 have o:∀{x y:List Int},x=y->(bq.row (.i .i64) x 3 true).same (bq.row (.i .i64) y 3 true):=by rintro _ _ rfl;rfl
 have h:∀{x y:List (List Int)},x=y->(bq.row (.bD (.i .i64)) x 24 false).same (bq.row (.bD (.i .i64)) y 24 false):=by rintro _ _ rfl;rfl
 refine⟨⟨⟨E,j rfl rfl,o rfl,h rfl⟩,by omega,by omega⟩,?_⟩;rintro i ⟨I,K⟩;refine⟨λF=>?_,λF=>?_⟩;·grind[RR,D3,ab9,acd]
 ·rw[show i.toNat=nR p by omega];rfl
def nH (g:Game):Prop:=(g.rows.length=g.bounds.length/\g.bounds.length<=1000/\g.offers.length<=1000)/\(∀r∈g.rows,r.length=g.offers.length/\∀x∈r,0<=x/\x<=1000)/\∀b∈g.bounds, -1000<=b/\b<=1000
def pY (g:Game) (c:List Int):Prop:=∀x∈c,0<=(bj g.offers x.toNat bp.off.dflt).value/\(bj g.offers x.toNat bp.off.dflt).value<=1000000
def px (g:Game) (c:List Int):Prop:=c.length<=1000/\∀x∈c,0<=x/\x<g.offers.length
def mf (g:Game) (c:List Int) (r:Nat):Int:=(c.map λx=>bj (bj g.rows r []) x.toNat 0).sum
def ln (g:Game) (c:List Int):Bool:=(ω g.bounds.length).all λr=>decide (0<=bj g.bounds r 0 - mf g c r)
def dH (g:Game) (c:List Int):Int:=(c.map λx=>(bj g.offers x.toNat bp.off.dflt).value).sum
theorem RS {f:Int->Int} {c:List Int} {i:Int} (a:0<=i) (h:i<c.length):((c.take (i+1).toNat).map f).sum=((c.take i.toNat).map f).sum+f (bj c i.toNat 0):=by
 grind[jZ]
theorem Jh {f:Int->Int} {c:List Int} {k:Nat} {m:Int} (b:0<=m) (h:∀x∈c,0<=f x/\f x<=m):0<=((c.take k).map f).sum/\((c.take k).map f).sum<=c.length*m:=by
 induction c generalizing k with
 |nil=>simp;|cons x c a=>
  cases k with
  |zero=>simp;exact γu (by omega) b;|succ k=>
   have i:=h x (by simp);obtain⟨g,e⟩:=a (k:=k) λy d=>h y (by simp[d]);simp only[δt,π,List.sum_cons,γF];grind
def D5:bM:=⟨78,Game×List Int,.cons A0 (.one (dL (.i .i64))),λa=>nH a.1/\px a.1 a.2,λa=> .sb (ln a.1 a.2)⟩
def acf (g:Game) (c:List Int):Nat->cC
 |2=> .inv Int (λi=>⟨[(1,.row (.i .i64) c),(2,.ptr 0 0 3),(10,.row (.i .i64) g.bounds),(11,.si .i64 g.bounds.length),(12,.si .i64 i)],[.cells [.row (.bD (.i .i64)) g.rows,.row (.i .i64) g.bounds,.row .off g.offers] 130 3 false]⟩)
   (λs=>iS s 12) (λi=>(0<=i/\i<=g.bounds.length)/\∀r:Nat,r<i->0<=bj g.bounds r 0 - mf g c r) (λi=>(g.bounds.length - i).toNat) λi k=>match k with
   |5=> .inv (Int×Int) (λy=>⟨[(1,.row (.i .i64) c),(2,.ptr 0 0 3),(5,.si .i64 i),(6,.si .i64 y.2),(10,.row (.i .i64) g.bounds),(11,.si .i64 g.bounds.length),(12,.si .i64 i),(17,.row (.i .i64) c),(18,.si .i64 c.length),(19,.si .i64 y.1)],[.cells [.row (.bD (.i .i64)) g.rows,.row (.i .i64) g.bounds,.row .off g.offers] 130 3 false]⟩)
     (λs=>(iS s 19,iS s 6)) (λy=>(0<=y.1/\y.1<=c.length)/\y.2=bj g.bounds i.toNat 0 - mf g (c.take y.1.toNat) i.toNat) (λy=>(c.length - y.1).toNat) λ_ _=> .look
   |_=> .look
 |_=> .look
theorem h327:Holds Tryz.prog D5:=by
 refine cH (L:=[]) D5 (λa=>acf a.1 a.2) (by simp) ?_;rintro⟨g,c⟩ ⟨⟨⟨Y,q2,q3⟩,hr,U⟩,O,C⟩;simp only at Y q2 q3 hr U O C;refine bQ (let a:=(0:Int);let d:=γg .i64;let f:=Ω;let h:=γA .i64 0;let j:=cq .i64;let e:=bp.i .i64;let t:=γP 0 0 3;let o:=f e g.bounds;let Q:=(↑g.bounds.length:Int);let q:=(↑g.bounds.length:Int);let z:=d q;let u:=bq.cells [f e.bD g.rows,o,f bp.off g.offers] 130 3 false;let s:=(↑c.length:Int);let I:=d s;((((f e c).same (f e c)/\t.same t/\o.same o/\(d Q).same z/\(h).same (d 0)/\True)/\u.same u/\True)/\(a<=a/\a<=q)/\∀(r:Nat),(↑r:Int)<a->a<=bj g.bounds r a - mf g c r)/\∀(x:Int),let F:=bj g.bounds x.toNat a;let E:=d F;let y:=bj g.rows x.toNat e.bD.dflt;let k:=x+(1:Int);let A:=d k;((a<=x/\x<=q)/\∀(r:Nat),(↑r:Int)<x->a<=bj g.bounds r a - mf g c r)->(decide (x<q)=true->a<=x/\x<Q/\x.toNat<g.bounds.length/\((((f e c).same (f e c)/\t.same t/\(d x).same (d x)/\E.same E/\o.same o/\z.same z/\(d x).same (d x)/\(f e c).same (f e c)/\(d (↑c.length:Int)).same I/\(h).same (d 0)/\True)/\u.same u/\True)/\(a<=a/\a<=s)/\F=F - mf g [] x.toNat)/\∀(b:Int×Int),let p:=bj c b.fst.toNat a;let w:=b.snd - bj y p.toNat a;let l:=b.fst+(1:Int);let n:=d x;let H:=d w;let D:=d l;let G:=decide (b.snd<a);(a<=b.fst/\b.fst<=s)/\b.snd=F - mf g (Δ b.fst.toNat c) x.toNat->(decide (b.fst<s)=true->a<=b.fst/\b.fst<(↑c.length:Int)/\b.fst.toNat<c.length/\a<=x/\x<(↑g.rows.length:Int)/\x.toNat<g.rows.length/\a<=p/\p<(↑y.length:Int)/\p.toNat<y.length/\j w/\j l/\(((f e c).same (f e c)/\t.same t/\n.same n/\H.same H/\o.same o/\z.same z/\n.same n/\(f e c).same (f e c)/\I.same I/\D.same D/\True)/\u.same u/\True)/\((a<=l/\l<=s)/\w=F - mf g (Δ l.toNat c) x.toNat)/\(s - l).toNat<(s - b.fst).toNat)/\(decide (b.fst<s)=false->(G=true->(δf false).same (γx (ln g c)))/\(G=false->j k/\(((f e c).same (f e c)/\t.same t/\o.same o/\z.same z/\A.same A/\True)/\u.same u/\True)/\((a<=k/\k<=q)/\∀(r:Nat),(↑r:Int)<k->a<=bj g.bounds r a - mf g c r)/\(q - k).toNat<(q - x).toNat)))/\(decide (x<q)=false->(δf true).same (γx (ln g c)))) (by kernel_rfl) ?_;simp only[vcs];have hd:(bp.i IntKind.i64).bD.dflt=([]:List Int):=rfl;rw[hd];have M:∀r:Nat,r<g.rows.length->(bj g.rows r []).length=g.offers.length/\∀x∈c,0<=bj (bj g.rows r []) x.toNat 0/\bj (bj g.rows r []) x.toNat 0<=1000:=λr h=>by
  grind[dq]
 refine⟨⟨by omega,λr h=>by omega⟩,?_⟩;rintro i ⟨⟨Z,i1⟩,K⟩;refine⟨λP=>⟨Z,P,by omega,⟨by omega,by simp[mf]⟩,?_⟩,λP=>?_⟩
 ·obtain⟨W,B⟩:=M i.toNat (by omega);have a1:=U _ (dq (d:=0) (show i.toNat<g.bounds.length by omega));rintro⟨j,v⟩ ⟨⟨S,j1⟩,J⟩;simp only at S j1 J ⊢;refine⟨λV=>?_,λV=>?_⟩
  ·have hx:=C _ (dq (d:=0) (show j.toNat<c.length by omega));have hs:mf g (c.take (j+1).toNat) i.toNat=mf g (c.take j.toNat) i.toNat+bj (bj g.rows i.toNat []) (bj c j.toNat 0).toNat 0:=RS (f:=λx=>bj (bj g.rows i.toNat []) x.toNat 0) S V;have X:0<=mf g (c.take j.toNat) i.toNat/\mf g (c.take j.toNat) i.toNat<=c.length*1000:=Jh (f:=λx=>bj (bj g.rows i.toNat []) x.toNat 0) (m:=1000) (by omega) B;have a0:=B _ (dq (d:=0) (show j.toNat<c.length by omega));omega
  ·have N:j.toNat=c.length:=by omega
   rw[N,ψ] at J;refine⟨λR=>?_,λT=>⟨by omega,⟨by omega,λr h=>?_⟩,by omega⟩⟩
   ·symm;rw[<-Bool.not_eq_true,ln,List.all_eq_true];intro h;have:=of_decide_eq_true (h i.toNat (γp.2 (by omega)));omega
   ·by_cases h2:(r:Int)<i;·simp_all
    ·rw[show r=i.toNat by omega,<-J];omega
 grind[ln]
def yl:bM:=⟨75,Game×List Int,.cons A0 (.one (dL (.i .i64))),λa=>nH a.1/\px a.1 a.2/\pY a.1 a.2,λa=> .si .i64 (dH a.1 a.2)⟩
def acg (g:Game) (c:List Int):Nat->cC
 |3=> .inv Int (λi=>⟨[(2,.ptr 0 0 3),(5,.si .i64 (dH g (c.take i.toNat))),(8,.row (.i .i64) c),(9,.si .i64 c.length),(10,.si .i64 i)],[.cells [.row (.bD (.i .i64)) g.rows,.row (.i .i64) g.bounds,.row .off g.offers] 130 3 false]⟩)
   (λs=>iS s 10) (λi=>0<=i/\i<=c.length) (λi=>(c.length - i).toNat) λ_ _=> .look
 |_=> .look
theorem h328:Holds Tryz.prog yl:=by
 refine cH (L:=[]) yl (λa=>acg a.1 a.2) (by simp) ?_;rintro⟨g,c⟩ ⟨⟨⟨D,E,C⟩,B,y⟩,⟨q,l⟩,e⟩;simp only[pY] at D E C B y q l e;refine bQ (let a:=γg .i64;let d:=(0:Int);let e:=Ω;let o:=γP 0 0 3;let v:=γA .i64 0;let j:=bp.i .i64;let b:=(↑c.length:Int);let r:=a b;let n:=bq.cells [e j.bD g.rows,e j g.bounds,e bp.off g.offers] 130 3 false;(((o.same o/\v.same (a (dH g []))/\(e j c).same (e j c)/\(a (↑c.length:Int)).same r/\v.same (a 0)/\True)/\n.same n/\True)/\d<=d/\d<=b)/\∀(x:Int),let p:=bj c x.toNat d;let t:=dH g (Δ x.toNat c);let s:=t+(bj g.offers p.toNat bp.off.dflt).value;let h:=x+(1:Int);let k:=a h;d<=x/\x<=b->(decide (x<b)=true->d<=x/\x<(↑c.length:Int)/\x.toNat<c.length/\d<=p/\p<(↑g.offers.length:Int)/\p.toNat<g.offers.length/\cq .i64 s/\cq .i64 h/\((o.same o/\(a s).same (a (dH g (Δ h.toNat c)))/\(e j c).same (e j c)/\r.same r/\k.same k/\True)/\n.same n/\True)/\(d<=h/\h<=b)/\(b - h).toNat<(b - x).toNat)/\(decide (x<b)=false->(a t).same (a (dH g c)))) (by kernel_rfl) ?_;conv=>zeta
 try simp only[vcs]
 refine⟨⟨by simp[dH],by omega,by omega⟩,?_⟩;rintro i ⟨A,H⟩;refine⟨λu=>?_,λu=>?_⟩
 ·have F:=l _ (dq (d:=0) (show i.toNat<c.length by omega));have G:dH g (c.take (i+1).toNat)=dH g (c.take i.toNat)+(bj g.offers (bj c i.toNat 0).toNat bp.off.dflt).value:=RS (f:=λx=>(bj g.offers x.toNat bp.off.dflt).value) A u;have w:0<=dH g (c.take i.toNat)/\dH g (c.take i.toNat)<=c.length*1000000:=Jh (f:=λx=>(bj g.offers x.toNat bp.off.dflt).value) (m:=1000000) (by omega) e;have z:=e _ (dq (d:=0) (show i.toNat<c.length by omega));omega
 ·rw[show i.toNat=c.length by omega,ψ]
def D6:bM:=⟨77,List Int×List Int,.cons (dL (.i .i64)) (.one (dL (.i .i64))),λa=>a.1.length<=1000/\1<=a.2.length/\a.2.length<=1000,λa=> .row (.i .i64) (dZ (a.1++a.2))⟩
theorem h326:Holds Tryz.prog D6:=by
 refine con (L:=[]) (W:=gP [wq,AY]) D6 lk (lg (by grind[h330o,h337])) (by simp) ?_;rintro⟨s,x⟩ ⟨b,c,d⟩;simp only at b c d;refine bQ (let a:Nat:=(s++x).length;s.length<=1000000/\s.length=s.length/\(s.length+x.length)*8<=140737488355328/\s.length+x.length<=1000000000000/\((s++x).length=a/\1<=a/\a<=1000000)/\(s++x).length=(dZ (s++x)).length/\(Ω (bp.i .i64) (dZ (s++x))).same (Ω (bp.i .i64) (dZ (s++x)))) (by kernel_rfl) ?_;conv=>zeta
 try simp only[vcs]
 grind[rN]
def Ji:bM:=⟨109,List Int×Int,.cons (dL (.i .i64)) (.one (eZ .i64)),λa=>a.1.length<=1000/\0<=a.2/\a.2<a.1.length,λa=> .row (.i .i64) (a.1.take a.2.toNat++a.1.drop (a.2+1).toNat)⟩
theorem h339:Holds Tryz.prog Ji:=by
 refine con (L:=[]) (W:=gP [wq,wt]) Ji lk (lg (by grind[h330o,h347])) (by simp) ?_;rintro⟨s,i⟩ ⟨d,e,f⟩;simp only at d e f;refine bQ (let a:=i+(1:Int);let c:=lH s i.toNat a.toNat;let b:=s.length - (a - i).toNat;s.length<=1000000/\cq .i64 a/\((s.length=s.length/\1<=s.length/\s.length<=1000000)/\(0:Int)<=i/\i<=a/\a<=(↑s.length:Int))/\s.length=c.length/\0+b<=s.length/\(Ω (bp.i .i64) (Δ b c)).same (Ω (bp.i .i64) (Δ i.toNat s++γ7 a.toNat s))) (by kernel_rfl) ?_;conv=>zeta
 try simp only[vcs]
 have g:=@RP s i.toNat (i+1).toNat (by omega) (by omega);refine⟨by omega,by omega,by omega,g.symm,by omega,?_⟩;unfold lH;rw[List.take_append_of_le_length (by grind),γo (by grind)]
def sZ (c:List Int) (x:Int):Int:=if x∈c then(c.idxOf x:Int) else -1
theorem ach {c:List Int} {x:Int} {k:Nat} (h:k<c.length) (b:∀j:Nat,j<k->bj c j 0≠x) (a:bj c k 0=x):sZ c x=k:=by
 unfold sZ;rw[if_pos (a▸dq h)];congr 1;rw[cV h] at a;rw[List.idxOf,List.findIdx_eq h];grind[cV]
theorem aci {c:List Int} {x:Int} (a:∀j:Nat,j<c.length->bj c j 0≠x):sZ c x= -1:=by
 unfold sZ;rw[if_neg];intro h;obtain⟨k,b,rfl⟩:=List.getElem_of_mem h;grind[cV]
theorem acj {c:List Int} {x:Int}:0<=sZ c x↔x∈c:=by
 grind[sZ]
def Jj:bM:=⟨148,List Int×Int,.cons (dL (.i .i64)) (.one (eZ .i64)),λa=>a.1.length<=1000,λa=> .si .i64 (sZ a.1 a.2)⟩
def acn (c:List Int) (x:Int):Nat->cC
 |2=> .inv Int (λi=>⟨[(0,.row (.i .i64) c),(1,.si .i64 x),(7,.si .i64 c.length),(8,.si .i64 i)],[]⟩)
   (λs=>iS s 8) (λi=>(0<=i/\i<=c.length)/\∀k:Nat,(k:Int)<i->bj c k 0≠x) (λi=>(c.length - i).toNat) λ_ _=> .look
 |_=> .look
theorem h348:Holds Tryz.prog Jj:=by
 refine cH (L:=[]) Jj (λa=>acn a.1 a.2) (by simp) ?_;rintro⟨c,x⟩ o;replace o:c.length<=1000:=o;refine bQ (let a:=γg .i64;let h:=(0:Int);let f:=Ω (bp.i .i64) c;let d:=(↑c.length:Int);let g:=a d;let n:=a (sZ c x);(((f.same f/\(a x).same (a x)/\(a (↑c.length:Int)).same g/\(γA .i64 0).same (a 0)/\True)/\True)/\(h<=h/\h<=d)/\∀(k:Nat),(↑k:Int)<h->bj c k h≠x)/\∀(b:Int),let l:=decide (x=bj c b.toNat h);let e:=b+(1:Int);let j:=a x;let m:=a e;((h<=b/\b<=d)/\∀(k:Nat),(↑k:Int)<b->bj c k h≠x)->(decide (b<d)=true->h<=b/\b<(↑c.length:Int)/\b.toNat<c.length/\(l=true->(a b).same n)/\(l=false->cq .i64 e/\((f.same f/\j.same j/\g.same g/\m.same m/\True)/\True)/\((h<=e/\e<=d)/\∀(k:Nat),(↑k:Int)<e->bj c k h≠x)/\(d - e).toNat<(d - b).toNat))/\(decide (b<d)=false->(γA .i64 (-1:Int)).same n)) (by kernel_rfl) ?_;conv=>zeta
 try simp only[vcs]
 refine⟨⟨by omega,λk h=>by omega⟩,?_⟩;grind[ach,aci]
def Jk:bM:=⟨110,List Int×Int,.cons (dL (.i .i64)) (.one (eZ .i64)),λa=>a.1.length<=1000,λa=> .sb (decide (a.2∈a.1))⟩
theorem h340:Holds Tryz.prog Jk:=by
 refine cH (L:=[Jj]) Jk lk (by grind[h348]) ?_;rintro⟨c,x⟩ a;replace a:c.length<=1000:=a;refine bQ (c.length<=1000/\(γx (decide ((0:Int)<=sZ c x))).same (γx (decide (x∈c)))) (by kernel_rfl) ?_;simp_all[acj]
theorem A1 {p:bn} (a:bz p=0) {r:Int}:0<=dm p r/\dm p r<=4:=by
 obtain⟨_,_,b,c,_⟩:=dQ a;unfold dm;split;·omega
 ·split;all_goals simp_all[HT]
theorem RU {p:bn} (h:p.offers.length<=1000):nH (cQ p):=by
 have j:nR p<=20:=by
  unfold nR;split
  ·rename_i a;have:=(dQ a).1;omega
  ·omega
 have d:0<nR p->bz p=0:=by
  grind[nR]
 refine⟨⟨?_,?_,h⟩,λr f=>?_,λb g=>?_⟩
 ·show(me p (nR p)).length=(ko p (nR p)).length;rw[RR,D3]
 ·show(ko p (nR p)).length<=1000;grind[D3]
 ·obtain⟨k,c,rfl⟩:=Ψ.1 (show r∈me p (nR p) from f);rw[γp] at c;have a:=d (by omega);refine⟨by simp[iC,cQ],λx i=>?_⟩;obtain⟨o,e,rfl⟩:=Ψ.1 (show x∈iC p k p.offers.length from i);have:=pT (p:=p) (r:=k) ((dQ a).2.2.2.2 o (γm e)).2.2.1;omega
 ·obtain⟨k,c,rfl⟩:=Ψ.1 (show b∈ko p (nR p) from g);rw[γp] at c;have:=A1 (d (by omega)) (r:=k);omega
def stepG (g:Game) (c:List Int) (x:Int):List Int:=if ln g (dZ (c++[x]))=true then dZ (c++[x]) else c
def oD (g:Game) (l:List Int):List Int:=l.foldl (stepG g) []
def gQ (p:bn):List Int:=if bz p=0 then wo p else[]
def j3 (p:bn):List Int:=oD (cQ p) (gQ p)
theorem D7 {l:List Int} {x:Int}:x∈dZ l↔x∈l:=(δu _ _).mem_iff
theorem RV {g:Game} {c:List Int} {x y:Int} (h:y∈stepG g c x):y∈c\/y=x:=by
 grind[stepG,D7]
theorem aco {g:Game} {c:List Int} {x:Int}:(stepG g c x).length<=c.length+1:=by
 grind[stepG,rN]
theorem RX {g:Game} {l:List Int}:∀{c:List Int} {y:Int},y∈l.foldl (stepG g) c->y∈c\/y∈l:=by
 induction l<;>grind[RV]
theorem acp {g:Game} {l:List Int}:∀{c:List Int},(l.foldl (stepG g) c).length<=c.length+l.length:=by
 induction l<;>grind[stepG,aco]
theorem acr {g:Game} {l:List Int}:(oD g l).length<=l.length:=by
 grind[acp,oD]
theorem acs {g:Game} {l:List Int} {i:Int} (a:0<=i) (h:i<l.length):oD g (l.take (i+1).toNat)=stepG g (oD g (l.take i.toNat)) (bj l i.toNat 0):=by
 grind[oD,jZ]
theorem Jl {p:bn} {x:Int} (h:x∈gQ p):bz p=0/\mM p x:=by
 unfold gQ at h;split at h
 ·rename_i a;rw[wo,I2,jv] at h;exact⟨a,h⟩
 ·simp at h
theorem RY {p:bn}:(gQ p).length<=p.offers.length:=by
 grind[gQ,wo,sY,fU]
theorem acu {p:bn} (d:p.offers.length<=20) {k:Nat}:(oD (cQ p) ((gQ p).take k)).length<=40/\∀x∈oD (cQ p) ((gQ p).take k),bz p=0/\mM p x:=by
 have b:=@acr (cQ p) ((gQ p).take k);have c:=@RY p;rw[γw] at b;refine⟨by omega,λx a=>?_⟩;rcases RX a with h|h<;>grind[RX,Jl]
def A2:bM:=⟨55,bn,.one dO,λp=>p.offers.length<=20,λp=>nA.put ⟨j3 p,dH (cQ p) (j3 p)⟩⟩
def acv (p:bn):Nat->cC
 |4=> .inv Int (λi=>⟨[(2,.ptr 1 0 2),(3,.ptr 2 0 3),(4,.row (.i .i64) (oD (cQ p) ((gQ p).take i.toNat))),(11,.row (.i .i64) (gQ p)),(12,.si .i64 (gQ p).length),(13,.si .i64 i)],[.cells p.ss 27 20 false,.cells [.sc (.slice none 0 0),.il .i64 0] 40 2 false,.cells [.row (.bD (.i .i64)) (cQ p).rows,.row (.i .i64) (cQ p).bounds,.row .off (cQ p).offers] 130 3 false,.dead]⟩)
   (λs=>iS s 13) (λi=>0<=i/\i<=(gQ p).length) (λi=>((gQ p).length - i).toNat) λ_ _=> .look
 |_=> .look
theorem h312:Holds Tryz.prog A2:=by
 refine cH (L:=[D4,Jg,D6,D5,yl]) A2 acv (by simpa using⟨h325,h308,h326,h327,h328⟩) ?_;intro(p:bn) (hp:p.offers.length<=20);refine bQ (let a:=γg .i64;let b:=Ω;let c:=(0:Int);let d:=bq.cells;let j:=γP 1 0 2;let k:=γP 2 0 3;let e:=bp.i .i64;let s:=if bz p=c then wo p else[];let o:=b e (gQ p);let f:=(↑(gQ p).length:Int);let q:=a f;let t:=γA .i64 0;let l:=d [a p.supply.a0,a p.supply.a1,a p.supply.a2,a p.supply.a3,a p.supply.a4,a p.supply.a5,a p.opn.a0,a p.opn.a1,a p.opn.a2,a p.opn.a3,a p.opn.a4,a p.opn.a5,a p.cls.a0,a p.cls.a1,a p.cls.a2,a p.cls.a3,a p.cls.a4,a p.cls.a5,b e p.classes,b bp.off p.offers] 27 20 false;let m:=d [SV.sc (Value.slice none 0 0),t] 40 2 false;let n:=d [b e.bD (cQ p).rows,b e (cQ p).bounds,b bp.off (cQ p).offers] 130 3 false;True/\0=0/\p.offers.length<=20/\(((j.same j/\k.same k/\(b e []).same (b e (oD (cQ p) []))/\(b e s).same o/\(a (↑s.length:Int)).same q/\t.same (a 0)/\True)/\l.same l/\m.same m/\n.same n/\bq.dead.same bq.dead/\True)/\c<=c/\c<=f)/\∀(x:Int),let g:=oD (cQ p) (Δ x.toNat (gQ p));let r:=dZ (g++[bj (gQ p) x.toNat c]);let h:=x+(1:Int);let v:=a h;let w:=λ(u:Bool) (u_1:List Int) ↦ln (cQ p) r=u->cq .i64 h/\((j.same j/\k.same k/\(b e u_1).same (b e (oD (cQ p) (Δ h.toNat (gQ p))))/\o.same o/\q.same q/\v.same v/\True)/\l.same l/\m.same m/\n.same n/\bq.dead.same bq.dead/\True)/\(c<=h/\h<=f)/\(f - h).toNat<(f - x).toNat;c<=x/\x<=f->(decide (x<f)=true->c<=x/\x<(↑(gQ p).length:Int)/\x.toNat<(gQ p).length/\(g.length<=1000/\1<=1/\1<=1000)/\(nH (cQ p)/\px (cQ p) r)/\w true r/\w false g)/\(decide (x<f)=false->(nH (cQ p)/\px (cQ p) g/\pY (cQ p) g)/\(γQ [b e g,a (dH (cQ p) g)]).same (γQ [b e (j3 p),a (dH (cQ p) (j3 p))]))) (by kernel_rfl) ?_;conv=>zeta
 try simp only[vcs]
 have hg:=@RU p (by omega);have hol:=@RY p;have e0:(if bz p=0 then wo p else[])=gQ p:=rfl;rw[e0];refine⟨hp,⟨⟨rfl,rfl,rfl⟩,by omega,by omega⟩,?_⟩
 ·rintro i ⟨i0,i1⟩;obtain⟨hsl,hsm⟩:=@acu p hp i.toNat;refine⟨λhi=>?_,λhi=>?_⟩
  ·have hs:=@acs (cQ p) (gQ p) i i0 hi;have hx:=Jl (dq (d:=0) (show i.toNat<(gQ p).length by omega));rw[hs];generalize oD (cQ p) ((gQ p).take i.toNat)=c at*;refine⟨i0,hi,by omega,⟨by omega,by omega,by omega⟩,⟨hg,by rw[rN,γi];simp;omega,λx h=>?_⟩,λh=>⟨by omega,by unfold stepG;rw[if_pos h],by omega,by omega⟩,λh=>⟨by omega,by unfold stepG;rw[if_neg (by rw[h];simp)],by omega,by omega⟩⟩;rw[D7,γk] at h;rcases h with h|h;·exact(hsm x h).2
   ·rw[List.mem_singleton] at h;rw[h];exact hx.2
  ·have hk:(gQ p).take i.toNat=gQ p:=γo (by omega);rw[hk] at hsl hsm ⊢;refine⟨⟨hg,⟨by omega,λx h=>(hsm x h).2⟩,λx h=>?_⟩,rfl⟩;obtain⟨hc,hx⟩:=hsm x h;have:=(AP hc hx).1;have e:(bj (cQ p).offers x.toNat bp.off.dflt).value=rL p x:=rfl;rw[e];omega
def rO (g:Game):List SV:=[.row (.bD (.i .i64)) g.rows,.row (.i .i64) g.bounds,.row .off g.offers]
def Jm:List SV->Option Game
 |[r,v,x]=>match jJ (.bD (.i .i64)) r,jJ (.i .i64) v,jJ .off x with
  |some c,some v,some x=>some ⟨c,v,x⟩
  |_,_,_=>none
 |_=>none
theorem acw {cs:List SV} {g:Game} (h:Jm cs=some g):gL cs=gL (rO g):=by
 unfold Jm at h;grind[rO,gL,pe]
theorem acy {g a:Game} (h:gL (rO g)=gL (rO a)):g=a:=A0.inj g a (by
 show AV.agg (gL (rO g))=AV.agg (gL (rO a));rw[h])
def nI (g:Game) (v:Int) (c:List Int):Bool:=decide (v<dH g c)&&ln g c
def Jn:dG where
 f:=108;α:=List Int×Game×Int;put a:=[.row (.i .i64) a.1,.ptr 0 0 3,.ptr 1 0 1];st a:=[.cells (rO a.2.1) 130 3 false,.cells [.si .i64 a.2.2] 2 1 false];dec v o:=match v,o with
  |[x,.ptr 0 0 3,.ptr 1 0 1],[.cells cs 130 3 false,.cells [y] 2 1 false]=>match jJ (.i .i64) x,Jm cs,y.int .i64 with
   |some x,some g,some y=>some (x,g,y)
   |_,_,_=>none
  |_,_=>none;ok v o a h:=by
  split at h
  ·split at h
   ·rename_i h1 h2 h3;simp only[γ] at h;subst h;refine⟨by simp only[gL,pe h1],?_⟩;simp only[gO,π,γr,bq.g,acw h2,gL,iP h3];rfl
   ·cases h
  ·cases h
 inj a b h1 h2:=by
  simp only[gL,Γ,and_true,γD,δ5] at h1;simp only[gO,π,γr,bq.g,Γ,bR.cells.injEq,and_true,gL,γD,δd,Value.int.injEq,true_and] at h2;have h3:=acy h2.1;have h4:=lA (.i .i64) h1.1 h1.2;exact εH h4 (εH h3 h2.2)
 dom a:=nH a.2.1/\px a.2.1 a.1/\pY a.2.1 a.1;res a:=.sb (nI a.2.1 a.2.2 a.1);out a:=[.cells (rO a.2.1) 130 3 false,.cells [.si .i64 a.2.2] 2 1 false]
theorem h338:ec Tryz.prog Jn:=by
 refine lB (L:=[D5,yl]) (W:=[]) Jn lk (by simp) (by grind[h327,h328]) ?_;rintro⟨c,g,v⟩ ⟨j,f,h⟩;simp only at j f h;refine bQ (let f:=Ω;let e:=bq.cells [f (bp.i .i64).bD g.rows,f (bp.i .i64) g.bounds,f bp.off g.offers] 130 3 false;let a:=bq.cells [γg .i64 v] 2 1 false;let b:=decide (v<dH g c);let d:=e.same e/\a.same a/\True;(nH g/\px g c/\pY g c)/\(b=true->(nH g/\px g c)/\(γx (ln g c)).same (γx (nI g v c))/\d)/\(b=false->(δf false).same (γx (nI g v c))/\d)) (by kernel_rfl) ?_;simp_all[vcs,nI,decide_eq_false]
def pZ (g:Game) (c:List Int) (v:Int) (a:List Int) (o k:Int):Option (List Int):=if k<=o\/k∈c then none else if nI g v (dZ (a++[o,k]))=true then some (dZ (a++[o,k])) else none
def nJ (g:Game) (c:List Int) (v:Int) (a:List Int) (o:Int):Option (List Int):=if o∈c then none else if nI g v (dZ (a++[o]))=true then some (dZ (a++[o])) else(ω g.offers.length).findSome? λk:Nat=>pZ g c v a o k
def iR (c:List Int) (i:Nat):List Int:=c.take i++c.drop (i+1)
def ym (g:Game) (c:List Int) (v:Int) (i:Nat):Option (List Int):=(ω g.offers.length).findSome? λo:Nat=>nJ g c v (iR c i) o
def jf (g:Game) (c:List Int):Option (List Int):=(ω c.length).findSome? λi=>ym g c (dH g c) i
theorem D8 {n:Nat} {f:Nat->Option (List Int)} (h:∀i,i<n->f i=none):(ω n).findSome? f=none:=by
 simp_all
theorem D9 {n i:Nat} {f:Nat->Option (List Int)} {t:List Int} (c:i<n) (h:∀j,j<i->f j=none) (b:f i=some t):(ω n).findSome? f=some t:=by
 have e:ω n=ω i++(i::(ω (n - (i+1))).map λk=>i+1+k):=by
  have a:=@List.range_add i (n - i);rw[show i+(n - i)=n by omega] at a;rw[a,show n - i=(n - (i+1))+1 by omega,List.range_succ_eq_map];simp only[π,γ3,Nat.add_zero];congr 2;apply γY;grind
 simp_all[D8]
def uF (g:Game):Prop:=nH g/\∀o∈g.offers,0<=o.value/\o.value<=1000000
def Jo:bM:=⟨74,Game×List Int,.cons A0 (.one (dL (.i .i64))),λa=>uF a.1/\(a.2.length<=900/\∀x∈a.2,0<=x/\x<a.1.offers.length),λa=> .bI [.row (.i .i64) ((jf a.1 a.2).getD []),.sb (jf a.1 a.2).isSome]⟩
def Jp (g:Game) (c:List Int):bZ:=[.cells (rO g) 130 3 false,.cells [.si .i64 (dH g c)] 2 1 false]
def acz (g:Game) (c:List Int):Nat->cC
 |4=> .inv Int (λi=>⟨[(1,.row (.i .i64) c),(2,.ptr 0 0 3),(7,.fn (.func 108) [] [.ptr 0 0 3,.ptr 1 0 1]),(19,.si .i64 c.length),(20,.si .i64 i)],Jp g c⟩)
   (λs=>iS s 20) (λi=>(0<=i/\i<=c.length)/\∀k:Nat,(k:Int)<i->ym g c (dH g c) k=none) (λi=>(c.length - i).toNat) λi k=>match k with
   |8=> .inv Int (λo=>⟨[(1,.row (.i .i64) c),(2,.ptr 0 0 3),(7,.fn (.func 108) [] [.ptr 0 0 3,.ptr 1 0 1]),(9,.row (.i .i64) (iR c i.toNat)),(19,.si .i64 c.length),(20,.si .i64 i),(28,.si .i64 g.offers.length),(29,.si .i64 o)],Jp g c⟩)
     (λs=>iS s 29) (λo=>(0<=o/\o<=g.offers.length)/\∀k:Nat,(k:Int)<o->nJ g c (dH g c) (iR c i.toNat) k=none) (λo=>(g.offers.length - o).toNat) λo k=>match k with
     |15=> .inv Int (λz=>⟨[(1,.row (.i .i64) c),(2,.ptr 0 0 3),(7,.fn (.func 108) [] [.ptr 0 0 3,.ptr 1 0 1]),(9,.row (.i .i64) (iR c i.toNat)),(10,.si .i64 o),(12,.si .i64 z),(19,.si .i64 c.length),(20,.si .i64 i),(28,.si .i64 g.offers.length),(29,.si .i64 o)],Jp g c⟩)
       (λs=>iS s 12) (λz=>(o<z/\z<=g.offers.length)/\∀k:Nat,(k:Int)<z->pZ g c (dH g c) (iR c i.toNat) o k=none) (λz=>(g.offers.length - z).toNat) λ_ _=> .look
     |_=> .look
   |_=> .look
 |_=> .look
theorem h331:Holds Tryz.prog Jo:=by
 refine con (L:=[D6,yl,Ji,Jk]) (W:=gP [Jn]) Jo (λa=>acz a.1 a.2) (lg (by simpa using h338)) (by simpa using⟨h326,h328,h339,h340⟩) ?_;rintro⟨g,c⟩ ⟨⟨hg,hv⟩,hcl,hci⟩;simp only at hg hv hcl hci;refine bQ (let a:=γg .i64;let b:=Ω;let d:=(0:Int);let e:=cq .i64;let f:=γA .i64 0;let h:=SV.bI;let j:=(1:Int);let l:=bp.i .i64;let n:=γP 0 0 3;let p:=SV.fn (Fn.func 108) [] [n,γP 1 0 1];let u:=(↑c.length:Int);let s:=a u;let q:=bq.cells [b l.bD g.rows,b l g.bounds,b bp.off g.offers] 130 3 false;let r:=bq.cells [a (dH g c)] 2 1 false;let F:=(↑g.offers.length:Int);let m:=(↑g.offers.length:Int);let v:=a m;let G:=h [b l ((jf g c).getD []),γx (jf g c).isSome];(nH g/\px g c/\pY g c)/\((((b l c).same (b l c)/\n.same n/\p.same p/\(a (↑c.length:Int)).same s/\(f).same (a 0)/\True)/\q.same q/\r.same r/\True)/\(d<=d/\d<=u)/\∀(k:Nat),(↑k:Int)<d->ym g c (dH g c) k=none)/\∀(x:Int),let z:=x+j;let t:=iR c x.toNat;let w:=b l t;let H:=a z;((d<=x/\x<=u)/\∀(k:Nat),(↑k:Int)<x->ym g c (dH g c) k=none)->(decide (x<u)=true->(c.length<=1000/\d<=x/\x<u)/\((((b l c).same (b l c)/\n.same n/\p.same p/\(b l (Δ x.toNat c++γ7 z.toNat c)).same w/\s.same s/\(a x).same (a x)/\(a F).same v/\(f).same (a 0)/\True)/\q.same q/\r.same r/\True)/\(d<=d/\d<=m)/\∀(k:Nat),(↑k:Int)<d->nJ g c (dH g c) t (↑k:Int)=none)/\∀(x_1:Int),let o:=x_1+j;let y:=a x;let A:=a o;let C:=dZ (t++[x_1]);let I:=nI g (dH g c) C;((d<=x_1/\x_1<=m)/\∀(k:Nat),(↑k:Int)<x_1->nJ g c (dH g c) t (↑k:Int)=none)->(decide (x_1<m)=true->c.length<=1000/\(decide (x_1∈c)=true->e o/\(((b l c).same (b l c)/\n.same n/\p.same p/\w.same w/\s.same s/\y.same y/\v.same v/\A.same A/\True)/\q.same q/\r.same r/\True)/\((d<=o/\o<=m)/\∀(k:Nat),(↑k:Int)<o->nJ g c (dH g c) t (↑k:Int)=none)/\(m - o).toNat<(m - x_1).toNat)/\(decide (x_1∈c)=false->(t.length<=1000/\1<=1/\1<=1000)/\(nH g/\px g C/\pY g C)/\(I=true->(h [b l C,δf true]).same G)/\(I=false->e o/\((((b l c).same (b l c)/\n.same n/\p.same p/\w.same w/\(a x_1).same (a x_1)/\A.same A/\s.same s/\y.same y/\v.same v/\(a x_1).same (a x_1)/\True)/\q.same q/\r.same r/\True)/\(x_1<o/\o<=m)/\∀(k:Nat),(↑k:Int)<o->pZ g c (dH g c) t x_1 (↑k:Int)=none)/\∀(x:Int),let B:=x+j;let D:=a x_1;let J:=a B;let E:=dZ (t++[x_1,x]);let K:=nI g (dH g c) E;let L:=e B/\(((b l c).same (b l c)/\n.same n/\p.same p/\w.same w/\D.same D/\J.same J/\s.same s/\y.same y/\v.same v/\D.same D/\True)/\q.same q/\r.same r/\True)/\((x_1<B/\B<=m)/\∀(k:Nat),(↑k:Int)<B->pZ g c (dH g c) t x_1 (↑k:Int)=none)/\(m - B).toNat<(m - x).toNat;((x_1<x/\x<=m)/\∀(k:Nat),(↑k:Int)<x->pZ g c (dH g c) t x_1 (↑k:Int)=none)->(decide (x<F)=true->c.length<=1000/\(decide (x∈c)=true->L)/\(decide (x∈c)=false->(t.length<=1000/\1<=2/\2<=1000)/\(nH g/\px g E/\pY g E)/\(K=true->(h [b l E,δf true]).same G)/\(K=false->L)))/\(decide (x<F)=false->e o/\(((b l c).same (b l c)/\n.same n/\p.same p/\w.same w/\s.same s/\y.same y/\v.same v/\A.same A/\True)/\q.same q/\r.same r/\True)/\((d<=o/\o<=m)/\∀(k:Nat),(↑k:Int)<o->nJ g c (dH g c) t (↑k:Int)=none)/\(m - o).toNat<(m - x_1).toNat))))/\(decide (x_1<m)=false->e z/\(((b l c).same (b l c)/\n.same n/\p.same p/\s.same s/\H.same H/\True)/\q.same q/\r.same r/\True)/\((d<=z/\z<=u)/\∀(k:Nat),(↑k:Int)<z->ym g c (dH g c) k=none)/\(u - z).toNat<(u - x).toNat))/\(decide (x<u)=false->(h [b l [],δf false]).same G)) (by kernel_rfl) ?_;conv=>zeta
 try simp only[vcs]
 have RZ:∀d:List Int,(∀x∈d,0<=x/\x<g.offers.length)->pY g d:=λd hd x hx=>hv _ (dq (by have:=hd x hx;omega));have hout:∀i:Nat,(iR c i).length<=900/\∀x∈iR c i,x∈c:=λi=>by
  unfold iR;refine⟨by rw[γi,γw,List.length_drop];omega,λx hx=>?_⟩;rw[γk] at hx;exact hx.elim γm γU
 have hnew:∀(i:Nat) (d:List Int),d.length<=2->(∀x∈d,0<=x/\x<g.offers.length)->nH g/\px g (dZ (iR c i++d))/\pY g (dZ (iR c i++d)):=λi d hd hx=>by
  have h2:∀x∈dZ (iR c i++d),0<=x/\x<g.offers.length:=λx h=>by
   rw[D7,γk] at h;exact h.elim (λh=>hci x ((hout i).2 x h)) (hx x)
  have:=(hout i).1;exact⟨hg,⟨by rw[rN,γi];omega,h2⟩,RZ _ h2⟩
 have hg1:=hg.1;refine⟨⟨hg,⟨by omega,hci⟩,RZ c hci⟩,⟨by omega,λk h=>by omega⟩,?_⟩;rintro i ⟨⟨i0,i1⟩,hi⟩;refine⟨λhil=>⟨⟨by omega,i0,hil⟩,⟨by unfold iR;rw[show(i+1).toNat=i.toNat+1 by omega],by omega,λk h=>by omega⟩,?_⟩,λhil=>?_⟩
 ·have ho:=hout i.toNat;have found:∀t,ym g c (dH g c) i.toNat=some t->jf g c=some t:=λt ht=>D9 (i:=i.toNat) (by omega) (λj hj=>hi j (by omega)) ht;rintro o ⟨⟨o0,o1⟩,hk⟩;refine⟨λhol=>⟨by omega,λhin=>⟨by omega,⟨by omega,λk h=>?_⟩,by omega⟩,λhin=>⟨by omega,hnew _ _ (by simp) (by simp;omega),λhb=>?_,λhb=>⟨by omega,⟨by omega,λk h=>?_⟩,?_⟩⟩⟩,λhol=>⟨by omega,⟨by omega,λk h=>?_⟩,by omega⟩⟩
  ·by_cases h2:(k:Int)<o;·exact hk k h2
   ·rw[show(k:Int)=o by omega];unfold nJ;rw[if_pos hin]
  ·have h2:nJ g c (dH g c) (iR c i.toNat) o=some (dZ (iR c i.toNat++[o])):=by
    unfold nJ;rw[if_neg hin,if_pos hb]
   have h3:=found _ (D9 (f:=λo:Nat=>nJ g c (dH g c) (iR c i.toNat) o) (i:=o.toNat) (by omega) (λj hj=>hk j (by omega)) (by simp only[show((o.toNat:Nat):Int)=o by omega];exact h2));rw[h3];exact⟨rfl,rfl⟩
  ·unfold pZ;rw[if_pos (.inl (by omega))]
  ·rintro z ⟨⟨z0,z1⟩,hz⟩;refine⟨λhzl=>⟨by omega,λhin2=>⟨by omega,⟨by omega,λk h=>?_⟩,by omega⟩,λhin2=>⟨by omega,hnew _ _ (by simp) (by simp;omega),λhb2=>?_,λhb2=>⟨by omega,⟨by omega,λk h=>?_⟩,by omega⟩⟩⟩,λhzl=>⟨by omega,⟨by omega,λk h=>?_⟩,by omega⟩⟩
   ·by_cases h2:(k:Int)<z;·exact hz k h2
    ·rw[show(k:Int)=z by omega];unfold pZ;rw[if_pos (.inr hin2)]
   ·have h4:¬z<=o:=by omega
    have h5:pZ g c (dH g c) (iR c i.toNat) o z=some (dZ (iR c i.toNat++[o,z])):=by
     unfold pZ;rw[if_neg (λh=>h.elim h4 hin2),if_pos hb2]
    have h2:nJ g c (dH g c) (iR c i.toNat) o=some (dZ (iR c i.toNat++[o,z])):=by
     unfold nJ;rw[if_neg hin,if_neg (by rw[hb];simp)];exact D9 (f:=λk:Nat=>pZ g c (dH g c) (iR c i.toNat) o k) (i:=z.toNat) (by omega) (λj hj=>hz j (by omega)) (by simp only[show((z.toNat:Nat):Int)=z by omega];exact h5)
    have h3:=found _ (D9 (f:=λo:Nat=>nJ g c (dH g c) (iR c i.toNat) o) (i:=o.toNat) (by omega) (λj hj=>hk j (by omega)) (by simp only[show((o.toNat:Nat):Int)=o by omega];exact h2));rw[h3];exact⟨rfl,rfl⟩
   ·by_cases h2:(k:Int)<z;·exact hz k h2
    ·rw[show(k:Int)=z by omega];unfold pZ;rw[hb2];simp
   ·by_cases h2:(k:Int)<o;·exact hk k h2
    ·rw[show(k:Int)=o by omega];unfold nJ;rw[if_neg hin,if_neg (by rw[hb];simp)];exact D8 λj hj=>hz j (by omega)
  ·by_cases h2:(k:Int)<i;·exact hi k h2
   ·rw[show k=i.toNat by omega];exact D8 λj hj=>hk j (by omega)
 ·have:jf g c=none:=D8 λj hj=>hi j (by omega);rw[this];exact⟨rfl,rfl⟩
def eL (n:Nat) (c:List Int):Prop:=c.Pairwise (·<·)/\∀x∈c,0<=x/\x<n
theorem Jq {n:Nat}:∀{c:List Int} {a:Int},a<=n->c.Pairwise (·<·)->(∀x∈c,a<=x/\x<n)->(c.length:Int)<=n - a
 |[],a,e,_,_=>by simp;omega;|x::c,a,e,h,b=>by
  have f:=b x (by simp);rw[γB] at h;have:=@Jq n c (x+1) (by omega) h.2 λy d=>⟨by grind,(b y (by simp[d])).2⟩;grind
theorem s7 {n:Nat} {c:List Int} (h:eL n c):c.length<=n:=by
 have:=Jq (n:=n) (a:=0) (by omega) h.1 h.2;omega
theorem Jr {n:Nat} {c:List Int} (f:c.Nodup) (e:∀x∈c,0<=x/\x<n):eL n (dZ c):=by
 refine⟨?_,λx i=>e x (D7.1 i)⟩;have g:(dZ c).Pairwise (·<=·):=by
  have:=List.pairwise_mergeSort (le:=λx y:Int=>decide (x<=y)) (λa b d f e=>by grind) (λa b=>by simp;omega) c;exact this.imp λh=>of_decide_eq_true h
 have j:(dZ c).Pairwise (·≠·):=(δu _ _).symm.nodup f;exact(g.and j).imp λh=>by omega
theorem A4 {n:Nat} {c:List Int} (h:eL n c):c.Nodup:=h.1.imp λh=>by omega
theorem R1 {c:List Int} {i:Nat}:(iR c i).Sublist c:=by
 unfold iR;rw[List.drop_add_one_eq_tail_drop];have:=(List.Sublist.refl (c.take i)).append (List.tail_sublist (c.drop i));simp_all
theorem yn {g:Game} {c t:List Int} (h:jf g c=some t) (d:eL g.offers.length c):nI g (dH g c) t=true/\eL g.offers.length t:=by
 obtain⟨i,l,h⟩:=δX h;obtain⟨o,m,h⟩:=δX h;rw[γp] at l m;have f:(iR c i).Nodup:=(A4 d).sublist R1;have b:∀x∈iR c i,x∈c:=λx a=>R1.subset a;unfold nJ at h;split at h;·cases h
 ·rename_i p;split at h
  ·rename_i e;injection h with h;subst h;refine⟨e,Jr ?_ λx a=>?_⟩;·grind
   ·rw[γk] at a;rcases a with a|a;·exact d.2 x (b x a)
    simp_all
  ·obtain⟨k,j,h⟩:=δX h;rw[γp] at j;unfold pZ at h;split at h;·cases h
   ·rename_i n;split at h
    ·rename_i e;injection h with h;subst h;refine⟨e,Jr ?_ λx a=>?_⟩;·grind
     ·rw[γk] at a;rcases a with a|a;·exact d.2 x (b x a)
      grind
    ·cases h
def mg (g:Game):Nat->List Int->List Int
 |0,c=>c
 |n+1,c=>match jf g c with
  |some t=>mg g n t
  |none=>c
def kM (g:Game) (c:List Int):List Int:=mg g (1000000000 - dH g c).toNat c
theorem rP {g:Game} (a:uF g) {c:List Int} (h:eL g.offers.length c):0<=dH g c/\dH g c<=1000000000:=by
 have d:=Jh (f:=λx=>(bj g.offers x.toNat bp.off.dflt).value) (c:=c) (k:=c.length) (m:=1000000) (by omega) λx b=>a.2 _ (dq (by have:=h.2 x b;omega));rw[ψ] at d;have e:=s7 h;have i:=a.1.1.2.2;grind[dH]
theorem acA {g:Game} (d:uF g):∀{n m:Nat} {c:List Int},eL g.offers.length c->(1000000000 - dH g c).toNat<=n->(1000000000 - dH g c).toNat<=m->mg g n c=mg g m c:=by
 intro n;induction n with
 |zero=>
  intro m c a k j;have h:=rP d a;cases m with
  |zero=>rfl;|succ m=>
   unfold mg;cases f:jf g c with
   |none=>rfl;|some t=>
    obtain⟨b,e⟩:=yn f a;have i:=rP d e;unfold nI at b;grind
 |succ n l=>
  intro m c a k j;have h:=rP d a;cases f:jf g c with
  |none=>
   cases m<;>grind[mg];|some t=>
   obtain⟨b,e⟩:=yn f a;have i:=rP d e;unfold nI at b;simp only[θ,decide_eq_true_eq] at b;cases m<;>grind[mg]
theorem acB {g:Game} (d:uF g) {c t:List Int} (b:eL g.offers.length c) (h:jf g c=some t):kM g c=kM g t:=by
 obtain⟨a,e⟩:=yn h b;have f:=rP d b;have i:=rP d e;unfold nI at a;simp only[θ,decide_eq_true_eq] at a;unfold kM;rw[show(1000000000 - dH g c).toNat=((1000000000 - dH g c).toNat - 1)+1 by omega];grind[mg,acA]
theorem R7 {g:Game} {c:List Int} (h:jf g c=none):kM g c=c:=by
 unfold kM;generalize (1000000000 - dH g c).toNat=n;cases n<;>grind[mg]
def acC (p:bn) (c:List Int):Prop:=bz p=0/\eL p.offers.length c
theorem R9 {p:bn} (c:bz p=0):uF (cQ p):=by
 have a:=dQ c;refine⟨RU (by have:=a.2.1;omega),λo b=>?_⟩;have:=a.2.2.2.2 o b;omega
theorem Js {l:List Off}:∀{c:List Int} {a:Int}, -1<=a->(eU l a c).isSome=true->c.Pairwise (·<·)/\∀x∈c,a<x/\x<l.length
 |[],a,_,_=>⟨δH,by simp⟩
 |i::c,a,f,h=>by
  simp only[eU] at h;split at h;·simp at h
  ·rename_i g;rw[Option.isSome_map] at h;obtain⟨d,e⟩:=@Js l c i (by omega) h;refine⟨γB.2 ⟨λx b=>(e x b).1,d⟩,λx b=>?_⟩;grind
theorem uG {p:bn} {c:List Int} (h:di p c=0):acC p c:=by
 unfold di at h;split at h;·omega
 ·rename_i b;split at h;·cases h
  ·rename_i d;have a:=@Js p.offers c (-1) (by omega) (by grind[jd]);exact⟨γf.1 b,a.1,λx e=>by grind⟩
def gB (p:bn) (c:List Int):Alloc:=if di p c=0 then⟨kM (cQ p) c,dH (cQ p) (kM (cQ p) c)⟩ else⟨[],0⟩
def A5:bM:=⟨54,bn×Alloc,.cons dO (.one nA),λa=>a.2.chosen.length<=9223372036854775807,λa=>nA.put (gB a.1 a.2.chosen)⟩
def acD (p:bn) (a:Alloc):Nat->cC
 |6=> .inv (List Int×List Int×Bool) (λx=>⟨[(4,.ptr 2 0 2),(5,.ptr 3 0 3),(6,.row (.i .i64) x.1),(7,.row (.i .i64) x.2.1),(8,.sb x.2.2)],[.cells p.ss 27 20 false,.cells [.row (.i .i64) a.chosen,.si .i64 a.value] 40 2 false,.cells [.sc (.slice none 0 0),.il .i64 0] 40 2 false,.cells (rO (cQ p)) 130 3 false]⟩)
   (λs=>(rS (.i .i64) s 6,rS (.i .i64) s 7,bS s 8)) (λx=>eL p.offers.length x.1/\(x.2.1=(jf (cQ p) x.1).getD []/\x.2.2=(jf (cQ p) x.1).isSome)/\kM (cQ p) x.1=kM (cQ p) a.chosen) (λx=>(1000000000 - dH (cQ p) x.1).toNat) λ_ _=> .look
 |_=> .look
theorem h315:Holds Tryz.prog A5:=by
 refine cH (L:=[ya,D4,AZ,Jo,yl]) A5 (λa=>acD a.1 a.2) (by simpa using⟨h100,h325,h330,h331,h328⟩) ?_;rintro⟨p,⟨c,v⟩⟩ hl;replace hl:c.length<=9223372036854775807:=hl;refine bQ (let a:=γg .i64;let b:=Ω;let d:=bq.cells;let e:=(1000000000:Int);let f:=(0:Int);let g:=γx;let h:=γQ;let y:=decide (di p c≠f);let j:=bp.i .i64;let z:=[γA .i64 0];let A:=h [b j (gB p c).chosen,a (gB p c).value];let l:=γP 2 0 2;let m:=γP 3 0 3;let n:=(jf (cQ p) c).getD [];let o:=(jf (cQ p) c).isSome;let q:=d [a p.supply.a0,a p.supply.a1,a p.supply.a2,a p.supply.a3,a p.supply.a4,a p.supply.a5,a p.opn.a0,a p.opn.a1,a p.opn.a2,a p.opn.a3,a p.opn.a4,a p.opn.a5,a p.cls.a0,a p.cls.a1,a p.cls.a2,a p.cls.a3,a p.cls.a4,a p.cls.a5,b j p.classes,b bp.off p.offers] 27 20 false;let r:=d [b j c,a v] 40 2 false;let s:=d (SV.sc (Value.slice none 0 0)::z) 40 2 false;let t:=d [b j.bD (cQ p).rows,b j (cQ p).bounds,b bp.off (cQ p).offers] 130 3 false;let w:=p.offers.length;let u:=kM (cQ p) c;c.length<=9223372036854775807/\(y=true->(h (b j []::z)).same A)/\(y=false->True/\c.length<=1000000/\(uF (cQ p)/\c.length<=900/\∀(x:Int),x∈c->f<=x/\x<(↑(cQ p).offers.length:Int))/\(((l.same l/\m.same m/\(b j c).same (b j c)/\(b j n).same (b j n)/\(g o).same (g o)/\True)/\q.same q/\r.same r/\s.same s/\t.same t/\True)/\eL w c/\(n=n/\o=o)/\u=u)/\∀(x:List Int×List Int×Bool),let k:=jf (cQ p) x.snd.fst;let B:=b j (k.getD []);let C:=dH (cQ p) x.fst;eL w x.fst/\(x.snd.fst=(jf (cQ p) x.fst).getD []/\x.snd.snd=(jf (cQ p) x.fst).isSome)/\kM (cQ p) x.fst=u->(x.snd.snd=true->(uF (cQ p)/\x.snd.fst.length<=900/\∀(x_1:Int),x_1∈x.snd.fst->f<=x_1/\x_1<(↑(cQ p).offers.length:Int))/\((l.same l/\m.same m/\(b j x.snd.fst).same (b j x.snd.fst)/\B.same B/\(g k.isSome).same (g k.isSome)/\True)/\q.same q/\r.same r/\s.same s/\t.same t/\True)/\(eL w x.snd.fst/\(k.getD []=k.getD []/\k.isSome=k.isSome)/\kM (cQ p) x.snd.fst=u)/\(e - dH (cQ p) x.snd.fst).toNat<(e - C).toNat)/\(x.snd.snd=false->(nH (cQ p)/\px (cQ p) x.fst/\pY (cQ p) x.fst)/\(h [b j x.fst,a C]).same A))) (by kernel_rfl) ?_;conv=>zeta
 try simp only[vcs]
 refine⟨by omega,λh=>by simp only[gB,if_neg h];rfl,λh=>?_⟩;have hf:di p c=0:=γf.1 h;obtain⟨hc,ha⟩:=uG hf;have hg:=R9 hc;have h160:=(dQ hc).2.1;have hval:∀d,eL p.offers.length d->nH (cQ p)/\px (cQ p) d/\pY (cQ p) d:=λd hd=>by
  have h1:=s7 hd;exact⟨hg.1,⟨by omega,hd.2⟩,λx hx=>hg.2 _ (dq (by have:=hd.2 x hx;show x.toNat<p.offers.length;omega))⟩
 have hlen:=s7 ha;refine⟨by omega,⟨hg,by omega,ha.2⟩,ha,?_⟩;rintro⟨d,t,b⟩ ⟨hd,⟨ht,hb⟩,hi⟩;simp only at hd ht hb hi ⊢;have hdl:=s7 hd;refine⟨λhbt=>?_,λhbf=>?_⟩
 ·rw[hbt] at hb;obtain⟨t',he⟩:=Option.isSome_iff_exists.1 hb.symm;rw[he] at ht;simp only[Option.getD_some] at ht;subst ht;obtain⟨h1,h2⟩:=yn he hd;have h3:=s7 h2;have h3':t.length<=p.offers.length:=h3;have hb2:=rP hg h2;have hb1:=rP hg (c:=d) hd;unfold nI at h1;simp only[θ,decide_eq_true_eq] at h1;exact⟨⟨hg,by omega,h2.2⟩,⟨h2,by rw[<-acB hg hd he];exact hi⟩,by omega⟩
 ·rw[hbf] at hb;have he:jf (cQ p) d=none:=by
   cases hh:jf (cQ p) d with
   |none=>rfl;|some t=>rw[hh] at hb;cases hb
  refine⟨hval d hd,?_⟩;have h1:kM (cQ p) c=d:=by rw[<-hi,R7 he]
  simp only[gB,if_pos hf,h1];rfl
theorem Si {l:List Off}:∀{c:List Int} {a:Int}, -1<=a->c.Pairwise (·<·)->(∀x∈c,a<x/\x<l.length)->eU l a c=some (c.map λx=>bj l x.toNat bp.off.dflt)
 |[],_,_,_,_=>rfl
 |i::c,a,f,h,d=>by
  rw[γB] at h;have e:=d i (by simp);simp only[eU];rw[if_neg (by omega),@Si l c i (by omega) h.2 λx b=>⟨h.1 x b,(d x (by simp[b])).2⟩];rfl
theorem Ea {p:bn} {c:List Int} (h:eL p.offers.length c):eU p.offers (-1) c=some (c.map (oI p)):=Si (by omega) h.1 λx a=>by have:=h.2 x a;omega
theorem Jt {p:bn} (l:bz p=0) {c:List Int} (h:eL p.offers.length c):di p c=0↔ln (cQ p) c=true:=by
 have k:=Ea h;have n:jd p c=true:=by grind[jd]
 have i:eI p c=c.map (oI p):=by grind[eI]
 have m:gl p (c.map (oI p))=ln (cQ p) c:=by
  have f:nR p=p.classes.length+12:=by simp_all[nR]
  have g:(cQ p).bounds.length=p.classes.length+12:=by show(ko p (nR p)).length=_;rw[D3,f]
  unfold gl ln;rw[g];have d:∀r:Nat,r<p.classes.length+12->bj (cQ p).bounds r 0=dm p r/\mf (cQ p) c r=cY p (c.map (oI p)) r:=λr j=>by
   refine⟨?_,?_⟩
   ·show bj (ko p (nR p)) r 0=_;grind[cV,ko]
   ·have a:bj (cQ p).rows r []=iC p r p.offers.length:=by
     show bj (me p (nR p)) r []=_;grind[cV,me]
    unfold mf cY;rw[a,γ3];congr 1;refine γY λx b=>?_;have:=h.2 x b;have e:x.toNat<p.offers.length:=by omega
    show bj (iC p r p.offers.length) x.toNat 0=dW p r (bj p.offers x.toNat bp.off.dflt);grind[cV,iC]
  grind
 simp_all[di]
theorem acE {p:bn} (d:bz p=0) {c:List Int} (h:eL p.offers.length c):ef p c=dH (cQ p) c:=by
 have a:eI p c=c.map (oI p):=by grind[eI,Ea]
 unfold ef;rw[if_pos d,a];clear h a;induction c with
 |nil=>rfl;|cons x c b=>
  have e:dH (cQ p) (x::c)=(oI p x).value+dH (cQ p) c:=by simp[dH];rfl
  rw[e,<-b];rfl
theorem Sj {g:Game} {n:Nat}:∀{l c:List Int},eL n c->l.Nodup->(∀x∈l,x∉c/\0<=x/\x<n)->eL n (l.foldl (stepG g) c)
 |[],c,b,_,_=>b
 |x::l,c,b,e,d=>by
  rw[γW] at e;have i:=d x (by simp);have f:eL n (stepG g c x):=by
   unfold stepG;split
   ·refine Jr ?_ λy a=>?_;·grind[A4]
    ·rw[γk] at a;rcases a with a|a;·exact b.2 y a
     simp_all
   ·exact b
  show eL n (l.foldl (stepG g) (stepG g c x));refine Sj f e.2 λy a=>⟨λh=>?_,(d y (by simp[a])).2⟩;grind[RV]
theorem acF {p:bn}:(gQ p).Nodup:=by
 unfold gQ;split;·exact(AO (D:=fE p) (l:=cG p.offers.length)).symm.nodup (rM.imp λh=>by omega)
 simp_all
theorem acG {p:bn} {k:Nat}:eL p.offers.length (oD (cQ p) ((gQ p).take k)):=
 Sj ⟨δH,by simp⟩ (acF.sublist (ζ0 _ _)) λx a=>⟨by simp,(Jl (γm a)).2⟩
def wed (c:Nat->Rat):(List Nat->Rat)->List Nat->Rat
 |_,[]=>0
 |f,i::R=>c i*f R - wed c (λl=>f (i::l)) R
theorem Ju {c:Nat->Rat}:∀{R:List Nat},wed c (λ_=>0) R=0
 |[]=>rfl
 |i::R=>by simp only[wed,Ju];grind
theorem Jv {c:Nat->Rat} {p q:Rat}:∀{R:List Nat} {f g:List Nat->Rat},wed c (λl=>p*f l+q*g l) R=p*wed c f R+q*wed c g R
 |[],_,_=>by grind[wed];|i::R,f,g=>by
  simp only[wed,@Jv c p q R];grind
theorem Sl {c d:Nat->Rat} {p q:Rat}:∀{R:List Nat} {f:List Nat->Rat},wed (λi=>p*c i+q*d i) f R=p*wed c f R+q*wed d f R
 |[],_=>by grind[wed];|i::R,f=>by
  simp only[wed,@Sl c d p q R];grind
theorem Sm {c:Nat->Rat} {p:Rat} {R:List Nat} {f g:List Nat->Rat}:wed c (λl=>p*f l - g l) R=p*wed c f R - wed c g R:=by
 have:=@Jv c p (-1) R f g;grind
theorem Jw {a b:Nat->Rat}:∀{R:List Nat} {f:List Nat->Rat},wed a (wed b f) R= - wed b (wed a f) R
 |[],_=>by grind[wed];|i::R,f=>by
  have d:wed a (λl=>wed b f (i::l)) R=b i*wed a f R - wed a (wed b λl=>f (i::l)) R:=Sm;have c:wed b (λl=>wed a f (i::l)) R=a i*wed b f R - wed b (wed a λl=>f (i::l)) R:=Sm;have h:=@Jw a b R λl=>f (i::l);grind[wed]
theorem acH {a:Nat->Rat} {f:List Nat->Rat}:wed a (wed a f)=λ_=>0:=by
 grind[Jw]
def yo (R:List Nat):Rat:=if R=[] then 1 else 0
def j4 (a:List (Nat->Rat)):List Nat->Rat:=a.foldr wed yo
theorem Sr {c:Nat->Rat} {a:List (Nat->Rat)}:j4 (c::a)=wed c (j4 a):=rfl
theorem Ss {a:Nat->Rat}:∀{b:List (Nat->Rat)} {f:List Nat->Rat},wed a (b.foldr wed (wed a f))=λ_=>0
 |[],f=>acH
 |c::b,f=>by
  funext R;simp only[ε7];rw[Jw,@Ss a b f,Ju];rfl
theorem fold_zero:∀{cs:List (Nat->Rat)},cs.foldr wed (λ_=>0)=λ_=>0
 |[]=>rfl
 |c::cs=>by
  rw[ε7,fold_zero];grind[Ju]
theorem Sv {a:Nat->Rat} {p m q:List (Nat->Rat)}:j4 (p++a::(m++a::q))=λ_=>0:=by
 grind[j4,Ss,fold_zero]
theorem SA {p q:Rat}:∀{a:List (Nat->Rat)} {f g:List Nat->Rat} {R:List Nat},a.foldr wed (λl=>p*f l+q*g l) R=p*a.foldr wed f R+q*a.foldr wed g R
 |[],_,_,_=>rfl
 |c::a,f,g,R=>by
  simp only[ε7];rw[<-Jv];congr 1;funext l;exact SA
theorem SB {c d:Nat->Rat} {p q:Rat} {a b:List (Nat->Rat)} {R:List Nat}:j4 (a++(λi=>p*c i+q*d i)::b) R=p*j4 (a++c::b) R+q*j4 (a++d::b) R:=by
 unfold j4;simp only[List.foldr_append,ε7];rw[<-SA];have e:wed (λi=>p*c i+q*d i) (θe wed yo b)=λl=>p*wed c (θe wed yo b) l+q*wed d (θe wed yo b) l:=by
  grind[Sl]
 rw[e]
def fc (M:Nat) (q:Rat):Prop:=∃z:Int,q=(z:Rat)/\z.natAbs<=M
theorem SC {c:Nat->Rat} {M K:Nat}:∀{R:List Nat} {f:List Nat->Rat},(∀i∈R,fc M (c i))->(∀l,l.length+1=R.length->(∀i∈l,i∈R)->fc K (f l))->fc (R.length*(M*K)) (wed c f R)
 |[],_,_,_=>⟨0,by simp[wed],by simp⟩
 |i::R,f,e,g=>by
  simp only[wed,γF];obtain⟨y,q,h⟩:=@SC c M K R (λl=>f (i::l)) (λj a=>e j (by simp[a])) λl n p=>g _ (by simp_all) λj a=>by
   grind
  obtain⟨u,o,b⟩:=e i (by simp);obtain⟨v,k,d⟩:=g R (by simp) λj a=>by simp[a]
  refine⟨u*v - y,?_,?_⟩;·simp_all
  ·have m:(u*v).natAbs<=M*K:=by
    rw[Int.natAbs_mul];exact Nat.mul_le_mul b d
   grind
def nK (M:Nat):Nat->Nat
 |0=>1
 |n+1=>(n+1)*(M*nK M n)
theorem Eb {M:Nat}:∀{cs:List (Nat->Rat)} {R:List Nat},cs.length=R.length->(∀c∈cs,∀i∈R,fc M (c i))->fc (nK M R.length) (j4 cs R)
 |[],R,b,_=>by
  have:R=[]:=List.eq_nil_of_length_eq_zero (by simp_all);subst this;exact⟨1,by simp[j4,yo],by simp[nK]⟩;|c::cs,R,b,e=>by
  rw[Sr];cases R with
  |nil=>simp at b;|cons i R=>
   simp only[γF,nK];refine SC (e c (by simp)) λl a g=>?_;simp only[γF] at b a;rw[show R.length=l.length by omega];exact Eb (by omega) λd f j h=>e d (by simp[f]) j (g j h)
def yp (k:Nat):Nat->Rat:=λi=>if i=k then 1 else 0
theorem SD {c:Nat->Rat}:∀{R:List Nat} {f:List Nat->Rat},(∀i∈R,c i=0)->wed c f R=0
 |[],_,_=>rfl
 |i::R,f,h=>by
  simp only[wed];rw[h i (by simp),SD λj a=>h j (by simp[a])];grind
theorem SE:∀{R:List Nat},R.Nodup->j4 (R.map yp) R=1
 |[],_=>by simp[j4,yo];|i::R,h=>by
  rw[γW] at h;rw[π,Sr];simp only[wed];rw[SD (c:=yp i) (R:=R) λj a=>by
   unfold yp;grind];rw[SE h.2];unfold yp;grind
def bO (n:Nat) (f:Nat->Rat):Rat:=match n with
 |0=>0
 |n+1=>bO n f+f n
theorem dJ:∀{n:Nat} {f g:Nat->Rat},(∀i,i<n->f i=g i)->bO n f=bO n g
 |0,_,_,_=>rfl
 |n+1,f,g,h=>by simp only[bO];rw[dJ λi a=>h i (by omega),h n (by omega)]
theorem yq:∀{n:Nat} {f g:Nat->Rat},bO n (λi=>f i+g i)=bO n f+bO n g
 |0,_,_=>by grind[bO];|n+1,f,g=>by simp only[bO];rw[yq];grind
theorem wu {c:Rat}:∀{n:Nat} {f:Nat->Rat},bO n (λi=>c*f i)=c*bO n f
 |0,_=>by grind[bO];|n+1,f=>by simp only[bO];rw[wu];grind
theorem iT:∀{n:Nat},bO n (λ_=>0)=0
 |0=>rfl
 |n+1=>by simp only[bO];rw[iT];grind
theorem wv {k:Nat} {x:Rat}:∀{n:Nat},bO n (λi=>if i=k then x else 0)=if k<n then x else 0
 |0=>by simp[bO];|n+1=>by
  simp only[bO];rw[wv];grind
theorem Ec {n k:Nat} {f:Nat->Rat} (h:k<n):bO n f=f k+bO n λi=>if i=k then 0 else f i:=by
 have a:=@wv k (f k) n;rw[if_pos h] at a;rw[<-a,<-yq];grind[dJ]
theorem SG {a b:List (Nat->Rat)} {R:List Nat} {y:Nat->Rat} {T:Nat->Nat->Rat}:∀{n:Nat},j4 (a++(λi=>bO n λk=>y k*T k i)::b) R=bO n λk=>y k*j4 (a++T k::b) R
 |0=>by
  have e:(λi:Nat=>bO 0 λk=>y k*T k i)=λi=>(0:Rat)*(λ_=>0) i+0*(λ_=>0) i:=by grind[bO]
  rw[e,SB];grind[bO];|n+1=>by
  have e:(λi:Nat=>bO (n+1) λk=>y k*T k i)=λi=>(1:Rat)*(λi=>bO n λk=>y k*T k i) i+y n*T n i:=by
   grind[bO]
  rw[e,SB,SG];grind[bO]
theorem acI {C:List (Nat->Rat)} {R:List Nat} {y:Nat->Rat} {r:Nat} (f:r<C.length):j4 (C.set r (λi=>bO C.length λk=>y k*(C.getD k (λ_=>0)) i)) R=y r*j4 C R:=by
 have a:∀c:Nat->Rat,C.set r c=C.take r++c::C.drop (r+1):=λc=>by rw[List.set_eq_take_append_cons_drop,if_pos f]
 rw[a,SG,Ec f];have m:∀k,k<C.length->(if k=r then(0:Rat) else y k*j4 (C.take r++C.getD k (λ_=>0)::C.drop (r+1)) R)=0:=by
  intro k g;split;·rfl
  ·rename_i e;have o:j4 (C.take r++C.getD k (λ_=>0)::C.drop (r+1)) R=0:=by
    have n:C.getD k (λ_=>0)=C[k]:=by simp_all
    rw[n];rcases Nat.lt_or_gt_of_ne e with h|h
    ·have j:C.take r=C.take k++C[k]::(C.drop (k+1)).take (r - (k+1)):=by
      have b:C[k]::C.drop (k+1)=C.drop k:=ζE g;obtain⟨d,rfl⟩:∃d,r=k+(d+1):=⟨r - (k+1),by omega⟩;rw[List.take_add,<-b,δt,show k+(d+1) - (k+1)=d by omega]
     grind[Sv]
    ·have j:C.drop (r+1)=(C.drop (r+1)).take (k - (r+1))++C[k]::C.drop (k+1):=by
      have b:C[k]::C.drop (k+1)=C.drop k:=ζE g;rw[b];have l:=List.take_append_drop (k - (r+1)) (C.drop (r+1));rw[δj,show r+1+(k - (r+1))=k by omega] at l;exact l.symm
     rw[j,Sv]
   simp_all
 rw[dJ m,iT];have b:C.take r++C.getD r (λ_=>0)::C.drop (r+1)=C:=by
  simp_all
 rw[b];grind
structure Tb where
 cj:List (List Rat)
 bound:List Rat
 cost:List Rat
 value:Rat
 basic:List Int
 free:List Int
namespace Tb
def cf (t:Tb) (i j:Nat):Rat:=bj (bj t.cj i []) j 0
def bd (t:Tb) (i:Nat):Rat:=bj t.bound i 0
def cs (t:Tb) (j:Nat):Rat:=bj t.cost j 0
def bv (t:Tb) (i:Nat):Int:=bj t.basic i 0
def fv (t:Tb) (j:Nat):Int:=bj t.free j 0
structure WF (n m:Nat) (t:Tb):Prop where
 cj:t.cj.length=m
 row:∀i,i<m->(bj t.cj i []).length=n
 bound:t.bound.length=m
 cost:t.cost.length=n
 basic:t.basic.length=m
 free:t.free.length=n
def holds (n m:Nat) (t:Tb) (x:Int->Rat) (z:Rat):Prop:=
 (∀i,i<m->x (t.bv i)+bO n (λj=>t.cf i j*x (t.fv j))=t.bd i)/\z=t.value+bO n λj=>t.cs j*x (t.fv j)
end Tb
def kp (l:List Rat) (c:Nat) (p:List Rat):List Rat:=(ω l.length).map λj=>if j=c then -(bj l c 0*bj p j 0) else bj l j 0 - bj l c 0*bj p j 0
def kN (l:List Rat) (c:Nat):List Rat:=(ω l.length).map λj=>if j=c then 1 / bj l c 0 else bj l j 0*(1 / bj l c 0)
def fV (t:Tb) (r c:Nat):Tb where
 cj:=(ω t.cj.length).map λi=>if i=r then kN (bj t.cj r []) c else kp (bj t.cj i []) c (kN (bj t.cj r []) c);bound:=(ω t.bound.length).map λi=>if i=r then t.bd r*(1 / t.cf r c) else t.bd i - t.cf i c*(t.bd r*(1 / t.cf r c));cost:=kp t.cost c (kN (bj t.cj r []) c);value:=t.value+t.cs c*(t.bd r*(1 / t.cf r c));basic:=t.basic.set r (t.fv c);free:=t.free.set c (t.bv r)
theorem qM {a:Type} {f:Nat->a} {n i:Nat} {d:a} (h:i<n):bj ((ω n).map f) i d=f i:=by
 grind[cV]
theorem iK {a:Type} {l:List a} {r i:Nat} {x d:a} (h:r<l.length):bj (l.set r x) i d=if i=r then x else bj l i d:=by
 unfold bj;grind
section
variable {n m:Nat} {t:Tb} {r c:Nat}
theorem SH {l:List Rat}:(kN l c).length=l.length:=by simp[kN]
theorem Ed {l p:List Rat}:(kp l c p).length=l.length:=by simp[kp]
theorem Jx {l:List Rat} {j:Nat} (h:j<l.length):bj (kN l c) j 0=if j=c then 1 / bj l c 0 else bj l j 0*(1 / bj l c 0):=qM h
theorem Ee {l p:List Rat} {j:Nat} (h:j<l.length):bj (kp l c p) j 0=if j=c then -(bj l c 0*bj p j 0) else bj l j 0 - bj l c 0*bj p j 0:=qM h
theorem SI (h:t.WF n m):(fV t r c).WF n m where
 cj:=by simp[fV,h.cj]
 row i a:=by
  simp only[fV];rw[qM (by rw[h.cj];exact a)];split;·rename_i e;subst e;rw[SH,h.row _ a]
  ·rw[Ed,h.row _ a]
 bound:=by simp[fV,h.bound]
 cost:=by simp only[fV];rw[Ed,h.cost]
 basic:=by simp[fV,h.basic]
 free:=by simp[fV,h.free]
theorem A6 (h:t.WF n m) (b:r<m) (e:c<n) {i j:Nat} (d:i<m) (a:j<n):(fV t r c).cf i j=
  if i=r then(if j=c then 1 / t.cf r c else t.cf r j*(1 / t.cf r c)) else if j=c then -(t.cf i c*(1 / t.cf r c)) else t.cf i j - t.cf i c*(t.cf r j*(1 / t.cf r c)):=by
 unfold Tb.cf;simp only[fV];rw[qM (by rw[h.cj];exact d)];split;·rw[Jx (by rw[h.row _ b];exact a)]
 ·rw[Ee (by rw[h.row _ d];exact a)];rw[Jx (by rw[h.row _ b];exact a)];simp_all
theorem Ef (h:t.WF n m) {i:Nat} (a:i<m):(fV t r c).bd i=if i=r then t.bd r*(1 / t.cf r c) else t.bd i - t.cf i c*(t.bd r*(1 / t.cf r c)):=by
 show bj _ i 0=_;simp only[fV];rw[qM (by rw[h.bound];exact a)]
theorem SJ (h:t.WF n m) (b:r<m) {j:Nat} (a:j<n):(fV t r c).cs j=if j=c then -(t.cs c*(1 / t.cf r c)) else t.cs j - t.cs c*(t.cf r j*(1 / t.cf r c)):=by
 show bj _ j 0=_;simp only[fV];rw[Ee (by rw[h.cost];exact a),Jx (by rw[h.row _ b];exact a)];split;·rfl
 ·rfl
theorem Jy (h:t.WF n m) (a:r<m) {i:Nat}:(fV t r c).bv i=if i=r then t.fv c else t.bv i:=iK (by rw[h.basic];exact a)
theorem Jz (h:t.WF n m) (a:c<n) {j:Nat}:(fV t r c).fv j=if j=c then t.bv r else t.fv j:=iK (by rw[h.free];exact a)
theorem piv_holds (h:t.WF n m) (b:r<m) (k:c<n) (K:t.cf r c≠0) {x:Int->Rat} {z:Rat}:(fV t r c).holds n m x z↔t.holds n m x z:=by
 have d:∀f:Nat->Rat,bO n (λj=>f j*x (t.fv j))=f c*x (t.fv c)+bO n (λj=>if j=c then 0 else f j*x (t.fv j)):=λf=>Ec k;have e:∀f:Nat->Rat,bO n (λj=>f j*x ((fV t r c).fv j))=f c*x (t.bv r)+bO n (λj=>if j=c then 0 else f j*x (t.fv j)):=λf=>by
  rw[Ec k,Jz h k,if_pos rfl];congr 1;refine dJ λj _=>?_;split;·rfl
  ·rename_i p;rw[Jz h k,if_neg p]
 have I:bO n (λj=>if j=c then 0 else(fV t r c).cf r j*x (t.fv j))=(1 / t.cf r c)*bO n (λj=>if j=c then 0 else t.cf r j*x (t.fv j)):=by
  rw[<-wu];refine dJ λj p=>?_;split;·grind
  ·rename_i l;rw[A6 h b k b p,if_pos rfl,if_neg l];grind
 have E:∀f g:Nat->Rat,∀q:Rat,(∀j,j<n->j≠c->g j=f j - q*(t.cf r j*(1 / t.cf r c)))->bO n (λj=>if j=c then 0 else g j*x (t.fv j))=bO n (λj=>if j=c then 0 else f j*x (t.fv j))+(-(q*(1 / t.cf r c)))*bO n (λj=>if j=c then 0 else t.cf r j*x (t.fv j)):=λf g q L=>by
  rw[<-wu,<-yq];refine dJ λj p=>?_;grind
 have J:∀j,j<n->j≠c->(fV t r c).cs j=t.cs j - t.cs c*(t.cf r j*(1 / t.cf r c)):=λj p l=>by rw[SJ h b p,if_neg l]
 have B:∀i,i<m->i≠r->∀j,j<n->j≠c->(fV t r c).cf i j=t.cf i j - t.cf i c*(t.cf r j*(1 / t.cf r c)):=λi o a j p l=>by rw[A6 h b k o p,if_neg a,if_neg l]
 have G:=E t.cs _ _ J;have v:=SJ (c:=c) h b k;rw[if_pos rfl] at v;have s:=A6 h b k b k;rw[if_pos rfl,if_pos rfl] at s;have w:=Ef (r:=r) (c:=c) h b;rw[if_pos rfl] at w;have u:=Jy (c:=c) (i:=r) h b;rw[if_pos rfl] at u;have H:(fV t r c).value=t.value+t.cs c*(t.bd r*(1 / t.cf r c)):=rfl;unfold Tb.holds;constructor
 ·rintro⟨A,F⟩;have C:=A r b;rw[e,I,s,u,w] at C;refine⟨λi o=>?_,?_⟩
  ·by_cases a:i=r
   ·subst a;rw[d];grind
   ·have D:=A i o;have y:=A6 h b k o k;rw[if_neg a,if_pos rfl] at y;rw[e,E _ _ _ (B i o a),Jy h b,if_neg a,Ef h o,if_neg a,y] at D;rw[d];grind
  ·rw[e,G,v,H] at F;rw[d];grind
 ·rintro⟨A,F⟩;have C:=A r b;rw[d] at C;refine⟨λi o=>?_,?_⟩
  ·by_cases a:i=r
   ·subst a;rw[e,I,s,u,w];grind
   ·have D:=A i o;have y:=A6 h b k o k;rw[if_neg a,if_pos rfl] at y;rw[e,E _ _ _ (B i o a),Jy h b,if_neg a,Ef h o,if_neg a,y];rw[d] at D;grind
  ·rw[e,G,v,H];rw[d] at F;grind
end
end Go.Vi

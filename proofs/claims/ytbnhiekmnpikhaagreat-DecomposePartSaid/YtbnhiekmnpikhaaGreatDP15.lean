/-
  Contracts: sorting a row that may be empty; the parts of a problem.
  Conditions: none.
-/
import Derived.Test.YtbnhiekmnpikhaaGreatDP06
import Derived.Test.YtbnhiekmnpikhaaGreatDP08
import Derived.Test.YtbnhiekmnpikhaaGreatDP09
import Derived.Test.YtbnhiekmnpikhaaGreatDP10
import Derived.Test.YtbnhiekmnpikhaaGreatDP14
import Derived.Test.YtbnhiekmnpikhaaGreatDP12
import Derived.Maps.OwnRows
import Derived.Maps.Ext
import Derived.Test.YtbnhiekmnpikhaaGreatDP07
import Derived.Test.YtbnhiekmnpikhaaGreatDP11
import Derived.WalkKit
import Derived.Deep.QuietTactic
import Derived.BigQuiet
import Derived.StillTailTactics
import Derived.Shelf.SlSortCmp.NoneTotal
import Derived.Shelf.SlGeneric
import Derived.WalkSpells
import Derived.Maps.RangeWalk
import Derived.Test.YtbnhiekmnpikhaaGreatDP13
set_option maxRecDepth 100000
set_option maxHeartbeats 4000000
set_option linter.all false
open Array renaming getElem?_eq_some_iff->γw
open Bool renaming and_eq_true->θ
open Classical renaming not_not->γg
open Go.Maps renaming has->ζ6
open Go.Vi.SV renaming si->γh,row->Ψ,ptr->γO,il->γx,ow->γZ,agg->γM,bl->δc,sb->γv
open Int renaming le_of_lt->γe
open List renaming map_cons->π,length->γc,eq_nil_of_length_eq_zero->τ,map->γb,take->Δ,map_append->γa,length_map->Θ,take_length->ψ,filter_sublist->γP,mem_cons_self->γX,perm_ext_iff_of_nodup->γ5,pairwise_mergeSort->δ5,mergeSort_perm->δs,mem_cons->γz,rel_of_pairwise_cons->ζj,mem_map->Ω,getElem?_take_of_lt->δy,take_succ_eq_append_getElem->γ0,append_assoc->γU,getElem?_map->γD,getElem?_eq_getElem->μ,mem_or_eq_of_mem_set->δi,replicate->δ,take_succ_cons->δr,drop_succ_cons->εt,drop_zero->εn,setIfInBounds_toArray->ε7,set_cons_zero->εF,set_cons_succ->ζb,eq_nil_iff_forall_not_mem->δ0,map_map->γ4,attachWith_map_subtype_val->εO,size_toArray->ζY,length_attachWith->εK,length_append->γf,getElem?_eq_some_iff->ζ,map_take->ζw,mem_cons_of_mem->γT
open List.Perm renaming eq_of_pairwise->εA
open List.cons renaming injEq->Γ
open Nat renaming le_trans->δ8,zero_le->δ2,le_refl->ξ,lt_of_lt_of_le->γi,le_succ_of_le->ζs
open Option renaming map_eq_some_iff->ε
open Prod renaming fst->εk,snd->ζ3
open Subtype renaming val->εN
namespace Go.Vi
open Go.Proofs.YtbnhiekmnpikhaaGreat.Ir
open Go.Proofs
theorem agv:kE Tryz.prog 57 [.os 0 0 0 0] [.cells [] 3 1 true] (.bI []) [.cells [] 3 1 true]:=
 (Gs sE 60 57 [.os 0 0 0 0] [.cells [] 3 1 true] true (.bI []) [.cells [] 3 1 true] (by kernel_rfl)).2.1
def Vu:dH where
 f:=57;α:=Nat×List Int;put a:=[.ow 0 a.1 1];st a:=[.row (.i .i64) a.2 3 true];dec v o:=match v,o with
  |[.ow 0 n 1],[.row t l 3 true]=>match iG t (.i .i64) l with
   |some l=>some (n,l)
   |_=>none
  |_,_=>none;ok v o a h:=by
  grind[mG]
 inj a b e1 e2:=by
  obtain⟨n,l⟩:=a;obtain⟨n',l'⟩:=b;simp only[gL,Γ,SV.g,AV.os.injEq,true_and] at e1;simp only[gO,π,List.map_nil,bq.g,Γ,bR.cells.injEq,and_true,true_and] at e2;have h4:l=l':=by
   have hf:=congrArg γc e2;rw[eY,eY] at hf;exact lz (.i .i64) (by grind[bp.sz]) e2
  simp_all
 dom a:=a.1=a.2.length/\a.2.length<=1000000;res _:=.bI [];out a:=[.row (.i .i64) (dZ a.2) 3 true]
theorem h337e:ec Tryz.prog Vu:=by
 rintro⟨n,l⟩ ⟨a,b⟩;simp only at a b;by_cases c:1<=l.length;·exact h337 (n,l) ⟨a,c,b⟩
 ·have:l=[]:=τ (by omega);subst this;subst a;refine⟨by kernel_rfl,?_⟩;have e:dZ []=[]:=by simp[dZ]
  show kE Tryz.prog 57 [.os 0 0 0 0] [.cells [] 3 1 true] (.bI []) (gO [.row (.i .i64) (dZ []) 3 true]);rw[e];exact agv
def Bv:bM:=⟨31,bn×List Int,.cons dK (.one (dF (.i .i64))),λa=>(∀i∈a.2,0<=i/\i<a.1.offers.length)/\a.2.length<=1000/\a.1.classes.length<=1000,λa=>dK.put (fH a.1 a.2)⟩
def L0 (p:bn) (v:SV):bq:=.cells [.si .i64 p.supply.a0,.si .i64 p.supply.a1,.si .i64 p.supply.a2,.si .i64 p.supply.a3,.si .i64 p.supply.a4,.si .i64 p.supply.a5,
  .si .i64 p.opn.a0,.si .i64 p.opn.a1,.si .i64 p.opn.a2,.si .i64 p.opn.a3,.si .i64 p.opn.a4,.si .i64 p.opn.a5,
  .si .i64 p.cls.a0,.si .i64 p.cls.a1,.si .i64 p.cls.a2,.si .i64 p.cls.a3,.si .i64 p.cls.a4,.si .i64 p.cls.a5,
  .row (.i .i64) p.classes,v] 27 20 false
def Vv:bq:=.cells [.il .i64 0,.il .i64 0,.il .i64 0,.il .i64 0,.il .i64 0,.il .i64 0,.il .i64 0,.il .i64 0,.il .i64 0,.il .i64 0,.il .i64 0,.il .i64 0,.il .i64 0,.il .i64 0,.il .i64 0,.il .i64 0,.il .i64 0,.il .i64 0,.sc (.slice none 0 0),.sc (.slice none 0 0)] 27 20 false
def agw (p:bn) (c:List Int):Nat->cE
 |5=> .inv Int (λi=>⟨[(2,.ptr 0 0 20),(4,.ptr 1 0 20),(5,.ptr 2 0 20),(14,.row (.i .i64) c),(15,.si .i64 c.length),(16,.si .i64 i)],[.cells p.ss 27 20 false,Vv,L0 p (.ow 3 (c.take i.toNat).length 8),.row .off ((c.take i.toNat).map (oI p)) 65 true]⟩)
   (λs=>iS s 16) (λi=>0<=i/\i<=c.length) (λi=>(c.length - i).toNat) λ_ _=> .look
 |_=> .look
theorem h562:Holds Tryz.prog Bv:=by
 refine cF (L:=[AB]) Bv (λa=>agw a.1 a.2) (by grind[h330]) ?_;rintro⟨p,c⟩ ⟨Z,h2,h3⟩;simp only at Z h2 h3;refine bO (let a:=γh .i64;let b:=(0:Int);let d:=bq.cells;let y:=Ψ;let I:=bq.row;let L:=γO;let Y:=L 0 0 20;let W:=L 1 0 20;let X:=L 2 0 20;let J:=bp.i .i64;let H:=(↑c.length:Int);let N:=a H;let e:=γx .i64 0;let O:=a p.supply.a0;let M:=a p.supply.a1;let S:=a p.supply.a2;let q:=a p.supply.a3;let B:=a p.supply.a4;let A:=a p.supply.a5;let r:=a p.opn.a0;let v:=a p.opn.a1;let D:=a p.opn.a2;let u:=a p.opn.a3;let o:=a p.opn.a4;let w:=a p.opn.a5;let l:=a p.cls.a0;let n:=a p.cls.a1;let z:=a p.cls.a2;let C:=a p.cls.a3;let t:=a p.cls.a4;let s:=a p.cls.a5;let k:=y J p.classes;let F:=d [O,M,S,q,B,A,r,v,D,u,o,w,l,n,z,C,t,s,k,y bp.off p.offers] 27 20 false;let T:=SV.sc (Value.slice none 0 0);let E:=d [e,e,e,e,e,e,e,e,e,e,e,e,e,e,e,e,e,e,T,T] 27 20 false;let K:=d [O,M,S,q,B,A,r,v,D,u,o,w,l,n,z,C,t,s,k,γZ 3 0 8] 27 20 false;let U:=I bp.off [] 65 true;let h:=(fH p c).supply;let f:=(fH p c).opn;let j:=(fH p c).cls;p.classes.length<=1000000/\(((Y.same Y/\W.same W/\X.same X/\(y J c).same (y J c)/\(a (↑c.length:Int)).same N/\e.same (a 0)/\True)/\F.same F/\E.same E/\K.same K/\U.same U/\True)/\b<=b/\b<=H)/\∀(x:Int),let G:=bj c x.toNat b;let m:=γb (oI p) (Δ x.toNat c);let Q:=m.length+1;let g:=x+(1:Int);let R:=a g;let V:=m++[bj p.offers G.toNat bp.off.dflt];let P:=Δ g.toNat c;b<=x/\x<=H->(decide (x<H)=true->b<=x/\x<(↑c.length:Int)/\x.toNat<c.length/\b<=G/\G<(↑p.offers.length:Int)/\G.toNat<p.offers.length/\1=1/\(Δ x.toNat c).length=m.length/\Q*64<=140737488355328/\Q<=1000000000000/\cq .i64 g/\((Y.same Y/\W.same W/\X.same X/\(y J c).same (y J c)/\N.same N/\R.same R/\True)/\F.same F/\E.same E/\(d [O,M,S,q,B,A,r,v,D,u,o,w,l,n,z,C,t,s,k,γZ 3 V.length 8] 27 20 false).same (d [O,M,S,q,B,A,r,v,D,u,o,w,l,n,z,C,t,s,k,γZ 3 P.length 8] 27 20 false)/\(I bp.off V 65 true).same (I bp.off (γb (oI p) P) 65 true)/\True)/\(b<=g/\g<=H)/\(H - g).toNat<(H - x).toNat)/\(decide (x<H)=false->(Δ x.toNat c).length=m.length/\(γM [O,M,S,q,B,A,r,v,D,u,o,w,l,n,z,C,t,s,k,y bp.off m]).same (γM [a h.a0,a h.a1,a h.a2,a h.a3,a h.a4,a h.a5,a f.a0,a f.a1,a f.a2,a f.a3,a f.a4,a f.a5,a j.a0,a j.a1,a j.a2,a j.a3,a j.a4,a j.a5,y J (fH p c).classes,y bp.off (fH p c).offers]))) (by kernel_rfl) ?_;simp only[vcs];have I:∀{a b:Nat},a=b->(L0 p (.ow 3 a 8)).same (L0 p (.ow 3 b 8)):=by rintro _ _ rfl;rfl
 have a7:∀{x y:List Off},x=y->(bq.row .off x 65 true).same (bq.row .off y 65 true):=by rintro _ _ rfl;rfl
 have a6:∀x:Int,0<=x->x<c.length->γb (oI p) (Δ x.toNat c)++[bj p.offers (bj c x.toNat 0).toNat bp.off.dflt]=γb (oI p) (Δ (x+1).toNat c):=λx h0 Z=>by
  rw[jX (d:=0) h0 Z,γa];rfl
 refine⟨by omega,by omega,?_⟩;rintro x ⟨x0,x1⟩;refine⟨λN=>?_,λa8=>?_⟩
 ·have hb:=Z (bj c x.toNat 0) (dr (by omega));have a9:(γb (oI p) (Δ x.toNat c)).length=x.toNat:=by simp_all
  rw[a6 x x0 N];refine⟨x0,N,by omega,hb.1,hb.2,by omega,(Θ _).symm,by omega,by omega,by omega,⟨I (Θ _),a7 rfl⟩,by omega,by omega⟩
 ·rw[show x.toNat=c.length by omega,ψ];exact⟨(Θ _).symm,rfl⟩
def j8 (p:bn) (l:List Int):Int:=if bz p≠0 then bz p else if fR p l=true then 0 else 4
def gG (p:bn) (l:List Int):bn:=if j8 p l=0 then fH p l else Bt
def Ff:bM:=⟨15,bn×List Int,.cons dK (.one (dF (.i .i64))),λa=>a.2.length<=1000000000000,λa=> .bI [.agg (gG a.1 a.2).ss,.si .i64 (j8 a.1 a.2)]⟩
def agx (p:bn) (l:List Int):Nat->cE
 |6=> .inv (Int×Int) (λx=>⟨[(1,.row (.i .i64) l),(2,.ptr 0 0 20),(4,.ptr 1 0 20),(7,.si .i64 x.2),(16,.row (.i .i64) l),(17,.si .i64 l.length),(18,.si .i64 x.1)],[.cells p.ss 27 20 false,Vv]⟩)
   (λs=>(iS s 18,iS s 7)) (λx=>(0<=x.1/\x.1<=l.length)/\(-1<=x.2/\x.2<1000)/\(ef p.offers (-1) l).isSome=(ef p.offers x.2 (l.drop x.1.toNat)).isSome) (λx=>(l.length - x.1).toNat) λ_ _=> .look
 |_=> .look
theorem h554:Holds Tryz.prog Ff:=by
 refine cF (L:=[o7,Bv]) Ff (λa=>agx a.1 a.2) (by grind[h79,h562]) ?_;rintro⟨p,l⟩ (hl:l.length<=1000000000000);refine bO (let a:=γh .i64;let d:=Ψ;let e:=(-1:Int);let h:=(0:Int);let n:=γx .i64;let q:=(1000:Int);let A:=SV.bI;let E:=γM;let T:=decide (bz p≠h);let b:=n 0;let m:=bp.i .i64;let M:=E [b,b,b,b,b,b,b,b,b,b,b,b,b,b,b,b,b,b,d m [],d m []];let y:=(gG p l).supply;let w:=(gG p l).opn;let v:=(gG p l).cls;let J:=A [E [a y.a0,a y.a1,a y.a2,a y.a3,a y.a4,a y.a5,a w.a0,a w.a1,a w.a2,a w.a3,a w.a4,a w.a5,a v.a0,a v.a1,a v.a2,a v.a3,a v.a4,a v.a5,d m (gG p l).classes,d bp.off (gG p l).offers],a (j8 p l)];let K:=γO 0 0 20;let I:=γO 1 0 20;let c:=(↑l.length:Int);let u:=a c;let r:=bq.cells [a p.supply.a0,a p.supply.a1,a p.supply.a2,a p.supply.a3,a p.supply.a4,a p.supply.a5,a p.opn.a0,a p.opn.a1,a p.opn.a2,a p.opn.a3,a p.opn.a4,a p.opn.a5,a p.cls.a0,a p.cls.a1,a p.cls.a2,a p.cls.a3,a p.cls.a4,a p.cls.a5,d m p.classes,d bp.off p.offers] 27 20 false;let z:=SV.sc (Value.slice none 0 0);let s:=bq.cells [b,b,b,b,b,b,b,b,b,b,b,b,b,b,b,b,b,b,z,z] 27 20 false;let t:=(ef p.offers e l).isSome;let f:=(fH p l).supply;let k:=(fH p l).opn;let o:=(fH p l).cls;True/\(T=true->(A [M,a (bz p)]).same J)/\(T=false->((((d m l).same (d m l)/\K.same K/\I.same I/\(n e).same (a e)/\(d m l).same (d m l)/\(a (↑l.length:Int)).same u/\b.same (a 0)/\True)/\r.same r/\s.same s/\True)/\(h<=h/\h<=c)/\(e<=e/\e<q)/\t=t)/\∀(x:Int×Int),let G:=decide (x.fst<c);let j:=bj l x.fst.toNat h;let H:=decide (j<=x.snd);let D:=decide ((↑p.offers.length:Int)<=j);let g:=x.fst+(1:Int);let B:=a j;let C:=a g;(h<=x.fst/\x.fst<=c)/\(e<=x.snd/\x.snd<q)/\t=(ef p.offers x.snd (List.drop x.fst.toNat l)).isSome->(G=true->h<=x.fst/\x.fst<(↑l.length:Int)/\x.fst.toNat<l.length/\(H=true->(A [M,n 4]).same J)/\(H=false->(D=true->(A [M,n 4]).same J)/\(D=false->cq .i64 g/\(((d m l).same (d m l)/\K.same K/\I.same I/\B.same B/\(d m l).same (d m l)/\u.same u/\C.same C/\True)/\r.same r/\s.same s/\True)/\((h<=g/\g<=c)/\(e<=j/\j<q)/\t=(ef p.offers j (List.drop g.toNat l)).isSome)/\(c - g).toNat<(c - x.fst).toNat)))/\(G=false->((∀(i:Int),i∈l->h<=i/\i<(↑p.offers.length:Int))/\l.length<=1000/\p.classes.length<=1000)/\(A [E [a f.a0,a f.a1,a f.a2,a f.a3,a f.a4,a f.a5,a k.a0,a k.a1,a k.a2,a k.a3,a k.a4,a k.a5,a o.a0,a o.a1,a o.a2,a o.a3,a o.a4,a o.a5,d m (fH p l).classes,d bp.off (fH p l).offers],b]).same J))) (by kernel_rfl) ?_;simp only[vcs];have Z:j8 p l≠0->gG p l=Bt:=λh=>by simp_all[gG]
 refine⟨λh=>?_,λh=>?_⟩
 ·have e:j8 p l=bz p:=by simp_all[j8]
  rw[Z (by omega),e];exact⟨rfl,rfl⟩
 ·have hc:bz p=0:=γg.1 h;have P:=dQ hc;have e:j8 p l=if fR p l=true then 0 else 4:=by simp_all[j8]
  refine⟨⟨by omega,by omega,by simp⟩,?_⟩;rintro⟨i,U⟩ ⟨⟨N,i1⟩,⟨Y,V⟩,q⟩;simp only at N i1 Y V q ⊢;have F:fR p l=false->j8 p l=4/\gG p l=Bt:=λhb=>by
   simp_all
  refine⟨λA=>?_,λa6=>?_⟩
  ·rw[sH (d:=0) N A] at q;generalize S:bj l i.toNat 0=x at q ⊢;simp only[ef] at q;refine⟨N,A,by omega,λR=>?_,λR=>⟨λh2=>?_,λh2=>?_⟩⟩
   ·rw[if_pos (.inl R)] at q;obtain⟨O,Q⟩:=F q;rw[Q,O];exact⟨rfl,rfl⟩
   ·rw[if_pos (.inr (by omega))] at q;obtain⟨O,Q⟩:=F q;rw[Q,O];exact⟨rfl,rfl⟩
   ·rw[if_neg (by omega),Option.isSome_map] at q;have:=P.2.1;grind
  ·rw[show i.toNat=l.length from by omega,List.drop_length] at q;have E:fR p l=true:=q;rw[E] at e;have e0:j8 p l=0:=e;have X:gG p l=fH p l:=by simp_all[gG]
   have ha:=DZ (by omega) E;rw[X,e0];have W:=Jg (n:=p.offers.length) (a:=0) (by omega) ha.1 (λx S=>by grind);exact⟨⟨λx S=>by grind,by have:=P.2.1;omega,by have:=P.1;omega⟩,rfl,rfl⟩
open Go.Maps Go.RowKit Go.Proofs Go.ChangeShapes
def gI (l:List Int) (k:Nat) (x:Int):List Int:=(dm k).filter λi=>decide (bj l i.toNat 0=x)
theorem agy {l:List Int} {k:Nat} {x:Int}:gI l (k+1) x=if bj l k 0=x then gI l k x++[(k:Int)] else gI l k x:=by
 grind[gI,sP]
def nP (H:Type) (l:List Int):Nat->DataW H
 |0=> .map []
 |k+1=>(nP H l k).put (.int .i64 (bj l k 0)) (.slice (lits .i64 (gI l k (bj l k 0)++[(k:Int)])) [])
theorem Vw {H:Type} {l:List Int}:∀{k:Nat},Go.Maps.IsMap (nP H l k)
 |0=>isMap_empty
 |k+1=>Vw.put _ _
theorem Fg {H:Type} {l:List Int} {x:Int}:∀{k:Nat} (z:DataW H),(nP H l k).atKey (.int .i64 x) z=if gI l k x=[] then z else .slice (lits .i64 (gI l k x)) []
 |0,z=>by grind[nP,gI,dm,DataW.atKey];|k+1,z=>by
  rw[nP,agy];by_cases h:bj l k 0=x
  ·subst h;rw[atKey_put_same Vw (by simp[WideAt.IsKeyLit]),if_pos rfl,if_neg (by simp)]
  ·rw[atKey_put_other (by grind),if_neg h];exact Fg z
theorem Vx {H:Type} {l:List Int} {x:Int} {k:Nat}:ζ6 (nP H l k) (.int .i64 x)=decide (gI l k x≠[]):=by
 by_cases h:gI l k x=[];all_goals simp_all[has_false_of_atKey,Fg,has_true_of_atKey]
theorem agz {H:Type} {w:World} {base:Nat} {e:TypeId} {v:Value} {zs l:List Int} {k:Nat} (ho:w.ownsInts base e .i64 v zs)
  (hat:(nP H l k).atKey (.int .i64 (bj l k 0)) .nil=rowDatum .i64 v zs):zs=gI l k (bj l k 0):=by
 rw[Fg] at hat;rcases ho.datum (H:=H) with⟨h1,rfl⟩|h1<;>rw[h1] at hat
 ·split at hat;·rename_i h;exact h.symm
  ·cases hat
 ·split at hat;·cases hat
  ·injection hat with hat;have hinj:∀{a b:List Int},lits (H:=H) .i64 a=lits .i64 b->a=b:=by
    intro a;induction a with
    |nil=>intro b h;cases b with|nil=>rfl|cons y b=>simp[lits] at h
    |cons x a ih=>
     intro b h;cases b with
     |nil=>simp[lits] at h;|cons y b=>
      simp[lits] at h ih;rw[h.1,ih h.2]
   exact(hinj hat).symm
theorem Vy {l:List Int} {n:Nat} {x i:Int}:i∈gI l n x↔(0<=i/\i<n)/\bj l i.toNat 0=x:=by
 unfold gI dm;grind
theorem agA {l:List Int} {n:Nat} {x:Int}:(gI l n x).Pairwise (·<·):=rD.sublist γP
def eW (l:List Int) (n:Nat):List Int:=(dm n).filter λf=>decide ((gI l n (bj l f.toNat 0)).head?=some f)
theorem L1 {l:List Int} {n:Nat}:(eW l n).Pairwise (·<·):=rD.sublist γP
theorem Fh {l:List Int} {n:Nat} {f:Int}:f∈eW l n↔(gI l n (bj l f.toNat 0)).head?=some f:=by
 unfold eW;rw[List.mem_filter];constructor;·simp_all
 ·intro h;refine⟨?_,decide_eq_true h⟩;have:=(Vy.1 (List.mem_of_mem_head? h)).1;grind[dm]
theorem agB {l:List Int} {n:Nat} {x:Int} (h:gI l n x≠[]):∃f t,gI l n x=f::t/\f∈eW l n/\bj l f.toNat 0=x:=by
 cases e:gI l n x with
 |nil=>exact absurd e h;|cons f t=>
  have hf:=(Vy.1 (show f∈gI l n x by rw[e];exact γX)).2;exact⟨f,t,rfl,Fh.2 (by rw[hf,e];rfl),hf⟩
theorem agC {l:List Int} {n:Nat} {f g:Int} (b:f∈eW l n) (a:g∈eW l n) (h:bj l f.toNat 0=bj l g.toNat 0):f=g:=by
 grind[Fh]
theorem agD {hs l:List Int} (hn:hs.Nodup) (hl:l.Pairwise (·<·)) (hm:∀x,x∈hs↔x∈l):(hs.mergeSort λx y=>decide (x<=y))=l:=by
 have hp:hs.Perm l:=(γ5 hn (hl.imp λh=>Int.ne_of_lt h)).2 hm;have h1:=δ5 (le:=λx y:Int=>decide (x<=y)) (λa b c=>by simp;omega) (λa b=>by simp;omega) hs;exact εA (le:=λx y:Int=>x<=y) (λa b _ _ h h'=>by omega) (h1.imp λh=>by simpa using h) (hl.imp λh=>γe h) ((δs _ _).trans hp)
theorem agE {p:bn}:cO p=(eW (td p) p.offers.length).map λf=>gI (td p) p.offers.length (bj (td p) f.toNat 0):=by
 unfold cO;have e:∀f,qP p f=gI (td p) p.offers.length (bj (td p) f.toNat 0):=λf=>rfl;have h:(dm p.offers.length).filter (rV p)=eW (td p) p.offers.length:=by
  unfold eW;refine List.filter_congr λf hf=>?_;obtain⟨h0,h1⟩:=kK.1 hf;rw[<-e f];have hin:f∈qP p f:=E8.2 ⟨⟨h0,h1⟩,rfl⟩;have hasc:(qP p f).Pairwise (·<·):=agA;cases hc:qP p f with
  |nil=>rw[hc] at hin;cases hin;|cons g t=>
   rw[hc] at hasc;have hg:=E8.1 (show g∈qP p f by rw[hc];exact γX);by_cases hfg:g=f
   ·subst hfg;rw[List.head?_cons];have:rV p g=true:=(E9 h0).2 λj a b c=>by
     have hj:j∈qP p g:=E8.2 ⟨⟨a,by omega⟩,c⟩;rw[hc] at hj;rcases γz.1 hj with rfl|hj;·omega
     ·have:=ζj hasc hj;omega
    simp[this]
   ·have hlt:g<f:=by
     rw[hc] at hin;rcases γz.1 hin with rfl|hj;·exact absurd rfl hfg
     ·exact ζj hasc hj
    have:¬rV p f=true:=λhb=>(E9 h0).1 hb g hg.1.1 hlt hg.2;simp only[Bool.not_eq_true] at this;simp[this,hfg]
 rw[h];exact List.map_congr_left λf _=>e f
open Go.Maps Go.RowKit Go.Proofs Go.ChangeShapes
theorem agF {l:List Int} {n:Nat} {f:Int} (h:f∈eW l n):0<=f/\f<n:=by
 grind[eW,kK]
structure yY (O:Value->List Int->Prop) (l:List Int) (n:Nat) (D:DataW Unit) (left:Lit->Bool) (cnt:Nat) (hs:List (Int×Value)):Prop where
 d:(hs.map εk).Nodup
 i:∀h∈hs,h.1∈eW l n/\O h.2 (gI l n (bj l h.1.toNat 0))/\left (.int .i64 (bj l h.1.toNat 0))=false
 a:∀f∈eW l n,left (.int .i64 (bj l f.toNat 0))=false->∃h∈hs,h.1=f
 c:hs.length+cnt<=n
 h:∀kl,left kl=true->ζ6 D kl=true
theorem Vz (a b:Int):(Lit.int .i64 a).sameKey (.int .i64 b)=decide (a=b):=by simp[Lit.sameKey]
theorem yY.step {O:Value->List Int->Prop} {l:List Int} {n:Nat} {D:DataW Unit} {e:Lit->Bool} {o:Nat} {x:List (Int×Value)} (h:yY O l n D e o x) {f:Int} {v:Value} (A:f∈eW l n)
  (I:O v (gI l n (bj l f.toNat 0))) (s:e (.int .i64 (bj l f.toNat 0))=true) {k:Nat} (J:k<o):
  yY O l n D (λz=>e z&&!z.sameKey (.int .i64 (bj l f.toNat 0))) k (x++[(f,v)]):=by
 refine⟨?_,?_,?_,?_,?_⟩
 ·rw[γa,List.nodup_append];refine⟨h.d,by simp,?_⟩;intro a B b u p;simp at u;subst u;subst p;obtain⟨q,E,rfl⟩:=Ω.1 B;rw[(h.i _ E).2.2] at s;cases s
 ·intro y m;rcases List.mem_append.1 m with m|m
  ·obtain⟨K,H,G⟩:=h.i y m;simp_all
  grind[Vz]
 ·intro g w j;rw[Vz] at j;by_cases t:bj l g.toNat 0=bj l f.toNat 0;·exact⟨(f,v),by simp,(agC w A t).symm⟩
  ·rw[decide_eq_false t] at j;simp at j;obtain⟨y,m,F⟩:=h.a g w j;grind
 ·have:=h.c;grind
 ·intro C r;simp only[θ] at r;exact h.h C r.1
def mV (hs:List (Int×Value)) (f:Int):Value:=((hs.find? λh=>decide (h.1=f)).map ζ3).getD (.slice none 0 0)
theorem VA {a:List (Int×Value)} (b:(a.map εk).Nodup) {q:Int×Value} (c:q∈a):mV a q.1=q.2:=by
 unfold mV;induction a<;>grind
theorem agG {a:List (Int×Value)} (b:(a.map εk).Nodup):(a.map εk).map (mV a)=a.map ζ3:=by
 simp_all[VA]
theorem yY.done {O:Value->List Int->Prop} {l:List Int} {n:Nat} {D:DataW Unit} {b:Lit->Bool} {j:Nat} {e:List (Int×Value)} (h:yY O l n D b j e) (m:∀o,b o=false):
  (∀f,f∈e.map εk↔f∈eW l n)/\(∀f∈eW l n,O (mV e f) (gI l n (bj l f.toNat 0)))/\((e.map εk).mergeSort λx y=>decide (x<=y))=eW l n:=by
 have k:∀f,f∈e.map εk↔f∈eW l n:=λf=>by
  constructor
  ·intro c;obtain⟨q,g,rfl⟩:=Ω.1 c;exact(h.i q g).1
  ·intro c;obtain⟨q,g,rfl⟩:=h.a f c (m _);grind
 refine⟨k,λf c=>?_,agD h.d L1 k⟩;obtain⟨q,g,rfl⟩:=Ω.1 ((k f).2 c);rw[VA h.d g];exact(h.i q g).2.1
theorem agH {H:Type} {w:World} {base:Nat} {e:TypeId} {v:Value} {zs l:List Int} {k:Nat} {x:Int} (ho:w.ownsInts base e .i64 v zs)
  (hat:(nP H l k).atKey (.int .i64 x) .nil=rowDatum .i64 v zs):zs=gI l k x:=by
 rw[Fg] at hat;rcases ho.datum (H:=H) with⟨h1,rfl⟩|h1<;>rw[h1] at hat
 ·split at hat;·rename_i h;exact h.symm
  ·cases hat
 ·split at hat;·cases hat
  ·injection hat with hat;have hinj:∀{a b:List Int},lits (H:=H) .i64 a=lits .i64 b->a=b:=by
    intro a;induction a with
    |nil=>intro b h;cases b with|nil=>rfl|cons y b=>simp[lits] at h
    |cons x a ih=>
     intro b h;cases b with
     |nil=>simp[lits] at h;|cons y b=>
      simp[lits] at h ih;rw[h.1,ih h.2]
   exact(hinj hat).symm
end Go.Vi
namespace Go.Proofs
open Go.RowKit Go.Maps Go.Vi Go.ChangeShapes
theorem agI:(Tryz.prog.info? 3).map (λi=>(i.zero,i.size,i.bytes))=some (some (.int .i64 0),1,8):=by kernel_rfl
theorem agJ:(Tryz.prog.info? 24).map (λi=>(i.zero,i.size,i.bytes))=some (some (.slice none 0 0),1,24):=by kernel_rfl
theorem agK (w:World):(zeroValue 24).run Tryz.prog w= .ok (.slice none 0 0) w:=by kernel_rfl
theorem L9:Keyed Tryz.prog 3:=int_keyed Tryz.underlying3
open Go.Shelf Go.Sort Go.Lib
theorem agL (f c:Nat) (b i d g:Nat) (x y:Int) (W:World) (o:0<b) (l:0<d) (n:W.cell? ⟨f,0,none⟩=some (.int .i64 x)) (j:W.cell? ⟨c,0,none⟩=some (.int .i64 y)) (k:0<=x/\x<256) (m:0<=y/\y<256):
  Calls Tryz.prog 51 #[.slice (some ⟨f,0,none⟩) b i,.slice (some ⟨c,0,none⟩) d g] W λe h=>e= .returned (.int .i64 (x - y))/\∃q a,h=grow (W.drewN q) a:=by
 go_enter Tryz.func51,Tryz.ntmps51;go_wp2;go_quiet (fail);go_wp2;go_ret;exact⟨rfl,nq,#[],by simp_all⟩
theorem agM {b:Type} [Inhabited b] {enc:b->Value} {w:World} {g:Nat} {a:Array Value} {e:TypeId} {d:Array b} (i:w.heap[g]?=some (.cells a e (0,0))) (h:a.toList.take d.size=d.toList.map enc):Sort.Holds enc w g 0 d:=by
 intro j c;refine⟨?_,by grind[World.frozen?]⟩;have f:(a.toList.take d.size)[j]?=(d.toList.map enc)[j]?:=by rw[h]
 rw[δy c] at f;simp_all[World.cell?]
theorem agN {w:World} {B:Nat} {v:Value} {x:Int} {tl:List Int} (h:w.ownsInts B 3 .i64 v (x::tl)):
  ∃(g n cap:Nat),v= .slice (some ⟨g,0,none⟩) n cap/\0<n/\g<w.heap.size/\B<=g/\w.cell? ⟨g,0,none⟩=some (.int .i64 x):=by
 obtain⟨hr,_⟩:=h;have hr2:=hr;rcases hr.2 with⟨_,h0⟩|⟨g,cap,cur,rfl,hgb,hgg,q1,q2,q3,q4⟩;·simp at h0
 ·refine⟨g,_,cap,rfl,by simp,(γw.1 hgg).1,hgb,?_⟩;rw[World.ownsRow.cellAt hr2 0 (by simp)];simp
theorem VB {d:Type} [Inhabited d] (enc:d->Value) (W:World) (b c n:Nat) (e:Array d) (os:Array Obj) (a:Addr) (f:a.block≠b) (g:a.block<W.heap.size):(sortWorld enc W b c n e os).cell? a=W.cell? a:=by
 unfold sortWorld;rw[cell?_grow _ _ _ (by simp_all),cell?_putRow_other _ _ b c e _ (Or.inl f)];rfl
theorem agO {b:Type} [Inhabited b] (enc:b->Value) {w:World} {g n:Nat} {os:Array Obj} {a:Array Value} {e:TypeId} {c:Nat×Nat} (d:Array b) (f:w.heap[g]?=some (.cells a e c)):
  (sortWorld enc w g 0 n d os).heap[g]?=some (.cells (putCells enc 0 d a) e c):=by
 grind[sortWorld,heap_grow_old,putRow,mapBlock,Sort.ahead,onCells]
theorem agP {a:Type} [Inhabited a] (enc:a->Value) {w:World} {g n:Nat} {os:Array Obj} (d:Array a):w.grownBy (sortWorld enc w g 0 n d os) (some g):=by
 unfold sortWorld;refine⟨rfl,rfl,rfl,by simp_all,λk c b=>?_⟩;grind[heap_grow_old,putRow,mapBlock,Sort.ahead]
theorem agQ {b:Type} [Inhabited b] (enc:b->Value) (a:Array Value) (d:Array b) (h:d.size<=a.size):(putCells enc 0 d a).toList.take d.size=d.toList.map enc:=by
 apply List.ext_getElem?;grind[putCells]
abbrev Hd (l:List Int) (n:Nat):={f:Int //f∈eW l n}
def qR {l:List Int} {n:Nat} (x y:Hd l n):Int:=x.val - y.val
theorem wI {l:List Int} {n:Nat} (x y:Hd l n):ltOf qR x y=decide (x.val<y.val):=by
 grind[ltOf,qR]
theorem agR {l:List Int} {n:Nat}:SWO (ltOf (qR (l:=l) (n:=n))) where
 irrefl x:=by grind[wI]
 trans x y z a b:=by grind[wI]
 ntrans x y z a b:=by grind[wI]
theorem agS {l:List Int} {n:Nat} (c:List (Hd l n)) (m:∀f,f∈c.map εN↔f∈eW l n) (i:(c.map εN).Nodup):(c.mergeSort λx y=>!ltOf qR y x).map εN=eW l n:=by
 have e:=δs c λx y=>!ltOf qR y x;have d:=δ5 (le:=λx y=>!ltOf (qR (l:=l) (n:=n)) y x) (λx y z g o=>by grind[wI]) (λx y=>by grind[wI]) c;have j:(c.mergeSort λx y=>!ltOf qR y x).Pairwise λx y=>x.val<=y.val:=d.imp λ{x y} h=>by grind[wI]
 have g:((c.mergeSort λx y=>!ltOf qR y x).map εN).Pairwise (·<=·):=by
  grind
 have k:(eW l n).Perm (c.map εN):=(γ5 (L1.imp λh=>Int.ne_of_lt h) i).2 λf=>(m f).symm;exact εA (le:=λx y:Int=>x<=y) (λa b _ _ h p=>by omega) g (L1.imp λh=>γe h) ((e.map _).trans k.symm)
def agT (w':World) (B:Nat) (l:List Int) (n:Nat) (e:Ending):Prop:=
 (e= .returned (.slice none 0 0)/\eW l n=[])\/∃(g cap:Nat) (cur:Array Value) (sv:Int->Value),e= .returned (.slice (some ⟨g,0,none⟩) (eW l n).length cap)/\B<=g/\w'.heap[g]?=some (.cells cur 24 (0,0))/\(eW l n).length<=cap/\cap<=maxLen/\
  cur.size=cap*1/\cur.toList.take (eW l n).length=(eW l n).map sv/\∀f∈eW l n,w'.ownsInts B 3 .i64 (sv f) (gI l n (bj l f.toNat 0))
theorem VC {P:Program} {e:Array Oper} {c:Oper} {a:Act} {w:World} {K:Act->Prop} (f:TypeId) (x:Operand) (p:Addr) (b:List Value) (d:Array Field) (k:∀j v,b[j]?=some v->w.cell? (p.add j)=some v)
  (o:P.underlying f=some (.struct d)) (r:(P.info? f).map (·.size)=some b.length) (m:c.op= .load f x) (l:a.eval x= .pointer (some p)) (n:Region.wanted c (yielded e a.tmps)=true)
  (h:K (a.put c.dst (.agg b.toArray))):if Region.wanted c (yielded e a.tmps) then c.still P a w K else K (a.put c.dst undef):=by
 have g:(loadVar f p).run P w= .ok (.agg b.toArray) w:=by
  have g:(loadCells p b.length).run P w= .ok b.toArray w:=run_loadCells_list (P:=P) w p b k;cases q:P.info? f with
  |none=>simp_all;|some i=>
   simp_all[isAgg,run_underlying,loadVar,sizeOf,typeInfo]
 rw[if_pos n];unfold Oper.still execOp;simp only[m,l,Instr.loadAt,Instr.sureAddr,Sem.run_bind,Sem.run_pure,Result.andThen_ok,g];exact⟨rfl,h⟩
def VD (v:Fin 8->Value):Value:=.agg #[v 0,v 1,v 2,v 3,v 4,v 5,v 6,v 7]
theorem add_block (q:Addr) (m:Nat):(q.add m).block=q.block:=by grind[Addr.add]
theorem agU {w:World} {B g n c d:Nat} {e:TypeId} {xs:List Value} (h:w.ownsRow B e d (.slice (some ⟨g,0,none⟩) n c) n xs):B<=g:=by
 rcases h.2 with⟨b,_⟩|⟨j,a,f,b,i,_⟩<;>simp_all
theorem Bw {w:World} {B g n c:Nat} {l:List Int} {j:Nat} (h:w.ownsInts B 3 .i64 (.slice (some ⟨g,0,none⟩) n c) l) (b:l.length=n) (d:j<n):w.cell? ⟨g,j,none⟩=some (.int .i64 (bj l j 0)):=by
 have a:=h.1;rw[b] at a;rw[World.ownsRow.cellAt a j (by omega)];grind[bj]
theorem agV {w:World} {b f:Nat} {e:TypeId} {a:Nat} {v:Value} {n:Nat} {xs:List Value} (h:w.ownsRow b e a v n xs) (o:f<=b):w.ownsRow f e a v n xs:=by
 obtain⟨i,l⟩:=h;refine⟨i,l.imp id ?_⟩;rintro⟨g,c,d,m,k,j⟩;exact⟨g,c,d,m,δ8 o k,j⟩
theorem VE {w b:World} {B g n c S:Nat} {l:List Int} (h:w.ownsInts B 3 .i64 (.slice (some ⟨g,0,none⟩) n c) l) (a:Below S w b) (d:w.heap.size=S):b.ownsInts B 3 .i64 (.slice (some ⟨g,0,none⟩) n c) l:=by
 subst d;exact World.ownsInts.kept (row:=none) h ⟨a.os,a.tape,a.output,a.size,λk e _=>a.block k e⟩ (.inr (by simp[Value.ownBlock]))
theorem agW {w:World} {B g n a:Nat} {l:List Int} (h:w.ownsInts (B+1) 3 .i64 (.slice (some ⟨g,0,none⟩) n a) l) (c:l.length=n) (b:0<n):B<w.heap.size:=by
 have:=h.1.lt g (by simp[Value.ownBlock]);omega
def qS (x y:Int) (l:List Int) (i:Nat):List Int:=(l.take i).map (λz=>if z=x then y else z)++l.drop i
theorem Mc {x y:Int} {l:List Int} {i:Nat}:(qS x y l i).length=l.length:=by grind[qS]
theorem agX {x y:Int} {l:List Int} {i:Nat} (h:i<l.length):qS x y l (i+1)=if l[i]=x then(qS x y l i).set i y else qS x y l i:=by
 have a:l.take (i+1)=l.take i++[l[i]]:=γ0 h;have b:l.drop i=l[i]::l.drop (i+1):=List.drop_eq_getElem_cons h;have c:((l.take i).map λz=>if z=x then y else z).length=i:=by simp;omega
 unfold qS;rw[a,γa,γU,b];split<;>simp_all
theorem agY (g n w:Nat) (l:List Int) (F:l.length=n) (N:n<=60) (x y:Int) (E:(Lit.int .i64 y).wf=true) (Q:∀z∈l,(Lit.int .i64 z).wf=true) (W:World) (A:g<W.heap.size)
  (G:∀j (h:j<l.length),W.cell? ⟨g,j,none⟩=some (.int .i64 l[j]))
  (p:Calls Tryz.prog 52 #[.slice (some ⟨g,0,none⟩) n w] W λe f=>∃c a,e= .returned (.slice (some ⟨c,0,none⟩) n a)/\f.ownsInts W.heap.size 3 .i64 (.slice (some ⟨c,0,none⟩) n a) l/\Below W.heap.size W f):
  Calls Tryz.prog 49 #[.slice (some ⟨g,0,none⟩) n w,.int .i64 x,.int .i64 y] W λe f=>∃c a,e= .returned (.slice (some ⟨c,0,none⟩) n a)/\f.ownsInts W.heap.size 3 .i64 (.slice (some ⟨c,0,none⟩) n a) (qS x y l n)/\Below W.heap.size W f:=by
 go_enter Tryz.func49,Tryz.ntmps49;go_wp2_with (go_at_call 52;refine p.mono ?_;rintro e f ⟨c,a,rfl,B,L⟩);go_loopw [14] (λi v=>∃k:Nat,k<=n/\i= .int .i64 k/\v.ownsInts W.heap.size 3 .i64 (.slice (some ⟨c,0,none⟩) n a) (qS x y l k)/\Below W.heap.size W v)
  (λi _=>n - (intOf i).toNat);case atStart=>grind[qS]
 case round=>
  obtain⟨k,O,rfl,q,o⟩:=hrel;by_cases I:k<n
  ·have H:wr.cell? ⟨g,k,none⟩=some (.int .i64 (l[k]'(by omega))):=(o.cell (by exact A)).trans (G k (by omega));have d:=@agX x y l k (by omega);by_cases t:l[k]'(by omega)=x
   ·rw[if_pos t] at d;have b:=q.1;rw[Mc,F] at b;obtain⟨C,K⟩:=b.stored k (.int .i64 y);have D:=b.frozenAt k;have r:=b.cellAt k (by omega);rw[γD,μ (by grind[Mc])] at r;go_wp2;have s:W.heap.size<=c:=by
     rcases b.2 with⟨M,_⟩|⟨R,u,J,M,P,_⟩<;>simp_all
    refine⟨⟨k+1,by omega,by simp,⟨?_,?_⟩,o.setCell (by exact s) _⟩,by simp[intOf];omega⟩;·simp_all[Mc]
    ·intro z m;rw[d] at m;rcases δi m with m|rfl;·exact q.2 z m
     ·exact E
   ·rw[if_neg t] at d;go_wp2;grind[intOf]
  ·obtain rfl:k=n:=by omega
   go_wp2;go_ret;exact⟨c,a,rfl,q,o⟩
theorem agZ (x0 x1 x2 x3 x4 x5 x6 x7 x8 x9 x10 x11 x12 x13 x14 x15 x16 x17 x18:Value) (a:Option Addr) (n cap:Nat) (hn:n<=60) (nm:Nat->List Int) (hnm:∀k,(nm k).length=n) (ag7:nm 0=δ n 0) (hwf:∀k,k<=n->∀x∈nm k,(Lit.int .i64 x).wf=true)
  (nk:Nat->Nat->List Int) (hnk:∀k j,(nk k j).length=n) (hwk:∀k j,k<n->∀x∈nk k j,(Lit.int .i64 x).wf=true) (aii:∀k,k<n->nk k 0=(nm k).set k (k:Int)) (ag8:∀k,k<n->nk k k=nm (k+1))
  (cn:Nat->Nat->Bool) (VF:∀k j,k<n->j<k->nk k (j+1)=if cn k j=true then qO (nk k j) (bj (nk k j) j 0) (bj (nk k j) k 0) else nk k j)
  (ov:Nat->Fin 8->Value) (w:World)
  (hoc:∀i,i<n->∃q,a=some q/\q.block<w.heap.size/\∀j:Fin 8,w.cell? ((q.add (i*8)).add j)=some (ov i j))
  (hcon:∀i j,i<n->j<n->∀W,Calls Tryz.prog 48 #[VD (ov i),VD (ov j)] W λe w'=>e= .returned (.bool (cn i j))/\Below W.heap.size W w')
  (ag9:∀(W:World) (B g cp:Nat) (l:List Int),l.length=n->W.ownsInts B 3 .i64 (.slice (some ⟨g,0,none⟩) n cp) l->∀x y,(Lit.int .i64 y).wf=true->Calls Tryz.prog 49 #[.slice (some ⟨g,0,none⟩) n cp,.int .i64 x,.int .i64 y] W λe w'=>
   ∃g2 cp2,e= .returned (.slice (some ⟨g2,0,none⟩) n cp2)/\w'.ownsInts W.heap.size 3 .i64 (.slice (some ⟨g2,0,none⟩) n cp2) (qO l x y)/\Below W.heap.size W w'):
  Calls Tryz.prog 29 #[.agg #[x0,x1,x2,x3,x4,x5,x6,x7,x8,x9,x10,x11,x12,x13,x14,x15,x16,x17,x18,.slice a n cap]] w λe w'=>∃B,w.heap.size<=B/\agT w' B (nm n) n e/\Below w.heap.size w w':=by
 have hmm:=@run_makeMap Tryz.prog;obtain⟨i0,hi,hz0,hz1,hz2⟩:=info_parts agI;go_enter Tryz.func29,Tryz.ntmps29;go_wp2_with (first
  |(at_make;refine wpList_make_full _ rfl _ _ 24 rfl (w.heap.size+1) 3 i0 (.int .i64 0) 1 Tryz.underlying24 hi hz0 hz1 .i64 .i64 _ _ n rfl rfl rfl rfl (by rw[hz2];omega) (by unfold maxLen;omega) (by simp) ?_;intro w0 hown0 VG);|go_in);go_loopw [18,3] (λi v wr=>∃(k:Nat) (g:Nat) (cp:Nat),k<=n/\i= .int .i64 k/\v= .slice (some ⟨g,0,none⟩) n cp/\wr.ownsInts (w.heap.size+1) 3 .i64 v (nm k)/\wr.cell? ⟨w.heap.size,19,none⟩=some (.slice a n cap)/\Below w.heap.size w wr)
  (λi _ _=>n - (intOf i).toNat);case atStart=>
  refine⟨0,w.heap.size+1,n,by omega,rfl,rfl,⟨?_,λz hz=>hwf 0 (δ2 _) z hz⟩,?_,((Below.refl _ w).alloc (ξ _) _).grown VG (by simp) (by simp_all)⟩;rotate_left
  ·refine(World.cell?_of_block (VG.block w.heap.size (by simp) (by simp_all))).trans ?_;simp_all
  rw[hnm 0,ag7];have e1:(madeCells (Value.int IntKind.i64 0).cells (n*1)).toList=(δ n (0:Int)).map (Value.int .i64):=by
   rw[Nat.mul_one,List.map_replicate];exact toList_madeCells_one _ _
  simp_all
 case round=>
  obtain⟨k,g,cp,hk,rfl,rfl,hown,VH,hnx⟩:=hrel;by_cases hlt:k<n
  ·obtain⟨q,rfl,hqb,_⟩:=hoc k hlt;have uO:=hown.1;rw[hnm k] at uO;obtain⟨hs1,hs2⟩:=uO.stored k (.int .i64 k);have hfr:=uO.frozenAt k;have hce:=uO.cellAt k (by omega);rw[γD,μ (by simp_all)] at hce;go_wp2;have hgb:w.heap.size+1<=g:=agU uO;have hX:(wr.setCell ⟨g,k,none⟩ (.int .i64 k)).ownsInts (w.heap.size+1) 3 .i64 (.slice (some ⟨g,0,none⟩) n cp) (nk k 0):=by
    refine⟨?_,hwk k 0 hlt⟩;simp_all
   have hY:(wr.setCell ⟨g,k,none⟩ (.int .i64 k)).cell? ⟨w.heap.size,19,none⟩=some (.slice (some q) n cap):=by
    rw[<-VH];exact World.cell?_of_block (Below.heap_setCell _ _ _ _ (by simp;omega))
   have hZ:Below w.heap.size w (wr.setCell ⟨g,k,none⟩ (.int .i64 k)):=hnx.setCell (by simp;omega) _;clear hs1 hs2 hfr hce hown VH hnx uO;generalize wr.setCell ⟨g,k,none⟩ (.int .i64 k)=wa at*;go_loopw [26,3] (λi v ws=>∃(j:Nat) (g:Nat) (cp:Nat),j<=k/\i= .int .i64 j/\v= .slice (some ⟨g,0,none⟩) n cp/\ws.ownsInts (w.heap.size+1) 3 .i64 v (nk k j)/\ws.cell? ⟨w.heap.size,19,none⟩=some (.slice (some q) n cap)/\Below w.heap.size w ws)
    (λi _ _=>k - (intOf i).toNat);case atStart=>exact⟨0,g,cp,δ2 _,rfl,rfl,hX,hY,hZ⟩
   case round=>
    obtain⟨j,g2,cp2,hj,rfl,rfl,ho2,hp2,hb2⟩:=hrel;by_cases hjk:j<k
    ·have hcs:∀i,i<n->∀m u,[ov i 0,ov i 1,ov i 2,ov i 3,ov i 4,ov i 5,ov i 6,ov i 7][m]?=some u->wr.cell? ((q.add (i*8)).add m)=some u:=by
      intro i hi m u hu;obtain⟨q',e,_,c⟩:=hoc i hi;injection e with e;subst e;have c0:∀m:Fin 8,wr.cell? ((q.add (i*8)).add m)=some (ov i m):=λm=>(hb2.cell (by simp_all[add_block])).trans (c m);match m,hu with
      |0,hu=>cases hu;exact c0 0;|1,hu=>cases hu;exact c0 1;|2,hu=>cases hu;exact c0 2;|3,hu=>cases hu;exact c0 3;|4,hu=>cases hu;exact c0 4;|5,hu=>cases hu;exact c0 5;|6,hu=>cases hu;exact c0 6;|7,hu=>cases hu;exact c0 7;|m+8,hu=>simp at hu
     have hjn:j<n:=by omega
     have aik:(j:Int)<(n:Int):=by omega
     have hln:=hnk k j;have hoj:wr.cell? ⟨g2,j,none⟩=some (.int .i64 (bj (nk k j) j 0)):=Bw ho2 hln (by omega);have hok:wr.cell? ⟨g2,k,none⟩=some (.int .i64 (bj (nk k j) k 0)):=Bw ho2 hln (by omega);have hwy:(Lit.int .i64 (bj (nk k j) k 0)).wf=true:=hwk k j hlt _ (by simp[bj,show k<(nk k j).length by omega]);go_wp2;refine wp_region_still_tail 10 (by kernel_rfl) (by kernel_rfl) ?_;simp only[δr,List.take_zero,εt,εn];still_step;still_step;still_step;still_step;refine wpStill_step (λK hK=>?_);refine VC 65 (.tmp 32) (q.add (k*8)) _ _ (hcs k hlt) Tryz.underlying65 (by kernel_rfl) rfl rfl (by rfl) ?_;simp only[Act.put,ε7,εF,ζb];refine hK _ ?_;clear hK K;still_step;still_step;still_step;still_step;refine wpStill_step (λK hK=>?_);refine VC 65 (.tmp 37) (q.add (j*8)) _ _ (hcs j (by omega)) Tryz.underlying65 (by kernel_rfl) rfl rfl (by rfl) ?_;simp only[Act.put,ε7,εF,ζb];refine hK _ ?_;clear hK K;refine wpStill_nil ?_;change wpList _ _ _ _ _ wr.drew;have hbd:Below wr.heap.size wr wr.drew:=(Below.refl _ _).drew;have hsd:wr.drew.heap.size=wr.heap.size:=rfl;have ho3:wr.drew.ownsInts (w.heap.size+1) 3 .i64 (.slice (some ⟨g2,0,none⟩) n cp2) (nk k j):=ho2;have hp3:wr.drew.cell? ⟨w.heap.size,19,none⟩=some (.slice (some q) n cap):=hp2;have hb3:Below w.heap.size w wr.drew:=hb2.drew;have hwz:w.heap.size<wr.heap.size:=agW ho2 hln (by omega);clear hoj hok ho2 hp2 hb2 hcs;generalize wr.drew=wd at*;have hc1:=hcon k j hlt hjn wd;rw[hsd] at hc1;cases hcj:cn k j with
     |false=>
      go_wp2_with (go_at_call 48;refine hc1.mono ?_;rintro e w' ⟨rfl,hb4⟩);have By:=VF k j hlt hjk;rw[hcj,if_neg (by simp)] at By;refine⟨⟨j+1,g2,cp2,by omega,by go_num,rfl,?_,?_,?_⟩,by simp[intOf];omega⟩
      ·rw[By];exact VE ho3 hb4 (by rw[hsd])
      ·rw[<-hp3];exact hb4.cell (by show w.heap.size<_;omega)
      ·exact hb3.trans (hb4.mono (by omega));|true=>
      go_wp2_with (go_at_call 48;refine hc1.mono ?_;rintro e w' ⟨rfl,hb4⟩);have By:=VF k j hlt hjk;rw[hcj,if_pos rfl] at By;have Fj:=VE ho3 hb4 (by rw[hsd]);have VI:w'.cell? ⟨w.heap.size,19,none⟩=some (.slice (some q) n cap):=by
       rw[<-hp3];exact hb4.cell (by show w.heap.size<_;omega)
      have hb5:=hb3.trans (hb4.mono (show w.heap.size<=wr.heap.size by omega));have ail:w.heap.size<w'.heap.size:=γi hwz (by rw[<-hsd];exact hb4.size);have hoj:w'.cell? ⟨g2,j,none⟩=some (.int .i64 (bj (nk k j) j 0)):=Bw Fj hln (by omega);have hok:w'.cell? ⟨g2,k,none⟩=some (.int .i64 (bj (nk k j) k 0)):=Bw Fj hln (by omega);clear ho3 hp3 hb3 hb4 hc1 hsd;refine wp_region_still_tail 9 (by kernel_rfl) (by kernel_rfl) ?_;simp only[δr,List.take_zero,εt,εn];still_step;still_step;still_step;still_step;still_step;still_step;still_step;still_step;still_step;refine wpStill_nil ?_;change wpList _ _ _ _ _ w'.drew;have ho5:w'.drew.ownsInts (w.heap.size+1) 3 .i64 (.slice (some ⟨g2,0,none⟩) n cp2) (nk k j):=Fj;have hp5:w'.drew.cell? ⟨w.heap.size,19,none⟩=some (.slice (some q) n cap):=VI;have hb6:Below w.heap.size w w'.drew:=hb5.drew;have hsd:w'.drew.heap.size=w'.heap.size:=rfl;clear hoj hok Fj VI hb5;generalize w'.drew=wd2 at*;have hc2:=ag9 wd2 _ g2 cp2 (nk k j) hln ho5 (bj (nk k j) j 0) (bj (nk k j) k 0) hwy;go_wp2_with (go_at_call 49;refine hc2.mono ?_;rintro e w'' ⟨g3,cp3,rfl,Me,VJ⟩);rw[<-By] at Me;refine⟨⟨j+1,g3,cp3,by omega,by go_num,rfl,⟨agV Me.1 (by omega),Me.2⟩,?_,?_⟩,by simp[intOf];omega⟩
      ·rw[<-hp5];exact VJ.cell (by show w.heap.size<_;omega)
      ·exact hb6.trans (VJ.mono (by omega))
    ·obtain rfl:j=k:=by omega
     go_wp2;refine⟨⟨j+1,g2,cp2,by omega,by go_num,rfl,by rw[<-ag8 j hlt];exact ho2,hp2,hb2⟩,by simp[intOf];omega⟩
  ·obtain rfl:k=n:=by omega
   have hln:=hnm k;have hcl:∀j,j<k->wr.cell? ⟨g,j,none⟩=some (.int .i64 (bj (nm k) j 0)):=by
    intro j hj;have h1:=hown.1;rw[hln] at h1;rw[World.ownsRow.cellAt h1 j (by omega)];simp[bj,show j<(nm k).length by omega]
   have hg:g<wr.heap.size:=by
    rcases hown.1.2 with⟨h0,_⟩|⟨g3,ain,cur,h0,_,hgg,_⟩;·cases h0
    ·injection h0 with h0;injection h0 with h0;injection h0 with h0;subst h0;exact(γw.1 hgg).1
   generalize hnl:nm k=l at*;generalize wr=w1 at*;go_wp2;go_loopw [55] (λi ws=>∃j:Nat,j<=k/\i= .int .i64 j/\ws.ownsGroups Tryz.prog 3 (w1.heap.size+1) 3 .i64 w1.heap.size j (nP Unit l j)/\Below w1.heap.size w1 ws/\w1.heap.size+1<=ws.heap.size)
    (λi _=>k - (intOf i).toNat);case atStart=>exact⟨0,δ2 _,rfl,World.ownsGroups_made _ _ _ _ _,(Below.refl _ _).alloc (ξ _) _,by simp⟩
   case round=>
    obtain⟨j,hj,rfl,hgr,hbl,hws⟩:=hrel;have hcx:j<k->wr.cell? ⟨g,j,none⟩=some (.int .i64 (bj l j 0)):=λh=>(hbl.cell (by exact hg)).trans (hcl j h);have hkey:j<k->keyOf Tryz.prog 3 (.int .i64 (bj l j 0))=some (.int .i64 (bj l j 0)):=λh=>keyOf_int_mk Tryz.underlying3 (hwf k (ξ _) _ (by rw[hnl];simp[bj,show j<l.length by omega]));by_cases hjk:j<k
    ·replace hcx:=hcx hjk;replace hkey:=hkey hjk;go_wp2_with (first
      |(at_lookup;refine wpList_lookup_groups _ rfl _ _ 94 rfl 3 24 3 .i64 L9 Tryz.underlying94 (agK _) (w1.heap.size+1) w1.heap.size j _ rfl hgr (by unfold maxLen;omega) _ _ rfl hkey ?_;intro v zs hat hoi hzl hback);|(at_builtin;refine wpList_append_own_at _ rfl _ _ 24 rfl (w1.heap.size+1) 3 i0 (.int .i64 0) 1 8 Tryz.underlying24 hi hz0 hz1 hz2 rfl (by decide) _ _ _ rfl (hoi.1.alloc _) ⟨wr.heap.size,0,none⟩ 1 1 [.int .i64 j] rfl rfl (cell_one_new _ _ _) (ints_oneCell .i64 [(j:Int)]) (by unfold maxLen;omega) (by omega) (by simp;omega) ?_;intro v' w2 hown' hgrow hnil hloc);|(at_mapUpdate;refine wpList_mapUpdate_back _ rfl _ _ _ 94 rfl hback rfl rfl rfl ((World.grownBy_alloc _ _ _).trans hgrow) (hoi.appended hown' (WalkArith.wf_i64 (by omega))) (by simp;omega) (hloc.imp id (λh=>⟨_,h,by simp⟩)) ?_;intro w3 hown3 hgrow3);|go_in);have hall:=(World.grownBy_alloc wr _ _).trans hgrow;go_roundw;case rel=>
      refine⟨j+1,by omega,by go_num,?_,hbl.groups hoi hall hgrow3 hbl.size (Nat.le_succ _) (ξ _),δ8 hws (δ8 hall.size hgrow3.size)⟩;have hz:=agz hoi hat;rw[nP,<-hz,<-(hoi.appended hown' (WalkArith.wf_i64 (by omega))).datum_pos (by simp)];exact hown3
     case measure=>simp[intOf];omega
    ·obtain rfl:j=k:=by omega
     have hmap:wr.ownsMap Tryz.prog 3 (rowElem wr (w1.heap.size+1) 3 .i64) w1.heap.size j (nP Unit l j):=by
      obtain⟨es,ck,h1,h2,h3,h4,h5,h6,h7⟩:=hgr;exact⟨es,ck,h1,h2,h3,h4⟩
     generalize wr=w4 at*;go_wp2_with (first
      |(at_range;refine wpList_range_own _ rfl _ 94 rfl 3 24 L9 Tryz.underlying94 _ w1.heap.size j _ rfl hmap ?_;intro w5 hrg0 hg0 hs0);|go_in);go_frame;go_loopw [9] (λu ws=>∃(left:Lit->Bool) (cnt:Nat) (hs:List (Int×Value)),ws.ranges Tryz.prog 3 (rowElem w4 (w1.heap.size+1) 3 .i64) w1.heap.size w4.heap.size j (nP Unit l j) left cnt/\
       ws.ownsRow (w4.heap.size+1) 24 1 u hs.length (hs.map ζ3)/\yY (λv zs=>w4.ownsInts (w1.heap.size+1) 3 .i64 v zs) l j (nP Unit l j) left cnt hs/\
       w4.heap.size+1<=ws.heap.size/\Below w4.heap.size w4 ws)
      (λ_ ws=>ws.rangeLeft w1.heap.size w4.heap.size);case atStart=>
      refine⟨ζ6 (nP Unit l j),Go.Maps.size (nP Unit l j),[],hrg0,⟨by simp,.inl ⟨rfl,rfl⟩⟩,⟨List.nodup_nil,by simp,?_,?_,λ_ h=>h⟩,by omega,(Below.refl _ w4).grown hg0 (ξ _) (by intro k hk;cases hk)⟩
      ·intro f hf hl;rw[Vx] at hl;have h2:=Fh.1 hf;simp at hl;rw[hl] at h2;cases h2
      ·have:=hmap.size_le;simp;omega
     case round=>
      obtain⟨left,cnt,hs,hrg,hrow,hse,hsz,hbe⟩:=hrel;go_wp2_with (first
       |(at_next;refine wpList_next_ranges _ rfl _ rfl 3 L9 (rowElem w4 (w1.heap.size+1) 3 .i64) (Value.int .i64) (λc:Option Addr×Nat×Nat=>Value.slice c.1 c.2.1 c.2.2) (λkey kl hkey=>by obtain⟨x,rfl,_⟩:=Maps.keyOf_int_inv Tryz.underlying3 hkey;exact⟨x,rfl⟩) (λv y hv=>by
        obtain⟨zs,ho,_⟩:=rowElem_inv hv;obtain⟨_,h|⟨g,cp,_,h,_⟩⟩:=ho.1;·exact⟨(none,0,0),h.1⟩
        ·exact⟨(some ⟨g,0,none⟩,zs.length,cp),h⟩) w1.heap.size w4.heap.size j _ _ _ rfl hrg ?_ ?_);|go_in)
      ·intro hc0 hl0;have eg:∀args w,(callFunc 51 args).run Tryz.prog w= .ok (.enter 51 args) w:=enters_of Tryz.func51 (by kernel_rfl) rfl;obtain⟨hmem,hO,hsrt⟩:=hse.done hl0;have hhs:hs.length<=60:=by have:=hse.c;omega
       rcases hrow.2 with⟨rfl,hn0⟩|⟨g2,cap2,cur,rfl,hgb,hgg,q1,q2,q3,q4⟩
       ·have lx:=AnyF.slices_SortFunc_none {Tryz.layR with} none 0 (.func (.func 51) #[] #[]) wr;change Calls Tryz.prog 50 _ _ _ at lx;go_wp2_with (go_at_call 50;refine lx.mono ?_;rintro e w' ⟨rfl,rfl⟩);go_ret;refine⟨w1.heap.size+1,ζs hnx.size,.inl ⟨rfl,?_⟩,hnx.trans ((hbl.trans (hbe.mono (by omega))).mono hnx.size)⟩;rw[hnl,δ0];intro f hf;have hf2:=(hmem f).2 hf;rw[τ hn0] at hf2;cases hf2
       ·by_cases hne:hs=[]
        ·subst hne;have lx:=AnyF.slices_SortFunc_none {Tryz.layR with} (some ⟨g2,0,none⟩) cap2 (.func (.func 51) #[] #[]) wr;change Calls Tryz.prog 50 _ _ _ at lx;go_wp2_with (go_at_call 50;refine lx.mono ?_;rintro e w' ⟨rfl,rfl⟩);go_ret;have h0:eW l j=[]:=by
          rw[δ0];intro f hf;have hf2:=(hmem f).2 hf;cases hf2
         refine⟨w1.heap.size+1,ζs hnx.size,?_,hnx.trans ((hbl.trans (hbe.mono (by omega))).mono hnx.size)⟩;rw[hnl];refine .inr ⟨g2,cap2,cur,mV [],by rw[h0];rfl,by omega,hgg,by rw[h0];simp,q2,q3,by rw[h0];simp,λf hf=>?_⟩;rw[h0] at hf;cases hf
        have hhd:∀x:Hd l j,∃(g n cap:Nat),mV hs x.val= .slice (some ⟨g,0,none⟩) n cap/\0<n/\g<w4.heap.size/\w1.heap.size+1<=g/\w4.cell? ⟨g,0,none⟩=some (.int .i64 x.val):=λx=>by
         have h1:=hO x.val x.property;have h2:=Fh.1 x.property;cases hc:gI l j (bj l x.val.toNat 0) with
         |nil=>rw[hc] at h2;cases h2;|cons y tl=>
          rw[hc] at h1 h2;injection h2 with h2;subst h2;exact agN h1
        have hbd:∀x:Hd l j,0<=x.val/\x.val<256:=λx=>by
         have:=agF x.property;omega
        have ahf:((hs.map εk).attachWith (·∈eW l j) (λf hf=>(hmem f).1 hf)).map (λx:Hd l j=>mV hs x.val)=hs.map ζ3:=by
         have:(λx:Hd l j=>mV hs x.val)=(mV hs)∘εN:=rfl;rw[this,<-γ4,εO];exact agG hse.d
        obtain⟨q0,hq0⟩:=List.exists_mem_of_ne_nil _ hne;haveI:Inhabited (Hd l j):=⟨⟨q0.1,(hse.i q0 hq0).1⟩⟩;have lx:=Any.slices_SortFunc_total Tryz.layR (λx:Hd l j=>mV hs x.val) (λx=>by obtain⟨g,n,cap,e,_⟩:=hhd x;show(mV hs x.val).oneCell'=true;rw[e];rfl) qR agR 51 #[] g2 0 cap2 ((hs.map εk).attachWith (·∈eW l j) (λf hf=>(hmem f).1 hf)).toArray wr eg
         (λm os dk hdk x y=>by
          obtain⟨ga,na,ca,ea,la,ba,da,fa⟩:=hhd x;obtain⟨gb,nb,cb,eb,lb,bb,db,fb⟩:=hhd y;simp only[ea,eb];have aio:=hbe.size;exact agL ga gb na ca nb cb x.val y.val _ la lb (by rw[VB _ _ _ _ _ _ _ _ (by show ga≠g2;omega) (by show ga<_;omega),hbe.cell (by exact ba)];exact fa)
           (by rw[VB _ _ _ _ _ _ _ _ (by show gb≠g2;omega) (by show gb<_;omega),hbe.cell (by exact bb)];exact fb) (hbd x) (hbd y)) (agM hgg (by simp only[ζY,εK,Θ];rw[show hs.length=hs.length*1 by omega,q4];exact ahf.symm)) (γw.1 hgg).1 (by simp;omega) (λx y h1 h2=>by rw[wI] at h1 h2;simp at h1 h2;exact Subtype.ext (by omega));change Calls Tryz.prog 50 _ _ _ at lx;simp only[ζY,εK,Θ] at lx;go_wp2_with (go_at_call 50;refine lx.mono ?_;rintro e w' ⟨rfl,N,os,rfl⟩);go_ret;have VK:((hs.map εk).attachWith (·∈eW l j) (λf hf=>(hmem f).1 hf)).map εN=hs.map εk:=εO _;have hT:=agS ((hs.map εk).attachWith (·∈eW l j) (λf hf=>(hmem f).1 hf)) (by rw[VK];exact hmem) (by rw[VK];exact hse.d);have hpl:=(δs ((hs.map εk).attachWith (·∈eW l j) (λf hf=>(hmem f).1 hf)) λx y=>!ltOf qR y x).length_eq;generalize (((hs.map εk).attachWith (·∈eW l j) (λf hf=>(hmem f).1 hf)).mergeSort λx y=>!ltOf qR y x)=ts at hT hpl ⊢;simp only[εK,Θ] at hpl;have hdl:(eW l j).length=hs.length:=by rw[<-hT,Θ,hpl]
        have hbs:=hbe.size;have hb':=hbe.grown (agP (λx:Hd l j=>mV hs x.val) (n:=N) (os:=os) (g:=g2) ts.toArray) hbe.size (by intro k hk;injection hk with hk;omega);refine⟨w1.heap.size+1,ζs hnx.size,?_,hnx.trans ((hbl.trans (hb'.mono (by omega))).mono hnx.size)⟩;rw[hnl];have htk:=agQ (λx:Hd l j=>mV hs x.val) cur ts.toArray (by simp;omega);refine .inr ⟨g2,cap2,_,mV hs,by rw[hdl];rfl,by omega,agO _ _ hgg,by omega,q2,by simp[putCells,q3],?_,λf hf=>?_⟩
        ·rw[hdl,<-hpl];refine Eq.trans ?_ (congrArg (γb (mV hs)) hT);rw[γ4];simpa using htk
        ·refine World.ownsInts.kept (row:=none) (hO f hf) ⟨hb'.os,hb'.tape,hb'.output,hb'.size,λk hk _=>hb'.block k hk⟩ ?_;obtain⟨g,n,cap,e,_⟩:=hhd ⟨f,hf⟩;right;rw[show mV hs f=_ from e];simp[Value.ownBlock]
      ·intro x ca cn cc kl y yy w6 cnt1 hkx hlx hRc hat hrg1 hlt hg1 hs1 hen;obtain⟨_,e1,rfl,hwx⟩:=Maps.keyOf_int_inv Tryz.underlying3 hkx;cases e1;obtain⟨zs,hoc,hyy⟩:=rowElem_inv hRc;cases hyy;obtain⟨i1,hi1,hy0,hy1,hy2⟩:=info_parts agJ;have h1c:∀v∈[Value.slice ca cn cc],v.oneCell'=true:=by
        intro v hv;rw[List.mem_singleton] at hv;subst hv;rfl
       have hkl:=hse.h _ hlx;rw[Vx] at hkl;obtain⟨f,tl,hft,hfh,hfx⟩:=agB (of_decide_eq_true hkl);have uO:=hrow.kept hg1 (by
        rcases hrow.2 with⟨rfl,_⟩|⟨g,cap,cur,rfl,hgb,_⟩;·exact .inl rfl
        ·right;simp[Value.ownBlock];omega);have hcc:=hse.c;have hhs:hs.length<=60:=by omega
       have ahj:Below w4.heap.size w4 w6:=hbe.grown hg1 hbe.size (by intro k hk;injection hk with hk;omega);go_wp2_with (first
        |(at_builtin;refine wpList_append_own _ rfl _ _ 30 rfl (w4.heap.size+1) 24 i1 (.slice none 0 0) 1 24 Tryz.underlying30 hi1 hy0 hy1 hy2 rfl (by decide) _ _ _ rfl (uO.alloc _) ⟨wr.heap.size,0,none⟩ 1 1 [Value.slice ca cn cc] rfl rfl (by rw[<-hs1];exact cell_one_new _ _ _) h1c (by unfold maxLen;omega) (by omega) (by simp;omega) ?_;intro v' w7 ahk ahl aip);|go_in);have MA:(w6.alloc (Obj.cells #[Value.slice ca cn cc] 24)).grownBy w7 u9.ownBlock:=ahl;have hzs:zs=gI l j x:=agH hoc (hat .nil);have hO:w4.ownsInts (w1.heap.size+1) 3 .i64 (Value.slice ca cn cc) (gI l j (bj l f.toNat 0)):=by
        rw[hfx,<-hzs];exact hoc
       have hrw:some w1.heap.size≠u9.ownBlock/\some w4.heap.size≠u9.ownBlock:=by
        rcases hrow.2 with⟨rfl,_⟩|⟨g,cap,cur,rfl,hgb,_⟩;·exact⟨by simp[Value.ownBlock],by simp[Value.ownBlock]⟩
        ·exact⟨by simp[Value.ownBlock];omega,by simp[Value.ownBlock];omega⟩
       have VL:=(hrg1.alloc (Obj.cells #[Value.slice ca cn cc] 24)).kept MA hrw.1 hrw.2;have aiq:=MA.size;have hsa:(w6.alloc (Obj.cells #[Value.slice ca cn cc] 24)).heap.size=w6.heap.size+1:=by simp
       have hbs:=hbe.size;subst hfx;refine⟨⟨_,cnt1,hs++[(f,.slice ca cn cc)],VL,?_,hse.step hfh hO hlx hlt,by omega,(ahj.alloc (by omega) _).grown MA (by omega) ?_⟩,?_⟩
       ·rw[γf,γa];exact ahk
       ·intro k hk;rcases hrow.2 with⟨rfl,_⟩|⟨g,cap,cur,rfl,hgb,_⟩;·cases hk
        ·simp[Value.ownBlock] at hk;omega
       ·rw[VL.left_eq,hrg.left_eq];exact hlt
end Go.Proofs
namespace Go.Vi
open Go.Proofs.YtbnhiekmnpikhaaGreat.Ir
open Go.Proofs
theorem ahm {a b:Off} (d:a.want.ok=true) (c:b.want.ok=true):lq a b=true↔a.bX=b.bX\/¬((a.want.meet b.want).a0=0/\(a.want.meet b.want).a1=0/\(a.want.meet b.want).a2=0/\(a.want.meet b.want).a3=0/\(a.want.meet b.want).a4=0/\(a.want.meet b.want).a5=0):=by
 have d:=bB.ja.1 d;have c:=bB.ja.1 c;simp only[lq,List.any_cons,List.any_nil,Bool.or_eq_true,θ,decide_eq_true_eq,Bool.false_eq_true,or_false];simp only[bB.at,agm,agn,bB.meet];omega
def VM:bM:=⟨48,Off×Off,.cons (eh .off) (.one (eh .off)),λa=>a.1.want.ok=true/\a.2.want.ok=true,λa=> .sb (lq a.1 a.2)⟩
theorem h565:Holds Tryz.prog VM:=by
 refine cF (L:=[HU]) VM (λ_=>λ_=> .look) (by grind[h163]) ?_;rintro⟨a,b⟩ ⟨e,f⟩;simp only at e f;refine bO (let e:=(0:Int);let d:=decide (a.bX=b.bX);let c:=a.want.meet b.want;(d=true->(δc true).same (γv (lq a b)))/\(d=false->True/\(γv !(decide (c.a0=e)&&(decide (c.a1=e)&&(decide (c.a2=e)&&(decide (c.a3=e)&&(decide (c.a4=e)&&(decide (c.a5=e)&&true))))))).same (γv (lq a b)))) (by kernel_rfl) ?_;simp only[vcs];grind[ahm]
def Bz (p:bn) (i:Nat) (j:Fin 8):Value:=bj (dx .off (oI p i)) j .nilFunc
theorem VN {W:World} (o:Off):bw jK W [] [] ((eh .off).put o).g (.agg (dx .off o).toArray):=by
 show bw jK W [] [] (.agg ((dx .off o).map .sc)) _;simp only[bw];exact⟨_,rfl,by simpa using vf jK W [] [] (dx .off o) (by simp[dx,iv,Value.oneCell'])⟩
theorem ahn {a b:Off} (j:a.want.ok=true) (h:b.want.ok=true) (W:World):Calls Tryz.prog 48 #[.agg (dx .off a).toArray,.agg (dx .off b).toArray] W λe g=>e= .returned (.bool (lq a b))/\RowKit.Below W.heap.size W g:=by
 refine((h565 (a,b) ⟨j,h⟩).2 jK W [] [.agg (dx .off a).toArray,.agg (dx .off b).toArray] (zk W (λb f=>f.elim)) ⟨_,_,rfl,VN a,_,_,rfl,VN b,rfl⟩).mono ?_;rintro e i ⟨u,c,rfl,_,d,k⟩;have d:bw jK i c [] (.sc (.bool (lq a b))) u:=d;grind[bw,P4]
theorem aho {l:List Int} {x y:Int}:qS x y l l.length=qO l x y:=by simp[qS,qO]
theorem ahp {n:Nat} (v:n<=60) (W:World) (B g d:Nat) (l:List Int) (i:l.length=n) (k:W.ownsInts B 3 .i64 (.slice (some ⟨g,0,none⟩) n d) l) (x y:Int) (t:(Lit.int .i64 y).wf=true):
  Calls Tryz.prog 49 #[.slice (some ⟨g,0,none⟩) n d,.int .i64 x,.int .i64 y] W λe o=>
   ∃m a,e= .returned (.slice (some ⟨m,0,none⟩) n a)/\o.ownsInts W.heap.size 3 .i64 (.slice (some ⟨m,0,none⟩) n a) (qO l x y)/\RowKit.Below W.heap.size W o:=by
 have s:∀j (h:j<l.length),W.cell? ⟨g,j,none⟩=some (.int .i64 l[j]):=λj h=>by
  rw[Bw k i (by omega)];grind[bj]
 have z:=agY g n d l i v x y t k.2 W (by have:=k.1.lt g (by simp[Value.ownBlock]);omega) s (by
  have p:Calls Tryz.prog 52 #[.slice (some ⟨g,0,none⟩) n d] W _:=Ru Tryz.layC Tryz.t3 (.int .i64 0) 1 8 (by kernel_rfl) (by kernel_rfl) (by kernel_rfl) (by kernel_rfl) (by kernel_rfl) (by omega) Tryz.sizeOf3 ⟨g,0,none⟩ n d (l.map (Value.int .i64)) W (by simp[i]) (by grind[maxLen]) (by omega) (λj u w=>by
   grind[Addr.add_lit]) (by simp[Value.oneCell']);refine p.mono ?_;rintro e o ⟨A,rfl,b,q,f⟩;have c:=b;rcases c.2 with h|⟨m,a,r,rfl,_⟩;·simp_all
  ·exact⟨m,a,rfl,⟨by rw[i];exact b,k.2⟩,f⟩);grind[aho]
theorem BA {p:bn} {i:Nat} {l:List Int}:∀{k:Nat},(mU p i l k).length=l.length
 |0=>rfl
 |k+1=>by
  unfold mU;split;·rw[Vr];exact BA
  ·exact BA
theorem Fo {p:bn}:∀{k:Nat},(nO p k).length=p.offers.length
 |0=>List.length_replicate
 |k+1=>by
  show(mU p k _ k).length=_;rw[BA,List.length_set];exact Fo
theorem BD {p:bn} {i:Nat} {l:List Int} {B:Int} (b:i<l.length) (h:∀x∈l,0<=x/\x<=B):∀{k:Nat},∀x∈mU p i l k,0<=x/\x<=B
 |0=>h
 |k+1=>by
  intro x a;unfold mU at a;split at a
  ·unfold qO at a;obtain⟨y,c,rfl⟩:=Ω.1 a;split
   ·refine BD (p:=p) b h (k:=k) _ ?_;grind[BA,cY]
   ·exact BD b h (k:=k) y c
  ·exact BD b h (k:=k) x a
theorem MB {p:bn}:∀{k:Nat},k<=p.offers.length->∀x∈nO p k,0<=x/\x<=p.offers.length
 |0,_=>λx a=>by
  have:=List.eq_of_mem_replicate a;omega;|k+1,b=>by
  refine BD (by grind[Fo]) λx a=>?_;rcases δi a with a|rfl;·exact MB (by omega) x a
  ·omega
theorem ahq {A:dN} {w:World} {B:Nat} {v:Value} {l:List Int} (e:w.ownsInts B 3 .i64 v l) (u:∀b,A b->b<B):bw A w [] [] (.sl l.length (l.map λx=>AV.sc (.int .i64 x))) v:=by
 have m:dA (l.map λx=>AV.sc (.int .i64 x))=true:=by rw[<-mL];grind[nV]
 have d:=e.1;rcases e.1.2 with⟨rfl,y⟩|⟨g,k,o,rfl,q,p,h,r,s,t⟩;·grind[bw,dq]
 ·simp only[bw];refine⟨_,_,rfl,h,m,dq.kY _ _ _ λi c a=>?_⟩;rw[γD] at a;obtain⟨x,f,rfl⟩:=ε.1 a;have n:=(ζ.1 f).1;refine⟨⟨g,0,none⟩,.int .i64 x,rfl,⟨λ⟨i,c,a⟩=>by simp at a,λj=>by grind⟩,?_,by simp[bw,Value.oneCell']⟩;rw[Addr.add_lit,Nat.zero_add,Nat.zero_add,World.ownsRow.cellAt d i (by omega),γD,f];rfl
theorem VO (L:List (List Int)):cB (.bF (.i .i64)) L=L.map λl=>AV.sl l.length (l.map λx=>AV.sc (.int .i64 x)):=by
 induction L with
 |nil=>rfl;|cons l L a=>
  rw[π,<-a,<-mL];rfl
theorem ahr {w:World} {a:Addr} {v:Value} (h:w.cell? a=some v):a.block<w.heap.size:=by
 grind[World.cell?]
theorem ahs (q:Addr) (a b:Nat):(q.add a).add b=q.add (a+b):=by
 unfold Addr.add;grind
theorem aht {p:bn} {i:Nat} (a:i<p.offers.length) (j:Fin 8):(cB .off p.offers)[i*8+j]?=some (.sc (Bz p i j)):=by
 have h:=OE (s:=.off) a;have b:((cB .off p.offers).drop (i*bp.off.sz))[(j:Nat)]?=some (.sc (Bz p i j)):=by
  rw[h];obtain⟨j,c⟩:=j;have:j=0\/j=1\/j=2\/j=3\/j=4\/j=5\/j=6\/j=7:=by omega
  rcases this with rfl|rfl|rfl|rfl|rfl|rfl|rfl|rfl<;>rfl
 rwa [List.getElem?_drop] at b
def MC:bM:=⟨29,bn,.one dK,λp=>bz p=0/\p.offers.length<=60,λp=> .row (.bF (.i .i64)) (cO p)⟩
theorem h560:Holds Tryz.prog MC:=by
 rintro(p:bn) ⟨hc,hn⟩;refine⟨by kernel_rfl,?_⟩;intro A w σ vs Q E;have T:σ=[]:=by have:=Q.len;simp_all
 subst T;replace E:bG A w [] [] [.agg (gL p.ss)] vs:=E;simp only[bG] at E;obtain⟨v,r,rfl,hv,rfl⟩:=E;simp only[bw] at hv;obtain⟨cs,rfl,C⟩:=hv;obtain⟨cs⟩:=cs;simp only[bn.ss,gL,SV.g,bG] at C;obtain⟨x0,r0,rfl, -,x1,r1,rfl, -,x2,r2,rfl, -,x3,r3,rfl, -,x4,r4,rfl, -,x5,r5,rfl, -,x6,r6,rfl, -,x7,r7,rfl, -,x8,r8,rfl, -,x9,r9,rfl, -,J,a8,rfl, -,H,b0,rfl, -,U,a7,rfl, -,a1,b2,rfl, -,V,b4,rfl, -,a0,b5,rfl, -,I,a5,rfl, -,L,b1,rfl, -,F,a6,rfl, -,b6,b3,rfl,D,rfl⟩:=C;simp only[bw] at D;obtain⟨a,Z,rfl,a2,_,hM⟩:=D;have K:∀i,i<p.offers.length->∃q,a=some q/\q.block<w.heap.size/\∀j:Fin 8,w.cell? ((q.add (i*8)).add j)=some (Bz p i j):=by
  intro i m;have hq:∀j:Fin 8,∃b,a=some b/\w.cell? (b.add (i*8+j))=some (Bz p i j):=λj=>by
   obtain⟨b,v,e,_,M,a3⟩:=dq.get _ _ _ hM _ _ (aht m j);grind[bw]
  obtain⟨q,rfl,h0⟩:=hq 0;refine⟨q,rfl,?_,λj=>?_⟩
  ·have:=ahr h0;grind[add_block]
  simp_all[ahs]
 have t:∀i:Nat,i<p.offers.length->(oI p i).want.ok=true:=λi m=>(kQ hc (i:=(i:Int)) ⟨by omega,by omega⟩).2.2.1;have a4:∀k:Nat,((nO p k).set k (k:Int)).length=p.offers.length:=λk=>by grind[Fo]
 have n:=agZ x0 x1 x2 x3 x4 x5 x6 x7 x8 x9 J H U a1 V a0 I L F a p.offers.length Z hn (nO p) (λ_=>Fo) rfl (λk s x o=>WalkArith.wf_i64 (by have:=MB s x o;omega))
  (λk j=>mU p k ((nO p k).set k (k:Int)) j) (λk j=>by grind[BA])
  (λk j s x o=>WalkArith.wf_i64 (by
   have:=BD (p:=p) (i:=k) (B:=p.offers.length) (by simp_all) (λx o=>by
    rcases δi o with o|rfl;·exact MB (by omega) x o
    ·omega) (k:=j) x o;omega))
  (λk s=>rfl) (λk s=>rfl) (λi j=>lq (oI p i) (oI p j)) (λk j s hj=>rfl) (Bz p) w K (λi j m hj W=>ahn (t i m) (t j hj) W) (λW B g cp l X ho x y hy=>ahp hn W B g cp l X ho x y hy);refine n.mono ?_;rintro e w' ⟨B,hB,z,d⟩;have hA:∀b,A b->b<B:=λb h=>γi (Q.jE b h) hB;have R:bT A w' [] []:=⟨rfl,by simp,by simp,by simp,by simp,λb h=>γi (Q.jE b h) d.size⟩;have hE:Ext w [] [] w' [] []:=⟨d.size,λb h _=>⟨d.block b h,λ⟨i,c,m⟩=>by simp at m⟩,ξ _,λ_ _ ⟨_,_,_,_,h,_⟩=>by simp at h,λ_ ⟨_,_,_,h⟩=>by simp at h,d.os,d.tape,d.output⟩;have e2:(MC.res p).G= .sl (cO p).length ((cO p).map λl=>AV.sl l.length (l.map λx=>AV.sc (.int .i64 x))):=by rw[<-VO];rfl
 have P:dA ((cO p).map λl=>AV.sl l.length (l.map λx=>AV.sc (.int .i64 x)))=true:=by rw[<-VO];grind[nV]
 have u:cO p=(eW (nO p p.offers.length) p.offers.length).map λf=>gI (nO p p.offers.length) p.offers.length (bj (nO p p.offers.length) f.toNat 0):=agE;rw[e2];rcases z with⟨rfl,h0⟩|⟨g,cp,Y,sv,rfl,hg,a9,h1,h2,h3,h4,h5⟩;·grind[bw,dq]
 ·have X:(cO p).length=(eW (nO p p.offers.length) p.offers.length).length:=by rw[u,Θ]
  refine⟨_,[],rfl,R,?_,hE⟩;rw[X];simp only[bw];refine⟨_,_,rfl,h1,P,dq.kY _ _ _ λi c m=>?_⟩;rw[u,γ4,γD] at m;obtain⟨f,S,rfl⟩:=ε.1 m;have N:=(ζ.1 S).1;have h9:(Y.toList.take (eW (nO p p.offers.length) p.offers.length).length)[i]?=some (sv f):=by rw[h4,γD,S];rfl
  rw[δy N,Array.getElem?_toList] at h9;refine⟨⟨g,0,none⟩,sv f,rfl,⟨λ⟨i,c,m⟩=>by simp at m,λO=>by have:=hA g O;omega⟩,?_,ahq (h5 f (List.mem_of_getElem? S)) hA⟩;rw[Addr.add_lit];simp_all[World.cell?]
def MD:bM:=⟨36,List Int×List Int,.cons (dF (.i .i64)) (.one (dF (.i .i64))),λa=>a.1.length<=1000000/\a.2.length<=1000000,λa=> .sb (decide (a.1=a.2))⟩
def ahu (x y:List Int):Nat->cE
 |4=> .inv Int (λi=>⟨[(0,.row (.i .i64) x),(1,.row (.i .i64) y),(12,.si .i64 x.length),(13,.si .i64 i)],[]⟩)
   (λs=>iS s 13) (λi=>(0<=i/\i<=x.length)/\∀k:Nat,(k:Int)<i->bj x k 0=bj y k 0) (λi=>(x.length - i).toNat) λ_ _=> .look
 |_=> .look
theorem h564:Holds Tryz.prog MD:=by
 refine cF (L:=[]) MD (λa=>ahu a.1 a.2) (by simp) ?_;rintro⟨x,y⟩ ⟨t,z⟩;simp only at t z;refine bO (let a:=(0:Int);let e:=γh .i64;let h:=δc false;let o:=(↑x.length:Int);let q:=decide (o≠(↑y.length:Int));let j:=γv (decide (x=y));let f:=Ψ (bp.i .i64) x;let g:=Ψ (bp.i .i64) y;let c:=(↑x.length:Int);let l:=e c;(q=true->(h).same j)/\(q=false->(((f.same f/\g.same g/\(e o).same l/\(γx .i64 0).same (e 0)/\True)/\True)/\(a<=a/\a<=c)/\∀(k:Nat),(↑k:Int)<a->bj x k a=bj y k a)/\∀(b:Int),let p:=decide (bj x b.toNat a≠bj y b.toNat a);let d:=b+(1:Int);let s:=e d;((a<=b/\b<=c)/\∀(k:Nat),(↑k:Int)<b->bj x k a=bj y k a)->(decide (b<c)=true->a<=b/\b<o/\b.toNat<x.length/\a<=b/\b<(↑y.length:Int)/\b.toNat<y.length/\(p=true->(h).same j)/\(p=false->cq .i64 d/\((f.same f/\g.same g/\l.same l/\s.same s/\True)/\True)/\((a<=d/\d<=c)/\∀(k:Nat),(↑k:Int)<d->bj x k a=bj y k a)/\(c - d).toNat<(c - b).toNat))/\(decide (b<c)=false->(δc true).same j))) (by kernel_rfl) ?_;simp only[vcs];refine⟨λh=>(decide_eq_false λe=>h (by rw[e])).symm,λh=>⟨⟨by omega,λk w=>by omega⟩,?_⟩⟩;rintro i ⟨⟨r,D⟩,w⟩;refine⟨λn=>⟨r,n,by omega,r,by omega,by omega,λm=>(decide_eq_false λe=>m (by rw[e])).symm,λB=>⟨by omega,⟨by omega,λk u=>?_⟩,by omega⟩⟩,λv=>?_⟩;·grind
 ·refine(decide_eq_true (List.ext_getElem (by omega) λk A C=>?_)).symm;grind[cY]
@[reducible] def dB:bp:=.pair (.bF (.i .i64)) (.pair (.i .i64) (.bF (.pair (.i .i64) (.pair (.i .i64) (.pair (.i .i64) (.pair (.i .i64) (.bF (.pair .b (.pair (.bF (.i .u32)) (.bF (.i .u32)))))))))))
def fZ (l:List (List Int)) (r:List dB.T) (n:Nat):List Int:=(dm n).flatMap λi=>qQ (bj l i.toNat []) (bj r i.toNat dB.dflt).1
def iF (r:List dB.T) (n:Nat):Int:=((r.take n).map λx=>x.2.1).sum
def lK (l:List (List Int)) (r:List dB.T) (i j:Int):List Int:=fZ l r i.toNat++qQ (bj l i.toNat []) ((bj r i.toNat dB.dflt).1.take j.toNat)
def Fp:bM:=⟨34,List (List Int)×List dB.T,.cons (dF (.bF (.i .i64))) (.one (dF dB)),λa=>(a.2.length<=a.1.length/\a.1.length<=1000)/\(∀n:Nat,n<=a.2.length->(fZ a.1 a.2 n).length<=100000/\ -9000000000000000000<=iF a.2 n/\iF a.2 n<=9000000000000000000)/\∀i:Nat,i<a.2.length->∀k∈(bj a.2 i dB.dflt).1,0<=k/\k<(bj a.1 i []).length,
 λa=>nu.put ⟨dZ (fZ a.1 a.2 a.2.length),iF a.2 a.2.length⟩⟩
def ahv (l:List (List Int)) (r:List dB.T):Nat->cE
 |3=> .inv Int (λi=>⟨[(0,.row (.bF (.i .i64)) l),(4,.ptr 0 0 2),(5,.ptr 1 0 2),(10,.row dB r),(11,.si .i64 r.length),(12,.si .i64 i)],[.cells [.sc (.slice none 0 0),.il .i64 0] 40 2 false,.cells [.ow 2 (fZ l r i.toNat).length 1,.si .i64 (iF r i.toNat)] 40 2 false,.row (.i .i64) (fZ l r i.toNat) 3 true]⟩)
   (λs=>iS s 12) (λi=>0<=i/\i<=r.length) (λi=>(r.length - i).toNat) λi=>λ
   |7=> .inv Int (λj=>⟨[(0,.row (.bF (.i .i64)) l),(4,.ptr 0 0 2),(5,.ptr 1 0 2),(6,.si .i64 i),(10,.row dB r),(11,.si .i64 r.length),(12,.si .i64 i),(26,.row (.i .i64) (bj r i.toNat dB.dflt).1),(27,.si .i64 (bj r i.toNat dB.dflt).1.length),(28,.si .i64 j)],
      [.cells [.sc (.slice none 0 0),.il .i64 0] 40 2 false,.cells [.ow 2 (lK l r i j).length 1,.si .i64 (iF r (i+1).toNat)] 40 2 false,.row (.i .i64) (lK l r i j) 3 true,.cells [.row (.i .i64) (bj r i.toNat dB.dflt).1,.si .i64 (bj r i.toNat dB.dflt).2.1,.row (.pair (.i .i64) (.pair (.i .i64) (.pair (.i .i64) (.pair (.i .i64) (.bF (.pair .b (.pair (.bF (.i .u32)) (.bF (.i .u32))))))))) (bj r i.toNat dB.dflt).2.2] 51 3 false]⟩)
     (λs=>iS s 28) (λj=>0<=j/\j<=(bj r i.toNat dB.dflt).1.length) (λj=>((bj r i.toNat dB.dflt).1.length - j).toNat) λ_ _=> .look
   |_=> .look
 |_=> .look
theorem h563:Holds Tryz.prog Fp:=by
 refine con (L:=[]) (W:=gK [Vu]) Fp (λa=>ahv a.1 a.2) (kZ (by grind[h337e])) (by simp) ?_;rintro⟨l,r⟩ ⟨⟨h1,h2⟩,Y,h4⟩;simp only at h1 h2 Y h4;refine bO (let a:=γh .i64;let d:=(0:Int);let j:=Ψ;let k:=bq.cells;let s:=bq.row;let u:=γZ;let v:=cq .i64;let c:=bp.i .i64;let F:=γO 0 0 2;let D:=γO 1 0 2;let t:=(↑r.length:Int);let E:=a t;let X:=γx .i64 0;let C:=k [SV.sc (Value.slice none 0 0),X] 40 2 false;let y:=(bp.i .u32).bF;let G:=c.pair (c.pair (c.pair (c.pair (bp.b.pair (y.pair y)).bF)));((((j c.bF l).same (j c.bF l)/\F.same F/\D.same D/\(j dB r).same (j dB r)/\E.same E/\X.same (a 0)/\True)/\C.same C/\(k [u 2 0 1,X] 40 2 false).same (k [u 2 (fZ l r 0).length 1,a (iF r 0)] 40 2 false)/\(s c [] 3 true).same (s c (fZ l r 0) 3 true)/\True)/\d<=d/\d<=t)/\∀(x:Int),let J:=bj r x.toNat dB.dflt;let M:=iF r x.toNat+J.snd.fst;let o:=j c J.fst;let f:=(↑(γc J.fst):Int);let z:=a f;let q:=fZ l r x.toNat;let p:=q.length;let O:=lK l r x d;let g:=x+(1:Int);let n:=[a (iF r g.toNat)];let A:=k [o,a J.snd.fst,j G J.snd.snd] 51 3 false;let H:=bj l x.toNat c.bF.dflt;let P:=a g;d<=x/\x<=t->(decide (x<t)=true->d<=x/\x<t/\x.toNat<r.length/\v M/\((((j c.bF l).same (j c.bF l)/\F.same F/\D.same D/\(a x).same (a x)/\(j dB r).same (j dB r)/\E.same E/\(a x).same (a x)/\o.same o/\z.same z/\X.same (a 0)/\True)/\C.same C/\(k [u 2 p 1,a M] 40 2 false).same (k (u 2 O.length 1::n) 40 2 false)/\(s c q 3 true).same (s c O 3 true)/\A.same A/\True)/\d<=d/\d<=f)/\∀(e:Int),let w:=bj J.fst e.toNat d;let m:=lK l r x e;let V:=m.length+1;let h:=e+(1:Int);let B:=a x;let Q:=a h;let S:=m++[bj H w.toNat d];d<=e/\e<=f->(decide (e<f)=true->d<=e/\e<f/\e.toNat<γc J.fst/\d<=x/\x<(↑l.length:Int)/\x.toNat<l.length/\d<=w/\w<(↑H.length:Int)/\w.toNat<H.length/\1=1/\m.length=m.length/\V*8<=140737488355328/\V<=1000000000000/\v h/\(((j c.bF l).same (j c.bF l)/\F.same F/\D.same D/\B.same B/\(j dB r).same (j dB r)/\E.same E/\B.same B/\o.same o/\z.same z/\Q.same Q/\True)/\C.same C/\(k (u 2 S.length 1::n) 40 2 false).same (k (u 2 (lK l r x h).length 1::n) 40 2 false)/\(s c S 3 true).same (s c (lK l r x h) 3 true)/\A.same A/\True)/\(d<=h/\h<=f)/\(f - h).toNat<(f - e).toNat)/\(decide (e<f)=false->v g/\(((j c.bF l).same (j c.bF l)/\F.same F/\D.same D/\(j dB r).same (j dB r)/\E.same E/\P.same P/\True)/\C.same C/\(k (u 2 m.length 1::n) 40 2 false).same (k (u 2 (fZ l r g.toNat).length 1::n) 40 2 false)/\(s c m 3 true).same (s c (fZ l r g.toNat) 3 true)/\True)/\(d<=g/\g<=t)/\(t - g).toNat<(t - x).toNat))/\(decide (x<t)=false->(p=p/\p<=1000000)/\p=(dZ q).length/\(γM [j c (dZ q),a (iF r x.toNat)]).same (γM [j c (dZ (fZ l r r.length)),a (iF r r.length)]))) (by kernel_rfl) ?_;simp only[vcs];have k:∀{a b:Nat} {v u:Int},a=b->v=u->(bq.cells [γZ 2 a 1,γh .i64 v] 40 2 false).same (bq.cells [γZ 2 b 1,γh .i64 u] 40 2 false):=by rintro _ _ _ _ rfl rfl;rfl
 have I:∀{x y:List Int},x=y->(bq.row (.i .i64) x 3 true).same (bq.row (.i .i64) y 3 true):=by rintro _ _ rfl;rfl
 refine⟨⟨⟨rfl,rfl⟩,by omega⟩,?_⟩;rintro i ⟨i0,i1⟩;refine⟨λa0=>?_,λa3=>?_⟩
 ·have hc:=Y i.toNat (by omega);have a5:=Y (i+1).toNat (by omega);have hv:iF r (i+1).toNat=iF r i.toNat+(bj r i.toNat dB.dflt).2.1:=by
   grind[iF,jX]
  have K:fZ l r (i+1).toNat=fZ l r i.toNat++qQ (bj l i.toNat []) (bj r i.toNat dB.dflt).1:=by
   grind[fZ,sP]
  have U:lK l r i 0=fZ l r i.toNat:=by simp[lK,qQ]
  have hk:=h4 i.toNat (by omega);have a4:γc (bj r i.toNat dB.dflt).1<=100000:=by
   grind[qQ]
  have a1:∀j:Int,(lK l r i j).length<=100000:=λj=>by
   have h5:(lK l r i j).length<=(fZ l r (i+1).toNat).length:=by
    rw[K];unfold lK qQ;simp only[γf,Θ,List.length_take];omega
   omega
  refine⟨i0,a0,by omega,by omega,⟨⟨k (by rw[U]) hv.symm,I U.symm⟩,by omega,by omega⟩,?_⟩;rintro j ⟨j0,j1⟩;refine⟨λG=>?_,λa2=>?_⟩
  ·have s:=hk (bj (bj r i.toNat dB.dflt).1 j.toNat 0) (dr (by omega));have Z:lK l r i j++[bj (bj l i.toNat []) (bj (bj r i.toNat dB.dflt).1 j.toNat 0).toNat 0]=lK l r i (j+1):=by
    unfold lK qQ;rw[jX (d:=(0:Int)) j0 G,γa,γU];rfl
   have a6:=a1 j;have T:(bj (bj r i.toNat dB.dflt).1 j.toNat 0).toNat<(bj l i.toNat []).length:=by
    exact(Int.toNat_lt s.1).2 s.2
   have N:lK l r i j++[bj (bj l i.toNat (bp.i IntKind.i64).bF.dflt) (bj (bj r i.toNat dB.dflt).1 j.toNat 0).toNat 0]=lK l r i (j+1):=Z;rw[N];refine⟨j0,G,?_,i0,?_,?_,s.1,s.2,T,?_,?_,?_,⟨k rfl rfl,I rfl⟩,?_,?_⟩<;>omega
  ·have R:lK l r i j=fZ l r (i+1).toNat:=by
    rw[K];unfold lK;rw[show j.toNat=(bj r i.toNat dB.dflt).1.length by omega,ψ]
   exact⟨by omega,⟨k (by rw[R]) rfl,I R⟩,by omega,by omega⟩
 ·rw[show i.toNat=r.length by omega];have:=(Y r.length (ξ _)).1;exact⟨by omega,(rE).symm,rfl⟩
def BE:bM:=⟨12,bn,.one dK,λp=>bz p≠0\/p.offers.length<=60,λp=> .bI [.row (.bF (.i .i64)) (if bz p=0 then cO p else[]),.si .i64 (bz p)]⟩
theorem h552:Holds Tryz.prog BE:=by
 refine cF (L:=[o7,MC]) BE lk (by grind[h79,h560]) ?_;rintro(p:bn) (e:bz p≠0\/p.offers.length<=60);refine bO (let e:=(0:Int);let f:=Ψ;let g:=SV.bI;let b:=decide (bz p≠e);let d:=[γh .i64 (bz p)];let c:=(bp.i .i64).bF;let a:=g (f c (if bz p=e then cO p else[])::d);True/\(b=true->(g (f (bp.i .i64) []::d)).same a)/\(b=false->(bz p=e/\p.offers.length<=60)/\(g [f c (cO p),γx .i64 0]).same a)) (by kernel_rfl) ?_;simp only[vcs];refine⟨λh=>?_,λh=>?_⟩
 ·rw[if_neg h];rfl
 simp_all
noncomputable def yZ (p:bn) (c:List Int):dB.T:=((cz (fH p c)).chosen,(cz (fH p c)).value,qN (fH p c))
noncomputable def eI (p:bn):List dB.T:=(cO p).map (yZ p)
noncomputable def jC (p:bn):List Int:=dZ (fZ (cO p) (eI p) (eI p).length)
noncomputable def jV (p:bn):Int:=iF (eI p) (eI p).length
def ME (p:bn):Prop:=bz p≠0\/(p.offers.length<=60/\∀c∈cO p,c.length<=15)
noncomputable def MF:bM:=⟨19,bn,.one dK,ME,
 λp=> .bI [.agg [.row (.i .i64) (if bz p=0 then jC p else[]),.si .i64 (if bz p=0 then jV p else 0),.row dB (if bz p=0 then eI p else[])],.si .i64 (bz p)]⟩
theorem VP {p:bn}:∀{n:Nat},n<=(cO p).length->fZ (cO p) (eI p) n=((cO p).take n).flatMap λc=>qQ c (cz (fH p c)).chosen
 |0,_=>by simp[fZ,dm];|n+1,h=>by
  have b:=VP (p:=p) (n:=n) (by omega);have a:fZ (cO p) (eI p) (n+1)=fZ (cO p) (eI p) n++qQ (bj (cO p) n []) (bj (eI p) n dB.dflt).1:=by
   grind[fZ,sP]
  have d:bj (eI p) n dB.dflt=yZ p (bj (cO p) n []):=by
   grind[cY,eI]
  rw[a,b,d,γ0 (show n<(cO p).length by omega),List.flatMap_append,cY (by omega)];simp[yZ]
theorem ahw {p:bn} {n:Nat}:iF (eI p) n=(((cO p).take n).map λc=>(cz (fH p c)).value).sum:=by
 unfold iF eI;rw[<-ζw,γ4];rfl
theorem VQ {f:List Int->List Int}:∀{L:List (List Int)},(∀c∈L,(f c).length<=160)->(L.flatMap f).length<=160*L.length
 |[],_=>by simp;|c::L,h=>by
  have b:=h c (γX ..);have e:=VQ (L:=L) λd a=>h d (γT _ a);grind
theorem VR {f:List Int->Int}:∀{L:List (List Int)},(∀c∈L,0<=f c/\f c<=160000000)->0<=(L.map f).sum/\(L.map f).sum<=160000000*L.length
 |[],_=>by simp;|c::L,h=>by
  have b:=h c (γX ..);have e:=VR (L:=L) λd a=>h d (γT _ a);grind
theorem MG {p:bn} {i:Nat} (a:i<(cO p).length):bj (eI p) i dB.dflt=yZ p (bj (cO p) i []):=by
 grind[cY,eI]
theorem VS {p:bn} (b:bz p=0):(∀n:Nat,n<=(eI p).length->(fZ (cO p) (eI p) n).length<=2000/\ -9000000000000000<=iF (eI p) n/\iF (eI p) n<=9000000000000000)/\
  ∀i:Nat,i<(eI p).length->∀k∈(bj (eI p) i dB.dflt).1,0<=k/\k<(bj (cO p) i []).length:=by
 have l:(eI p).length=(cO p).length:=Θ _;have g:=LZ b;have m:=(dQ b).1;have a:∀c∈cO p,bz (fH p c)=0:=λc h=>LY b (Fe h);refine⟨λn r=>?_,λi q k d=>?_⟩
 ·rw[VP (by omega),ahw];have s:=VQ (f:=λc=>qQ c (cz (fH p c)).chosen) (L:=(cO p).take n) λc h=>by
   grind[qQ,E7]
  have e:=VR (f:=λc=>(cz (fH p c)).value) (L:=(cO p).take n) λc h=>(E7 (a c (List.mem_of_mem_take h))).2.2.1;grind
 ·have e:=MG (p:=p) (i:=i) (by omega);have j:bj (cO p) i []∈cO p:=dr (by omega);rw[e] at d;have o:=(agt.1 (Bo (a _ j)).1.1).2 k d;grind[Fb]
noncomputable def ahx (p:bn):Nat->cE
 |6=> .inv Int (λi=>⟨[(1,.ptr 0 0 20),(2,.ptr 1 0 3),(4,.row (.bF (.i .i64)) (if bz p=0 then cO p else[])),(6,.ow 2 ((eI p).take i.toNat).length 3),(20,.row (.bF (.i .i64)) (if bz p=0 then cO p else[])),(21,.si .i64 (if bz p=0 then cO p else[]).length),(22,.si .i64 i)],
    [.cells p.ss 27 20 false,.cells [.sc (.slice none 0 0),.il .i64 0,.sc (.slice none 0 0)] 43 3 false,.row dB ((eI p).take i.toNat) 51 false]⟩)
   (λs=>iS s 22) (λi=>0<=i/\i<=(if bz p=0 then cO p else[]).length) (λi=>((if bz p=0 then cO p else[]).length - i).toNat) λ_ _=> .look
 |_=> .look
theorem h557:Holds Tryz.prog MF:=by
 refine cF (L:=[BE,Bv,LR,Fp]) MF (λp=>ahx p) (by grind[h552,h562,h427,h563]) ?_;rintro(p:bn) K;refine bO (let c:=γh .i64;let d:=(0:Int);let e:=Ψ;let h:=bq.row;let u:=SV.bI;let v:=γM;let U:=decide (bz p≠d);let g:=bp.i .i64;let H:=γx .i64 0;let R:=v [e g [],H,e g []];let S:=[c (bz p)];let M:=u (v [e g (if bz p=d then jC p else[]),c (if bz p=d then jV p else d),e dB (if bz p=d then eI p else[])]::S);let J:=γO 0 0 20;let I:=γO 1 0 3;let m:=if bz p=d then cO p else[];let X:=γZ 2 0 3;let l:=(↑(if bz p=d then cO p else[]).length:Int);let t:=c l;let r:=bq.cells [c p.supply.a0,c p.supply.a1,c p.supply.a2,c p.supply.a3,c p.supply.a4,c p.supply.a5,c p.opn.a0,c p.opn.a1,c p.opn.a2,c p.opn.a3,c p.opn.a4,c p.opn.a5,c p.cls.a0,c p.cls.a1,c p.cls.a2,c p.cls.a3,c p.cls.a4,c p.cls.a5,e g p.classes,e bp.off p.offers] 27 20 false;let A:=SV.sc (Value.slice none 0 0);let q:=bq.cells [A,H,A] 43 3 false;let w:=(bp.i .u32).bF;let z:=g.bF.pair (g.pair (g.pair (g.pair (g.pair (g.pair (bp.b.pair (w.pair w)).bF)))).bF);(bz p≠d\/p.offers.length<=60)/\(U=true->(u (R::S)).same M)/\(U=false->(((J.same J/\I.same I/\(e g.bF m).same (e g.bF m)/\X.same X/\(e g.bF m).same (e g.bF m)/\(c (↑m.length:Int)).same t/\H.same (c 0)/\True)/\r.same r/\q.same q/\(h z [] 51 false).same (h dB [] 51 false)/\True)/\d<=d/\d<=l)/\∀(x:Int),let s:=bj m x.toNat g.bF.dflt;let f:=fH p s;let F:=decide (bz f≠d);let j:=Δ x.toNat (eI p);let a:=j.length;let o:=x+(1:Int);let D:=j++[(if bz f=d then(cz f).chosen else[],if bz f=d then(cz f).value else d,if bz f=d then qN f else[])];let C:=Δ o.toNat (eI p);let y:=c o;d<=x/\x<=l->(decide (x<l)=true->d<=x/\x<(↑m.length:Int)/\x.toNat<m.length/\((∀(i:Int),i∈s->d<=i/\i<(↑p.offers.length:Int))/\s.length<=1000/\p.classes.length<=1000)/\(bz f≠d\/f.offers.length<=15)/\(F=true->(u [R,c (bz f)]).same M)/\(F=false->a=a/\(a+1)*56<=140737488355328/\a+1<=1000000000000/\cq .i64 o/\((J.same J/\I.same I/\(e g.bF m).same (e g.bF m)/\(γZ 2 D.length 3).same (γZ 2 C.length 3)/\(e g.bF m).same (e g.bF m)/\t.same t/\y.same y/\True)/\r.same r/\q.same q/\(h z D 51 false).same (h dB C 51 false)/\True)/\(d<=o/\o<=l)/\(l - o).toNat<(l - x).toNat))/\(decide (x<l)=false->a=a/\((a<=m.length/\m.length<=1000)/\(∀(n:Nat),n<=a->(fZ m j n).length<=100000/\(-9000000000000000000:Int)<=iF j n/\iF j n<=(9000000000000000000:Int))/\∀(i:Nat),i<a->∀(k:Int),k∈(bj j i dB.dflt).fst->d<=k/\k<(↑(bj m i []).length:Int))/\(u [v [e g (dZ (fZ m j a)),c (iF j a),e dB j],H]).same M))) (by kernel_rfl) ?_;simp only[vcs];replace K:ME p:=K;refine⟨K.imp id (·.1),λh=>?_,λh=>?_⟩
 ·rw[if_neg h,if_neg h,if_neg h];rfl
 ·have v:=γg.1 h;obtain⟨a6,P⟩:=K.resolve_left h;simp only[if_pos v];have a8:=LZ v;have a7:=(dQ v).1;refine⟨by omega,?_⟩;rintro i ⟨V,i1⟩;refine⟨λE=>?_,λZ=>?_⟩
  ·have Q:Δ i.toNat (eI p)++[yZ p (bj (cO p) i.toNat [])]=Δ (i+1).toNat (eI p):=by
    unfold eI;rw[<-ζw,<-ζw,jX (d:=[]) V E,γa];rfl
   have u:bj (cO p) i.toNat []∈cO p:=dr (by omega);have N:bj (cO p) i.toNat (bp.i IntKind.i64).bF.dflt=bj (cO p) i.toNat []:=rfl;rw[N];generalize bj (cO p) i.toNat []=c at Q u ⊢;have W:=Fe u;have G:=LY v W;have B:=P c u;have e:(((cz (fH p c)).chosen,(cz (fH p c)).value,qN (fH p c)):dB.T)=yZ p c:=rfl;simp only[if_pos G];rw[e,Q];have Y:=List.length_take_le i.toNat (eI p);have O:(eI p).length=(cO p).length:=Θ _;refine⟨V,E,by omega,⟨W.2,by omega,by omega⟩,.inr (by rw[Fb];exact B),λh=>absurd G h,λ_=>⟨by omega,by omega,by omega,⟨rfl,rfl⟩,by omega,by omega⟩⟩
  ·have O:(eI p).length=(cO p).length:=Θ _;obtain⟨j1,j2⟩:=VS v;rw[show i.toNat=(eI p).length by omega,ψ];exact⟨⟨⟨by omega,by omega⟩,λn hn=>by have:=j1 n hn;omega,j2⟩,rfl,v.symm⟩
@[reducible] def sDR:bp:=.pair (.bF (.i .i64)) (.pair (.i .i64) (.bF dB))
def jR (p:bn) (r:List dB.T):Nat->Int
 |0=>0
 |n+1=>if jR p r n≠0 then jR p r n else uM (fH p (bj (cO p) n [])) (bj r n dB.dflt)
def tf (p:bn) (x:List Int×Int×List dB.T):Int:=if bz p≠0 then bz p else if x.2.2.length≠(cO p).length then 2 else if jR p x.2.2 x.2.2.length≠0 then jR p x.2.2 x.2.2.length else
 if iF x.2.2 x.2.2.length≠x.2.1\/dZ (fZ (cO p) x.2.2 x.2.2.length)≠x.1 then 13 else 0
def Fq (p:bn) (x:List Int×Int×List dB.T):Prop:=(bz p≠0\/p.offers.length<=60)/\x.1.length<=1000000/\(bz p=0->x.2.2.length=(cO p).length->(∀i:Nat,i<x.2.2.length->(bj x.2.2 i dB.dflt).1.length<=1000000000000/\(dh (fH p (bj (cO p) i [])) (bj x.2.2 i dB.dflt).1=0->ei (fH p (bj (cO p) i [])) (bj x.2.2 i dB.dflt).1=(bj x.2.2 i dB.dflt).2.1->wH (fH p (bj (cO p) i [])) (bj x.2.2 i dB.dflt).2.1 (bj x.2.2 i dB.dflt).2.2))/\
 (jR p x.2.2 x.2.2.length=0->(∀n:Nat,n<=x.2.2.length->(fZ (cO p) x.2.2 n).length<=100000/\ -9000000000000000000<=iF x.2.2 n/\iF x.2.2 n<=9000000000000000000)/\∀i:Nat,i<x.2.2.length->∀k∈(bj x.2.2 i dB.dflt).1,0<=k/\k<(bj (cO p) i []).length))
theorem VT {p:bn} {r:List dB.T} {n:Nat} (h:jR p r n≠0):∀{m:Nat},n<=m->jR p r m=jR p r n
 |0,a=>by simp_all;|m+1,a=>by
  by_cases e:n=m+1;·rw[e]
  ·have b:=VT h (m:=m) (by omega);simp_all[jR]
def MH:bM:=⟨21,bn×List Int×Int×List dB.T,.cons dK (.one (eh sDR)),λa=>Fq a.1 a.2,λa=> .si .i64 (tf a.1 a.2)⟩
def ahz (p:bn) (x:List Int×Int×List dB.T):Nat->cE
 |7=> .inv Int (λi=>⟨[(2,.ptr 0 0 20),(3,.ptr 1 0 3),(5,.row (.bF (.i .i64)) (if bz p=0 then cO p else[])),(25,.row (.bF (.i .i64)) (if bz p=0 then cO p else[])),(26,.si .i64 (if bz p=0 then cO p else[]).length),(27,.si .i64 i)],
    [.cells p.ss 27 20 false,.cells [.row (.i .i64) x.1,.si .i64 x.2.1,.row dB x.2.2] 43 3 false]⟩)
   (λs=>iS s 27) (λi=>(0<=i/\i<=(if bz p=0 then cO p else[]).length)/\jR p x.2.2 i.toNat=0) (λi=>((if bz p=0 then cO p else[]).length - i).toNat) λ_ _=> .look
 |_=> .look
theorem h558:Holds Tryz.prog MH:=by
 refine cF (L:=[BE,Bv,LJ,Fp,MD]) MH (λa=>ahz a.1 a.2) (by grind[h552,h562,h474,h563,h564]) ?_;rintro⟨p,c,v,r⟩ hd;refine bO (let a:=γh .i64;let h:=(0:Int);let m:=Ψ;let q:=γx .i64;let d:=if bz p=h then cO p else[];let P:=(↑d.length:Int);let Z:=decide (bz p≠h);let z:=a (tf p (c,v,r));let K:=γO 0 0 20;let J:=γO 1 0 3;let f:=bp.i .i64;let o:=(↑(if bz p=h then cO p else[]).length:Int);let O:=a o;let C:=q 0;let l:=bq.cells [a p.supply.a0,a p.supply.a1,a p.supply.a2,a p.supply.a3,a p.supply.a4,a p.supply.a5,a p.opn.a0,a p.opn.a1,a p.opn.a2,a p.opn.a3,a p.opn.a4,a p.opn.a5,a p.cls.a0,a p.cls.a1,a p.cls.a2,a p.cls.a3,a p.cls.a4,a p.cls.a5,m f p.classes,m bp.off p.offers] 27 20 false;let j:=bq.cells [m f c,a v,m dB r] 43 3 false;let F:=decide (iF r r.length≠v);let t:=dZ (fZ d r r.length);let w:=λ(u:Bool) ↦decide ((↑r.length:Int)≠P)=u;(bz p≠h\/p.offers.length<=60)/\(Z=true->(a (bz p)).same z)/\(Z=false->(w true->(q 2).same z)/\(w false->(((K.same K/\J.same J/\(m f.bF d).same (m f.bF d)/\(m f.bF d).same (m f.bF d)/\(a P).same O/\C.same (a 0)/\True)/\l.same l/\j.same j/\True)/\(h<=h/\h<=o)/\jR p r 0=h)/\∀(x:Int),let s:=bj d x.toNat f.bF.dflt;let g:=fH p s;let b:=bj r x.toNat dB.dflt;let D:=uM g (b.fst,b.snd.fst,b.snd.snd);let e:=x+(1:Int);let E:=a e;let I:=λ(u:Bool) ↦decide (D≠h)=u;(h<=x/\x<=o)/\jR p r x.toNat=h->(decide (x<o)=true->h<=x/\x<P/\x.toNat<d.length/\((∀(i:Int),i∈s->h<=i/\i<(↑p.offers.length:Int))/\s.length<=1000/\p.classes.length<=1000)/\h<=x/\x<(↑r.length:Int)/\x.toNat<r.length/\(γc b.fst<=1000000000000/\(dh g b.fst=h->ei g b.fst=b.snd.fst->wH g b.snd.fst b.snd.snd))/\(I true->(a D).same z)/\(I false->cq .i64 e/\((K.same K/\J.same J/\(m f.bF d).same (m f.bF d)/\(m f.bF d).same (m f.bF d)/\O.same O/\E.same E/\True)/\l.same l/\j.same j/\True)/\((h<=e/\e<=o)/\jR p r e.toNat=h)/\(o - e).toNat<(o - x).toNat))/\(decide (x<o)=false->((r.length<=d.length/\d.length<=1000)/\(∀(n:Nat),n<=r.length->(fZ d r n).length<=100000/\(-9000000000000000000:Int)<=iF r n/\iF r n<=(9000000000000000000:Int))/\∀(i:Nat),i<r.length->∀(k:Int),k∈(bj r i dB.dflt).fst->h<=k/\k<(↑(bj d i []).length:Int))/\(F=true->(q 13).same z)/\(F=false->(t.length<=1000000/\c.length<=1000000)/\((!decide (t=c))=true->(q 13).same z)/\((!decide (t=c))=false->C.same z)))))) (by kernel_rfl) ?_;simp only[vcs];obtain⟨y,H,G⟩:=(hd:Fq p (c,v,r));simp only at y H G;refine⟨y,λh=>by simp_all[tf],λh=>?_⟩;have M:bz p=0:=γg.1 h;simp only[if_pos M];refine⟨λhl=>?_,λhl=>⟨⟨by omega,rfl⟩,?_⟩⟩
 ·have q:r.length≠(cO p).length:=by omega
  simp_all[tf]
 have R:r.length=(cO p).length:=by omega
 obtain⟨hw,hj⟩:=G M R;have w:tf p (c,v,r)=if jR p r r.length≠0 then jR p r r.length else if iF r r.length≠v\/dZ (fZ (cO p) r r.length)≠c then 13 else 0:=by
  simp_all[tf]
 have X:=LZ M;have a9:=(dQ M).1;have a6:=y.resolve_left h;rintro i ⟨⟨Y,i1⟩,N⟩;refine⟨λS=>?_,λa7=>?_⟩
 ·have hs:jR p r (i+1).toNat=uM (fH p (bj (cO p) i.toNat [])) (bj r i.toNat dB.dflt):=by
   rw[show(i+1).toNat=i.toNat+1 by omega];show(if jR p r i.toNat≠0 then jR p r i.toNat else _)=_;rw[if_neg (by rw[N];exact λh=>h rfl)]
  have T:=hw i.toNat (by omega);have U:bj (cO p) i.toNat []∈cO p:=dr (by omega);have V:bj (cO p) i.toNat (bp.i IntKind.i64).bF.dflt=bj (cO p) i.toNat []:=rfl;rw[V];have W:=Fe U;have a8:=uv W;refine⟨Y,S,by omega,⟨W.2,by omega,by omega⟩,Y,by omega,by omega,T,λB=>?_,λB=>⟨by omega,⟨by omega,?_⟩,by omega⟩⟩
  ·have q:jR p r (i+1).toNat≠0:=by rw[hs];exact B
   have A:=VT q (m:=r.length) (by omega);rw[w,if_pos (by rw[A];exact q),A,hs]
  simp_all
 ·have Q:i.toNat=r.length:=by omega
  rw[Q] at N;obtain⟨j1,j2⟩:=hj N;have b0:(fZ (cO p) r r.length).length<=100000:=(j1 r.length (ξ _)).1;rw[if_neg (by rw[N];exact λh=>h rfl)] at w;rw[w];refine⟨⟨⟨by omega,by omega⟩,j1,j2⟩,λB=>(if_pos (.inl B)).symm,λB=>⟨⟨by rw[rE];omega,H⟩,λq=>(if_pos (.inr q)).symm,λq=>(if_neg ?_).symm⟩⟩;rintro(A|A);·exact B A
  ·exact A q
def MI:bM:=⟨16,bn×List Int,.cons dK (.one (dF (.i .i64))),λa=>a.2.length<=1000000000000,λa=> .bI [.agg (gG a.1 a.2).ss,.si .i64 (j8 a.1 a.2)]⟩
theorem h555:Holds Tryz.prog MI:=by
 refine cF (L:=[Dn,H4]) MI lk (by grind[h24,h109]) ?_;rintro⟨p,l⟩ (z:l.length<=1000000000000);refine bO (let e:=γh .i64;let f:=Ψ;let h:=γM;let o:=SV.bI;let a:=γx .i64 0;let g:=bp.i .i64;let d:=(gG p l).supply;let b:=(gG p l).opn;let c:=(gG p l).cls;let k:=o [h [e d.a0,e d.a1,e d.a2,e d.a3,e d.a4,e d.a5,e b.a0,e b.a1,e b.a2,e b.a3,e b.a4,e b.a5,e c.a0,e c.a1,e c.a2,e c.a3,e c.a4,e c.a5,f g (gG p l).classes,f bp.off (gG p l).offers],e (j8 p l)];let n:=decide (bz p≠(0:Int));let m:=λ(u:Bool) (j:SV) ↦u=true->(o [h [a,a,a,a,a,a,a,a,a,a,a,a,a,a,a,a,a,a,f g [],f g []],j]).same k;True/\m n (e (bz p))/\(n=false->(l.length<=9223372036854775807/\p.offers.length<=1000)/\m (!fR p l) (γx .i64 4)/\((!fR p l)=false->(o [h [e p.supply.a0,e p.supply.a1,e p.supply.a2,e p.supply.a3,e p.supply.a4,e p.supply.a5,e p.opn.a0,e p.opn.a1,e p.opn.a2,e p.opn.a3,e p.opn.a4,e p.opn.a5,e p.cls.a0,e p.cls.a1,e p.cls.a2,e p.cls.a3,e p.cls.a4,e p.cls.a5,f g p.classes,f bp.off (dX p l)],a]).same k))) (by kernel_rfl) ?_;simp only[vcs];have o:j8 p l≠0->gG p l=Bt:=λh=>by simp_all[gG]
 refine⟨λh=>?_,λh=>?_⟩
 ·have e:j8 p l=bz p:=by simp_all[j8]
  rw[o (by omega),e];exact⟨rfl,rfl⟩
 ·have r:bz p=0:=γg.1 h;have w:=dQ r;have e:j8 p l=if fR p l=true then 0 else 4:=by simp_all[j8]
  refine⟨⟨by omega,by have:=w.2.1;omega⟩,λf=>?_,λf=>?_⟩
  ·rw[f] at e;have q:j8 p l=4:=e;rw[o (by omega),q];exact⟨rfl,rfl⟩
  ·have y:=DZ (by omega) f;rw[f] at e;have s:j8 p l=0:=e;have v:gG p l=fH p l:=by simp_all[gG]
   have t:dX p l=l.map (oI p):=by unfold dX;rw[AL ⟨y.1,λx A=>by grind⟩];rfl
   rw[v,s,t];exact⟨rfl,rfl⟩
def MJ:bM:=⟨10,bn,.one dK,λ_=>True,λp=> .sb (decide (20<p.classes.length)||decide (60<p.offers.length))⟩
theorem h550:Holds Tryz.prog MJ:=by
 refine cF (L:=[]) MJ lk (by simp) ?_;intro(p:bn) _;refine bO (let b:=decide ((20:Int)<(↑p.classes.length:Int));let a:=γv (decide (20<p.classes.length)||decide (60<p.offers.length));(b=true->(δc true).same a)/\(b=false->(γv (decide ((60:Int)<(↑p.offers.length:Int)))).same a)) (by kernel_rfl) ?_;simp only[vcs];grind
def ft:bn:=⟨⟨1,1,0,0,0,0⟩,⟨1,1,0,0,0,0⟩,.zero,[0,0],[⟨0,⟨1,0,0,0,0,0⟩,5⟩,⟨1,⟨0,1,0,0,0,0⟩,7⟩]⟩
def MK:bM:=⟨27,Unit,.nil,λ_=>True,λ_=>dK.put ft⟩
theorem h559:Holds Tryz.prog MK:=by
 refine cF (L:=[]) MK lk (by simp) ?_;intro _ _;refine bO (let d:=γh .i64;let e:=(0:Int);let f:=Ψ;let g:=(1:Int);let c:=γx .i64 1;let a:=γx .i64 0;let b:=ft.supply;(γM [c,c,a,a,a,a,c,c,a,a,a,a,a,a,a,a,a,a,f (bp.i .i64) [e,e],f bp.off [Off.mk e (bB.mk g e e e e e) (5:Int),Off.mk g (bB.mk e g e e e e) (7:Int)]]).same (γM [d b.a0,d b.a1,d b.a2,d b.a3,d b.a4,d b.a5,d ft.opn.a0,d ft.opn.a1,d ft.opn.a2,d ft.opn.a3,d ft.opn.a4,d ft.opn.a5,d ft.cls.a0,d ft.cls.a1,d ft.cls.a2,d ft.cls.a3,d ft.cls.a4,d ft.cls.a5,f (bp.i .i64) ft.classes,f bp.off ft.offers])) (by kernel_rfl) ?_;conv=>zeta
 try simp only[vcs]
 try rfl
theorem VU:∀{l:List Int},cmpL l l=0
 |[]=>rfl
 |x::l=>by
  unfold cmpL;rw[if_neg (by omega),if_neg (by omega)];exact VU
def ML:bM:=⟨17,bn×bn,.cons dK (.one dK),λa=>(a.1.classes.length<=1000000/\a.1.offers.length<=1000000)/\a.1=a.2,λ_=> .sb true⟩
def ahA (p:bn):Nat->cE
 |4=> .inv Int (λi=>⟨[(2,.ptr 0 0 20),(3,.ptr 1 0 20),(5,.si .i64 i)],[.cells p.ss 27 20 false,.cells p.ss 27 20 false]⟩)
   (λs=>iS s 5) (λi=>0<=i/\i<=p.offers.length) (λi=>(p.offers.length - i).toNat) λ_ _=> .look
 |_=> .look
theorem h381:Holds Tryz.prog ML:=by
 refine cF (L:=[r32]) ML (λa=>ahA a.1) (by simpa using h32) ?_;rintro⟨p,p'⟩ ⟨⟨h1,h2⟩,h3⟩;simp only at h1 h2 h3;subst h3;refine bO (let a:=δc false;let b:=(0:Int);let c:=γv;let n:=bq.cells (bn.ss p) 27 20 false;let o:=decide (cmpL p.classes p.classes≠b);let e:=(↑p.offers.length:Int);let i:=γO 0 0 20;let j:=γO 1 0 20;let f:=(↑p.offers.length:Int);let k:=n.same n;let l:=λ(u:bB) ↦(!(decide (u.a0=u.a0)&&(decide (u.a1=u.a1)&&(decide (u.a2=u.a2)&&(decide (u.a3=u.a3)&&(decide (u.a4=u.a4)&&(decide (u.a5=u.a5)&&true)))))))=true;let m:=λ(u:bB) ↦(!(decide (u.a0=u.a0)&&(decide (u.a1=u.a1)&&(decide (u.a2=u.a2)&&(decide (u.a3=u.a3)&&(decide (u.a4=u.a4)&&(decide (u.a5=u.a5)&&true)))))))=false;(l p.supply->(a).same (c true))/\(m p.supply->(l p.opn->(a).same (c true))/\(m p.opn->(l p.cls->(a).same (c true))/\(m p.cls->(p.classes.length<=1000000000000/\p.classes.length<=1000000000000)/\(o=true->(a).same (c true))/\(o=false->(decide (e≠e)=true->(a).same (c true))/\(decide (e≠e)=false->(((i.same i/\j.same j/\(γx .i64 0).same (γh .i64 0)/\True)/\k/\k/\True)/\b<=b/\b<=f)/\∀(x:Int),let g:=bj p.offers x.toNat bp.off.dflt;let d:=g.want;let h:=x+(1:Int);let q:=γh .i64 h;let r:=λ(u:Bool) ↦(!(decide (g.bX=g.bX)&&(decide (d.a0=d.a0)&&(decide (d.a1=d.a1)&&(decide (d.a2=d.a2)&&(decide (d.a3=d.a3)&&(decide (d.a4=d.a4)&&(decide (d.a5=d.a5)&&(decide (g.value=g.value)&&true)))))))))=u;b<=x/\x<=f->(decide (x<e)=true->b<=x/\x<e/\x.toNat<p.offers.length/\b<=x/\x<e/\x.toNat<p.offers.length/\(r true->(a).same (c true))/\(r false->cq .i64 h/\((i.same i/\j.same j/\q.same q/\True)/\k/\k/\True)/\(b<=h/\h<=f)/\(f - h).toNat<(f - x).toNat))/\(decide (x<e)=false->(δc true).same (c true)))))))) (by kernel_rfl) ?_;simp only[vcs,VU];refine⟨λh=>(by simp at h),λ_=>⟨λh=>(by simp at h),λ_=>⟨λh=>(by simp at h),λ_=>⟨⟨by omega,by omega⟩,λh=>absurd rfl h,λ_=>⟨λh=>absurd rfl h,λ_=>⟨⟨by omega,by omega⟩,?_⟩⟩⟩⟩⟩⟩;rintro i ⟨i0,i1⟩;exact⟨λhi=>⟨i0,hi,by omega,i0,hi,by omega,λh=>(by simp at h),λ_=>⟨by omega,by omega,by omega⟩⟩,λ_=>trivial⟩
theorem ahB {p:bn} (hc:bz p=0) (h60:p.offers.length<=60) (h15:∀c∈cO p,c.length<=15):
  Fq p (jC p,jV p,eI p)/\tf p (jC p,jV p,eI p)=0/\∀n:Nat,n<=(cO p).length->jR p (eI p) n=0:=by
 have hpl:(eI p).length=(cO p).length:=Θ _;have hpc:∀i,i<(cO p).length->bz (fH p (bj (cO p) i []))=0/\(fH p (bj (cO p) i [])).offers.length<=15:=λi hi=>by
  have hm:bj (cO p) i []∈cO p:=dr hi;exact⟨LY hc (Fe hm),by rw[Fb];exact h15 _ hm⟩
 have hk:∀n:Nat,n<=(cO p).length->jR p (eI p) n=0:=by
  intro n;induction n with
  |zero=>exact λ_=>rfl;|succ n ih=>
   intro hn;show(if jR p (eI p) n≠0 then jR p (eI p) n else _)=0;rw[if_neg (by rw[ih (by omega)];exact λh=>h rfl),MG (by omega)];obtain⟨a,b⟩:=hpc n (by omega);exact agc a b
 obtain⟨j1,j2⟩:=VS hc;have hjl:(jC p).length<=2000:=by unfold jC;rw[rE];exact(j1 _ (ξ _)).1
 refine⟨⟨.inr h60,by simp only;omega,λ_ _=>⟨λi hi=>?_,λ_=>⟨λn hn=>by have:=j1 n hn;simp only;omega,j2⟩⟩⟩,?_,hk⟩
 ·simp only at hi ⊢;obtain⟨a,b⟩:=hpc i (by omega);have hbi:=E7 a;rw[MG (by omega)];exact⟨by have:=hbi.2.2.2;show(cz _).chosen.length<=_;omega,λ_ _=>(Vp a b).1 _ (by have:=hbi.2.2.1;show _<=(cz _).value/\(cz _).value<=_;omega)⟩
 ·unfold tf;rw[if_neg (by simp[hc]),if_neg (by simp[hpl]),if_neg (by simp[hpl,hk _ (ξ _)]),if_neg (by simp[jC,jV])]
theorem ahC:bz ft=0:=by kernel_rfl
theorem VX:cO ft=[[0],[1]]:=by kernel_rfl
theorem ahD:fZ (cO ft) (eI ft) (eI ft).length=[0,1]:=by kernel_rfl
theorem VY:jC ft=[0,1]:=by
 unfold jC;rw[ahD];exact List.mergeSort_of_pairwise (by simp)
theorem ahE:cmpL (jC ft) [0,1]=0:=by
 rw[VY];rfl
theorem ahF:j8 ft [1]=0:=by kernel_rfl
def MM:bM:=⟨11,Unit,.nil,λ_=>True,λ_=> .sb true⟩
theorem h551:Holds Tryz.prog MM:=by
 refine cF (L:=[MK,BE,MF,Ff,r32,MH]) MM lk (by grind[h559,h552,h557,h554,h32,h558]) ?_;intro _ _;refine bO (let a:=δc false;let e:=γv;let f:=(0:Int);let g:=(1:Int);let b:=(jC ft,jV ft,eI ft);let d:=decide (cmpL (jC ft) [f,g]=f);let c:=λ(u:Bool) ↦decide (tf ft b=f)=u;True/\(bz ft≠f\/ft.offers.length<=60)/\True/\ME ft/\True/\1<=1000000000000/\(true=true->(true=true->(true=true->(true=true->((jC ft).length<=1000000000000/\2<=1000000000000)/\(d=true->(true=true->True/\Fq ft b/\(c true->(true=true->(true=true->f<=f/\f<g/\0<(gG ft [g]).offers.length/\(e true).same (e true))/\(true=false->(a).same (e true)))/\(true=false->(a).same (e true)))/\(c false->(a).same (e true)))/\(true=false->(a).same (e true)))/\(d=false->(a).same (e true)))/\(true=false->(a).same (e true)))/\(true=false->(a).same (e true)))/\(true=false->(a).same (e true)))/\(true=false->(a).same (e true))) (by kernel_rfl) ?_;simp only[vcs];have e:=ahB ahC (by decide) (by grind[VX]);have g:(jC ft).length=2:=by grind[VY]
 have a:true=false->false=true:=λh=>by cases h
 have f:(gG ft [1]).offers.length=1:=by
  unfold gG;rw[if_pos ahF];rfl
 exact⟨.inr (by decide),.inr ⟨by decide,by grind[VX]⟩,by omega,λ_=>⟨λ_=>⟨λ_=>⟨λ_=>⟨⟨by omega,by omega⟩,λ_=>⟨λ_=>⟨e.1,λ_=>⟨λ_=>⟨λ_=>⟨by omega,by omega,by omega⟩,a⟩,a⟩,λh=>absurd e.2.1 h⟩,a⟩,λh=>absurd ahE h⟩,a⟩,a⟩,a⟩,a⟩
def MN:bM:=⟨4,bn×List Int,.cons dK (.one (dF (.i .i64))),λ_=>True,λ_=> .sb true⟩
theorem h544:Holds Tryz.prog MN:=by
 refine cF (L:=[MJ,MM,Ff,MI,ML]) MN lk (by grind[h550,h551,h554,h555,h381]) ?_;rintro⟨p,l⟩ _;refine bO (let d:=γv;let e:=δc false;let c:=decide (20<p.classes.length)||decide (60<p.offers.length);let a:=decide ((100:Int)<(↑l.length:Int));let b:=decide (j8 p l=j8 p l);True/\(c=true->True/\(d true).same (d true))/\(c=false->(a=true->True/\(d true).same (d true))/\(a=false->l.length<=1000000000000/\l.length<=1000000000000/\(((gG p l).classes.length<=1000000/\(gG p l).offers.length<=1000000)/\gG p l=gG p l)/\(true=true->(b=true->True/\(d true).same (d true))/\(b=false->(e).same (d true)))/\(true=false->(e).same (d true))))) (by kernel_rfl) ?_;simp only[vcs];refine⟨λ_=>trivial,λh=>⟨λ_=>trivial,λd=>?_⟩⟩;rw[Bool.or_eq_false_iff,decide_eq_false_iff_not,decide_eq_false_iff_not] at h;have e:(gG p l).classes.length<=1000000/\(gG p l).offers.length<=1000000:=by
  unfold gG;split;·exact⟨by show p.classes.length<=_;omega,by grind[Fb]⟩
  grind[Bt]
 grind
end Go.Vi

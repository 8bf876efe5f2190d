/-
  Contracts: sorting a row that may be empty; the parts of a problem.
  Conditions: none.
-/
import Derived.Test.YtbnhiekmnpikhaaGreatDK06
import Derived.Test.YtbnhiekmnpikhaaGreatDK09
import Derived.Test.YtbnhiekmnpikhaaGreatDK10
import Derived.Test.YtbnhiekmnpikhaaGreatDK14
import Derived.Test.YtbnhiekmnpikhaaGreatDK12
import Derived.Maps.OwnRows
import Derived.Maps.Ext
import Derived.Test.YtbnhiekmnpikhaaGreatDK07
import Derived.Test.YtbnhiekmnpikhaaGreatDK08
import Derived.Test.YtbnhiekmnpikhaaGreatDK11
import Derived.WalkKit
import Derived.Deep.QuietTactic
import Derived.BigQuiet
import Derived.StillTailTactics
import Derived.Shelf.SlSortCmp.NoneTotal
import Derived.Shelf.SlGeneric
import Derived.WalkSpells
import Derived.Maps.RangeWalk
import Derived.Test.YtbnhiekmnpikhaaGreatDK13
set_option maxRecDepth 100000
set_option maxHeartbeats 4000000
set_option linter.all false
open Array renaming getElem?_eq_some_iff->γv
open Bool renaming and_eq_true->θ
open Classical renaming not_not->γj
open Go.Maps renaming has->ζ8
open Go.Vi.SV renaming si->γi,row->Ω,ptr->γT,il->γy,ow->γ1,agg->γN,bl->δf,sb->γw
open Int renaming le_of_lt->γe,tmod_eq_emod_of_nonneg->δM
open List renaming map_cons->π,length->γc,eq_nil_of_length_eq_zero->τ,map->γb,take->ω,map_append->γa,length_map->Δ,take_length->ψ,drop->γU,filter_sublist->γO,mem_cons_self->γY,perm_ext_iff_of_nodup->γ4,pairwise_mergeSort->δ7,mergeSort_perm->δs,mem_cons->γz,rel_of_pairwise_cons->ζj,mem_map->Ψ,getElem?_take_of_lt->δA,take_succ_eq_append_getElem->γ0,append_assoc->γV,getElem?_map->γD,getElem?_eq_getElem->μ,mem_or_eq_of_mem_set->δj,replicate->δ,take_succ_cons->δr,take_zero->εq,drop_succ_cons->εv,drop_zero->εp,setIfInBounds_toArray->ε8,set_cons_zero->εK,set_cons_succ->ζc,eq_nil_iff_forall_not_mem->δ2,map_map->γ3,attachWith_map_subtype_val->εP,size_toArray->ζZ,length_attachWith->εM,length_append->γg,length_set->Φ,getElem?_eq_some_iff->ζ,length_take->γq,map_take->ζx,mem_cons_of_mem->γS
open List.Perm renaming eq_of_pairwise->εC
open List.cons renaming injEq->Θ
open Nat renaming le_trans->δ1,zero_le->δ4,le_refl->ξ,lt_of_lt_of_le->γf,le_succ_of_le->ζt
open Option renaming map_eq_some_iff->ε
open Prod renaming fst->εm,snd->ζ4
open Subtype renaming val->εO
namespace Go.Vi
open Go.Proofs.YtbnhiekmnpikhaaGreat.Ir
open Go.Proofs
theorem agy:kC Tryz.prog 57 [.os 0 0 0 0] [.cells [] 3 1 true] (.bI []) [.cells [] 3 1 true]:=
 (Gu sL 60 57 [.os 0 0 0 0] [.cells [] 3 1 true] true (.bI []) [.cells [] 3 1 true] (by kernel_rfl)).2.1
def Vx:dH where
 f:=57;α:=Nat×List Int;put a:=[.ow 0 a.1 1];st a:=[.row (.i .i64) a.2 3 true];dec v o:=match v,o with
  |[.ow 0 n 1],[.row t l 3 true]=>match iG t (.i .i64) l with
   |some l=>some (n,l)
   |_=>none
  |_,_=>none;ok v o a h:=by
  grind[mE]
 inj a b e1 e2:=by
  obtain⟨n,l⟩:=a;obtain⟨n',l'⟩:=b;simp only[gL,Θ,SV.g,AV.os.injEq,true_and] at e1;simp only[gO,π,List.map_nil,bq.g,Θ,bQ.cells.injEq,and_true,true_and] at e2;have h4:l=l':=by
   have hf:=congrArg γc e2;rw[fe,fe] at hf;exact ly (.i .i64) (by grind[bp.sz]) e2
  simp_all
 dom a:=a.1=a.2.length/\a.2.length<=1000000;res _:=.bI [];out a:=[.row (.i .i64) (dZ a.2) 3 true]
theorem h337e:ec Tryz.prog Vx:=by
 rintro⟨n,l⟩ ⟨a,b⟩;simp only at a b;by_cases c:1<=l.length;·exact h337 (n,l) ⟨a,c,b⟩
 ·have:l=[]:=τ (by omega);subst this;subst a;refine⟨by kernel_rfl,?_⟩;have e:dZ []=[]:=by simp[dZ]
  show kC Tryz.prog 57 [.os 0 0 0 0] [.cells [] 3 1 true] (.bI []) (gO [.row (.i .i64) (dZ []) 3 true]);rw[e];exact agy
def BD:bM:=⟨31,bn×List Int,.cons dQ (.one (dM (.i .i64))),λa=>(∀i∈a.2,0<=i/\i<a.1.offers.length)/\a.2.length<=1000/\a.1.classes.length<=1000,λa=>dQ.put (eY a.1 a.2)⟩
def Mc (p:bn) (v:SV):bq:=.cells [.si .i64 p.supply.a0,.si .i64 p.supply.a1,.si .i64 p.supply.a2,.si .i64 p.supply.a3,.si .i64 p.supply.a4,.si .i64 p.supply.a5,
  .si .i64 p.opn.a0,.si .i64 p.opn.a1,.si .i64 p.opn.a2,.si .i64 p.opn.a3,.si .i64 p.opn.a4,.si .i64 p.opn.a5,
  .si .i64 p.cls.a0,.si .i64 p.cls.a1,.si .i64 p.cls.a2,.si .i64 p.cls.a3,.si .i64 p.cls.a4,.si .i64 p.cls.a5,
  .row (.i .i64) p.classes,v] 27 20 false
def Vy:bq:=.cells [.il .i64 0,.il .i64 0,.il .i64 0,.il .i64 0,.il .i64 0,.il .i64 0,.il .i64 0,.il .i64 0,.il .i64 0,.il .i64 0,.il .i64 0,.il .i64 0,.il .i64 0,.il .i64 0,.il .i64 0,.il .i64 0,.il .i64 0,.il .i64 0,.sc (.slice none 0 0),.sc (.slice none 0 0)] 27 20 false
def agz (p:bn) (c:List Int):Nat->cF
 |5=> .inv Int (λi=>⟨[(2,.ptr 0 0 20),(4,.ptr 1 0 20),(5,.ptr 2 0 20),(14,.row (.i .i64) c),(15,.si .i64 c.length),(16,.si .i64 i)],[.cells p.ss 27 20 false,Vy,Mc p (.ow 3 (c.take i.toNat).length 8),.row .off ((c.take i.toNat).map (oI p)) 65 true]⟩)
   (λs=>iS s 16) (λi=>0<=i/\i<=c.length) (λi=>(c.length - i).toNat) λ_ _=> .look
 |_=> .look
theorem h562:Holds Tryz.prog BD:=by
 refine cH (L:=[A5]) BD (λa=>agz a.1 a.2) (by grind[h330]) ?_;rintro⟨p,c⟩ ⟨Z,h2,h3⟩;simp only at Z h2 h3;refine bR (let a:=γi .i64;let b:=(0:Int);let d:=bq.cells;let y:=Ω;let I:=bq.row;let L:=γT;let Y:=L 0 0 20;let W:=L 1 0 20;let X:=L 2 0 20;let J:=bp.i .i64;let H:=(↑c.length:Int);let N:=a H;let e:=γy .i64 0;let O:=a p.supply.a0;let M:=a p.supply.a1;let S:=a p.supply.a2;let q:=a p.supply.a3;let B:=a p.supply.a4;let A:=a p.supply.a5;let r:=a p.opn.a0;let v:=a p.opn.a1;let D:=a p.opn.a2;let u:=a p.opn.a3;let o:=a p.opn.a4;let w:=a p.opn.a5;let l:=a p.cls.a0;let n:=a p.cls.a1;let z:=a p.cls.a2;let C:=a p.cls.a3;let t:=a p.cls.a4;let s:=a p.cls.a5;let k:=y J p.classes;let F:=d [O,M,S,q,B,A,r,v,D,u,o,w,l,n,z,C,t,s,k,y bp.off p.offers] 27 20 false;let T:=SV.sc (Value.slice none 0 0);let E:=d [e,e,e,e,e,e,e,e,e,e,e,e,e,e,e,e,e,e,T,T] 27 20 false;let K:=d [O,M,S,q,B,A,r,v,D,u,o,w,l,n,z,C,t,s,k,γ1 3 0 8] 27 20 false;let U:=I bp.off [] 65 true;let h:=(eY p c).supply;let f:=(eY p c).opn;let j:=(eY p c).cls;p.classes.length<=1000000/\(((Y.same Y/\W.same W/\X.same X/\(y J c).same (y J c)/\(a (↑c.length:Int)).same N/\e.same (a 0)/\True)/\F.same F/\E.same E/\K.same K/\U.same U/\True)/\b<=b/\b<=H)/\∀(x:Int),let G:=bj c x.toNat b;let m:=γb (oI p) (ω x.toNat c);let Q:=m.length+1;let g:=x+(1:Int);let R:=a g;let V:=m++[bj p.offers G.toNat bp.off.dflt];let P:=ω g.toNat c;b<=x/\x<=H->(decide (x<H)=true->b<=x/\x<(↑c.length:Int)/\x.toNat<c.length/\b<=G/\G<(↑p.offers.length:Int)/\G.toNat<p.offers.length/\1=1/\(ω x.toNat c).length=m.length/\Q*64<=140737488355328/\Q<=1000000000000/\cu .i64 g/\((Y.same Y/\W.same W/\X.same X/\(y J c).same (y J c)/\N.same N/\R.same R/\True)/\F.same F/\E.same E/\(d [O,M,S,q,B,A,r,v,D,u,o,w,l,n,z,C,t,s,k,γ1 3 V.length 8] 27 20 false).same (d [O,M,S,q,B,A,r,v,D,u,o,w,l,n,z,C,t,s,k,γ1 3 P.length 8] 27 20 false)/\(I bp.off V 65 true).same (I bp.off (γb (oI p) P) 65 true)/\True)/\(b<=g/\g<=H)/\(H - g).toNat<(H - x).toNat)/\(decide (x<H)=false->(ω x.toNat c).length=m.length/\(γN [O,M,S,q,B,A,r,v,D,u,o,w,l,n,z,C,t,s,k,y bp.off m]).same (γN [a h.a0,a h.a1,a h.a2,a h.a3,a h.a4,a h.a5,a f.a0,a f.a1,a f.a2,a f.a3,a f.a4,a f.a5,a j.a0,a j.a1,a j.a2,a j.a3,a j.a4,a j.a5,y J (eY p c).classes,y bp.off (eY p c).offers]))) (by kernel_rfl) ?_;simp only[vcs];have I:∀{a b:Nat},a=b->(Mc p (.ow 3 a 8)).same (Mc p (.ow 3 b 8)):=by rintro _ _ rfl;rfl
 have a7:∀{x y:List Off},x=y->(bq.row .off x 65 true).same (bq.row .off y 65 true):=by rintro _ _ rfl;rfl
 have a6:∀x:Int,0<=x->x<c.length->γb (oI p) (ω x.toNat c)++[bj p.offers (bj c x.toNat 0).toNat bp.off.dflt]=γb (oI p) (ω (x+1).toNat c):=λx h0 Z=>by
  rw[jX (d:=0) h0 Z,γa];rfl
 refine⟨by omega,by omega,?_⟩;rintro x ⟨x0,x1⟩;refine⟨λN=>?_,λa8=>?_⟩
 ·have hb:=Z (bj c x.toNat 0) (dr (by omega));have a9:(γb (oI p) (ω x.toNat c)).length=x.toNat:=by simp_all
  rw[a6 x x0 N];refine⟨x0,N,by omega,hb.1,hb.2,by omega,(Δ _).symm,by omega,by omega,by omega,⟨I (Δ _),a7 rfl⟩,by omega,by omega⟩
 ·rw[show x.toNat=c.length by omega,ψ];exact⟨(Δ _).symm,rfl⟩
def qV (p:bn) (l:List Int):Int:=if bz p≠0 then bz p else if jc p l=true then 0 else 4
def oM (p:bn) (l:List Int):bn:=if qV p l=0 then eY p l else L9
def Me:bM:=⟨15,bn×List Int,.cons dQ (.one (dM (.i .i64))),λa=>a.2.length<=1000000000000,λa=> .bI [.agg (oM a.1 a.2).ss,.si .i64 (qV a.1 a.2)]⟩
def agA (p:bn) (l:List Int):Nat->cF
 |6=> .inv (Int×Int) (λx=>⟨[(1,.row (.i .i64) l),(2,.ptr 0 0 20),(4,.ptr 1 0 20),(7,.si .i64 x.2),(16,.row (.i .i64) l),(17,.si .i64 l.length),(18,.si .i64 x.1)],[.cells p.ss 27 20 false,Vy]⟩)
   (λs=>(iS s 18,iS s 7)) (λx=>(0<=x.1/\x.1<=l.length)/\(-1<=x.2/\x.2<1000)/\(eW p.offers (-1) l).isSome=(eW p.offers x.2 (l.drop x.1.toNat)).isSome) (λx=>(l.length - x.1).toNat) λ_ _=> .look
 |_=> .look
theorem h554:Holds Tryz.prog Me:=by
 refine cH (L:=[o9,BD]) Me (λa=>agA a.1 a.2) (by grind[h79,h562]) ?_;rintro⟨p,l⟩ (hl:l.length<=1000000000000);refine bR (let a:=γi .i64;let d:=Ω;let e:=(-1:Int);let h:=(0:Int);let n:=γy .i64;let q:=(1000:Int);let A:=SV.bI;let E:=γN;let T:=decide (bz p≠h);let b:=n 0;let m:=bp.i .i64;let M:=E [b,b,b,b,b,b,b,b,b,b,b,b,b,b,b,b,b,b,d m [],d m []];let y:=(oM p l).supply;let w:=(oM p l).opn;let v:=(oM p l).cls;let J:=A [E [a y.a0,a y.a1,a y.a2,a y.a3,a y.a4,a y.a5,a w.a0,a w.a1,a w.a2,a w.a3,a w.a4,a w.a5,a v.a0,a v.a1,a v.a2,a v.a3,a v.a4,a v.a5,d m (oM p l).classes,d bp.off (oM p l).offers],a (qV p l)];let K:=γT 0 0 20;let I:=γT 1 0 20;let c:=(↑l.length:Int);let u:=a c;let r:=bq.cells [a p.supply.a0,a p.supply.a1,a p.supply.a2,a p.supply.a3,a p.supply.a4,a p.supply.a5,a p.opn.a0,a p.opn.a1,a p.opn.a2,a p.opn.a3,a p.opn.a4,a p.opn.a5,a p.cls.a0,a p.cls.a1,a p.cls.a2,a p.cls.a3,a p.cls.a4,a p.cls.a5,d m p.classes,d bp.off p.offers] 27 20 false;let z:=SV.sc (Value.slice none 0 0);let s:=bq.cells [b,b,b,b,b,b,b,b,b,b,b,b,b,b,b,b,b,b,z,z] 27 20 false;let t:=(eW p.offers e l).isSome;let f:=(eY p l).supply;let k:=(eY p l).opn;let o:=(eY p l).cls;True/\(T=true->(A [M,a (bz p)]).same J)/\(T=false->((((d m l).same (d m l)/\K.same K/\I.same I/\(n e).same (a e)/\(d m l).same (d m l)/\(a (↑l.length:Int)).same u/\b.same (a 0)/\True)/\r.same r/\s.same s/\True)/\(h<=h/\h<=c)/\(e<=e/\e<q)/\t=t)/\∀(x:Int×Int),let G:=decide (x.fst<c);let j:=bj l x.fst.toNat h;let H:=decide (j<=x.snd);let D:=decide ((↑p.offers.length:Int)<=j);let g:=x.fst+(1:Int);let B:=a j;let C:=a g;(h<=x.fst/\x.fst<=c)/\(e<=x.snd/\x.snd<q)/\t=(eW p.offers x.snd (γU x.fst.toNat l)).isSome->(G=true->h<=x.fst/\x.fst<(↑l.length:Int)/\x.fst.toNat<l.length/\(H=true->(A [M,n 4]).same J)/\(H=false->(D=true->(A [M,n 4]).same J)/\(D=false->cu .i64 g/\(((d m l).same (d m l)/\K.same K/\I.same I/\B.same B/\(d m l).same (d m l)/\u.same u/\C.same C/\True)/\r.same r/\s.same s/\True)/\((h<=g/\g<=c)/\(e<=j/\j<q)/\t=(eW p.offers j (γU g.toNat l)).isSome)/\(c - g).toNat<(c - x.fst).toNat)))/\(G=false->((∀(i:Int),i∈l->h<=i/\i<(↑p.offers.length:Int))/\l.length<=1000/\p.classes.length<=1000)/\(A [E [a f.a0,a f.a1,a f.a2,a f.a3,a f.a4,a f.a5,a k.a0,a k.a1,a k.a2,a k.a3,a k.a4,a k.a5,a o.a0,a o.a1,a o.a2,a o.a3,a o.a4,a o.a5,d m (eY p l).classes,d bp.off (eY p l).offers],b]).same J))) (by kernel_rfl) ?_;simp only[vcs];have Z:qV p l≠0->oM p l=L9:=λh=>by simp_all[oM]
 refine⟨λh=>?_,λh=>?_⟩
 ·have e:qV p l=bz p:=by simp_all[qV]
  rw[Z (by omega),e];exact⟨rfl,rfl⟩
 ·have hc:bz p=0:=γj.1 h;have P:=dR hc;have e:qV p l=if jc p l=true then 0 else 4:=by simp_all[qV]
  refine⟨⟨by omega,by omega,by simp⟩,?_⟩;rintro⟨i,U⟩ ⟨⟨N,i1⟩,⟨Y,V⟩,q⟩;simp only at N i1 Y V q ⊢;have F:jc p l=false->qV p l=4/\oM p l=L9:=λhb=>by
   simp_all
  refine⟨λA=>?_,λa6=>?_⟩
  ·rw[uk (d:=0) N A] at q;generalize S:bj l i.toNat 0=x at q ⊢;simp only[eW] at q;refine⟨N,A,by omega,λR=>?_,λR=>⟨λh2=>?_,λh2=>?_⟩⟩
   ·rw[if_pos (.inl R)] at q;obtain⟨O,Q⟩:=F q;rw[Q,O];exact⟨rfl,rfl⟩
   ·rw[if_pos (.inr (by omega))] at q;obtain⟨O,Q⟩:=F q;rw[Q,O];exact⟨rfl,rfl⟩
   ·rw[if_neg (by omega),Option.isSome_map] at q;have:=P.2.1;grind
  ·rw[show i.toNat=l.length from by omega,List.drop_length] at q;have E:jc p l=true:=q;rw[E] at e;have e0:qV p l=0:=e;have X:oM p l=eY p l:=by simp_all[oM]
   have ha:=JP (by omega) E;rw[X,e0];have W:=JM (n:=p.offers.length) (a:=0) (by omega) ha.1 (λx S=>by grind);exact⟨⟨λx S=>by grind,by have:=P.2.1;omega,by have:=P.1;omega⟩,rfl,rfl⟩
open Go.Maps Go.RowKit Go.Proofs Go.ChangeShapes
def gG (l:List Int) (k:Nat) (x:Int):List Int:=(dp k).filter λi=>decide (bj l i.toNat 0=x)
theorem agB {l:List Int} {k:Nat} {x:Int}:gG l (k+1) x=if bj l k 0=x then gG l k x++[(k:Int)] else gG l k x:=by
 grind[gG,sY]
def nP (H:Type) (l:List Int):Nat->DataW H
 |0=> .map []
 |k+1=>(nP H l k).put (.int .i64 (bj l k 0)) (.slice (lits .i64 (gG l k (bj l k 0)++[(k:Int)])) [])
theorem Vz {H:Type} {l:List Int}:∀{k:Nat},Go.Maps.IsMap (nP H l k)
 |0=>isMap_empty
 |k+1=>Vz.put _ _
theorem Ff {H:Type} {l:List Int} {x:Int}:∀{k:Nat} (z:DataW H),(nP H l k).atKey (.int .i64 x) z=if gG l k x=[] then z else .slice (lits .i64 (gG l k x)) []
 |0,z=>by grind[nP,gG,dp,DataW.atKey];|k+1,z=>by
  rw[nP,agB];by_cases h:bj l k 0=x
  ·subst h;rw[atKey_put_same Vz (by simp[WideAt.IsKeyLit]),if_pos rfl,if_neg (by simp)]
  ·rw[atKey_put_other (by grind),if_neg h];exact Ff z
theorem VA {H:Type} {l:List Int} {x:Int} {k:Nat}:ζ8 (nP H l k) (.int .i64 x)=decide (gG l k x≠[]):=by
 by_cases h:gG l k x=[];all_goals simp_all[has_false_of_atKey,Ff,has_true_of_atKey]
theorem agC {H:Type} {w:World} {base:Nat} {e:TypeId} {v:Value} {zs l:List Int} {k:Nat} (ho:w.ownsInts base e .i64 v zs)
  (hat:(nP H l k).atKey (.int .i64 (bj l k 0)) .nil=rowDatum .i64 v zs):zs=gG l k (bj l k 0):=by
 rw[Ff] at hat;rcases ho.datum (H:=H) with⟨h1,rfl⟩|h1<;>rw[h1] at hat
 ·split at hat;·rename_i h;exact h.symm
  ·cases hat
 ·split at hat;·cases hat
  ·injection hat with hat;have hinj:∀{a b:List Int},lits (H:=H) .i64 a=lits .i64 b->a=b:=by
    intro a;induction a with
    |nil=>intro b h;cases b with|nil=>rfl|cons y b=>simp[lits] at h
    |cons x a ih=>
     intro b h;cases b with
     |nil=>simp[lits] at h;|cons y b=>
      simp[lits] at h ih;rw[h.1,ih h.2]
   exact(hinj hat).symm
theorem VB {l:List Int} {n:Nat} {x i:Int}:i∈gG l n x↔(0<=i/\i<n)/\bj l i.toNat 0=x:=by
 unfold gG dp;grind
theorem agD {l:List Int} {n:Nat} {x:Int}:(gG l n x).Pairwise (·<·):=rI.sublist γO
def eZ (l:List Int) (n:Nat):List Int:=(dp n).filter λf=>decide ((gG l n (bj l f.toNat 0)).head?=some f)
theorem MA {l:List Int} {n:Nat}:(eZ l n).Pairwise (·<·):=rI.sublist γO
theorem Fg {l:List Int} {n:Nat} {f:Int}:f∈eZ l n↔(gG l n (bj l f.toNat 0)).head?=some f:=by
 unfold eZ;rw[List.mem_filter];constructor;·simp_all
 ·intro h;refine⟨?_,decide_eq_true h⟩;have:=(VB.1 (List.mem_of_mem_head? h)).1;grind[dp]
theorem agE {l:List Int} {n:Nat} {x:Int} (h:gG l n x≠[]):∃f t,gG l n x=f::t/\f∈eZ l n/\bj l f.toNat 0=x:=by
 cases e:gG l n x with
 |nil=>exact absurd e h;|cons f t=>
  have hf:=(VB.1 (show f∈gG l n x by rw[e];exact γY)).2;exact⟨f,t,rfl,Fg.2 (by rw[hf,e];rfl),hf⟩
theorem agF {l:List Int} {n:Nat} {f g:Int} (b:f∈eZ l n) (a:g∈eZ l n) (h:bj l f.toNat 0=bj l g.toNat 0):f=g:=by
 grind[Fg]
theorem agG {hs l:List Int} (hn:hs.Nodup) (hl:l.Pairwise (·<·)) (hm:∀x,x∈hs↔x∈l):(hs.mergeSort λx y=>decide (x<=y))=l:=by
 have hp:hs.Perm l:=(γ4 hn (hl.imp λh=>Int.ne_of_lt h)).2 hm;have h1:=δ7 (le:=λx y:Int=>decide (x<=y)) (λa b c=>by simp;omega) (λa b=>by simp;omega) hs;exact εC (le:=λx y:Int=>x<=y) (λa b _ _ h h'=>by omega) (h1.imp λh=>by simpa using h) (hl.imp λh=>γe h) ((δs _ _).trans hp)
theorem agH {p:bn}:cq p=(eZ (tq p) p.offers.length).map λf=>gG (tq p) p.offers.length (bj (tq p) f.toNat 0):=by
 unfold cq;have e:∀f,qa p f=gG (tq p) p.offers.length (bj (tq p) f.toNat 0):=λf=>rfl;have h:(dp p.offers.length).filter (qb p)=eZ (tq p) p.offers.length:=by
  unfold eZ;refine List.filter_congr λf hf=>?_;obtain⟨h0,h1⟩:=kL.1 hf;rw[<-e f];have hin:f∈qa p f:=By.2 ⟨⟨h0,h1⟩,rfl⟩;have hasc:(qa p f).Pairwise (·<·):=agD;cases hc:qa p f with
  |nil=>rw[hc] at hin;cases hin;|cons g t=>
   rw[hc] at hasc;have hg:=By.1 (show g∈qa p f by rw[hc];exact γY);by_cases hfg:g=f
   ·subst hfg;rw[List.head?_cons];have:qb p g=true:=(Bz h0).2 λj a b c=>by
     have hj:j∈qa p g:=By.2 ⟨⟨a,by omega⟩,c⟩;rw[hc] at hj;rcases γz.1 hj with rfl|hj;·omega
     ·have:=ζj hasc hj;omega
    simp[this]
   ·have hlt:g<f:=by
     rw[hc] at hin;rcases γz.1 hin with rfl|hj;·exact absurd rfl hfg
     ·exact ζj hasc hj
    have:¬qb p f=true:=λhb=>(Bz h0).1 hb g hg.1.1 hlt hg.2;simp only[Bool.not_eq_true] at this;simp[this,hfg]
 rw[h];exact List.map_congr_left λf _=>e f
open Go.Maps Go.RowKit Go.Proofs Go.ChangeShapes
theorem agI {l:List Int} {n:Nat} {f:Int} (h:f∈eZ l n):0<=f/\f<n:=by
 grind[eZ,kL]
structure y9 (O:Value->List Int->Prop) (l:List Int) (n:Nat) (D:DataW Unit) (left:Lit->Bool) (cnt:Nat) (hs:List (Int×Value)):Prop where
 d:(hs.map εm).Nodup
 i:∀h∈hs,h.1∈eZ l n/\O h.2 (gG l n (bj l h.1.toNat 0))/\left (.int .i64 (bj l h.1.toNat 0))=false
 a:∀f∈eZ l n,left (.int .i64 (bj l f.toNat 0))=false->∃h∈hs,h.1=f
 c:hs.length+cnt<=n
 h:∀kl,left kl=true->ζ8 D kl=true
theorem VC (a b:Int):(Lit.int .i64 a).sameKey (.int .i64 b)=decide (a=b):=by simp[Lit.sameKey]
theorem y9.step {O:Value->List Int->Prop} {l:List Int} {n:Nat} {D:DataW Unit} {e:Lit->Bool} {o:Nat} {x:List (Int×Value)} (h:y9 O l n D e o x) {f:Int} {v:Value} (A:f∈eZ l n)
  (I:O v (gG l n (bj l f.toNat 0))) (s:e (.int .i64 (bj l f.toNat 0))=true) {k:Nat} (J:k<o):
  y9 O l n D (λz=>e z&&!z.sameKey (.int .i64 (bj l f.toNat 0))) k (x++[(f,v)]):=by
 refine⟨?_,?_,?_,?_,?_⟩
 ·rw[γa,List.nodup_append];refine⟨h.d,by simp,?_⟩;intro a B b u p;simp at u;subst u;subst p;obtain⟨q,E,rfl⟩:=Ψ.1 B;rw[(h.i _ E).2.2] at s;cases s
 ·intro y m;rcases List.mem_append.1 m with m|m
  ·obtain⟨K,H,G⟩:=h.i y m;simp_all
  grind[VC]
 ·intro g w j;rw[VC] at j;by_cases t:bj l g.toNat 0=bj l f.toNat 0;·exact⟨(f,v),by simp,(agF w A t).symm⟩
  ·rw[decide_eq_false t] at j;simp at j;obtain⟨y,m,F⟩:=h.a g w j;grind
 ·have:=h.c;grind
 ·intro C r;simp only[θ] at r;exact h.h C r.1
def mV (hs:List (Int×Value)) (f:Int):Value:=((hs.find? λh=>decide (h.1=f)).map ζ4).getD (.slice none 0 0)
theorem VD {a:List (Int×Value)} (b:(a.map εm).Nodup) {q:Int×Value} (c:q∈a):mV a q.1=q.2:=by
 unfold mV;induction a<;>grind
theorem agJ {a:List (Int×Value)} (b:(a.map εm).Nodup):(a.map εm).map (mV a)=a.map ζ4:=by
 simp_all[VD]
theorem y9.done {O:Value->List Int->Prop} {l:List Int} {n:Nat} {D:DataW Unit} {b:Lit->Bool} {j:Nat} {e:List (Int×Value)} (h:y9 O l n D b j e) (m:∀o,b o=false):
  (∀f,f∈e.map εm↔f∈eZ l n)/\(∀f∈eZ l n,O (mV e f) (gG l n (bj l f.toNat 0)))/\((e.map εm).mergeSort λx y=>decide (x<=y))=eZ l n:=by
 have k:∀f,f∈e.map εm↔f∈eZ l n:=λf=>by
  constructor
  ·intro c;obtain⟨q,g,rfl⟩:=Ψ.1 c;exact(h.i q g).1
  ·intro c;obtain⟨q,g,rfl⟩:=h.a f c (m _);grind
 refine⟨k,λf c=>?_,agG h.d MA k⟩;obtain⟨q,g,rfl⟩:=Ψ.1 ((k f).2 c);rw[VD h.d g];exact(h.i q g).2.1
theorem agK {H:Type} {w:World} {base:Nat} {e:TypeId} {v:Value} {zs l:List Int} {k:Nat} {x:Int} (ho:w.ownsInts base e .i64 v zs)
  (hat:(nP H l k).atKey (.int .i64 x) .nil=rowDatum .i64 v zs):zs=gG l k x:=by
 rw[Ff] at hat;rcases ho.datum (H:=H) with⟨h1,rfl⟩|h1<;>rw[h1] at hat
 ·split at hat;·rename_i h;exact h.symm
  ·cases hat
 ·split at hat;·cases hat
  ·injection hat with hat;have hinj:∀{a b:List Int},lits (H:=H) .i64 a=lits .i64 b->a=b:=by
    intro a;induction a with
    |nil=>intro b h;cases b with|nil=>rfl|cons y b=>simp[lits] at h
    |cons x a ih=>
     intro b h;cases b with
     |nil=>simp[lits] at h;|cons y b=>
      simp[lits] at h ih;rw[h.1,ih h.2]
   exact(hinj hat).symm
end Go.Vi
namespace Go.Proofs
open Go.RowKit Go.Maps Go.Vi Go.ChangeShapes
theorem agL:(Tryz.prog.info? 3).map (λi=>(i.zero,i.size,i.bytes))=some (some (.int .i64 0),1,8):=by kernel_rfl
theorem agM:(Tryz.prog.info? 24).map (λi=>(i.zero,i.size,i.bytes))=some (some (.slice none 0 0),1,24):=by kernel_rfl
theorem agN (w:World):(zeroValue 24).run Tryz.prog w= .ok (.slice none 0 0) w:=by kernel_rfl
theorem MB:Keyed Tryz.prog 3:=int_keyed Tryz.underlying3
open Go.Shelf Go.Sort Go.Lib
theorem agO (f c:Nat) (b i d g:Nat) (x y:Int) (W:World) (o:0<b) (l:0<d) (n:W.cell? ⟨f,0,none⟩=some (.int .i64 x)) (j:W.cell? ⟨c,0,none⟩=some (.int .i64 y)) (k:0<=x/\x<256) (m:0<=y/\y<256):
  Calls Tryz.prog 51 #[.slice (some ⟨f,0,none⟩) b i,.slice (some ⟨c,0,none⟩) d g] W λe h=>e= .returned (.int .i64 (x - y))/\∃q a,h=grow (W.drewN q) a:=by
 go_enter Tryz.func51,Tryz.ntmps51;go_wp2;go_quiet (fail);go_wp2;go_ret;exact⟨rfl,nq,#[],by simp_all⟩
theorem agP {b:Type} [Inhabited b] {enc:b->Value} {w:World} {g:Nat} {a:Array Value} {e:TypeId} {d:Array b} (i:w.heap[g]?=some (.cells a e (0,0))) (h:a.toList.take d.size=d.toList.map enc):Sort.Holds enc w g 0 d:=by
 intro j c;refine⟨?_,by grind[World.frozen?]⟩;have f:(a.toList.take d.size)[j]?=(d.toList.map enc)[j]?:=by rw[h]
 rw[δA c] at f;simp_all[World.cell?]
theorem agQ {w:World} {B:Nat} {v:Value} {x:Int} {tl:List Int} (h:w.ownsInts B 3 .i64 v (x::tl)):
  ∃(g n cap:Nat),v= .slice (some ⟨g,0,none⟩) n cap/\0<n/\g<w.heap.size/\B<=g/\w.cell? ⟨g,0,none⟩=some (.int .i64 x):=by
 obtain⟨hr,_⟩:=h;have hr2:=hr;rcases hr.2 with⟨_,h0⟩|⟨g,cap,cur,rfl,hgb,hgg,q1,q2,q3,q4⟩;·simp at h0
 ·refine⟨g,_,cap,rfl,by simp,(γv.1 hgg).1,hgb,?_⟩;rw[World.ownsRow.cellAt hr2 0 (by simp)];simp
theorem VE {d:Type} [Inhabited d] (enc:d->Value) (W:World) (b c n:Nat) (e:Array d) (os:Array Obj) (a:Addr) (f:a.block≠b) (g:a.block<W.heap.size):(sortWorld enc W b c n e os).cell? a=W.cell? a:=by
 unfold sortWorld;rw[cell?_grow _ _ _ (by simp_all),cell?_putRow_other _ _ b c e _ (Or.inl f)];rfl
theorem agR {b:Type} [Inhabited b] (enc:b->Value) {w:World} {g n:Nat} {os:Array Obj} {a:Array Value} {e:TypeId} {c:Nat×Nat} (d:Array b) (f:w.heap[g]?=some (.cells a e c)):
  (sortWorld enc w g 0 n d os).heap[g]?=some (.cells (putCells enc 0 d a) e c):=by
 grind[sortWorld,heap_grow_old,putRow,mapBlock,Sort.ahead,onCells]
theorem agS {a:Type} [Inhabited a] (enc:a->Value) {w:World} {g n:Nat} {os:Array Obj} (d:Array a):w.grownBy (sortWorld enc w g 0 n d os) (some g):=by
 unfold sortWorld;refine⟨rfl,rfl,rfl,by simp_all,λk c b=>?_⟩;grind[heap_grow_old,putRow,mapBlock,Sort.ahead]
theorem agT {b:Type} [Inhabited b] (enc:b->Value) (a:Array Value) (d:Array b) (h:d.size<=a.size):(putCells enc 0 d a).toList.take d.size=d.toList.map enc:=by
 apply List.ext_getElem?;grind[putCells]
abbrev Hd (l:List Int) (n:Nat):={f:Int //f∈eZ l n}
def qW {l:List Int} {n:Nat} (x y:Hd l n):Int:=x.val - y.val
theorem wM {l:List Int} {n:Nat} (x y:Hd l n):ltOf qW x y=decide (x.val<y.val):=by
 grind[ltOf,qW]
theorem agU {l:List Int} {n:Nat}:SWO (ltOf (qW (l:=l) (n:=n))) where
 irrefl x:=by grind[wM]
 trans x y z a b:=by grind[wM]
 ntrans x y z a b:=by grind[wM]
theorem agV {l:List Int} {n:Nat} (c:List (Hd l n)) (m:∀f,f∈c.map εO↔f∈eZ l n) (i:(c.map εO).Nodup):(c.mergeSort λx y=>!ltOf qW y x).map εO=eZ l n:=by
 have e:=δs c λx y=>!ltOf qW y x;have d:=δ7 (le:=λx y=>!ltOf (qW (l:=l) (n:=n)) y x) (λx y z g o=>by grind[wM]) (λx y=>by grind[wM]) c;have j:(c.mergeSort λx y=>!ltOf qW y x).Pairwise λx y=>x.val<=y.val:=d.imp λ{x y} h=>by grind[wM]
 have g:((c.mergeSort λx y=>!ltOf qW y x).map εO).Pairwise (·<=·):=by
  grind
 have k:(eZ l n).Perm (c.map εO):=(γ4 (MA.imp λh=>Int.ne_of_lt h) i).2 λf=>(m f).symm;exact εC (le:=λx y:Int=>x<=y) (λa b _ _ h p=>by omega) g (MA.imp λh=>γe h) ((e.map _).trans k.symm)
def agW (w':World) (B:Nat) (l:List Int) (n:Nat) (e:Ending):Prop:=
 (e= .returned (.slice none 0 0)/\eZ l n=[])\/∃(g cap:Nat) (cur:Array Value) (sv:Int->Value),e= .returned (.slice (some ⟨g,0,none⟩) (eZ l n).length cap)/\B<=g/\w'.heap[g]?=some (.cells cur 24 (0,0))/\(eZ l n).length<=cap/\cap<=maxLen/\
  cur.size=cap*1/\cur.toList.take (eZ l n).length=(eZ l n).map sv/\∀f∈eZ l n,w'.ownsInts B 3 .i64 (sv f) (gG l n (bj l f.toNat 0))
theorem VF {P:Program} {e:Array Oper} {c:Oper} {a:Act} {w:World} {K:Act->Prop} (f:TypeId) (x:Operand) (p:Addr) (b:List Value) (d:Array Field) (k:∀j v,b[j]?=some v->w.cell? (p.add j)=some v)
  (o:P.underlying f=some (.struct d)) (r:(P.info? f).map (·.size)=some b.length) (m:c.op= .load f x) (l:a.eval x= .pointer (some p)) (n:Region.wanted c (yielded e a.tmps)=true)
  (h:K (a.put c.dst (.agg b.toArray))):if Region.wanted c (yielded e a.tmps) then c.still P a w K else K (a.put c.dst undef):=by
 have g:(loadVar f p).run P w= .ok (.agg b.toArray) w:=by
  have g:(loadCells p b.length).run P w= .ok b.toArray w:=run_loadCells_list (P:=P) w p b k;cases q:P.info? f with
  |none=>simp_all;|some i=>
   simp_all[isAgg,run_underlying,loadVar,sizeOf,typeInfo]
 rw[if_pos n];unfold Oper.still execOp;simp only[m,l,Instr.loadAt,Instr.sureAddr,Sem.run_bind,Sem.run_pure,Result.andThen_ok,g];exact⟨rfl,h⟩
def VG (v:Fin 8->Value):Value:=.agg #[v 0,v 1,v 2,v 3,v 4,v 5,v 6,v 7]
theorem add_block (q:Addr) (m:Nat):(q.add m).block=q.block:=by grind[Addr.add]
theorem agX {w:World} {B g n c d:Nat} {e:TypeId} {xs:List Value} (h:w.ownsRow B e d (.slice (some ⟨g,0,none⟩) n c) n xs):B<=g:=by
 rcases h.2 with⟨b,_⟩|⟨j,a,f,b,i,_⟩<;>simp_all
theorem BE {w:World} {B g n c:Nat} {l:List Int} {j:Nat} (h:w.ownsInts B 3 .i64 (.slice (some ⟨g,0,none⟩) n c) l) (b:l.length=n) (d:j<n):w.cell? ⟨g,j,none⟩=some (.int .i64 (bj l j 0)):=by
 have a:=h.1;rw[b] at a;rw[World.ownsRow.cellAt a j (by omega)];grind[bj]
theorem agY {w:World} {b f:Nat} {e:TypeId} {a:Nat} {v:Value} {n:Nat} {xs:List Value} (h:w.ownsRow b e a v n xs) (o:f<=b):w.ownsRow f e a v n xs:=by
 obtain⟨i,l⟩:=h;refine⟨i,l.imp id ?_⟩;rintro⟨g,c,d,m,k,j⟩;exact⟨g,c,d,m,δ1 o k,j⟩
theorem VH {w b:World} {B g n c S:Nat} {l:List Int} (h:w.ownsInts B 3 .i64 (.slice (some ⟨g,0,none⟩) n c) l) (a:Below S w b) (d:w.heap.size=S):b.ownsInts B 3 .i64 (.slice (some ⟨g,0,none⟩) n c) l:=by
 subst d;exact World.ownsInts.kept (row:=none) h ⟨a.os,a.tape,a.output,a.size,λk e _=>a.block k e⟩ (.inr (by simp[Value.ownBlock]))
theorem agZ {w:World} {B g n a:Nat} {l:List Int} (h:w.ownsInts (B+1) 3 .i64 (.slice (some ⟨g,0,none⟩) n a) l) (c:l.length=n) (b:0<n):B<w.heap.size:=by
 have:=h.1.lt g (by simp[Value.ownBlock]);omega
def qX (x y:Int) (l:List Int) (i:Nat):List Int:=(l.take i).map (λz=>if z=x then y else z)++l.drop i
theorem MC {x y:Int} {l:List Int} {i:Nat}:(qX x y l i).length=l.length:=by grind[qX]
theorem ag0 {x y:Int} {l:List Int} {i:Nat} (h:i<l.length):qX x y l (i+1)=if l[i]=x then(qX x y l i).set i y else qX x y l i:=by
 have a:l.take (i+1)=l.take i++[l[i]]:=γ0 h;have b:l.drop i=l[i]::l.drop (i+1):=List.drop_eq_getElem_cons h;have c:((l.take i).map λz=>if z=x then y else z).length=i:=by simp;omega
 unfold qX;rw[a,γa,γV,b];split<;>simp_all
theorem ag1 (g n w:Nat) (l:List Int) (F:l.length=n) (N:n<=60) (x y:Int) (E:(Lit.int .i64 y).wf=true) (Q:∀z∈l,(Lit.int .i64 z).wf=true) (W:World) (A:g<W.heap.size)
  (G:∀j (h:j<l.length),W.cell? ⟨g,j,none⟩=some (.int .i64 l[j]))
  (p:Calls Tryz.prog 52 #[.slice (some ⟨g,0,none⟩) n w] W λe f=>∃c a,e= .returned (.slice (some ⟨c,0,none⟩) n a)/\f.ownsInts W.heap.size 3 .i64 (.slice (some ⟨c,0,none⟩) n a) l/\Below W.heap.size W f):
  Calls Tryz.prog 49 #[.slice (some ⟨g,0,none⟩) n w,.int .i64 x,.int .i64 y] W λe f=>∃c a,e= .returned (.slice (some ⟨c,0,none⟩) n a)/\f.ownsInts W.heap.size 3 .i64 (.slice (some ⟨c,0,none⟩) n a) (qX x y l n)/\Below W.heap.size W f:=by
 go_enter Tryz.func49,Tryz.ntmps49;go_wp2_with (go_at_call 52;refine p.mono ?_;rintro e f ⟨c,a,rfl,B,L⟩);go_loopw [14] (λi v=>∃k:Nat,k<=n/\i= .int .i64 k/\v.ownsInts W.heap.size 3 .i64 (.slice (some ⟨c,0,none⟩) n a) (qX x y l k)/\Below W.heap.size W v)
  (λi _=>n - (intOf i).toNat);case atStart=>grind[qX]
 case round=>
  obtain⟨k,O,rfl,q,o⟩:=hrel;by_cases I:k<n
  ·have H:wr.cell? ⟨g,k,none⟩=some (.int .i64 (l[k]'(by omega))):=(o.cell (by exact A)).trans (G k (by omega));have d:=@ag0 x y l k (by omega);by_cases t:l[k]'(by omega)=x
   ·rw[if_pos t] at d;have b:=q.1;rw[MC,F] at b;obtain⟨C,K⟩:=b.stored k (.int .i64 y);have D:=b.frozenAt k;have r:=b.cellAt k (by omega);rw[γD,μ (by grind[MC])] at r;go_wp2;have s:W.heap.size<=c:=by
     rcases b.2 with⟨M,_⟩|⟨R,u,J,M,P,_⟩<;>simp_all
    refine⟨⟨k+1,by omega,by simp,⟨?_,?_⟩,o.setCell (by exact s) _⟩,by simp[intOf];omega⟩;·simp_all[MC]
    ·intro z m;rw[d] at m;rcases δj m with m|rfl;·exact q.2 z m
     ·exact E
   ·rw[if_neg t] at d;go_wp2;grind[intOf]
  ·obtain rfl:k=n:=by omega
   go_wp2;go_ret;exact⟨c,a,rfl,q,o⟩
theorem ag2 (x0 x1 x2 x3 x4 x5 x6 x7 x8 x9 x10 x11 x12 x13 x14 x15 x16 x17 x18:Value) (a:Option Addr) (n cap:Nat) (hn:n<=60) (nm:Nat->List Int) (hnm:∀k,(nm k).length=n) (aha:nm 0=δ n 0) (hwf:∀k,k<=n->∀x∈nm k,(Lit.int .i64 x).wf=true)
  (nk:Nat->Nat->List Int) (hnk:∀k j,(nk k j).length=n) (hwk:∀k j,k<n->∀x∈nk k j,(Lit.int .i64 x).wf=true) (ain:∀k,k<n->nk k 0=(nm k).set k (k:Int)) (ahb:∀k,k<n->nk k k=nm (k+1))
  (cn:Nat->Nat->Bool) (VI:∀k j,k<n->j<k->nk k (j+1)=if cn k j=true then qT (nk k j) (bj (nk k j) j 0) (bj (nk k j) k 0) else nk k j)
  (ov:Nat->Fin 8->Value) (w:World)
  (hoc:∀i,i<n->∃q,a=some q/\q.block<w.heap.size/\∀j:Fin 8,w.cell? ((q.add (i*8)).add j)=some (ov i j))
  (hcon:∀i j,i<n->j<n->∀W,Calls Tryz.prog 48 #[VG (ov i),VG (ov j)] W λe w'=>e= .returned (.bool (cn i j))/\Below W.heap.size W w')
  (ahc:∀(W:World) (B g cp:Nat) (l:List Int),l.length=n->W.ownsInts B 3 .i64 (.slice (some ⟨g,0,none⟩) n cp) l->∀x y,(Lit.int .i64 y).wf=true->Calls Tryz.prog 49 #[.slice (some ⟨g,0,none⟩) n cp,.int .i64 x,.int .i64 y] W λe w'=>
   ∃g2 cp2,e= .returned (.slice (some ⟨g2,0,none⟩) n cp2)/\w'.ownsInts W.heap.size 3 .i64 (.slice (some ⟨g2,0,none⟩) n cp2) (qT l x y)/\Below W.heap.size W w'):
  Calls Tryz.prog 29 #[.agg #[x0,x1,x2,x3,x4,x5,x6,x7,x8,x9,x10,x11,x12,x13,x14,x15,x16,x17,x18,.slice a n cap]] w λe w'=>∃B,w.heap.size<=B/\agW w' B (nm n) n e/\Below w.heap.size w w':=by
 have hmm:=@run_makeMap Tryz.prog;obtain⟨i0,hi,hz0,hz1,hz2⟩:=info_parts agL;go_enter Tryz.func29,Tryz.ntmps29;go_wp2_with (first
  |(at_make;refine wpList_make_full _ rfl _ _ 24 rfl (w.heap.size+1) 3 i0 (.int .i64 0) 1 Tryz.underlying24 hi hz0 hz1 .i64 .i64 _ _ n rfl rfl rfl rfl (by rw[hz2];omega) (by unfold maxLen;omega) (by simp) ?_;intro w0 hown0 VJ);|go_in);go_loopw [18,3] (λi v wr=>∃(k:Nat) (g:Nat) (cp:Nat),k<=n/\i= .int .i64 k/\v= .slice (some ⟨g,0,none⟩) n cp/\wr.ownsInts (w.heap.size+1) 3 .i64 v (nm k)/\wr.cell? ⟨w.heap.size,19,none⟩=some (.slice a n cap)/\Below w.heap.size w wr)
  (λi _ _=>n - (intOf i).toNat);case atStart=>
  refine⟨0,w.heap.size+1,n,by omega,rfl,rfl,⟨?_,λz hz=>hwf 0 (δ4 _) z hz⟩,?_,((Below.refl _ w).alloc (ξ _) _).grown VJ (by simp) (by simp_all)⟩;rotate_left
  ·refine(World.cell?_of_block (VJ.block w.heap.size (by simp) (by simp_all))).trans ?_;simp_all
  rw[hnm 0,aha];have e1:(madeCells (Value.int IntKind.i64 0).cells (n*1)).toList=(δ n (0:Int)).map (Value.int .i64):=by
   rw[Nat.mul_one,List.map_replicate];exact toList_madeCells_one _ _
  simp_all
 case round=>
  obtain⟨k,g,cp,hk,rfl,rfl,hown,VK,hnx⟩:=hrel;by_cases hlt:k<n
  ·obtain⟨q,rfl,hqb,_⟩:=hoc k hlt;have uR:=hown.1;rw[hnm k] at uR;obtain⟨hs1,hs2⟩:=uR.stored k (.int .i64 k);have hfr:=uR.frozenAt k;have hce:=uR.cellAt k (by omega);rw[γD,μ (by simp_all)] at hce;go_wp2;have hgb:w.heap.size+1<=g:=agX uR;have hX:(wr.setCell ⟨g,k,none⟩ (.int .i64 k)).ownsInts (w.heap.size+1) 3 .i64 (.slice (some ⟨g,0,none⟩) n cp) (nk k 0):=by
    refine⟨?_,hwk k 0 hlt⟩;simp_all
   have hY:(wr.setCell ⟨g,k,none⟩ (.int .i64 k)).cell? ⟨w.heap.size,19,none⟩=some (.slice (some q) n cap):=by
    rw[<-VK];exact World.cell?_of_block (Below.heap_setCell _ _ _ _ (by simp;omega))
   have hZ:Below w.heap.size w (wr.setCell ⟨g,k,none⟩ (.int .i64 k)):=hnx.setCell (by simp;omega) _;clear hs1 hs2 hfr hce hown VK hnx uR;generalize wr.setCell ⟨g,k,none⟩ (.int .i64 k)=wa at*;go_loopw [26,3] (λi v ws=>∃(j:Nat) (g:Nat) (cp:Nat),j<=k/\i= .int .i64 j/\v= .slice (some ⟨g,0,none⟩) n cp/\ws.ownsInts (w.heap.size+1) 3 .i64 v (nk k j)/\ws.cell? ⟨w.heap.size,19,none⟩=some (.slice (some q) n cap)/\Below w.heap.size w ws)
    (λi _ _=>k - (intOf i).toNat);case atStart=>exact⟨0,g,cp,δ4 _,rfl,rfl,hX,hY,hZ⟩
   case round=>
    obtain⟨j,g2,cp2,hj,rfl,rfl,ho2,hp2,hb2⟩:=hrel;by_cases hjk:j<k
    ·have hcs:∀i,i<n->∀m u,[ov i 0,ov i 1,ov i 2,ov i 3,ov i 4,ov i 5,ov i 6,ov i 7][m]?=some u->wr.cell? ((q.add (i*8)).add m)=some u:=by
      intro i hi m u hu;obtain⟨q',e,_,c⟩:=hoc i hi;injection e with e;subst e;have c0:∀m:Fin 8,wr.cell? ((q.add (i*8)).add m)=some (ov i m):=λm=>(hb2.cell (by simp_all[add_block])).trans (c m);match m,hu with
      |0,hu=>cases hu;exact c0 0;|1,hu=>cases hu;exact c0 1;|2,hu=>cases hu;exact c0 2;|3,hu=>cases hu;exact c0 3;|4,hu=>cases hu;exact c0 4;|5,hu=>cases hu;exact c0 5;|6,hu=>cases hu;exact c0 6;|7,hu=>cases hu;exact c0 7;|m+8,hu=>simp at hu
     have hjn:j<n:=by omega
     have aip:(j:Int)<(n:Int):=by omega
     have hln:=hnk k j;have hoj:wr.cell? ⟨g2,j,none⟩=some (.int .i64 (bj (nk k j) j 0)):=BE ho2 hln (by omega);have hok:wr.cell? ⟨g2,k,none⟩=some (.int .i64 (bj (nk k j) k 0)):=BE ho2 hln (by omega);have hwy:(Lit.int .i64 (bj (nk k j) k 0)).wf=true:=hwk k j hlt _ (by simp[bj,show k<(nk k j).length by omega]);go_wp2;refine wp_region_still_tail 10 (by kernel_rfl) (by kernel_rfl) ?_;simp only[δr,εq,εv,εp];still_step;still_step;still_step;still_step;refine wpStill_step (λK hK=>?_);refine VF 65 (.tmp 32) (q.add (k*8)) _ _ (hcs k hlt) Tryz.underlying65 (by kernel_rfl) rfl rfl (by rfl) ?_;simp only[Act.put,ε8,εK,ζc];refine hK _ ?_;clear hK K;still_step;still_step;still_step;still_step;refine wpStill_step (λK hK=>?_);refine VF 65 (.tmp 37) (q.add (j*8)) _ _ (hcs j (by omega)) Tryz.underlying65 (by kernel_rfl) rfl rfl (by rfl) ?_;simp only[Act.put,ε8,εK,ζc];refine hK _ ?_;clear hK K;refine wpStill_nil ?_;change wpList _ _ _ _ _ wr.drew;have hbd:Below wr.heap.size wr wr.drew:=(Below.refl _ _).drew;have hsd:wr.drew.heap.size=wr.heap.size:=rfl;have ho3:wr.drew.ownsInts (w.heap.size+1) 3 .i64 (.slice (some ⟨g2,0,none⟩) n cp2) (nk k j):=ho2;have hp3:wr.drew.cell? ⟨w.heap.size,19,none⟩=some (.slice (some q) n cap):=hp2;have hb3:Below w.heap.size w wr.drew:=hb2.drew;have hwz:w.heap.size<wr.heap.size:=agZ ho2 hln (by omega);clear hoj hok ho2 hp2 hb2 hcs;generalize wr.drew=wd at*;have hc1:=hcon k j hlt hjn wd;rw[hsd] at hc1;cases hcj:cn k j with
     |false=>
      go_wp2_with (go_at_call 48;refine hc1.mono ?_;rintro e w' ⟨rfl,hb4⟩);have BF:=VI k j hlt hjk;rw[hcj,if_neg (by simp)] at BF;refine⟨⟨j+1,g2,cp2,by omega,by go_num,rfl,?_,?_,?_⟩,by simp[intOf];omega⟩
      ·rw[BF];exact VH ho3 hb4 (by rw[hsd])
      ·rw[<-hp3];exact hb4.cell (by show w.heap.size<_;omega)
      ·exact hb3.trans (hb4.mono (by omega));|true=>
      go_wp2_with (go_at_call 48;refine hc1.mono ?_;rintro e w' ⟨rfl,hb4⟩);have BF:=VI k j hlt hjk;rw[hcj,if_pos rfl] at BF;have Fh:=VH ho3 hb4 (by rw[hsd]);have VL:w'.cell? ⟨w.heap.size,19,none⟩=some (.slice (some q) n cap):=by
       rw[<-hp3];exact hb4.cell (by show w.heap.size<_;omega)
      have hb5:=hb3.trans (hb4.mono (show w.heap.size<=wr.heap.size by omega));have aiq:w.heap.size<w'.heap.size:=γf hwz (by rw[<-hsd];exact hb4.size);have hoj:w'.cell? ⟨g2,j,none⟩=some (.int .i64 (bj (nk k j) j 0)):=BE Fh hln (by omega);have hok:w'.cell? ⟨g2,k,none⟩=some (.int .i64 (bj (nk k j) k 0)):=BE Fh hln (by omega);clear ho3 hp3 hb3 hb4 hc1 hsd;refine wp_region_still_tail 9 (by kernel_rfl) (by kernel_rfl) ?_;simp only[δr,εq,εv,εp];still_step;still_step;still_step;still_step;still_step;still_step;still_step;still_step;still_step;refine wpStill_nil ?_;change wpList _ _ _ _ _ w'.drew;have ho5:w'.drew.ownsInts (w.heap.size+1) 3 .i64 (.slice (some ⟨g2,0,none⟩) n cp2) (nk k j):=Fh;have hp5:w'.drew.cell? ⟨w.heap.size,19,none⟩=some (.slice (some q) n cap):=VL;have hb6:Below w.heap.size w w'.drew:=hb5.drew;have hsd:w'.drew.heap.size=w'.heap.size:=rfl;clear hoj hok Fh VL hb5;generalize w'.drew=wd2 at*;have hc2:=ahc wd2 _ g2 cp2 (nk k j) hln ho5 (bj (nk k j) j 0) (bj (nk k j) k 0) hwy;go_wp2_with (go_at_call 49;refine hc2.mono ?_;rintro e w'' ⟨g3,cp3,rfl,MD,VM⟩);rw[<-BF] at MD;refine⟨⟨j+1,g3,cp3,by omega,by go_num,rfl,⟨agY MD.1 (by omega),MD.2⟩,?_,?_⟩,by simp[intOf];omega⟩
      ·rw[<-hp5];exact VM.cell (by show w.heap.size<_;omega)
      ·exact hb6.trans (VM.mono (by omega))
    ·obtain rfl:j=k:=by omega
     go_wp2;refine⟨⟨j+1,g2,cp2,by omega,by go_num,rfl,by rw[<-ahb j hlt];exact ho2,hp2,hb2⟩,by simp[intOf];omega⟩
  ·obtain rfl:k=n:=by omega
   have hln:=hnm k;have hcl:∀j,j<k->wr.cell? ⟨g,j,none⟩=some (.int .i64 (bj (nm k) j 0)):=by
    intro j hj;have h1:=hown.1;rw[hln] at h1;rw[World.ownsRow.cellAt h1 j (by omega)];simp[bj,show j<(nm k).length by omega]
   have hg:g<wr.heap.size:=by
    rcases hown.1.2 with⟨h0,_⟩|⟨g3,air,cur,h0,_,hgg,_⟩;·cases h0
    ·injection h0 with h0;injection h0 with h0;injection h0 with h0;subst h0;exact(γv.1 hgg).1
   generalize hnl:nm k=l at*;generalize wr=w1 at*;go_wp2;go_loopw [55] (λi ws=>∃j:Nat,j<=k/\i= .int .i64 j/\ws.ownsGroups Tryz.prog 3 (w1.heap.size+1) 3 .i64 w1.heap.size j (nP Unit l j)/\Below w1.heap.size w1 ws/\w1.heap.size+1<=ws.heap.size)
    (λi _=>k - (intOf i).toNat);case atStart=>exact⟨0,δ4 _,rfl,World.ownsGroups_made _ _ _ _ _,(Below.refl _ _).alloc (ξ _) _,by simp⟩
   case round=>
    obtain⟨j,hj,rfl,hgr,hbl,hws⟩:=hrel;have hcx:j<k->wr.cell? ⟨g,j,none⟩=some (.int .i64 (bj l j 0)):=λh=>(hbl.cell (by exact hg)).trans (hcl j h);have hkey:j<k->keyOf Tryz.prog 3 (.int .i64 (bj l j 0))=some (.int .i64 (bj l j 0)):=λh=>keyOf_int_mk Tryz.underlying3 (hwf k (ξ _) _ (by rw[hnl];simp[bj,show j<l.length by omega]));by_cases hjk:j<k
    ·replace hcx:=hcx hjk;replace hkey:=hkey hjk;go_wp2_with (first
      |(at_lookup;refine wpList_lookup_groups _ rfl _ _ 94 rfl 3 24 3 .i64 MB Tryz.underlying94 (agN _) (w1.heap.size+1) w1.heap.size j _ rfl hgr (by unfold maxLen;omega) _ _ rfl hkey ?_;intro v zs hat hoi hzl hback);|(at_builtin;refine wpList_append_own_at _ rfl _ _ 24 rfl (w1.heap.size+1) 3 i0 (.int .i64 0) 1 8 Tryz.underlying24 hi hz0 hz1 hz2 rfl (by decide) _ _ _ rfl (hoi.1.alloc _) ⟨wr.heap.size,0,none⟩ 1 1 [.int .i64 j] rfl rfl (cell_one_new _ _ _) (ints_oneCell .i64 [(j:Int)]) (by unfold maxLen;omega) (by omega) (by simp;omega) ?_;intro v' w2 hown' hgrow hnil hloc);|(at_mapUpdate;refine wpList_mapUpdate_back _ rfl _ _ _ 94 rfl hback rfl rfl rfl ((World.grownBy_alloc _ _ _).trans hgrow) (hoi.appended hown' (WalkArith.wf_i64 (by omega))) (by simp;omega) (hloc.imp id (λh=>⟨_,h,by simp⟩)) ?_;intro w3 hown3 hgrow3);|go_in);have hall:=(World.grownBy_alloc wr _ _).trans hgrow;go_roundw;case rel=>
      refine⟨j+1,by omega,by go_num,?_,hbl.groups hoi hall hgrow3 hbl.size (Nat.le_succ _) (ξ _),δ1 hws (δ1 hall.size hgrow3.size)⟩;have hz:=agC hoi hat;rw[nP,<-hz,<-(hoi.appended hown' (WalkArith.wf_i64 (by omega))).datum_pos (by simp)];exact hown3
     case measure=>simp[intOf];omega
    ·obtain rfl:j=k:=by omega
     have hmap:wr.ownsMap Tryz.prog 3 (rowElem wr (w1.heap.size+1) 3 .i64) w1.heap.size j (nP Unit l j):=by
      obtain⟨es,ck,h1,h2,h3,h4,h5,h6,h7⟩:=hgr;exact⟨es,ck,h1,h2,h3,h4⟩
     generalize wr=w4 at*;go_wp2_with (first
      |(at_range;refine wpList_range_own _ rfl _ 94 rfl 3 24 MB Tryz.underlying94 _ w1.heap.size j _ rfl hmap ?_;intro w5 hrg0 hg0 hs0);|go_in);go_frame;go_loopw [9] (λu ws=>∃(left:Lit->Bool) (cnt:Nat) (hs:List (Int×Value)),ws.ranges Tryz.prog 3 (rowElem w4 (w1.heap.size+1) 3 .i64) w1.heap.size w4.heap.size j (nP Unit l j) left cnt/\
       ws.ownsRow (w4.heap.size+1) 24 1 u hs.length (hs.map ζ4)/\y9 (λv zs=>w4.ownsInts (w1.heap.size+1) 3 .i64 v zs) l j (nP Unit l j) left cnt hs/\
       w4.heap.size+1<=ws.heap.size/\Below w4.heap.size w4 ws)
      (λ_ ws=>ws.rangeLeft w1.heap.size w4.heap.size);case atStart=>
      refine⟨ζ8 (nP Unit l j),Go.Maps.size (nP Unit l j),[],hrg0,⟨by simp,.inl ⟨rfl,rfl⟩⟩,⟨List.nodup_nil,by simp,?_,?_,λ_ h=>h⟩,by omega,(Below.refl _ w4).grown hg0 (ξ _) (by intro k hk;cases hk)⟩
      ·intro f hf hl;rw[VA] at hl;have h2:=Fg.1 hf;simp at hl;rw[hl] at h2;cases h2
      ·have:=hmap.size_le;simp;omega
     case round=>
      obtain⟨left,cnt,hs,hrg,hrow,hse,hsz,hbe⟩:=hrel;go_wp2_with (first
       |(at_next;refine wpList_next_ranges _ rfl _ rfl 3 MB (rowElem w4 (w1.heap.size+1) 3 .i64) (Value.int .i64) (λc:Option Addr×Nat×Nat=>Value.slice c.1 c.2.1 c.2.2) (λkey kl hkey=>by obtain⟨x,rfl,_⟩:=Maps.keyOf_int_inv Tryz.underlying3 hkey;exact⟨x,rfl⟩) (λv y hv=>by
        obtain⟨zs,ho,_⟩:=rowElem_inv hv;obtain⟨_,h|⟨g,cp,_,h,_⟩⟩:=ho.1;·exact⟨(none,0,0),h.1⟩
        ·exact⟨(some ⟨g,0,none⟩,zs.length,cp),h⟩) w1.heap.size w4.heap.size j _ _ _ rfl hrg ?_ ?_);|go_in)
      ·intro hc0 hl0;have eg:∀args w,(callFunc 51 args).run Tryz.prog w= .ok (.enter 51 args) w:=enters_of Tryz.func51 (by kernel_rfl) rfl;obtain⟨hmem,hO,hsrt⟩:=hse.done hl0;have hhs:hs.length<=60:=by have:=hse.c;omega
       rcases hrow.2 with⟨rfl,hn0⟩|⟨g2,cap2,cur,rfl,hgb,hgg,q1,q2,q3,q4⟩
       ·have lv:=AnyF.slices_SortFunc_none {Tryz.layR with} none 0 (.func (.func 51) #[] #[]) wr;change Calls Tryz.prog 50 _ _ _ at lv;go_wp2_with (go_at_call 50;refine lv.mono ?_;rintro e w' ⟨rfl,rfl⟩);go_ret;refine⟨w1.heap.size+1,ζt hnx.size,.inl ⟨rfl,?_⟩,hnx.trans ((hbl.trans (hbe.mono (by omega))).mono hnx.size)⟩;rw[hnl,δ2];intro f hf;have hf2:=(hmem f).2 hf;rw[τ hn0] at hf2;cases hf2
       ·by_cases hne:hs=[]
        ·subst hne;have lv:=AnyF.slices_SortFunc_none {Tryz.layR with} (some ⟨g2,0,none⟩) cap2 (.func (.func 51) #[] #[]) wr;change Calls Tryz.prog 50 _ _ _ at lv;go_wp2_with (go_at_call 50;refine lv.mono ?_;rintro e w' ⟨rfl,rfl⟩);go_ret;have h0:eZ l j=[]:=by
          rw[δ2];intro f hf;have hf2:=(hmem f).2 hf;cases hf2
         refine⟨w1.heap.size+1,ζt hnx.size,?_,hnx.trans ((hbl.trans (hbe.mono (by omega))).mono hnx.size)⟩;rw[hnl];refine .inr ⟨g2,cap2,cur,mV [],by rw[h0];rfl,by omega,hgg,by rw[h0];simp,q2,q3,by rw[h0];simp,λf hf=>?_⟩;rw[h0] at hf;cases hf
        have hhd:∀x:Hd l j,∃(g n cap:Nat),mV hs x.val= .slice (some ⟨g,0,none⟩) n cap/\0<n/\g<w4.heap.size/\w1.heap.size+1<=g/\w4.cell? ⟨g,0,none⟩=some (.int .i64 x.val):=λx=>by
         have h1:=hO x.val x.property;have h2:=Fg.1 x.property;cases hc:gG l j (bj l x.val.toNat 0) with
         |nil=>rw[hc] at h2;cases h2;|cons y tl=>
          rw[hc] at h1 h2;injection h2 with h2;subst h2;exact agQ h1
        have hbd:∀x:Hd l j,0<=x.val/\x.val<256:=λx=>by
         have:=agI x.property;omega
        have ahi:((hs.map εm).attachWith (·∈eZ l j) (λf hf=>(hmem f).1 hf)).map (λx:Hd l j=>mV hs x.val)=hs.map ζ4:=by
         have:(λx:Hd l j=>mV hs x.val)=(mV hs)∘εO:=rfl;rw[this,<-γ3,εP];exact agJ hse.d
        obtain⟨q0,hq0⟩:=List.exists_mem_of_ne_nil _ hne;haveI:Inhabited (Hd l j):=⟨⟨q0.1,(hse.i q0 hq0).1⟩⟩;have lv:=Any.slices_SortFunc_total Tryz.layR (λx:Hd l j=>mV hs x.val) (λx=>by obtain⟨g,n,cap,e,_⟩:=hhd x;show(mV hs x.val).oneCell'=true;rw[e];rfl) qW agU 51 #[] g2 0 cap2 ((hs.map εm).attachWith (·∈eZ l j) (λf hf=>(hmem f).1 hf)).toArray wr eg
         (λm os dk hdk x y=>by
          obtain⟨ga,na,ca,ea,la,ba,da,fa⟩:=hhd x;obtain⟨gb,nb,cb,eb,lb,bb,db,fb⟩:=hhd y;simp only[ea,eb];have ais:=hbe.size;exact agO ga gb na ca nb cb x.val y.val _ la lb (by rw[VE _ _ _ _ _ _ _ _ (by show ga≠g2;omega) (by show ga<_;omega),hbe.cell (by exact ba)];exact fa)
           (by rw[VE _ _ _ _ _ _ _ _ (by show gb≠g2;omega) (by show gb<_;omega),hbe.cell (by exact bb)];exact fb) (hbd x) (hbd y)) (agP hgg (by simp only[ζZ,εM,Δ];rw[show hs.length=hs.length*1 by omega,q4];exact ahi.symm)) (γv.1 hgg).1 (by simp;omega) (λx y h1 h2=>by rw[wM] at h1 h2;simp at h1 h2;exact Subtype.ext (by omega));change Calls Tryz.prog 50 _ _ _ at lv;simp only[ζZ,εM,Δ] at lv;go_wp2_with (go_at_call 50;refine lv.mono ?_;rintro e w' ⟨rfl,N,os,rfl⟩);go_ret;have VN:((hs.map εm).attachWith (·∈eZ l j) (λf hf=>(hmem f).1 hf)).map εO=hs.map εm:=εP _;have hT:=agV ((hs.map εm).attachWith (·∈eZ l j) (λf hf=>(hmem f).1 hf)) (by rw[VN];exact hmem) (by rw[VN];exact hse.d);have hpl:=(δs ((hs.map εm).attachWith (·∈eZ l j) (λf hf=>(hmem f).1 hf)) λx y=>!ltOf qW y x).length_eq;generalize (((hs.map εm).attachWith (·∈eZ l j) (λf hf=>(hmem f).1 hf)).mergeSort λx y=>!ltOf qW y x)=ts at hT hpl ⊢;simp only[εM,Δ] at hpl;have hdl:(eZ l j).length=hs.length:=by rw[<-hT,Δ,hpl]
        have hbs:=hbe.size;have hb':=hbe.grown (agS (λx:Hd l j=>mV hs x.val) (n:=N) (os:=os) (g:=g2) ts.toArray) hbe.size (by intro k hk;injection hk with hk;omega);refine⟨w1.heap.size+1,ζt hnx.size,?_,hnx.trans ((hbl.trans (hb'.mono (by omega))).mono hnx.size)⟩;rw[hnl];have htk:=agT (λx:Hd l j=>mV hs x.val) cur ts.toArray (by simp;omega);refine .inr ⟨g2,cap2,_,mV hs,by rw[hdl];rfl,by omega,agR _ _ hgg,by omega,q2,by simp[putCells,q3],?_,λf hf=>?_⟩
        ·rw[hdl,<-hpl];refine Eq.trans ?_ (congrArg (γb (mV hs)) hT);rw[γ3];simpa using htk
        ·refine World.ownsInts.kept (row:=none) (hO f hf) ⟨hb'.os,hb'.tape,hb'.output,hb'.size,λk hk _=>hb'.block k hk⟩ ?_;obtain⟨g,n,cap,e,_⟩:=hhd ⟨f,hf⟩;right;rw[show mV hs f=_ from e];simp[Value.ownBlock]
      ·intro x ca cn cc kl y yy w6 cnt1 hkx hlx hRc hat hrg1 hlt hg1 hs1 hen;obtain⟨_,e1,rfl,hwx⟩:=Maps.keyOf_int_inv Tryz.underlying3 hkx;cases e1;obtain⟨zs,hoc,hyy⟩:=rowElem_inv hRc;cases hyy;obtain⟨i1,hi1,hy0,hy1,hy2⟩:=info_parts agM;have h1c:∀v∈[Value.slice ca cn cc],v.oneCell'=true:=by
        intro v hv;rw[List.mem_singleton] at hv;subst hv;rfl
       have hkl:=hse.h _ hlx;rw[VA] at hkl;obtain⟨f,tl,hft,hfh,hfx⟩:=agE (of_decide_eq_true hkl);have uR:=hrow.kept hg1 (by
        rcases hrow.2 with⟨rfl,_⟩|⟨g,cap,cur,rfl,hgb,_⟩;·exact .inl rfl
        ·right;simp[Value.ownBlock];omega);have hcc:=hse.c;have hhs:hs.length<=60:=by omega
       have ahm:Below w4.heap.size w4 w6:=hbe.grown hg1 hbe.size (by intro k hk;injection hk with hk;omega);go_wp2_with (first
        |(at_builtin;refine wpList_append_own _ rfl _ _ 30 rfl (w4.heap.size+1) 24 i1 (.slice none 0 0) 1 24 Tryz.underlying30 hi1 hy0 hy1 hy2 rfl (by decide) _ _ _ rfl (uR.alloc _) ⟨wr.heap.size,0,none⟩ 1 1 [Value.slice ca cn cc] rfl rfl (by rw[<-hs1];exact cell_one_new _ _ _) h1c (by unfold maxLen;omega) (by omega) (by simp;omega) ?_;intro v' w7 ahn aho ait);|go_in);have ME:(w6.alloc (Obj.cells #[Value.slice ca cn cc] 24)).grownBy w7 u9.ownBlock:=aho;have hzs:zs=gG l j x:=agK hoc (hat .nil);have hO:w4.ownsInts (w1.heap.size+1) 3 .i64 (Value.slice ca cn cc) (gG l j (bj l f.toNat 0)):=by
        rw[hfx,<-hzs];exact hoc
       have hrw:some w1.heap.size≠u9.ownBlock/\some w4.heap.size≠u9.ownBlock:=by
        rcases hrow.2 with⟨rfl,_⟩|⟨g,cap,cur,rfl,hgb,_⟩;·exact⟨by simp[Value.ownBlock],by simp[Value.ownBlock]⟩
        ·exact⟨by simp[Value.ownBlock];omega,by simp[Value.ownBlock];omega⟩
       have VO:=(hrg1.alloc (Obj.cells #[Value.slice ca cn cc] 24)).kept ME hrw.1 hrw.2;have aiu:=ME.size;have hsa:(w6.alloc (Obj.cells #[Value.slice ca cn cc] 24)).heap.size=w6.heap.size+1:=by simp
       have hbs:=hbe.size;subst hfx;refine⟨⟨_,cnt1,hs++[(f,.slice ca cn cc)],VO,?_,hse.step hfh hO hlx hlt,by omega,(ahm.alloc (by omega) _).grown ME (by omega) ?_⟩,?_⟩
       ·rw[γg,γa];exact ahn
       ·intro k hk;rcases hrow.2 with⟨rfl,_⟩|⟨g,cap,cur,rfl,hgb,_⟩;·cases hk
        ·simp[Value.ownBlock] at hk;omega
       ·rw[VO.left_eq,hrg.left_eq];exact hlt
end Go.Proofs
namespace Go.Vi
open Go.Proofs.YtbnhiekmnpikhaaGreat.Ir
open Go.Proofs
theorem ahp {a b:Off} (d:a.want.ok=true) (c:b.want.ok=true):lp a b=true↔a.bX=b.bX\/¬((a.want.meet b.want).a0=0/\(a.want.meet b.want).a1=0/\(a.want.meet b.want).a2=0/\(a.want.meet b.want).a3=0/\(a.want.meet b.want).a4=0/\(a.want.meet b.want).a5=0):=by
 have d:=bC.ja.1 d;have c:=bC.ja.1 c;simp only[lp,List.any_cons,List.any_nil,Bool.or_eq_true,θ,decide_eq_true_eq,Bool.false_eq_true,or_false];simp only[bC.at,agp,agq,bC.meet];omega
def VP:bM:=⟨48,Off×Off,.cons (eh .off) (.one (eh .off)),λa=>a.1.want.ok=true/\a.2.want.ok=true,λa=> .sb (lp a.1 a.2)⟩
theorem h565:Holds Tryz.prog VP:=by
 refine cH (L:=[HW]) VP (λ_=>λ_=> .look) (by grind[h163]) ?_;rintro⟨a,b⟩ ⟨e,f⟩;simp only at e f;refine bR (let e:=(0:Int);let d:=decide (a.bX=b.bX);let c:=a.want.meet b.want;(d=true->(δf true).same (γw (lp a b)))/\(d=false->True/\(γw !(decide (c.a0=e)&&(decide (c.a1=e)&&(decide (c.a2=e)&&(decide (c.a3=e)&&(decide (c.a4=e)&&(decide (c.a5=e)&&true))))))).same (γw (lp a b)))) (by kernel_rfl) ?_;simp only[vcs];grind[ahp]
def BG (p:bn) (i:Nat) (j:Fin 8):Value:=bj (dB .off (oI p i)) j .nilFunc
theorem VQ {W:World} (o:Off):bw jW W [] [] ((eh .off).put o).g (.agg (dB .off o).toArray):=by
 show bw jW W [] [] (.agg ((dB .off o).map .sc)) _;simp only[bw];exact⟨_,rfl,by simpa using vi jW W [] [] (dB .off o) (by simp[dB,iv,Value.oneCell'])⟩
theorem ahq {a b:Off} (j:a.want.ok=true) (h:b.want.ok=true) (W:World):Calls Tryz.prog 48 #[.agg (dB .off a).toArray,.agg (dB .off b).toArray] W λe g=>e= .returned (.bool (lp a b))/\RowKit.Below W.heap.size W g:=by
 refine((h565 (a,b) ⟨j,h⟩).2 jW W [] [.agg (dB .off a).toArray,.agg (dB .off b).toArray] (zo W (λb f=>f.elim)) ⟨_,_,rfl,VQ a,_,_,rfl,VQ b,rfl⟩).mono ?_;rintro e i ⟨u,c,rfl,_,d,k⟩;have d:bw jW i c [] (.sc (.bool (lp a b))) u:=d;grind[bw,P5]
theorem ahr {l:List Int} {x y:Int}:qX x y l l.length=qT l x y:=by simp[qX,qT]
theorem ahs {n:Nat} (v:n<=60) (W:World) (B g d:Nat) (l:List Int) (i:l.length=n) (k:W.ownsInts B 3 .i64 (.slice (some ⟨g,0,none⟩) n d) l) (x y:Int) (t:(Lit.int .i64 y).wf=true):
  Calls Tryz.prog 49 #[.slice (some ⟨g,0,none⟩) n d,.int .i64 x,.int .i64 y] W λe o=>
   ∃m a,e= .returned (.slice (some ⟨m,0,none⟩) n a)/\o.ownsInts W.heap.size 3 .i64 (.slice (some ⟨m,0,none⟩) n a) (qT l x y)/\RowKit.Below W.heap.size W o:=by
 have s:∀j (h:j<l.length),W.cell? ⟨g,j,none⟩=some (.int .i64 l[j]):=λj h=>by
  rw[BE k i (by omega)];grind[bj]
 have z:=ag1 g n d l i v x y t k.2 W (by have:=k.1.lt g (by simp[Value.ownBlock]);omega) s (by
  have p:Calls Tryz.prog 52 #[.slice (some ⟨g,0,none⟩) n d] W _:=SL Tryz.layC Tryz.t3 (.int .i64 0) 1 8 (by kernel_rfl) (by kernel_rfl) (by kernel_rfl) (by kernel_rfl) (by kernel_rfl) (by omega) Tryz.sizeOf3 ⟨g,0,none⟩ n d (l.map (Value.int .i64)) W (by simp[i]) (by grind[maxLen]) (by omega) (λj u w=>by
   grind[Addr.add_lit]) (by simp[Value.oneCell']);refine p.mono ?_;rintro e o ⟨A,rfl,b,q,f⟩;have c:=b;rcases c.2 with h|⟨m,a,r,rfl,_⟩;·simp_all
  ·exact⟨m,a,rfl,⟨by rw[i];exact b,k.2⟩,f⟩);grind[ahr]
theorem BH {p:bn} {i:Nat} {l:List Int}:∀{k:Nat},(mT p i l k).length=l.length
 |0=>rfl
 |k+1=>by
  unfold mT;split;·rw[Vs];exact BH
  ·exact BH
theorem Fj {p:bn}:∀{k:Nat},(nO p k).length=p.offers.length
 |0=>List.length_replicate
 |k+1=>by
  show(mT p k _ k).length=_;rw[BH,Φ];exact Fj
theorem BI {p:bn} {i:Nat} {l:List Int} {B:Int} (b:i<l.length) (h:∀x∈l,0<=x/\x<=B):∀{k:Nat},∀x∈mT p i l k,0<=x/\x<=B
 |0=>h
 |k+1=>by
  intro x a;unfold mT at a;split at a
  ·unfold qT at a;obtain⟨y,c,rfl⟩:=Ψ.1 a;split
   ·refine BI (p:=p) b h (k:=k) _ ?_;grind[BH,cQ]
   ·exact BI b h (k:=k) y c
  ·exact BI b h (k:=k) x a
theorem MF {p:bn}:∀{k:Nat},k<=p.offers.length->∀x∈nO p k,0<=x/\x<=p.offers.length
 |0,_=>λx a=>by
  have:=List.eq_of_mem_replicate a;omega;|k+1,b=>by
  refine BI (by grind[Fj]) λx a=>?_;rcases δj a with a|rfl;·exact MF (by omega) x a
  ·omega
theorem aht {A:dN} {w:World} {B:Nat} {v:Value} {l:List Int} (e:w.ownsInts B 3 .i64 v l) (u:∀b,A b->b<B):bw A w [] [] (.sl l.length (l.map λx=>AV.sc (.int .i64 x))) v:=by
 have m:dC (l.map λx=>AV.sc (.int .i64 x))=true:=by rw[<-mN];grind[oZ]
 have d:=e.1;rcases e.1.2 with⟨rfl,y⟩|⟨g,k,o,rfl,q,p,h,r,s,t⟩;·grind[bw,dy]
 ·simp only[bw];refine⟨_,_,rfl,h,m,dy.kX _ _ _ λi c a=>?_⟩;rw[γD] at a;obtain⟨x,f,rfl⟩:=ε.1 a;have n:=(ζ.1 f).1;refine⟨⟨g,0,none⟩,.int .i64 x,rfl,⟨λ⟨i,c,a⟩=>by simp at a,λj=>by grind⟩,?_,by simp[bw,Value.oneCell']⟩;rw[Addr.add_lit,Nat.zero_add,Nat.zero_add,World.ownsRow.cellAt d i (by omega),γD,f];rfl
theorem VR (L:List (List Int)):cE (.bE (.i .i64)) L=L.map λl=>AV.sl l.length (l.map λx=>AV.sc (.int .i64 x)):=by
 induction L with
 |nil=>rfl;|cons l L a=>
  rw[π,<-a,<-mN];rfl
theorem ahu {w:World} {a:Addr} {v:Value} (h:w.cell? a=some v):a.block<w.heap.size:=by
 grind[World.cell?]
theorem ahv (q:Addr) (a b:Nat):(q.add a).add b=q.add (a+b):=by
 unfold Addr.add;grind
theorem ahw {p:bn} {i:Nat} (a:i<p.offers.length) (j:Fin 8):(cE .off p.offers)[i*8+j]?=some (.sc (BG p i j)):=by
 have h:=OE (s:=.off) a;have b:((cE .off p.offers).drop (i*bp.off.sz))[(j:Nat)]?=some (.sc (BG p i j)):=by
  rw[h];obtain⟨j,c⟩:=j;have:j=0\/j=1\/j=2\/j=3\/j=4\/j=5\/j=6\/j=7:=by omega
  rcases this with rfl|rfl|rfl|rfl|rfl|rfl|rfl|rfl<;>rfl
 rwa [List.getElem?_drop] at b
def MG:bM:=⟨29,bn,.one dQ,λp=>bz p=0/\p.offers.length<=60,λp=> .row (.bE (.i .i64)) (cq p)⟩
theorem h560:Holds Tryz.prog MG:=by
 rintro(p:bn) ⟨hc,hn⟩;refine⟨by kernel_rfl,?_⟩;intro A w σ vs Q E;have T:σ=[]:=by have:=Q.len;simp_all
 subst T;replace E:bG A w [] [] [.agg (gL p.ss)] vs:=E;simp only[bG] at E;obtain⟨v,r,rfl,hv,rfl⟩:=E;simp only[bw] at hv;obtain⟨cs,rfl,C⟩:=hv;obtain⟨cs⟩:=cs;simp only[bn.ss,gL,SV.g,bG] at C;obtain⟨x0,r0,rfl, -,x1,r1,rfl, -,x2,r2,rfl, -,x3,r3,rfl, -,x4,r4,rfl, -,x5,r5,rfl, -,x6,r6,rfl, -,x7,r7,rfl, -,x8,r8,rfl, -,x9,r9,rfl, -,J,a8,rfl, -,H,b0,rfl, -,U,a7,rfl, -,a1,b2,rfl, -,V,b4,rfl, -,a0,b5,rfl, -,I,a5,rfl, -,L,b1,rfl, -,F,a6,rfl, -,b6,b3,rfl,D,rfl⟩:=C;simp only[bw] at D;obtain⟨a,Z,rfl,a2,_,hM⟩:=D;have K:∀i,i<p.offers.length->∃q,a=some q/\q.block<w.heap.size/\∀j:Fin 8,w.cell? ((q.add (i*8)).add j)=some (BG p i j):=by
  intro i m;have hq:∀j:Fin 8,∃b,a=some b/\w.cell? (b.add (i*8+j))=some (BG p i j):=λj=>by
   obtain⟨b,v,e,_,M,a3⟩:=dy.get _ _ _ hM _ _ (ahw m j);grind[bw]
  obtain⟨q,rfl,h0⟩:=hq 0;refine⟨q,rfl,?_,λj=>?_⟩
  ·have:=ahu h0;grind[add_block]
  simp_all[ahv]
 have t:∀i:Nat,i<p.offers.length->(oI p i).want.ok=true:=λi m=>(kO hc (i:=(i:Int)) ⟨by omega,by omega⟩).2.2.1;have a4:∀k:Nat,((nO p k).set k (k:Int)).length=p.offers.length:=λk=>by grind[Fj]
 have n:=ag2 x0 x1 x2 x3 x4 x5 x6 x7 x8 x9 J H U a1 V a0 I L F a p.offers.length Z hn (nO p) (λ_=>Fj) rfl (λk s x o=>WalkArith.wf_i64 (by have:=MF s x o;omega))
  (λk j=>mT p k ((nO p k).set k (k:Int)) j) (λk j=>by grind[BH])
  (λk j s x o=>WalkArith.wf_i64 (by
   have:=BI (p:=p) (i:=k) (B:=p.offers.length) (by simp_all) (λx o=>by
    rcases δj o with o|rfl;·exact MF (by omega) x o
    ·omega) (k:=j) x o;omega))
  (λk s=>rfl) (λk s=>rfl) (λi j=>lp (oI p i) (oI p j)) (λk j s hj=>rfl) (BG p) w K (λi j m hj W=>ahq (t i m) (t j hj) W) (λW B g cp l X ho x y hy=>ahs hn W B g cp l X ho x y hy);refine n.mono ?_;rintro e w' ⟨B,hB,z,d⟩;have hA:∀b,A b->b<B:=λb h=>γf (Q.jF b h) hB;have R:bT A w' [] []:=⟨rfl,by simp,by simp,by simp,by simp,λb h=>γf (Q.jF b h) d.size⟩;have hE:Ext w [] [] w' [] []:=⟨d.size,λb h _=>⟨d.block b h,λ⟨i,c,m⟩=>by simp at m⟩,ξ _,λ_ _ ⟨_,_,_,_,h,_⟩=>by simp at h,λ_ ⟨_,_,_,h⟩=>by simp at h,d.os,d.tape,d.output⟩;have e2:(MG.res p).G= .sl (cq p).length ((cq p).map λl=>AV.sl l.length (l.map λx=>AV.sc (.int .i64 x))):=by rw[<-VR];rfl
 have P:dC ((cq p).map λl=>AV.sl l.length (l.map λx=>AV.sc (.int .i64 x)))=true:=by rw[<-VR];grind[oZ]
 have u:cq p=(eZ (nO p p.offers.length) p.offers.length).map λf=>gG (nO p p.offers.length) p.offers.length (bj (nO p p.offers.length) f.toNat 0):=agH;rw[e2];rcases z with⟨rfl,h0⟩|⟨g,cp,Y,sv,rfl,hg,a9,h1,h2,h3,h4,h5⟩;·grind[bw,dy]
 ·have X:(cq p).length=(eZ (nO p p.offers.length) p.offers.length).length:=by rw[u,Δ]
  refine⟨_,[],rfl,R,?_,hE⟩;rw[X];simp only[bw];refine⟨_,_,rfl,h1,P,dy.kX _ _ _ λi c m=>?_⟩;rw[u,γ3,γD] at m;obtain⟨f,S,rfl⟩:=ε.1 m;have N:=(ζ.1 S).1;have h9:(Y.toList.take (eZ (nO p p.offers.length) p.offers.length).length)[i]?=some (sv f):=by rw[h4,γD,S];rfl
  rw[δA N,Array.getElem?_toList] at h9;refine⟨⟨g,0,none⟩,sv f,rfl,⟨λ⟨i,c,m⟩=>by simp at m,λO=>by have:=hA g O;omega⟩,?_,aht (h5 f (List.mem_of_getElem? S)) hA⟩;rw[Addr.add_lit];simp_all[World.cell?]
def MH:bM:=⟨36,List Int×List Int,.cons (dM (.i .i64)) (.one (dM (.i .i64))),λa=>a.1.length<=1000000/\a.2.length<=1000000,λa=> .sb (decide (a.1=a.2))⟩
def ahx (x y:List Int):Nat->cF
 |4=> .inv Int (λi=>⟨[(0,.row (.i .i64) x),(1,.row (.i .i64) y),(12,.si .i64 x.length),(13,.si .i64 i)],[]⟩)
   (λs=>iS s 13) (λi=>(0<=i/\i<=x.length)/\∀k:Nat,(k:Int)<i->bj x k 0=bj y k 0) (λi=>(x.length - i).toNat) λ_ _=> .look
 |_=> .look
theorem h564:Holds Tryz.prog MH:=by
 refine cH (L:=[]) MH (λa=>ahx a.1 a.2) (by simp) ?_;rintro⟨x,y⟩ ⟨t,z⟩;simp only at t z;refine bR (let a:=(0:Int);let e:=γi .i64;let h:=δf false;let o:=(↑x.length:Int);let q:=decide (o≠(↑y.length:Int));let j:=γw (decide (x=y));let f:=Ω (bp.i .i64) x;let g:=Ω (bp.i .i64) y;let c:=(↑x.length:Int);let l:=e c;(q=true->(h).same j)/\(q=false->(((f.same f/\g.same g/\(e o).same l/\(γy .i64 0).same (e 0)/\True)/\True)/\(a<=a/\a<=c)/\∀(k:Nat),(↑k:Int)<a->bj x k a=bj y k a)/\∀(b:Int),let p:=decide (bj x b.toNat a≠bj y b.toNat a);let d:=b+(1:Int);let s:=e d;((a<=b/\b<=c)/\∀(k:Nat),(↑k:Int)<b->bj x k a=bj y k a)->(decide (b<c)=true->a<=b/\b<o/\b.toNat<x.length/\a<=b/\b<(↑y.length:Int)/\b.toNat<y.length/\(p=true->(h).same j)/\(p=false->cu .i64 d/\((f.same f/\g.same g/\l.same l/\s.same s/\True)/\True)/\((a<=d/\d<=c)/\∀(k:Nat),(↑k:Int)<d->bj x k a=bj y k a)/\(c - d).toNat<(c - b).toNat))/\(decide (b<c)=false->(δf true).same j))) (by kernel_rfl) ?_;simp only[vcs];refine⟨λh=>(decide_eq_false λe=>h (by rw[e])).symm,λh=>⟨⟨by omega,λk w=>by omega⟩,?_⟩⟩;rintro i ⟨⟨r,D⟩,w⟩;refine⟨λn=>⟨r,n,by omega,r,by omega,by omega,λm=>(decide_eq_false λe=>m (by rw[e])).symm,λB=>⟨by omega,⟨by omega,λk u=>?_⟩,by omega⟩⟩,λv=>?_⟩;·grind
 ·refine(decide_eq_true (List.ext_getElem (by omega) λk A C=>?_)).symm;grind[cQ]
@[reducible] def de:bp:=.pair (.bE (.i .i64)) (.pair (.i .i64) (.bE (.pair (.i .i64) (.pair (.i .i64) (.pair (.i .i64) (.pair (.i .i64) (.bE (.pair .b (.pair (.bE (.i .u32)) (.bE (.i .u32)))))))))))
def fZ (l:List (List Int)) (r:List de.T) (n:Nat):List Int:=(dp n).flatMap λi=>qU (bj l i.toNat []) (bj r i.toNat de.dflt).1
def iF (r:List de.T) (n:Nat):Int:=((r.take n).map λx=>x.2.1).sum
def lJ (l:List (List Int)) (r:List de.T) (i j:Int):List Int:=fZ l r i.toNat++qU (bj l i.toNat []) ((bj r i.toNat de.dflt).1.take j.toNat)
def Fo:bM:=⟨34,List (List Int)×List de.T,.cons (dM (.bE (.i .i64))) (.one (dM de)),λa=>(a.2.length<=a.1.length/\a.1.length<=1000)/\(∀n:Nat,n<=a.2.length->(fZ a.1 a.2 n).length<=100000/\ -9000000000000000000<=iF a.2 n/\iF a.2 n<=9000000000000000000)/\∀i:Nat,i<a.2.length->∀k∈(bj a.2 i de.dflt).1,0<=k/\k<(bj a.1 i []).length,
 λa=>nu.put ⟨dZ (fZ a.1 a.2 a.2.length),iF a.2 a.2.length⟩⟩
def ahy (l:List (List Int)) (r:List de.T):Nat->cF
 |3=> .inv Int (λi=>⟨[(0,.row (.bE (.i .i64)) l),(4,.ptr 0 0 2),(5,.ptr 1 0 2),(10,.row de r),(11,.si .i64 r.length),(12,.si .i64 i)],[.cells [.sc (.slice none 0 0),.il .i64 0] 40 2 false,.cells [.ow 2 (fZ l r i.toNat).length 1,.si .i64 (iF r i.toNat)] 40 2 false,.row (.i .i64) (fZ l r i.toNat) 3 true]⟩)
   (λs=>iS s 12) (λi=>0<=i/\i<=r.length) (λi=>(r.length - i).toNat) λi=>λ
   |7=> .inv Int (λj=>⟨[(0,.row (.bE (.i .i64)) l),(4,.ptr 0 0 2),(5,.ptr 1 0 2),(6,.si .i64 i),(10,.row de r),(11,.si .i64 r.length),(12,.si .i64 i),(26,.row (.i .i64) (bj r i.toNat de.dflt).1),(27,.si .i64 (bj r i.toNat de.dflt).1.length),(28,.si .i64 j)],
      [.cells [.sc (.slice none 0 0),.il .i64 0] 40 2 false,.cells [.ow 2 (lJ l r i j).length 1,.si .i64 (iF r (i+1).toNat)] 40 2 false,.row (.i .i64) (lJ l r i j) 3 true,.cells [.row (.i .i64) (bj r i.toNat de.dflt).1,.si .i64 (bj r i.toNat de.dflt).2.1,.row (.pair (.i .i64) (.pair (.i .i64) (.pair (.i .i64) (.pair (.i .i64) (.bE (.pair .b (.pair (.bE (.i .u32)) (.bE (.i .u32))))))))) (bj r i.toNat de.dflt).2.2] 51 3 false]⟩)
     (λs=>iS s 28) (λj=>0<=j/\j<=(bj r i.toNat de.dflt).1.length) (λj=>((bj r i.toNat de.dflt).1.length - j).toNat) λ_ _=> .look
   |_=> .look
 |_=> .look
theorem h563:Holds Tryz.prog Fo:=by
 refine con (L:=[]) (W:=gK [Vx]) Fo (λa=>ahy a.1 a.2) (kY (by grind[h337e])) (by simp) ?_;rintro⟨l,r⟩ ⟨⟨h1,h2⟩,Y,h4⟩;simp only at h1 h2 Y h4;refine bR (let a:=γi .i64;let d:=(0:Int);let j:=Ω;let k:=bq.cells;let s:=bq.row;let u:=γ1;let v:=cu .i64;let c:=bp.i .i64;let F:=γT 0 0 2;let D:=γT 1 0 2;let t:=(↑r.length:Int);let E:=a t;let X:=γy .i64 0;let C:=k [SV.sc (Value.slice none 0 0),X] 40 2 false;let y:=(bp.i .u32).bE;let G:=c.pair (c.pair (c.pair (c.pair (bp.b.pair (y.pair y)).bE)));((((j c.bE l).same (j c.bE l)/\F.same F/\D.same D/\(j de r).same (j de r)/\E.same E/\X.same (a 0)/\True)/\C.same C/\(k [u 2 0 1,X] 40 2 false).same (k [u 2 (fZ l r 0).length 1,a (iF r 0)] 40 2 false)/\(s c [] 3 true).same (s c (fZ l r 0) 3 true)/\True)/\d<=d/\d<=t)/\∀(x:Int),let J:=bj r x.toNat de.dflt;let M:=iF r x.toNat+J.snd.fst;let o:=j c J.fst;let f:=(↑(γc J.fst):Int);let z:=a f;let q:=fZ l r x.toNat;let p:=q.length;let O:=lJ l r x d;let g:=x+(1:Int);let n:=[a (iF r g.toNat)];let A:=k [o,a J.snd.fst,j G J.snd.snd] 51 3 false;let H:=bj l x.toNat c.bE.dflt;let P:=a g;d<=x/\x<=t->(decide (x<t)=true->d<=x/\x<t/\x.toNat<r.length/\v M/\((((j c.bE l).same (j c.bE l)/\F.same F/\D.same D/\(a x).same (a x)/\(j de r).same (j de r)/\E.same E/\(a x).same (a x)/\o.same o/\z.same z/\X.same (a 0)/\True)/\C.same C/\(k [u 2 p 1,a M] 40 2 false).same (k (u 2 O.length 1::n) 40 2 false)/\(s c q 3 true).same (s c O 3 true)/\A.same A/\True)/\d<=d/\d<=f)/\∀(e:Int),let w:=bj J.fst e.toNat d;let m:=lJ l r x e;let V:=m.length+1;let h:=e+(1:Int);let B:=a x;let Q:=a h;let S:=m++[bj H w.toNat d];d<=e/\e<=f->(decide (e<f)=true->d<=e/\e<f/\e.toNat<γc J.fst/\d<=x/\x<(↑l.length:Int)/\x.toNat<l.length/\d<=w/\w<(↑H.length:Int)/\w.toNat<H.length/\1=1/\m.length=m.length/\V*8<=140737488355328/\V<=1000000000000/\v h/\(((j c.bE l).same (j c.bE l)/\F.same F/\D.same D/\B.same B/\(j de r).same (j de r)/\E.same E/\B.same B/\o.same o/\z.same z/\Q.same Q/\True)/\C.same C/\(k (u 2 S.length 1::n) 40 2 false).same (k (u 2 (lJ l r x h).length 1::n) 40 2 false)/\(s c S 3 true).same (s c (lJ l r x h) 3 true)/\A.same A/\True)/\(d<=h/\h<=f)/\(f - h).toNat<(f - e).toNat)/\(decide (e<f)=false->v g/\(((j c.bE l).same (j c.bE l)/\F.same F/\D.same D/\(j de r).same (j de r)/\E.same E/\P.same P/\True)/\C.same C/\(k (u 2 m.length 1::n) 40 2 false).same (k (u 2 (fZ l r g.toNat).length 1::n) 40 2 false)/\(s c m 3 true).same (s c (fZ l r g.toNat) 3 true)/\True)/\(d<=g/\g<=t)/\(t - g).toNat<(t - x).toNat))/\(decide (x<t)=false->(p=p/\p<=1000000)/\p=(dZ q).length/\(γN [j c (dZ q),a (iF r x.toNat)]).same (γN [j c (dZ (fZ l r r.length)),a (iF r r.length)]))) (by kernel_rfl) ?_;simp only[vcs];have k:∀{a b:Nat} {v u:Int},a=b->v=u->(bq.cells [γ1 2 a 1,γi .i64 v] 40 2 false).same (bq.cells [γ1 2 b 1,γi .i64 u] 40 2 false):=by rintro _ _ _ _ rfl rfl;rfl
 have I:∀{x y:List Int},x=y->(bq.row (.i .i64) x 3 true).same (bq.row (.i .i64) y 3 true):=by rintro _ _ rfl;rfl
 refine⟨⟨⟨rfl,rfl⟩,by omega⟩,?_⟩;rintro i ⟨i0,i1⟩;refine⟨λa0=>?_,λa3=>?_⟩
 ·have hc:=Y i.toNat (by omega);have a5:=Y (i+1).toNat (by omega);have hv:iF r (i+1).toNat=iF r i.toNat+(bj r i.toNat de.dflt).2.1:=by
   grind[iF,jX]
  have K:fZ l r (i+1).toNat=fZ l r i.toNat++qU (bj l i.toNat []) (bj r i.toNat de.dflt).1:=by
   grind[fZ,sY]
  have U:lJ l r i 0=fZ l r i.toNat:=by simp[lJ,qU]
  have hk:=h4 i.toNat (by omega);have a4:γc (bj r i.toNat de.dflt).1<=100000:=by
   grind[qU]
  have a1:∀j:Int,(lJ l r i j).length<=100000:=λj=>by
   have h5:(lJ l r i j).length<=(fZ l r (i+1).toNat).length:=by
    rw[K];unfold lJ qU;simp only[γg,Δ,γq];omega
   omega
  refine⟨i0,a0,by omega,by omega,⟨⟨k (by rw[U]) hv.symm,I U.symm⟩,by omega,by omega⟩,?_⟩;rintro j ⟨j0,j1⟩;refine⟨λG=>?_,λa2=>?_⟩
  ·have s:=hk (bj (bj r i.toNat de.dflt).1 j.toNat 0) (dr (by omega));have Z:lJ l r i j++[bj (bj l i.toNat []) (bj (bj r i.toNat de.dflt).1 j.toNat 0).toNat 0]=lJ l r i (j+1):=by
    unfold lJ qU;rw[jX (d:=(0:Int)) j0 G,γa,γV];rfl
   have a6:=a1 j;have T:(bj (bj r i.toNat de.dflt).1 j.toNat 0).toNat<(bj l i.toNat []).length:=by
    exact(Int.toNat_lt s.1).2 s.2
   have N:lJ l r i j++[bj (bj l i.toNat (bp.i IntKind.i64).bE.dflt) (bj (bj r i.toNat de.dflt).1 j.toNat 0).toNat 0]=lJ l r i (j+1):=Z;rw[N];refine⟨j0,G,?_,i0,?_,?_,s.1,s.2,T,?_,?_,?_,⟨k rfl rfl,I rfl⟩,?_,?_⟩<;>omega
  ·have R:lJ l r i j=fZ l r (i+1).toNat:=by
    rw[K];unfold lJ;rw[show j.toNat=(bj r i.toNat de.dflt).1.length by omega,ψ]
   exact⟨by omega,⟨k (by rw[R]) rfl,I R⟩,by omega,by omega⟩
 ·rw[show i.toNat=r.length by omega];have:=(Y r.length (ξ _)).1;exact⟨by omega,(qN).symm,rfl⟩
def BJ:bM:=⟨12,bn,.one dQ,λp=>bz p≠0\/p.offers.length<=60,λp=> .bI [.row (.bE (.i .i64)) (if bz p=0 then cq p else[]),.si .i64 (bz p)]⟩
theorem h552:Holds Tryz.prog BJ:=by
 refine cH (L:=[o9,MG]) BJ lk (by grind[h79,h560]) ?_;rintro(p:bn) (e:bz p≠0\/p.offers.length<=60);refine bR (let e:=(0:Int);let f:=Ω;let g:=SV.bI;let b:=decide (bz p≠e);let d:=[γi .i64 (bz p)];let c:=(bp.i .i64).bE;let a:=g (f c (if bz p=e then cq p else[])::d);True/\(b=true->(g (f (bp.i .i64) []::d)).same a)/\(b=false->(bz p=e/\p.offers.length<=60)/\(g [f c (cq p),γy .i64 0]).same a)) (by kernel_rfl) ?_;simp only[vcs];refine⟨λh=>?_,λh=>?_⟩
 ·rw[if_neg h];rfl
 simp_all
noncomputable def nQ (p:bn) (c:List Int):de.T:=((cB (eY p c)).chosen,(cB (eY p c)).value,qS (eY p c))
noncomputable def dm (p:bn):List de.T:=(cq p).map (nQ p)
noncomputable def jC (p:bn):List Int:=dZ (fZ (cq p) (dm p) (dm p).length)
noncomputable def jV (p:bn):Int:=iF (dm p) (dm p).length
def Fp (p:bn):Prop:=bz p≠0\/(p.offers.length<=60/\∀c∈cq p,c.length<=15)
noncomputable def Fq:bM:=⟨19,bn,.one dQ,Fp,
 λp=> .bI [.agg [.row (.i .i64) (if bz p=0 then jC p else[]),.si .i64 (if bz p=0 then jV p else 0),.row de (if bz p=0 then dm p else[])],.si .i64 (bz p)]⟩
theorem VS {p:bn}:∀{n:Nat},n<=(cq p).length->fZ (cq p) (dm p) n=((cq p).take n).flatMap λc=>qU c (cB (eY p c)).chosen
 |0,_=>by simp[fZ,dp];|n+1,h=>by
  have b:=VS (p:=p) (n:=n) (by omega);have a:fZ (cq p) (dm p) (n+1)=fZ (cq p) (dm p) n++qU (bj (cq p) n []) (bj (dm p) n de.dflt).1:=by
   grind[fZ,sY]
  have d:bj (dm p) n de.dflt=nQ p (bj (cq p) n []):=by
   grind[cQ,dm]
  rw[a,b,d,γ0 (show n<(cq p).length by omega),List.flatMap_append,cQ (by omega)];simp[nQ]
theorem ahz {p:bn} {n:Nat}:iF (dm p) n=(((cq p).take n).map λc=>(cB (eY p c)).value).sum:=by
 unfold iF dm;rw[<-ζx,γ3];rfl
theorem VT {f:List Int->List Int}:∀{L:List (List Int)},(∀c∈L,(f c).length<=160)->(L.flatMap f).length<=160*L.length
 |[],_=>by simp;|c::L,h=>by
  have b:=h c (γY ..);have e:=VT (L:=L) λd a=>h d (γS _ a);grind
theorem VU {f:List Int->Int}:∀{L:List (List Int)},(∀c∈L,0<=f c/\f c<=160000000)->0<=(L.map f).sum/\(L.map f).sum<=160000000*L.length
 |[],_=>by simp;|c::L,h=>by
  have b:=h c (γY ..);have e:=VU (L:=L) λd a=>h d (γS _ a);grind
theorem BK {p:bn} {i:Nat} (a:i<(cq p).length):bj (dm p) i de.dflt=nQ p (bj (cq p) i []):=by
 grind[cQ,dm]
theorem MI {p:bn} (b:bz p=0):(∀n:Nat,n<=(dm p).length->(fZ (cq p) (dm p) n).length<=2000/\ -9000000000000000<=iF (dm p) n/\iF (dm p) n<=9000000000000000)/\
  ∀i:Nat,i<(dm p).length->∀k∈(bj (dm p) i de.dflt).1,0<=k/\k<(bj (cq p) i []).length:=by
 have l:(dm p).length=(cq p).length:=Δ _;have g:=Fe b;have m:=(dR b).1;have a:∀c∈cq p,bz (eY p c)=0:=λc h=>BA b (wL h);refine⟨λn r=>?_,λi q k d=>?_⟩
 ·rw[VS (by omega),ahz];have s:=VT (f:=λc=>qU c (cB (eY p c)).chosen) (L:=(cq p).take n) λc h=>by
   grind[qU,y8]
  have e:=VU (f:=λc=>(cB (eY p c)).value) (L:=(cq p).take n) λc h=>(y8 (a c (List.mem_of_mem_take h))).2.2.1;grind
 ·have e:=BK (p:=p) (i:=i) (by omega);have j:bj (cq p) i []∈cq p:=dr (by omega);rw[e] at d;have o:=(agw.1 (Bt (a _ j)).1.1).2 k d;grind[L1]
noncomputable def ahA (p:bn):Nat->cF
 |6=> .inv Int (λi=>⟨[(1,.ptr 0 0 20),(2,.ptr 1 0 3),(4,.row (.bE (.i .i64)) (if bz p=0 then cq p else[])),(6,.ow 2 ((dm p).take i.toNat).length 3),(20,.row (.bE (.i .i64)) (if bz p=0 then cq p else[])),(21,.si .i64 (if bz p=0 then cq p else[]).length),(22,.si .i64 i)],
    [.cells p.ss 27 20 false,.cells [.sc (.slice none 0 0),.il .i64 0,.sc (.slice none 0 0)] 43 3 false,.row de ((dm p).take i.toNat) 51 false]⟩)
   (λs=>iS s 22) (λi=>0<=i/\i<=(if bz p=0 then cq p else[]).length) (λi=>((if bz p=0 then cq p else[]).length - i).toNat) λ_ _=> .look
 |_=> .look
theorem h557:Holds Tryz.prog Fq:=by
 refine cH (L:=[BJ,BD,LV,Fo]) Fq (λp=>ahA p) (by grind[h552,h562,h427,h563]) ?_;rintro(p:bn) K;refine bR (let c:=γi .i64;let d:=(0:Int);let e:=Ω;let h:=bq.row;let u:=SV.bI;let v:=γN;let U:=decide (bz p≠d);let g:=bp.i .i64;let H:=γy .i64 0;let R:=v [e g [],H,e g []];let S:=[c (bz p)];let M:=u (v [e g (if bz p=d then jC p else[]),c (if bz p=d then jV p else d),e de (if bz p=d then dm p else[])]::S);let J:=γT 0 0 20;let I:=γT 1 0 3;let m:=if bz p=d then cq p else[];let X:=γ1 2 0 3;let l:=(↑(if bz p=d then cq p else[]).length:Int);let t:=c l;let r:=bq.cells [c p.supply.a0,c p.supply.a1,c p.supply.a2,c p.supply.a3,c p.supply.a4,c p.supply.a5,c p.opn.a0,c p.opn.a1,c p.opn.a2,c p.opn.a3,c p.opn.a4,c p.opn.a5,c p.cls.a0,c p.cls.a1,c p.cls.a2,c p.cls.a3,c p.cls.a4,c p.cls.a5,e g p.classes,e bp.off p.offers] 27 20 false;let A:=SV.sc (Value.slice none 0 0);let q:=bq.cells [A,H,A] 43 3 false;let w:=(bp.i .u32).bE;let z:=g.bE.pair (g.pair (g.pair (g.pair (g.pair (g.pair (bp.b.pair (w.pair w)).bE)))).bE);(bz p≠d\/p.offers.length<=60)/\(U=true->(u (R::S)).same M)/\(U=false->(((J.same J/\I.same I/\(e g.bE m).same (e g.bE m)/\X.same X/\(e g.bE m).same (e g.bE m)/\(c (↑m.length:Int)).same t/\H.same (c 0)/\True)/\r.same r/\q.same q/\(h z [] 51 false).same (h de [] 51 false)/\True)/\d<=d/\d<=l)/\∀(x:Int),let s:=bj m x.toNat g.bE.dflt;let f:=eY p s;let F:=decide (bz f≠d);let j:=ω x.toNat (dm p);let a:=j.length;let o:=x+(1:Int);let D:=j++[(if bz f=d then(cB f).chosen else[],if bz f=d then(cB f).value else d,if bz f=d then qS f else[])];let C:=ω o.toNat (dm p);let y:=c o;d<=x/\x<=l->(decide (x<l)=true->d<=x/\x<(↑m.length:Int)/\x.toNat<m.length/\((∀(i:Int),i∈s->d<=i/\i<(↑p.offers.length:Int))/\s.length<=1000/\p.classes.length<=1000)/\(bz f≠d\/f.offers.length<=15)/\(F=true->(u [R,c (bz f)]).same M)/\(F=false->a=a/\(a+1)*56<=140737488355328/\a+1<=1000000000000/\cu .i64 o/\((J.same J/\I.same I/\(e g.bE m).same (e g.bE m)/\(γ1 2 D.length 3).same (γ1 2 C.length 3)/\(e g.bE m).same (e g.bE m)/\t.same t/\y.same y/\True)/\r.same r/\q.same q/\(h z D 51 false).same (h de C 51 false)/\True)/\(d<=o/\o<=l)/\(l - o).toNat<(l - x).toNat))/\(decide (x<l)=false->a=a/\((a<=m.length/\m.length<=1000)/\(∀(n:Nat),n<=a->(fZ m j n).length<=100000/\(-9000000000000000000:Int)<=iF j n/\iF j n<=(9000000000000000000:Int))/\∀(i:Nat),i<a->∀(k:Int),k∈(bj j i de.dflt).fst->d<=k/\k<(↑(bj m i []).length:Int))/\(u [v [e g (dZ (fZ m j a)),c (iF j a),e de j],H]).same M))) (by kernel_rfl) ?_;simp only[vcs];replace K:Fp p:=K;refine⟨K.imp id (·.1),λh=>?_,λh=>?_⟩
 ·rw[if_neg h,if_neg h,if_neg h];rfl
 ·have v:=γj.1 h;obtain⟨a6,P⟩:=K.resolve_left h;simp only[if_pos v];have a8:=Fe v;have a7:=(dR v).1;refine⟨by omega,?_⟩;rintro i ⟨V,i1⟩;refine⟨λE=>?_,λZ=>?_⟩
  ·have Q:ω i.toNat (dm p)++[nQ p (bj (cq p) i.toNat [])]=ω (i+1).toNat (dm p):=by
    unfold dm;rw[<-ζx,<-ζx,jX (d:=[]) V E,γa];rfl
   have u:bj (cq p) i.toNat []∈cq p:=dr (by omega);have N:bj (cq p) i.toNat (bp.i IntKind.i64).bE.dflt=bj (cq p) i.toNat []:=rfl;rw[N];generalize bj (cq p) i.toNat []=c at Q u ⊢;have W:=wL u;have G:=BA v W;have B:=P c u;have e:(((cB (eY p c)).chosen,(cB (eY p c)).value,qS (eY p c)):de.T)=nQ p c:=rfl;simp only[if_pos G];rw[e,Q];have Y:=List.length_take_le i.toNat (dm p);have O:(dm p).length=(cq p).length:=Δ _;refine⟨V,E,by omega,⟨W.2,by omega,by omega⟩,.inr (by rw[L1];exact B),λh=>absurd G h,λ_=>⟨by omega,by omega,by omega,⟨rfl,rfl⟩,by omega,by omega⟩⟩
  ·have O:(dm p).length=(cq p).length:=Δ _;obtain⟨j1,j2⟩:=MI v;rw[show i.toNat=(dm p).length by omega,ψ];exact⟨⟨⟨by omega,by omega⟩,λn hn=>by have:=j1 n hn;omega,j2⟩,rfl,v.symm⟩
@[reducible] def sDR:bp:=.pair (.bE (.i .i64)) (.pair (.i .i64) (.bE de))
def gI (p:bn) (r:List de.T):Nat->Int
 |0=>0
 |n+1=>if gI p r n≠0 then gI p r n else pY (eY p (bj (cq p) n [])) (bj r n de.dflt)
def kT (p:bn) (x:List Int×Int×List de.T):Int:=if bz p≠0 then bz p else if x.2.2.length≠(cq p).length then 2 else if gI p x.2.2 x.2.2.length≠0 then gI p x.2.2 x.2.2.length else
 if iF x.2.2 x.2.2.length≠x.2.1\/dZ (fZ (cq p) x.2.2 x.2.2.length)≠x.1 then 13 else 0
def rZ (p:bn) (x:List Int×Int×List de.T):Prop:=(bz p≠0\/p.offers.length<=60)/\x.1.length<=1000000/\(bz p=0->x.2.2.length=(cq p).length->(∀i:Nat,i<x.2.2.length->(bj x.2.2 i de.dflt).1.length<=1000000000000/\(di (eY p (bj (cq p) i [])) (bj x.2.2 i de.dflt).1=0->ef (eY p (bj (cq p) i [])) (bj x.2.2 i de.dflt).1=(bj x.2.2 i de.dflt).2.1->wK (eY p (bj (cq p) i [])) (bj x.2.2 i de.dflt).2.1 (bj x.2.2 i de.dflt).2.2))/\
 (gI p x.2.2 x.2.2.length=0->(∀n:Nat,n<=x.2.2.length->(fZ (cq p) x.2.2 n).length<=100000/\ -9000000000000000000<=iF x.2.2 n/\iF x.2.2 n<=9000000000000000000)/\∀i:Nat,i<x.2.2.length->∀k∈(bj x.2.2 i de.dflt).1,0<=k/\k<(bj (cq p) i []).length))
theorem MJ {p:bn} {r:List de.T} {n:Nat} (h:gI p r n≠0):∀{m:Nat},n<=m->gI p r m=gI p r n
 |0,a=>by simp_all;|m+1,a=>by
  by_cases e:n=m+1;·rw[e]
  ·have b:=MJ h (m:=m) (by omega);simp_all[gI]
def Ft:bM:=⟨21,bn×List Int×Int×List de.T,.cons dQ (.one (eh sDR)),λa=>rZ a.1 a.2,λa=> .si .i64 (kT a.1 a.2)⟩
def ahC (p:bn) (x:List Int×Int×List de.T):Nat->cF
 |7=> .inv Int (λi=>⟨[(2,.ptr 0 0 20),(3,.ptr 1 0 3),(5,.row (.bE (.i .i64)) (if bz p=0 then cq p else[])),(25,.row (.bE (.i .i64)) (if bz p=0 then cq p else[])),(26,.si .i64 (if bz p=0 then cq p else[]).length),(27,.si .i64 i)],
    [.cells p.ss 27 20 false,.cells [.row (.i .i64) x.1,.si .i64 x.2.1,.row de x.2.2] 43 3 false]⟩)
   (λs=>iS s 27) (λi=>(0<=i/\i<=(if bz p=0 then cq p else[]).length)/\gI p x.2.2 i.toNat=0) (λi=>((if bz p=0 then cq p else[]).length - i).toNat) λ_ _=> .look
 |_=> .look
theorem h558:Holds Tryz.prog Ft:=by
 refine cH (L:=[BJ,BD,LM,Fo,MH]) Ft (λa=>ahC a.1 a.2) (by grind[h552,h562,h474,h563,h564]) ?_;rintro⟨p,c,v,r⟩ hd;refine bR (let a:=γi .i64;let h:=(0:Int);let m:=Ω;let q:=γy .i64;let d:=if bz p=h then cq p else[];let P:=(↑d.length:Int);let Z:=decide (bz p≠h);let z:=a (kT p (c,v,r));let K:=γT 0 0 20;let J:=γT 1 0 3;let f:=bp.i .i64;let o:=(↑(if bz p=h then cq p else[]).length:Int);let O:=a o;let C:=q 0;let l:=bq.cells [a p.supply.a0,a p.supply.a1,a p.supply.a2,a p.supply.a3,a p.supply.a4,a p.supply.a5,a p.opn.a0,a p.opn.a1,a p.opn.a2,a p.opn.a3,a p.opn.a4,a p.opn.a5,a p.cls.a0,a p.cls.a1,a p.cls.a2,a p.cls.a3,a p.cls.a4,a p.cls.a5,m f p.classes,m bp.off p.offers] 27 20 false;let j:=bq.cells [m f c,a v,m de r] 43 3 false;let F:=decide (iF r r.length≠v);let t:=dZ (fZ d r r.length);let w:=λ(u:Bool) ↦decide ((↑r.length:Int)≠P)=u;(bz p≠h\/p.offers.length<=60)/\(Z=true->(a (bz p)).same z)/\(Z=false->(w true->(q 2).same z)/\(w false->(((K.same K/\J.same J/\(m f.bE d).same (m f.bE d)/\(m f.bE d).same (m f.bE d)/\(a P).same O/\C.same (a 0)/\True)/\l.same l/\j.same j/\True)/\(h<=h/\h<=o)/\gI p r 0=h)/\∀(x:Int),let s:=bj d x.toNat f.bE.dflt;let g:=eY p s;let b:=bj r x.toNat de.dflt;let D:=pY g (b.fst,b.snd.fst,b.snd.snd);let e:=x+(1:Int);let E:=a e;let I:=λ(u:Bool) ↦decide (D≠h)=u;(h<=x/\x<=o)/\gI p r x.toNat=h->(decide (x<o)=true->h<=x/\x<P/\x.toNat<d.length/\((∀(i:Int),i∈s->h<=i/\i<(↑p.offers.length:Int))/\s.length<=1000/\p.classes.length<=1000)/\h<=x/\x<(↑r.length:Int)/\x.toNat<r.length/\(γc b.fst<=1000000000000/\(di g b.fst=h->ef g b.fst=b.snd.fst->wK g b.snd.fst b.snd.snd))/\(I true->(a D).same z)/\(I false->cu .i64 e/\((K.same K/\J.same J/\(m f.bE d).same (m f.bE d)/\(m f.bE d).same (m f.bE d)/\O.same O/\E.same E/\True)/\l.same l/\j.same j/\True)/\((h<=e/\e<=o)/\gI p r e.toNat=h)/\(o - e).toNat<(o - x).toNat))/\(decide (x<o)=false->((r.length<=d.length/\d.length<=1000)/\(∀(n:Nat),n<=r.length->(fZ d r n).length<=100000/\(-9000000000000000000:Int)<=iF r n/\iF r n<=(9000000000000000000:Int))/\∀(i:Nat),i<r.length->∀(k:Int),k∈(bj r i de.dflt).fst->h<=k/\k<(↑(bj d i []).length:Int))/\(F=true->(q 13).same z)/\(F=false->(t.length<=1000000/\c.length<=1000000)/\((!decide (t=c))=true->(q 13).same z)/\((!decide (t=c))=false->C.same z)))))) (by kernel_rfl) ?_;simp only[vcs];obtain⟨y,H,G⟩:=(hd:rZ p (c,v,r));simp only at y H G;refine⟨y,λh=>by simp_all[kT],λh=>?_⟩;have M:bz p=0:=γj.1 h;simp only[if_pos M];refine⟨λhl=>?_,λhl=>⟨⟨by omega,rfl⟩,?_⟩⟩
 ·have q:r.length≠(cq p).length:=by omega
  simp_all[kT]
 have R:r.length=(cq p).length:=by omega
 obtain⟨hw,hj⟩:=G M R;have w:kT p (c,v,r)=if gI p r r.length≠0 then gI p r r.length else if iF r r.length≠v\/dZ (fZ (cq p) r r.length)≠c then 13 else 0:=by
  simp_all[kT]
 have X:=Fe M;have a9:=(dR M).1;have a6:=y.resolve_left h;rintro i ⟨⟨Y,i1⟩,N⟩;refine⟨λS=>?_,λa7=>?_⟩
 ·have hs:gI p r (i+1).toNat=pY (eY p (bj (cq p) i.toNat [])) (bj r i.toNat de.dflt):=by
   rw[show(i+1).toNat=i.toNat+1 by omega];show(if gI p r i.toNat≠0 then gI p r i.toNat else _)=_;rw[if_neg (by rw[N];exact λh=>h rfl)]
  have T:=hw i.toNat (by omega);have U:bj (cq p) i.toNat []∈cq p:=dr (by omega);have V:bj (cq p) i.toNat (bp.i IntKind.i64).bE.dflt=bj (cq p) i.toNat []:=rfl;rw[V];have W:=wL U;have a8:=s7 W;refine⟨Y,S,by omega,⟨W.2,by omega,by omega⟩,Y,by omega,by omega,T,λB=>?_,λB=>⟨by omega,⟨by omega,?_⟩,by omega⟩⟩
  ·have q:gI p r (i+1).toNat≠0:=by rw[hs];exact B
   have A:=MJ q (m:=r.length) (by omega);rw[w,if_pos (by rw[A];exact q),A,hs]
  simp_all
 ·have Q:i.toNat=r.length:=by omega
  rw[Q] at N;obtain⟨j1,j2⟩:=hj N;have b0:(fZ (cq p) r r.length).length<=100000:=(j1 r.length (ξ _)).1;rw[if_neg (by rw[N];exact λh=>h rfl)] at w;rw[w];refine⟨⟨⟨by omega,by omega⟩,j1,j2⟩,λB=>(if_pos (.inl B)).symm,λB=>⟨⟨by rw[qN];omega,H⟩,λq=>(if_pos (.inr q)).symm,λq=>(if_neg ?_).symm⟩⟩;rintro(A|A);·exact B A
  ·exact A q
def sa (p:bn):Bool:=decide (p.classes.length<=8)&&(decide (p.offers.length<=12)&&decide (bz p=0))
def MK:bM:=⟨18,bn,.one dQ,λ_=>True,λp=> .sb (sa p)⟩
theorem h556:Holds Tryz.prog MK:=by
 refine cH (L:=[H6]) MK lk (by grind[h24]) ?_;intro(p:bn) _;refine bR (let c:=δf false;let d:=γw;let b:=decide ((↑p.classes.length:Int)<=(8:Int));let a:=decide ((↑p.offers.length:Int)<=(12:Int));(b=true->(a=true->True/\(d (decide (bz p=(0:Int)))).same (d (sa p)))/\(a=false->(c).same (d (sa p))))/\(b=false->(c).same (d (sa p)))) (by kernel_rfl) ?_;simp only[vcs,sa];grind
def fw:bn:=⟨⟨1,1,0,0,0,0⟩,⟨1,1,0,0,0,0⟩,.zero,[0,0],[⟨0,⟨1,0,0,0,0,0⟩,5⟩,⟨1,⟨0,1,0,0,0,0⟩,7⟩]⟩
def ML:bM:=⟨27,Unit,.nil,λ_=>True,λ_=>dQ.put fw⟩
theorem h559:Holds Tryz.prog ML:=by
 refine cH (L:=[]) ML lk (by simp) ?_;intro _ _;refine bR (let d:=γi .i64;let e:=(0:Int);let f:=Ω;let g:=(1:Int);let c:=γy .i64 1;let a:=γy .i64 0;let b:=fw.supply;(γN [c,c,a,a,a,a,c,c,a,a,a,a,a,a,a,a,a,a,f (bp.i .i64) [e,e],f bp.off [Off.mk e (bC.mk g e e e e e) (5:Int),Off.mk g (bC.mk e g e e e e) (7:Int)]]).same (γN [d b.a0,d b.a1,d b.a2,d b.a3,d b.a4,d b.a5,d fw.opn.a0,d fw.opn.a1,d fw.opn.a2,d fw.opn.a3,d fw.opn.a4,d fw.opn.a5,d fw.cls.a0,d fw.cls.a1,d fw.cls.a2,d fw.cls.a3,d fw.cls.a4,d fw.cls.a5,f (bp.i .i64) fw.classes,f bp.off fw.offers])) (by kernel_rfl) ?_;conv=>zeta
 try simp only[vcs]
 try rfl
theorem Fv {p:bn} (hc:bz p=0) (h60:p.offers.length<=60) (h15:∀c∈cq p,c.length<=15):
  rZ p (jC p,jV p,dm p)/\kT p (jC p,jV p,dm p)=0/\∀n:Nat,n<=(cq p).length->gI p (dm p) n=0:=by
 have hpl:(dm p).length=(cq p).length:=Δ _;have hpc:∀i,i<(cq p).length->bz (eY p (bj (cq p) i []))=0/\(eY p (bj (cq p) i [])).offers.length<=15:=λi hi=>by
  have hm:bj (cq p) i []∈cq p:=dr hi;exact⟨BA hc (wL hm),by rw[L1];exact h15 _ hm⟩
 have hk:∀n:Nat,n<=(cq p).length->gI p (dm p) n=0:=by
  intro n;induction n with
  |zero=>exact λ_=>rfl;|succ n ih=>
   intro hn;show(if gI p (dm p) n≠0 then gI p (dm p) n else _)=0;rw[if_neg (by rw[ih (by omega)];exact λh=>h rfl),BK (by omega)];obtain⟨a,b⟩:=hpc n (by omega);exact agh a b
 obtain⟨j1,j2⟩:=MI hc;have hjl:(jC p).length<=2000:=by unfold jC;rw[qN];exact(j1 _ (ξ _)).1
 refine⟨⟨.inr h60,by simp only;omega,λ_ _=>⟨λi hi=>?_,λ_=>⟨λn hn=>by have:=j1 n hn;simp only;omega,j2⟩⟩⟩,?_,hk⟩
 ·simp only at hi ⊢;obtain⟨a,b⟩:=hpc i (by omega);have hbi:=y8 a;rw[BK (by omega)];exact⟨by have:=hbi.2.2.2;show(cB _).chosen.length<=_;omega,λ_ _=>(Vq a b).1 _ (by have:=hbi.2.2.1;show _<=(cB _).value/\(cB _).value<=_;omega)⟩
 ·unfold kT;rw[if_neg (by simp[hc]),if_neg (by simp[hpl]),if_neg (by simp[hpl,hk _ (ξ _)]),if_neg (by simp[jC,jV])]
theorem ahD:bz fw=0:=by kernel_rfl
theorem VX:cq fw=[[0],[1]]:=by kernel_rfl
theorem ahE:fZ (cq fw) (dm fw) (dm fw).length=[0,1]:=by kernel_rfl
theorem VY:jC fw=[0,1]:=by
 unfold jC;rw[ahE];exact List.mergeSort_of_pairwise (by simp)
theorem ahF:cmpL (jC fw) [0,1]=0:=by
 rw[VY];rfl
theorem ahG:qV fw [1]=0:=by kernel_rfl
def MM:bM:=⟨11,Unit,.nil,λ_=>True,λ_=> .sb true⟩
theorem h551:Holds Tryz.prog MM:=by
 refine cH (L:=[ML,BJ,Fq,Me,r32,Ft]) MM lk (by grind[h559,h552,h557,h554,h32,h558]) ?_;intro _ _;refine bR (let a:=δf false;let e:=γw;let f:=(0:Int);let g:=(1:Int);let b:=(jC fw,jV fw,dm fw);let d:=decide (cmpL (jC fw) [f,g]=f);let c:=λ(u:Bool) ↦decide (kT fw b=f)=u;True/\(bz fw≠f\/fw.offers.length<=60)/\True/\Fp fw/\True/\1<=1000000000000/\(true=true->(true=true->(true=true->(true=true->((jC fw).length<=1000000000000/\2<=1000000000000)/\(d=true->(true=true->True/\rZ fw b/\(c true->(true=true->(true=true->f<=f/\f<g/\0<(oM fw [g]).offers.length/\(e true).same (e true))/\(true=false->(a).same (e true)))/\(true=false->(a).same (e true)))/\(c false->(a).same (e true)))/\(true=false->(a).same (e true)))/\(d=false->(a).same (e true)))/\(true=false->(a).same (e true)))/\(true=false->(a).same (e true)))/\(true=false->(a).same (e true)))/\(true=false->(a).same (e true))) (by kernel_rfl) ?_;simp only[vcs];have e:=Fv ahD (by decide) (by grind[VX]);have g:(jC fw).length=2:=by grind[VY]
 have a:true=false->false=true:=λh=>by cases h
 have f:(oM fw [1]).offers.length=1:=by
  unfold oM;rw[if_pos ahG];rfl
 exact⟨.inr (by decide),.inr ⟨by decide,by grind[VX]⟩,by omega,λ_=>⟨λ_=>⟨λ_=>⟨λ_=>⟨⟨by omega,by omega⟩,λ_=>⟨λ_=>⟨e.1,λ_=>⟨λ_=>⟨λ_=>⟨by omega,by omega,by omega⟩,a⟩,a⟩,λh=>absurd e.2.1 h⟩,a⟩,λh=>absurd ahF h⟩,a⟩,a⟩,a⟩,a⟩
theorem VZ {p:bn} (h:sa p=true):bz p=0/\p.offers.length<=12/\p.classes.length<=8:=by
 simp_all[sa]
theorem ahH {p:bn} (h:sa p=true):∀c∈cq p,c.length<=12:=λc a=>δ1 (s7 (wL a)) (VZ h).2.1
theorem V0 {p:bn} (e:bz p=0) (b:p.offers.length<=60) (a:∀c∈cq p,c.length<=15) {c:List Int} {v:Int} (h:jV p≠v\/jC p≠c) (g:c.length<=1000000):rZ p (c,v,dm p)/\kT p (c,v,dm p)=13:=by
 obtain⟨d,_,i⟩:=Fv e b a;have f:(dm p).length=(cq p).length:=Δ _;refine⟨⟨d.1,g,d.2.2⟩,?_⟩;simp_all[kT]
theorem ahI {p:bn} {r a:List de.T} {n:Nat} (h:∀i,i<n->bj a i de.dflt=bj r i de.dflt):gI p a n=gI p r n:=by
 induction n<;>grind[gI,pY,bj]
theorem ahJ {p:bn} (hc:bz p=0) (h60:p.offers.length<=60) (h15:∀c∈cq p,c.length<=15) {k:Nat} (hk:k<(dm p).length) {b:Int} (hb:b≠0):
  rZ p (jC p,jV p,(dm p).set k ((bj (dm p) k de.dflt).1,(bj (dm p) k de.dflt).2.1+b,(bj (dm p) k de.dflt).2.2))/\kT p (jC p,jV p,(dm p).set k ((bj (dm p) k de.dflt).1,(bj (dm p) k de.dflt).2.1+b,(bj (dm p) k de.dflt).2.2))=13:=by
 obtain⟨g1,_,g3⟩:=Fv hc h60 h15;have hpl:(dm p).length=(cq p).length:=Δ _;have hn:=BK (p:=p) (i:=k) (by omega);have hcm:bj (cq p) k []∈cq p:=dr (by omega);have hpc:=BA hc (wL hcm);have hbb:=y8 hpc;rw[hn];have hv:ef (eY p (bj (cq p) k [])) (nQ p (bj (cq p) k [])).1=(nQ p (bj (cq p) k [])).2.1:=hbb.2.1;have hf:di (eY p (bj (cq p) k [])) (nQ p (bj (cq p) k [])).1=0:=hbb.1;generalize hr:(dm p).set k ((nQ p (bj (cq p) k [])).1,(nQ p (bj (cq p) k [])).2.1+b,(nQ p (bj (cq p) k [])).2.2)=r;have hrl:r.length=(dm p).length:=by rw[<-hr,Φ]
 have V1:bj r k de.dflt=((nQ p (bj (cq p) k [])).1,(nQ p (bj (cq p) k [])).2.1+b,(nQ p (bj (cq p) k [])).2.2):=by
  rw[cQ (by omega)];subst hr;rw[List.getElem_set_self]
 have V2:∀i,i<r.length->i≠k->bj r i de.dflt=bj (dm p) i de.dflt:=λi hi hne=>by
  rw[cQ hi,cQ (by omega)];subst hr;rw[List.getElem_set_ne (by omega)]
 have hw:pY (eY p (bj (cq p) k [])) (bj r k de.dflt)=13:=by
  rw[V1];unfold pY;rw[if_neg (by simp only;rw[hf];exact λh=>h rfl),if_pos (by simp only;rw[hv];omega)]
 have hck:gI p r r.length=13:=by
  have h1:gI p r k=0:=by rw[ahI (r:=dm p) λi hi=>V2 i (by omega) (by omega)];exact g3 k (by omega)
  have h2:gI p r (k+1)=13:=by
   show(if gI p r k≠0 then gI p r k else pY _ (bj r k de.dflt))=13;rw[if_neg (by rw[h1];exact λh=>h rfl),hw]
  rw[MJ (n:=k+1) (by rw[h2];decide) (by omega),h2]
 refine⟨⟨g1.1,g1.2.1,λhc0 hle=>⟨λi hi=>?_,λh=>?_⟩⟩,?_⟩
 ·simp only at hi ⊢;have hg:=(g1.2.2 hc0 hpl).1;by_cases hik:i=k
  ·subst hik;rw[V1];have:=hbb.2.2.2;refine⟨by show(cB _).chosen.length<=_;omega,λ_ h=>?_⟩;simp only at h;rw[hv] at h;omega
  ·rw[V2 i hi hik];exact hg i (by simp only;omega)
 ·simp only at h;rw[hck] at h;cases h
 ·unfold kT;rw[if_neg (by simp[hc]),if_neg (by simp only;omega),if_pos (by simp only;rw[hck];decide)];exact hck
noncomputable def MN:bM:=⟨8,bn×Int×Int×Int,.cons dQ (.cons (eA .u8) (.cons (eA .u8) (.one (eA .i8)))),λa=>(0<=a.2.1/\a.2.1<=255)/\(0<=a.2.2.1/\a.2.2.1<=255)/\ -128<=a.2.2.2/\a.2.2.2<=127,λ_=> .sb true⟩
theorem h548:Holds Tryz.prog MN:=by
 refine cH (L:=[MK,MM,Fq,Ft]) MN lk (by grind[h556,h551,h557,h558]) ?_;rintro⟨p,kd,l,d⟩ ⟨h1,h2,h3⟩;simp only at h1 h2 h3;refine bR (let c:=γw;let e:=δf false;let h:=(0:Int);let k:=cu .i64;let q:=(13:Int);let w:=if bz p=h then dm p else[];let A:=w.length;let M:=w.length;let t:=(↑M:Int);let n:=l.tmod t;let D:=decide (h<t);let g:=if bz p=h then jC p else[];let f:=if bz p=h then jV p else h;let m:=bp.i .i64;let J:=(bp.i .u32).bE;let x:=bj w n.toNat (m.bE.pair (m.pair (m.pair (m.pair (m.pair (m.pair (bp.b.pair (J.pair J)).bE)))).bE)).dflt;let z:=w.set n.toNat (x.fst,x.snd.fst+d,x.snd.snd);let E:=decide (bz p≠h);let j:=decide (bz p=h);let a:=decide ((↑p.offers.length:Int)=h);let R:=decide (t=h);let B:=decide (d=h);let y:=kd.tmod (4:Int);let I:=decide (y=h);let U:=(g,f+d,w);let G:=decide (kT p U=q);let P:=decide (y=(1:Int));let o:=g.length;let C:=decide ((↑o:Int)=h);let Q:=(ω (o - 1) (γU 1 g),f,w);let S:=decide (kT p Q=q);let N:=decide (y=(2:Int));let K:=decide (y=(3:Int));let T:=ω (M - 1) (γU 1 w);let O:=decide (kT p (g,f,T)=(2:Int));let F:=decide (kT p (g,f,w)=q);let V:=A=A;let r:=n<(↑A:Int);let s:=n.toNat<A;let W:=D=false;let X:=D=true;let v:=λ(u:Bool) ↦decide (kT p (g,f,z)=q)=u;let H:=λ(u:List (List Int×Int×List (Int×Int×Int×Int×List (Bool×List Int×List Int)))) ↦rZ p (g,f,u);True/\((!sa p)=true->True/\(c true).same (c true))/\((!sa p)=false->Fp p/\(E=true->(j=true->(a=true->True/\(c true).same (c true))/\(a=false->(X->True/\(c true).same (c true))/\(W->(e).same (c true))))/\(j=false->(e).same (c true)))/\(E=false->(a=true->(j=true->(a=true->True/\(c true).same (c true))/\(a=false->(X->True/\(c true).same (c true))/\(W->(e).same (c true))))/\(j=false->(e).same (c true)))/\(a=false->(R=true->(j=true->(a=true->True/\(c true).same (c true))/\(a=false->(X->True/\(c true).same (c true))/\(W->(e).same (c true))))/\(j=false->(e).same (c true)))/\(R=false->(B=true->(j=true->(a=true->True/\(c true).same (c true))/\(a=false->(X->True/\(c true).same (c true))/\(W->(e).same (c true))))/\(j=false->(e).same (c true)))/\(B=false->k l/\t≠h/\(4:Int)≠h/\(I=true->k d/\k (f+d)/\rZ p U/\(G=true->True/\(c true).same (c true))/\(G=false->(e).same (c true)))/\(I=false->(P=true->(C=true->True/\(c true).same (c true))/\(C=false->1<=o/\o<=o/\rZ p Q/\(S=true->True/\(c true).same (c true))/\(S=false->(e).same (c true))))/\(P=false->(N=true->0=0/\(0+A)*56<=140737488355328/\0+A<=1000000000000/\V/\h<=n/\r/\V/\s/\k d/\k (x.snd.fst+d)/\V/\h<=n/\r/\V/\s/\A=z.length/\H z/\(v true->True/\(c true).same (c true))/\(v false->(e).same (c true)))/\(N=false->(K=true->1<=M/\M<=M/\H T/\(O=true->True/\(c true).same (c true))/\(O=false->(e).same (c true)))/\(K=false->rZ p (g,f,w)/\(F=true->True/\(c true).same (c true))/\(F=false->(e).same (c true)))))))))))) (by kernel_rfl) ?_;simp only[vcs];refine⟨λ_=>trivial,λh=>?_⟩;obtain⟨s,a7,h8⟩:=VZ h;have r:∀c∈cq p,c.length<=15:=λc a2=>by grind[ahH]
 have b4:(dm p).length=(cq p).length:=Δ _;have b0:=Fe s;have a5:p.offers.length≠0->0<(dm p).length:=λhn=>by
  obtain⟨c,a2,_⟩:=agu (p:=p) (i:=0) ⟨by omega,by omega⟩;grind
 obtain⟨g1,g2,g3⟩:=Fv s (by omega) r;obtain⟨a6,a9⟩:(jC p).length<=2000/\ -9000000000000000<=jV p/\jV p<=9000000000000000:=by
  grind[MI,jC,jV,qN]
 have ek:kd.tmod 4=kd % 4:=δM h1.1;rw[ek];simp only[if_pos s];have hB:(bz p=0->((p.offers.length:Int)=0->True)/\(¬(p.offers.length:Int)=0->((0:Int)<(dm p).length->True)/\(¬(0:Int)<(dm p).length->false=true)))/\(¬bz p=0->false=true):=
  ⟨λ_=>⟨λ_=>trivial,λhn=>⟨λ_=>trivial,λhl=>by omega⟩⟩,λh=>absurd s h⟩;refine⟨.inr ⟨by omega,r⟩,λh=>absurd s h,λ_=>⟨λ_=>hB,λhN=>⟨λ_=>hB,λhP=>⟨λ_=>hB,λa4=>?_⟩⟩⟩⟩;have Z:l.tmod ((dm p).length:Nat)=l % ((dm p).length:Nat):=δM h2.1;have Y:0<=l % ((dm p).length:Nat):=Int.emod_nonneg _ (by omega);have a3:l % ((dm p).length:Nat)<((dm p).length:Nat):=Int.emod_lt_of_pos _ (by omega);rw[Z];generalize l % ((dm p).length:Nat)=q at Y a3;obtain⟨b1,b2⟩:=V0 s (by omega) r (c:=jC p) (v:=jV p+d) (.inl (by omega)) (by omega);obtain⟨d1,d2⟩:=ahJ s (by omega) r (k:=q.toNat) (by omega) (b:=d) a4;refine⟨by omega,by omega,by decide,λ_=>⟨by omega,by omega,b1,λ_=>trivial,λh=>absurd b2 h⟩,λk0=>⟨λ_=>⟨λ_=>trivial,λhl=>?_⟩,λk1=>⟨λ_=>?_,λk2=>⟨λ_=>?_,λk3=>by omega⟩⟩⟩⟩
 ·have a0:jC p≠ω ((jC p).length - 1) (γU 1 (jC p)):=λe=>by
   grind
  obtain⟨c1,c2⟩:=V0 s (by omega) r (v:=jV p) (.inr a0) (by grind);grind
 ·have hq:=BK (p:=p) (i:=q.toNat) (by omega);have a1:bj (cq p) q.toNat []∈cq p:=dr (by omega);have b3:=(y8 (BA s (wL a1))).2.2.1;have a8:(bj (dm p) q.toNat de.dflt).2.1=(cB (eY p (bj (cq p) q.toNat []))).value:=by rw[hq];rfl
  grind
 ·have H:(ω ((dm p).length - 1) (γU 1 (dm p))).length≠(cq p).length:=by
   rw[γq,List.length_drop];omega
  have e2:kT p (jC p,jV p,ω ((dm p).length - 1) (γU 1 (dm p)))=2:=by
   unfold kT;rw[if_neg (by simp[s]),if_pos H]
  exact⟨by omega,by omega,⟨g1.1,g1.2.1,λ_ h=>absurd h H⟩,λ_=>trivial,λh=>absurd e2 h⟩
end Go.Vi

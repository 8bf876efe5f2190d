import Derived.Test.YtbnhiekmnpikhaaGreatDR14
import Derived.Maps.OwnRows
import Derived.Maps.Ext
import Derived.StillTailTactics
import Derived.WalkSpells
set_option maxRecDepth 100000
set_option maxHeartbeats 4000000
set_option linter.all false
open Array renaming getElem?_eq_some_iff->γA
open Bool renaming and_eq_true->θ,or_eq_true->δo
open Classical renaming not_not->γc
open Go.Maps renaming has->ζ7
open Go.Vi.SV renaming si->γf,row->Ψ,ptr->γK,il->γv,ow->γW,agg->γJ,bl->δd,sb->γy
open Int renaming le_of_lt->γg
open List renaming map_cons->π,length->γb,eq_nil_of_length_eq_zero->τ,map->γd,take->Γ,map_append->γa,length_map->Θ,take_length->ψ,filter_sublist->γS,mem_cons_self->γZ,perm_ext_iff_of_nodup->γ6,pairwise_mergeSort->δ7,mergeSort_perm->δx,mem_cons->γw,rel_of_pairwise_cons->ζl,mem_map->Ω,getElem?_take_of_lt->δB,take_succ_eq_append_getElem->γ1,append_assoc->γC,getElem?_map->γF,getElem?_eq_getElem->μ,mem_or_eq_of_mem_set->δl,replicate->δ,take_succ_cons->δw,drop_succ_cons->εw,drop_zero->εq,setIfInBounds_toArray->ζa,set_cons_zero->δ9,set_cons_succ->ζe,eq_nil_iff_forall_not_mem->δ2,map_map->γ5,attachWith_map_subtype_val->εQ,size_toArray->ζY,length_attachWith->εM,length_append->γh,length_set->Φ,getElem?_eq_some_iff->ζ,map_take->ζy,mem_cons_of_mem->γz
open List.Perm renaming eq_of_pairwise->εD
open List.cons renaming injEq->Δ
open Nat renaming le_trans->δ1,zero_le->δ4,le_refl->ξ,lt_of_lt_of_le->γj,le_succ_of_le->ζu
open Option renaming map_eq_some_iff->ε
open Prod renaming fst->εn,snd->ζ4
open Subtype renaming val->εP
namespace Go.Vi
open Go.Proofs.YtbnhiekmnpikhaaGreat.Ir
open Go.Proofs
theorem Sb:jB Tryz.prog 57 [.os 0 0 0 0] [.cells [] 3 1 true] (.Gz []) [.cells [] 3 1 true]:=
 (Gc pJ 60 57 [.os 0 0 0 0] [.cells [] 3 1 true] true (.Gz []) [.cells [] 3 1 true] (by kernel_rfl)).2.1
def JI:cU where
 f:=57;α:=Nat×List Int;put a:=[.ow 0 a.1 1];st a:=[.row (.i .i64) a.2 3 true];dec v o:=match v,o with
  |[.ow 0 n 1],[.row t l 3 true]=>match gG t (.i .i64) l with
   |some l=>some (n,l)
   |_=>none
  |_,_=>none;ok v o a h:=by
  grind[lF]
 inj a b e1 e2:=by
  obtain⟨n,l⟩:=a;obtain⟨n',l'⟩:=b;simp only[gL,Δ,SV.g,AV.os.injEq,true_and] at e1;simp only[gO,π,List.map_nil,iZ.g,Δ,OL.cells.injEq,and_true,true_and] at e2;have h4:l=l':=by
   have hf:=congrArg γb e2;rw[ec,ec] at hf;exact ku (.i .i64) (by grind[ew.sz]) e2
  simp_all
 dom a:=a.1=a.2.length/\a.2.length<=1000000;res _:=.Gz [];out a:=[.row (.i .i64) (dx a.2) 3 true]
theorem y4:dA Tryz.prog JI:=by
 rintro⟨n,l⟩ ⟨a,b⟩;simp only at a b;by_cases c:1<=l.length;·exact yM (n,l) ⟨a,c,b⟩
 ·have:l=[]:=τ (by omega);subst this;subst a;refine⟨by kernel_rfl,?_⟩;have e:dx []=[]:=by simp[dx]
  show jB Tryz.prog 57 [.os 0 0 0 0] [.cells [] 3 1 true] (.Gz []) (gO [.row (.i .i64) (dx []) 3 true]);rw[e];exact Sb
def xc:M9:=⟨31,cj×List Int,.cons cO (.one (cL (.i .i64))),λa=>(∀i∈a.2,0<=i/\i<a.1.bj.length)/\a.2.length<=1000/\a.1.bk.length<=1000,λa=>cO.put (dS a.1 a.2)⟩
def CQ (p:cj) (v:SV):iZ:=.cells [.si .i64 p.bm.a0,.si .i64 p.bm.a1,.si .i64 p.bm.a2,.si .i64 p.bm.a3,.si .i64 p.bm.a4,.si .i64 p.bm.a5,
  .si .i64 p.bs.a0,.si .i64 p.bs.a1,.si .i64 p.bs.a2,.si .i64 p.bs.a3,.si .i64 p.bs.a4,.si .i64 p.bs.a5,
  .si .i64 p.bt.a0,.si .i64 p.bt.a1,.si .i64 p.bt.a2,.si .i64 p.bt.a3,.si .i64 p.bt.a4,.si .i64 p.bt.a5,
  .row (.i .i64) p.bk,v] 27 20 false
def JH:iZ:=.cells [.il .i64 0,.il .i64 0,.il .i64 0,.il .i64 0,.il .i64 0,.il .i64 0,.il .i64 0,.il .i64 0,.il .i64 0,.il .i64 0,.il .i64 0,.il .i64 0,.il .i64 0,.il .i64 0,.il .i64 0,.il .i64 0,.il .i64 0,.il .i64 0,.sc (.slice none 0 0),.sc (.slice none 0 0)] 27 20 false
def Sa (p:cj) (c:List Int):Nat->bG
 |5=> .inv Int (λi=>⟨[(2,.ptr 0 0 20),(4,.ptr 1 0 20),(5,.ptr 2 0 20),(14,.row (.i .i64) c),(15,.si .i64 c.length),(16,.si .i64 i)],[.cells p.ss 27 20 false,JH,CQ p (.ow 3 (c.take i.toNat).length 8),.row .bu ((c.take i.toNat).map (oI p)) 65 true]⟩)
   (λs=>iS s 16) (λi=>0<=i/\i<=c.length) (λi=>(c.length - i).toNat) λ_ _=> .look
 |_=> .look
theorem tW:Holds Tryz.prog xc:=by
 refine bI (L:=[ye]) xc (λa=>Sa a.1 a.2) (by grind[yO]) ?_;rintro⟨p,c⟩ ⟨Z,h2,h3⟩;simp only at Z h2 h3;refine NH (let a:=γf .i64;let b:=(0:Int);let d:=iZ.cells;let y:=Ψ;let I:=iZ.row;let L:=γK;let Y:=L 0 0 20;let W:=L 1 0 20;let X:=L 2 0 20;let J:=ew.i .i64;let H:=(↑c.length:Int);let N:=a H;let e:=γv .i64 0;let O:=a p.bm.a0;let M:=a p.bm.a1;let S:=a p.bm.a2;let q:=a p.bm.a3;let B:=a p.bm.a4;let A:=a p.bm.a5;let r:=a p.bs.a0;let v:=a p.bs.a1;let D:=a p.bs.a2;let u:=a p.bs.a3;let o:=a p.bs.a4;let w:=a p.bs.a5;let l:=a p.bt.a0;let n:=a p.bt.a1;let z:=a p.bt.a2;let C:=a p.bt.a3;let t:=a p.bt.a4;let s:=a p.bt.a5;let k:=y J p.bk;let F:=d [O,M,S,q,B,A,r,v,D,u,o,w,l,n,z,C,t,s,k,y ew.bu p.bj] 27 20 false;let T:=SV.sc (Value.slice none 0 0);let E:=d [e,e,e,e,e,e,e,e,e,e,e,e,e,e,e,e,e,e,T,T] 27 20 false;let K:=d [O,M,S,q,B,A,r,v,D,u,o,w,l,n,z,C,t,s,k,γW 3 0 8] 27 20 false;let U:=I ew.bu [] 65 true;let h:=(dS p c).bm;let f:=(dS p c).bs;let j:=(dS p c).bt;p.bk.length<=1000000/\(((Y.bi Y/\W.bi W/\X.bi X/\(y J c).bi (y J c)/\(a (↑c.length:Int)).bi N/\e.bi (a 0)/\True)/\F.bi F/\E.bi E/\K.bi K/\U.bi U/\True)/\b<=b/\b<=H)/\∀(x:Int),let G:=bN c x.toNat b;let m:=γd (oI p) (Γ x.toNat c);let Q:=m.length+1;let g:=x+(1:Int);let R:=a g;let V:=m++[bN p.bj G.toNat ew.bu.bw];let P:=Γ g.toNat c;b<=x/\x<=H->(decide (x<H)=true->b<=x/\x<(↑c.length:Int)/\x.toNat<c.length/\b<=G/\G<(↑p.bj.length:Int)/\G.toNat<p.bj.length/\1=1/\(Γ x.toNat c).length=m.length/\Q*64<=140737488355328/\Q<=1000000000000/\VI .i64 g/\((Y.bi Y/\W.bi W/\X.bi X/\(y J c).bi (y J c)/\N.bi N/\R.bi R/\True)/\F.bi F/\E.bi E/\(d [O,M,S,q,B,A,r,v,D,u,o,w,l,n,z,C,t,s,k,γW 3 V.length 8] 27 20 false).bi (d [O,M,S,q,B,A,r,v,D,u,o,w,l,n,z,C,t,s,k,γW 3 P.length 8] 27 20 false)/\(I ew.bu V 65 true).bi (I ew.bu (γd (oI p) P) 65 true)/\True)/\(b<=g/\g<=H)/\(H - g).toNat<(H - x).toNat)/\(decide (x<H)=false->(Γ x.toNat c).length=m.length/\(γJ [O,M,S,q,B,A,r,v,D,u,o,w,l,n,z,C,t,s,k,y ew.bu m]).bi (γJ [a h.a0,a h.a1,a h.a2,a h.a3,a h.a4,a h.a5,a f.a0,a f.a1,a f.a2,a f.a3,a f.a4,a f.a5,a j.a0,a j.a1,a j.a2,a j.a3,a j.a4,a j.a5,y J (dS p c).bk,y ew.bu (dS p c).bj]))) (by kernel_rfl) ?_;simp only[vcs];have I:∀{a b:Nat},a=b->(CQ p (.ow 3 a 8)).bi (CQ p (.ow 3 b 8)):=by rintro _ _ rfl;rfl
 have a7:∀{x y:List bC},x=y->(iZ.row .bu x 65 true).bi (iZ.row .bu y 65 true):=by rintro _ _ rfl;rfl
 have a6:∀x:Int,0<=x->x<c.length->γd (oI p) (Γ x.toNat c)++[bN p.bj (bN c x.toNat 0).toNat ew.bu.bw]=γd (oI p) (Γ (x+1).toNat c):=λx h0 Z=>by
  rw[jj (d:=0) h0 Z,γa];rfl
 refine⟨by omega,by omega,?_⟩;rintro x ⟨x0,x1⟩;refine⟨λN=>?_,λa8=>?_⟩
 ·have hb:=Z (bN c x.toNat 0) (cE (by omega));have a9:(γd (oI p) (Γ x.toNat c)).length=x.toNat:=by simp_all
  rw[a6 x x0 N];refine⟨x0,N,by omega,hb.1,hb.2,by omega,(Θ _).symm,by omega,by omega,by omega,⟨I (Θ _),a7 rfl⟩,by omega,by omega⟩
 ·rw[show x.toNat=c.length by omega,ψ];exact⟨(Θ _).symm,rfl⟩
def jd (p:cj) (l:List Int):Int:=if nW p≠0 then nW p else if dW p l=true then 0 else 4
def gz (p:cj) (l:List Int):cj:=if jd p l=0 then dS p l else BA
def CP:M9:=⟨15,cj×List Int,.cons cO (.one (cL (.i .i64))),λa=>a.2.length<=1000000000000,λa=> .Gz [.agg (gz a.1 a.2).ss,.si .i64 (jd a.1 a.2)]⟩
def R_ (p:cj) (l:List Int):Nat->bG
 |6=> .inv (Int×Int) (λx=>⟨[(1,.row (.i .i64) l),(2,.ptr 0 0 20),(4,.ptr 1 0 20),(7,.si .i64 x.2),(16,.row (.i .i64) l),(17,.si .i64 l.length),(18,.si .i64 x.1)],[.cells p.ss 27 20 false,JH]⟩)
   (λs=>(iS s 18,iS s 7)) (λx=>(0<=x.1/\x.1<=l.length)/\(-1<=x.2/\x.2<1000)/\(dz p.bj (-1) l).isSome=(dz p.bj x.2 (l.drop x.1.toNat)).isSome) (λx=>(l.length - x.1).toNat) λ_ _=> .look
 |_=> .look
theorem HC:Holds Tryz.prog CP:=by
 refine bI (L:=[mW,xc]) CP (λa=>R_ a.1 a.2) (by grind[oi,tW]) ?_;rintro⟨p,l⟩ (hl:l.length<=1000000000000);refine NH (let a:=γf .i64;let d:=Ψ;let e:=(-1:Int);let h:=(0:Int);let n:=γv .i64;let q:=(1000:Int);let A:=SV.Gz;let E:=γJ;let T:=decide (nW p≠h);let b:=n 0;let m:=ew.i .i64;let M:=E [b,b,b,b,b,b,b,b,b,b,b,b,b,b,b,b,b,b,d m [],d m []];let y:=(gz p l).bm;let w:=(gz p l).bs;let v:=(gz p l).bt;let J:=A [E [a y.a0,a y.a1,a y.a2,a y.a3,a y.a4,a y.a5,a w.a0,a w.a1,a w.a2,a w.a3,a w.a4,a w.a5,a v.a0,a v.a1,a v.a2,a v.a3,a v.a4,a v.a5,d m (gz p l).bk,d ew.bu (gz p l).bj],a (jd p l)];let K:=γK 0 0 20;let I:=γK 1 0 20;let c:=(↑l.length:Int);let u:=a c;let r:=iZ.cells [a p.bm.a0,a p.bm.a1,a p.bm.a2,a p.bm.a3,a p.bm.a4,a p.bm.a5,a p.bs.a0,a p.bs.a1,a p.bs.a2,a p.bs.a3,a p.bs.a4,a p.bs.a5,a p.bt.a0,a p.bt.a1,a p.bt.a2,a p.bt.a3,a p.bt.a4,a p.bt.a5,d m p.bk,d ew.bu p.bj] 27 20 false;let z:=SV.sc (Value.slice none 0 0);let s:=iZ.cells [b,b,b,b,b,b,b,b,b,b,b,b,b,b,b,b,b,b,z,z] 27 20 false;let t:=(dz p.bj e l).isSome;let f:=(dS p l).bm;let k:=(dS p l).bs;let o:=(dS p l).bt;True/\(T=true->(A [M,a (nW p)]).bi J)/\(T=false->((((d m l).bi (d m l)/\K.bi K/\I.bi I/\(n e).bi (a e)/\(d m l).bi (d m l)/\(a (↑l.length:Int)).bi u/\b.bi (a 0)/\True)/\r.bi r/\s.bi s/\True)/\(h<=h/\h<=c)/\(e<=e/\e<q)/\t=t)/\∀(x:Int×Int),let G:=decide (x.1<c);let j:=bN l x.1.toNat h;let H:=decide (j<=x.2);let D:=decide ((↑p.bj.length:Int)<=j);let g:=x.1+(1:Int);let B:=a j;let C:=a g;(h<=x.1/\x.1<=c)/\(e<=x.2/\x.2<q)/\t=(dz p.bj x.2 (List.drop x.1.toNat l)).isSome->(G=true->h<=x.1/\x.1<(↑l.length:Int)/\x.1.toNat<l.length/\(H=true->(A [M,n 4]).bi J)/\(H=false->(D=true->(A [M,n 4]).bi J)/\(D=false->VI .i64 g/\(((d m l).bi (d m l)/\K.bi K/\I.bi I/\B.bi B/\(d m l).bi (d m l)/\u.bi u/\C.bi C/\True)/\r.bi r/\s.bi s/\True)/\((h<=g/\g<=c)/\(e<=j/\j<q)/\t=(dz p.bj j (List.drop g.toNat l)).isSome)/\(c - g).toNat<(c - x.1).toNat)))/\(G=false->((∀(i:Int),i∈l->h<=i/\i<(↑p.bj.length:Int))/\l.length<=1000/\p.bk.length<=1000)/\(A [E [a f.a0,a f.a1,a f.a2,a f.a3,a f.a4,a f.a5,a k.a0,a k.a1,a k.a2,a k.a3,a k.a4,a k.a5,a o.a0,a o.a1,a o.a2,a o.a3,a o.a4,a o.a5,d m (dS p l).bk,d ew.bu (dS p l).bj],b]).bi J))) (by kernel_rfl) ?_;simp only[vcs];have Z:jd p l≠0->gz p l=BA:=λh=>by simp_all[gz]
 refine⟨λh=>?_,λh=>?_⟩
 ·have e:jd p l=nW p:=by simp_all[jd]
  rw[Z (by omega),e];exact⟨rfl,rfl⟩
 ·have hc:nW p=0:=γc.1 h;have P:=cT hc;have e:jd p l=if dW p l=true then 0 else 4:=by simp_all[jd]
  refine⟨⟨by omega,by omega,by simp⟩,?_⟩;rintro⟨i,U⟩ ⟨⟨N,i1⟩,⟨Y,V⟩,q⟩;simp only at N i1 Y V q ⊢;have F:dW p l=false->jd p l=4/\gz p l=BA:=λhb=>by
   simp_all
  refine⟨λA=>?_,λa6=>?_⟩
  ·rw[qs (d:=0) N A] at q;generalize S:bN l i.toNat 0=x at q ⊢;simp only[dz] at q;refine⟨N,A,by omega,λR=>?_,λR=>⟨λh2=>?_,λh2=>?_⟩⟩
   ·rw[if_pos (.inl R)] at q;obtain⟨O,Q⟩:=F q;rw[Q,O];exact⟨rfl,rfl⟩
   ·rw[if_pos (.inr (by omega))] at q;obtain⟨O,Q⟩:=F q;rw[Q,O];exact⟨rfl,rfl⟩
   ·rw[if_neg (by omega),Option.isSome_map] at q;have:=P.2.1;grind
  ·rw[show i.toNat=l.length from by omega,List.drop_length] at q;have E:dW p l=true:=q;rw[E] at e;have e0:jd p l=0:=e;have X:gz p l=dS p l:=by simp_all[gz]
   have ha:=zm (by omega) E;rw[X,e0];have W:=EZ (n:=p.bj.length) (a:=0) (by omega) ha.1 (λx S=>by grind);exact⟨⟨λx S=>by grind,by have:=P.2.1;omega,by have:=P.1;omega⟩,rfl,rfl⟩
open Go.Maps Go.RowKit Go.Proofs Go.ChangeShapes
def fE (l:List Int) (k:Nat) (x:Int):List Int:=(bP k).filter λi=>decide (bN l i.toNat 0=x)
theorem Q8 {l:List Int} {k:Nat} {x:Int}:fE l (k+1) x=if bN l k 0=x then fE l k x++[(k:Int)] else fE l k x:=by
 grind[fE,ob]
def lX (H:Type) (l:List Int):Nat->DataW H
 |0=> .map []
 |k+1=>(lX H l k).put (.int .i64 (bN l k 0)) (.slice (lits .i64 (fE l k (bN l k 0)++[(k:Int)])) [])
theorem JG {H:Type} {l:List Int}:∀{k:Nat},Go.Maps.IsMap (lX H l k)
 |0=>isMap_empty
 |k+1=>JG.put _ _
theorem B7 {H:Type} {l:List Int} {x:Int}:∀{k:Nat} (z:DataW H),(lX H l k).atKey (.int .i64 x) z=if fE l k x=[] then z else .slice (lits .i64 (fE l k x)) []
 |0,z=>by grind[lX,fE,bP,DataW.atKey];|k+1,z=>by
  rw[lX,Q8];by_cases h:bN l k 0=x
  ·subst h;rw[atKey_put_same JG (by simp[WideAt.IsKeyLit]),if_pos rfl,if_neg (by simp)]
  ·rw[atKey_put_other (by grind),if_neg h];exact B7 z
theorem JF {H:Type} {l:List Int} {x:Int} {k:Nat}:ζ7 (lX H l k) (.int .i64 x)=decide (fE l k x≠[]):=by
 by_cases h:fE l k x=[];all_goals simp_all[has_false_of_atKey,B7,has_true_of_atKey]
theorem Q7 {H:Type} {w:World} {base:Nat} {e:TypeId} {v:Value} {zs l:List Int} {k:Nat} (ho:w.ownsInts base e .i64 v zs)
  (hat:(lX H l k).atKey (.int .i64 (bN l k 0)) .nil=rowDatum .i64 v zs):zs=fE l k (bN l k 0):=by
 rw[B7] at hat;rcases ho.datum (H:=H) with⟨h1,rfl⟩|h1<;>rw[h1] at hat
 ·split at hat;·rename_i h;exact h.symm
  ·cases hat
 ·split at hat;·cases hat
  ·injection hat with hat;have hinj:∀{a b:List Int},lits (H:=H) .i64 a=lits .i64 b->a=b:=by
    intro a;induction a with
    |nil=>intro b h;cases b with|nil=>rfl|cons y b=>simp[lits] at h
    |cons x a ih=>
     intro b h;cases b with
     |nil=>simp[lits] at h;|cons y b=>
      simp[lits] at h ih;rw[h.1,ih h.2]
   exact(hinj hat).symm
theorem JE {l:List Int} {n:Nat} {x i:Int}:i∈fE l n x↔(0<=i/\i<n)/\bN l i.toNat 0=x:=by
 unfold fE bP;grind
theorem Q6 {l:List Int} {n:Nat} {x:Int}:(fE l n x).Pairwise (·<·):=pD.sublist γS
def dU (l:List Int) (n:Nat):List Int:=(bP n).filter λf=>decide ((fE l n (bN l f.toNat 0)).head?=some f)
theorem CO {l:List Int} {n:Nat}:(dU l n).Pairwise (·<·):=pD.sublist γS
theorem B6 {l:List Int} {n:Nat} {f:Int}:f∈dU l n↔(fE l n (bN l f.toNat 0)).head?=some f:=by
 unfold dU;rw[List.mem_filter];constructor;·simp_all
 ·intro h;refine⟨?_,decide_eq_true h⟩;have:=(JE.1 (List.mem_of_mem_head? h)).1;grind[bP]
theorem Q4 {l:List Int} {n:Nat} {x:Int} (h:fE l n x≠[]):∃f t,fE l n x=f::t/\f∈dU l n/\bN l f.toNat 0=x:=by
 cases e:fE l n x with
 |nil=>exact absurd e h;|cons f t=>
  have hf:=(JE.1 (show f∈fE l n x by rw[e];exact γZ)).2;exact⟨f,t,rfl,B6.2 (by rw[hf,e];rfl),hf⟩
theorem Q3 {l:List Int} {n:Nat} {f g:Int} (b:f∈dU l n) (a:g∈dU l n) (h:bN l f.toNat 0=bN l g.toNat 0):f=g:=by
 grind[B6]
theorem Q2 {hs l:List Int} (hn:hs.Nodup) (hl:l.Pairwise (·<·)) (hm:∀x,x∈hs↔x∈l):(hs.mergeSort λx y=>decide (x<=y))=l:=by
 have hp:hs.Perm l:=(γ6 hn (hl.imp λh=>Int.ne_of_lt h)).2 hm;have h1:=δ7 (le:=λx y:Int=>decide (x<=y)) (λa b c=>by simp;omega) (λa b=>by simp;omega) hs;exact εD (le:=λx y:Int=>x<=y) (λa b _ _ h h'=>by omega) (h1.imp λh=>by simpa using h) (hl.imp λh=>γg h) ((δx _ _).trans hp)
theorem Q1 {p:cj}:bE p=(dU (kF p) p.bj.length).map λf=>fE (kF p) p.bj.length (bN (kF p) f.toNat 0):=by
 unfold bE;have e:∀f,mu p f=fE (kF p) p.bj.length (bN (kF p) f.toNat 0):=λf=>rfl;have h:(bP p.bj.length).filter (mr p)=dU (kF p) p.bj.length:=by
  unfold dU;refine List.filter_congr λf hf=>?_;obtain⟨h0,h1⟩:=iF.1 hf;rw[<-e f];have hin:f∈mu p f:=xd.2 ⟨⟨h0,h1⟩,rfl⟩;have hasc:(mu p f).Pairwise (·<·):=Q6;cases hc:mu p f with
  |nil=>rw[hc] at hin;cases hin;|cons g t=>
   rw[hc] at hasc;have hg:=xd.1 (show g∈mu p f by rw[hc];exact γZ);by_cases hfg:g=f
   ·subst hfg;rw[List.head?_cons];have:mr p g=true:=(uT h0).2 λj a b c=>by
     have hj:j∈mu p g:=xd.2 ⟨⟨a,by omega⟩,c⟩;rw[hc] at hj;rcases γw.1 hj with rfl|hj;·omega
     ·have:=ζl hasc hj;omega
    simp[this]
   ·have hlt:g<f:=by
     rw[hc] at hin;rcases γw.1 hin with rfl|hj;·exact absurd rfl hfg
     ·exact ζl hasc hj
    have:¬mr p f=true:=λhb=>(uT h0).1 hb g hg.1.1 hlt hg.2;simp only[Bool.not_eq_true] at this;simp[this,hfg]
 rw[h];exact List.map_congr_left λf _=>e f
open Go.Maps Go.RowKit Go.Proofs Go.ChangeShapes
theorem Q0 {l:List Int} {n:Nat} {f:Int} (h:f∈dU l n):0<=f/\f<n:=by
 grind[dU,iF]
structure uP (O:Value->List Int->Prop) (l:List Int) (n:Nat) (D:DataW Unit) (left:Lit->Bool) (cnt:Nat) (hs:List (Int×Value)):Prop where
 d:(hs.map εn).Nodup
 i:∀h∈hs,h.1∈dU l n/\O h.2 (fE l n (bN l h.1.toNat 0))/\left (.int .i64 (bN l h.1.toNat 0))=false
 a:∀f∈dU l n,left (.int .i64 (bN l f.toNat 0))=false->∃h∈hs,h.1=f
 c:hs.length+cnt<=n
 h:∀kl,left kl=true->ζ7 D kl=true
theorem JD (a b:Int):(Lit.int .i64 a).sameKey (.int .i64 b)=decide (a=b):=by simp[Lit.sameKey]
theorem uP.step {O:Value->List Int->Prop} {l:List Int} {n:Nat} {D:DataW Unit} {e:Lit->Bool} {o:Nat} {x:List (Int×Value)} (h:uP O l n D e o x) {f:Int} {v:Value} (A:f∈dU l n)
  (I:O v (fE l n (bN l f.toNat 0))) (s:e (.int .i64 (bN l f.toNat 0))=true) {k:Nat} (J:k<o):
  uP O l n D (λz=>e z&&!z.sameKey (.int .i64 (bN l f.toNat 0))) k (x++[(f,v)]):=by
 refine⟨?_,?_,?_,?_,?_⟩
 ·rw[γa,List.nodup_append];refine⟨h.d,by simp,?_⟩;intro a B b u p;simp at u;subst u;subst p;obtain⟨q,E,rfl⟩:=Ω.1 B;rw[(h.i _ E).2.2] at s;cases s
 ·intro y m;rcases List.mem_append.1 m with m|m
  ·obtain⟨K,H,G⟩:=h.i y m;simp_all
  grind[JD]
 ·intro g w j;rw[JD] at j;by_cases t:bN l g.toNat 0=bN l f.toNat 0;·exact⟨(f,v),by simp,(Q3 w A t).symm⟩
  ·rw[decide_eq_false t] at j;simp at j;obtain⟨y,m,F⟩:=h.a g w j;grind
 ·have:=h.c;grind
 ·intro C r;simp only[θ] at r;exact h.h C r.1
def lg (hs:List (Int×Value)) (f:Int):Value:=((hs.find? λh=>decide (h.1=f)).map ζ4).getD (.slice none 0 0)
theorem JC {a:List (Int×Value)} (b:(a.map εn).Nodup) {q:Int×Value} (c:q∈a):lg a q.1=q.2:=by
 unfold lg;induction a<;>grind
theorem QZ {a:List (Int×Value)} (b:(a.map εn).Nodup):(a.map εn).map (lg a)=a.map ζ4:=by
 simp_all[JC]
theorem uP.done {O:Value->List Int->Prop} {l:List Int} {n:Nat} {D:DataW Unit} {b:Lit->Bool} {j:Nat} {e:List (Int×Value)} (h:uP O l n D b j e) (m:∀o,b o=false):
  (∀f,f∈e.map εn↔f∈dU l n)/\(∀f∈dU l n,O (lg e f) (fE l n (bN l f.toNat 0)))/\((e.map εn).mergeSort λx y=>decide (x<=y))=dU l n:=by
 have k:∀f,f∈e.map εn↔f∈dU l n:=λf=>by
  constructor
  ·intro c;obtain⟨q,g,rfl⟩:=Ω.1 c;exact(h.i q g).1
  ·intro c;obtain⟨q,g,rfl⟩:=h.a f c (m _);grind
 refine⟨k,λf c=>?_,Q2 h.d CO k⟩;obtain⟨q,g,rfl⟩:=Ω.1 ((k f).2 c);rw[JC h.d g];exact(h.i q g).2.1
theorem QY {H:Type} {w:World} {base:Nat} {e:TypeId} {v:Value} {zs l:List Int} {k:Nat} {x:Int} (ho:w.ownsInts base e .i64 v zs)
  (hat:(lX H l k).atKey (.int .i64 x) .nil=rowDatum .i64 v zs):zs=fE l k x:=by
 rw[B7] at hat;rcases ho.datum (H:=H) with⟨h1,rfl⟩|h1<;>rw[h1] at hat
 ·split at hat;·rename_i h;exact h.symm
  ·cases hat
 ·split at hat;·cases hat
  ·injection hat with hat;have hinj:∀{a b:List Int},lits (H:=H) .i64 a=lits .i64 b->a=b:=by
    intro a;induction a with
    |nil=>intro b h;cases b with|nil=>rfl|cons y b=>simp[lits] at h
    |cons x a ih=>
     intro b h;cases b with
     |nil=>simp[lits] at h;|cons y b=>
      simp[lits] at h ih;rw[h.1,ih h.2]
   exact(hinj hat).symm
end Go.Vi
namespace Go.Proofs
open Go.RowKit Go.Maps Go.Vi Go.ChangeShapes
theorem QX:(Tryz.prog.info? 3).map (λi=>(i.zero,i.size,i.bytes))=some (some (.int .i64 0),1,8):=by kernel_rfl
theorem QW:(Tryz.prog.info? 24).map (λi=>(i.zero,i.size,i.bytes))=some (some (.slice none 0 0),1,24):=by kernel_rfl
theorem QV (w:World):(zeroValue 24).run Tryz.prog w= .ok (.slice none 0 0) w:=by kernel_rfl
theorem CN:Keyed Tryz.prog 3:=int_keyed Tryz.underlying3
open Go.Shelf Go.Sort Go.Lib
theorem QU (f c:Nat) (b i d g:Nat) (x y:Int) (W:World) (o:0<b) (l:0<d) (n:W.cell? ⟨f,0,none⟩=some (.int .i64 x)) (j:W.cell? ⟨c,0,none⟩=some (.int .i64 y)) (k:0<=x/\x<256) (m:0<=y/\y<256):
  Calls Tryz.prog 51 #[.slice (some ⟨f,0,none⟩) b i,.slice (some ⟨c,0,none⟩) d g] W λe h=>e= .returned (.int .i64 (x - y))/\∃q a,h=grow (W.drewN q) a:=by
 go_enter Tryz.func51,Tryz.ntmps51;go_wp2;go_quiet (fail);go_wp2;go_ret;exact⟨rfl,nq,#[],by simp_all⟩
theorem QT {b:Type} [Inhabited b] {enc:b->Value} {w:World} {g:Nat} {a:Array Value} {e:TypeId} {d:Array b} (i:w.heap[g]?=some (.cells a e (0,0))) (h:a.toList.take d.size=d.toList.map enc):Sort.Holds enc w g 0 d:=by
 intro j c;refine⟨?_,by grind[World.frozen?]⟩;have f:(a.toList.take d.size)[j]?=(d.toList.map enc)[j]?:=by rw[h]
 rw[δB c] at f;simp_all[World.cell?]
theorem QS {w:World} {B:Nat} {v:Value} {x:Int} {tl:List Int} (h:w.ownsInts B 3 .i64 v (x::tl)):
  ∃(g n cap:Nat),v= .slice (some ⟨g,0,none⟩) n cap/\0<n/\g<w.heap.size/\B<=g/\w.cell? ⟨g,0,none⟩=some (.int .i64 x):=by
 obtain⟨hr,_⟩:=h;have hr2:=hr;rcases hr.2 with⟨_,h0⟩|⟨g,cap,cur,rfl,hgb,hgg,q1,q2,q3,q4⟩;·simp at h0
 ·refine⟨g,_,cap,rfl,by simp,(γA.1 hgg).1,hgb,?_⟩;rw[World.ownsRow.cellAt hr2 0 (by simp)];simp
theorem JB {d:Type} [Inhabited d] (enc:d->Value) (W:World) (b c n:Nat) (e:Array d) (os:Array Obj) (a:Addr) (f:a.block≠b) (g:a.block<W.heap.size):(sortWorld enc W b c n e os).cell? a=W.cell? a:=by
 unfold sortWorld;rw[cell?_grow _ _ _ (by simp_all),cell?_putRow_other _ _ b c e _ (Or.inl f)];rfl
theorem QR {b:Type} [Inhabited b] (enc:b->Value) {w:World} {g n:Nat} {os:Array Obj} {a:Array Value} {e:TypeId} {c:Nat×Nat} (d:Array b) (f:w.heap[g]?=some (.cells a e c)):
  (sortWorld enc w g 0 n d os).heap[g]?=some (.cells (putCells enc 0 d a) e c):=by
 grind[sortWorld,heap_grow_old,putRow,mapBlock,Sort.ahead,onCells]
theorem QQ {a:Type} [Inhabited a] (enc:a->Value) {w:World} {g n:Nat} {os:Array Obj} (d:Array a):w.grownBy (sortWorld enc w g 0 n d os) (some g):=by
 unfold sortWorld;refine⟨rfl,rfl,rfl,by simp_all,λk c b=>?_⟩;grind[heap_grow_old,putRow,mapBlock,Sort.ahead]
theorem QP {b:Type} [Inhabited b] (enc:b->Value) (a:Array Value) (d:Array b) (h:d.size<=a.size):(putCells enc 0 d a).toList.take d.size=d.toList.map enc:=by
 apply List.ext_getElem?;grind[putCells]
abbrev Hd (l:List Int) (n:Nat):={f:Int //f∈dU l n}
def om {l:List Int} {n:Nat} (x y:Hd l n):Int:=x.val - y.val
theorem sZ {l:List Int} {n:Nat} (x y:Hd l n):ltOf om x y=decide (x.val<y.val):=by
 grind[ltOf,om]
theorem QO {l:List Int} {n:Nat}:SWO (ltOf (om (l:=l) (n:=n))) where
 irrefl x:=by grind[sZ]
 trans x y z a b:=by grind[sZ]
 ntrans x y z a b:=by grind[sZ]
theorem QN {l:List Int} {n:Nat} (c:List (Hd l n)) (m:∀f,f∈c.map εP↔f∈dU l n) (i:(c.map εP).Nodup):(c.mergeSort λx y=>!ltOf om y x).map εP=dU l n:=by
 have e:=δx c λx y=>!ltOf om y x;have d:=δ7 (le:=λx y=>!ltOf (om (l:=l) (n:=n)) y x) (λx y z g o=>by grind[sZ]) (λx y=>by grind[sZ]) c;have j:(c.mergeSort λx y=>!ltOf om y x).Pairwise λx y=>x.val<=y.val:=d.imp λ{x y} h=>by grind[sZ]
 have g:((c.mergeSort λx y=>!ltOf om y x).map εP).Pairwise (·<=·):=by
  grind
 have k:(dU l n).Perm (c.map εP):=(γ6 (CO.imp λh=>Int.ne_of_lt h) i).2 λf=>(m f).symm;exact εD (le:=λx y:Int=>x<=y) (λa b _ _ h p=>by omega) g (CO.imp λh=>γg h) ((e.map _).trans k.symm)
def QM (w':World) (B:Nat) (l:List Int) (n:Nat) (e:Ending):Prop:=
 (e= .returned (.slice none 0 0)/\dU l n=[])\/∃(g cap:Nat) (cur:Array Value) (sv:Int->Value),e= .returned (.slice (some ⟨g,0,none⟩) (dU l n).length cap)/\B<=g/\w'.heap[g]?=some (.cells cur 24 (0,0))/\(dU l n).length<=cap/\cap<=maxLen/\
  cur.size=cap*1/\cur.toList.take (dU l n).length=(dU l n).map sv/\∀f∈dU l n,w'.ownsInts B 3 .i64 (sv f) (fE l n (bN l f.toNat 0))
theorem JA {P:Program} {e:Array Oper} {c:Oper} {a:Act} {w:World} {K:Act->Prop} (f:TypeId) (x:Operand) (p:Addr) (b:List Value) (d:Array Field) (k:∀j v,b[j]?=some v->w.cell? (p.add j)=some v)
  (o:P.underlying f=some (.struct d)) (r:(P.info? f).map (·.size)=some b.length) (m:c.op= .load f x) (l:a.eval x= .pointer (some p)) (n:Region.wanted c (yielded e a.tmps)=true)
  (h:K (a.put c.dst (.agg b.toArray))):if Region.wanted c (yielded e a.tmps) then c.still P a w K else K (a.put c.dst undef):=by
 have g:(loadVar f p).run P w= .ok (.agg b.toArray) w:=by
  have g:(loadCells p b.length).run P w= .ok b.toArray w:=run_loadCells_list (P:=P) w p b k;cases q:P.info? f with
  |none=>simp_all;|some i=>
   simp_all[isAgg,run_underlying,loadVar,sizeOf,typeInfo]
 rw[if_pos n];unfold Oper.still execOp;simp only[m,l,Instr.loadAt,Instr.sureAddr,Sem.run_bind,Sem.run_pure,Result.andThen_ok,g];exact⟨rfl,h⟩
def Jz (v:Fin 8->Value):Value:=.agg #[v 0,v 1,v 2,v 3,v 4,v 5,v 6,v 7]
theorem cY (q:Addr) (m:Nat):(q.add m).block=q.block:=by grind[Addr.add]
theorem QL {w:World} {B g n c d:Nat} {e:TypeId} {xs:List Value} (h:w.ownsRow B e d (.slice (some ⟨g,0,none⟩) n c) n xs):B<=g:=by
 rcases h.2 with⟨b,_⟩|⟨j,a,f,b,i,_⟩<;>simp_all
theorem xb {w:World} {B g n c:Nat} {l:List Int} {j:Nat} (h:w.ownsInts B 3 .i64 (.slice (some ⟨g,0,none⟩) n c) l) (b:l.length=n) (d:j<n):w.cell? ⟨g,j,none⟩=some (.int .i64 (bN l j 0)):=by
 have a:=h.1;rw[b] at a;rw[World.ownsRow.cellAt a j (by omega)];grind[bN]
theorem QK {w:World} {b f:Nat} {e:TypeId} {a:Nat} {v:Value} {n:Nat} {xs:List Value} (h:w.ownsRow b e a v n xs) (o:f<=b):w.ownsRow f e a v n xs:=by
 obtain⟨i,l⟩:=h;refine⟨i,l.imp id ?_⟩;rintro⟨g,c,d,m,k,j⟩;exact⟨g,c,d,m,δ1 o k,j⟩
theorem J0 {w b:World} {B g n c S:Nat} {l:List Int} (h:w.ownsInts B 3 .i64 (.slice (some ⟨g,0,none⟩) n c) l) (a:Below S w b) (d:w.heap.size=S):b.ownsInts B 3 .i64 (.slice (some ⟨g,0,none⟩) n c) l:=by
 subst d;exact World.ownsInts.kept (row:=none) h ⟨a.os,a.tape,a.output,a.size,λk e _=>a.block k e⟩ (.inr (by simp[Value.ownBlock]))
theorem QJ {w:World} {B g n a:Nat} {l:List Int} (h:w.ownsInts (B+1) 3 .i64 (.slice (some ⟨g,0,none⟩) n a) l) (c:l.length=n) (b:0<n):B<w.heap.size:=by
 have:=h.1.lt g (by simp[Value.ownBlock]);omega
def oO (x y:Int) (l:List Int) (i:Nat):List Int:=(l.take i).map (λz=>if z=x then y else z)++l.drop i
theorem CM {x y:Int} {l:List Int} {i:Nat}:(oO x y l i).length=l.length:=by grind[oO]
theorem QI {x y:Int} {l:List Int} {i:Nat} (h:i<l.length):oO x y l (i+1)=if l[i]=x then(oO x y l i).set i y else oO x y l i:=by
 have a:l.take (i+1)=l.take i++[l[i]]:=γ1 h;have b:l.drop i=l[i]::l.drop (i+1):=List.drop_eq_getElem_cons h;have c:((l.take i).map λz=>if z=x then y else z).length=i:=by simp;omega
 unfold oO;rw[a,γa,γC,b];split<;>simp_all
theorem Rb (g n w:Nat) (l:List Int) (F:l.length=n) (N:n<=60) (x y:Int) (E:(Lit.int .i64 y).wf=true) (Q:∀z∈l,(Lit.int .i64 z).wf=true) (W:World) (A:g<W.heap.size)
  (G:∀j (h:j<l.length),W.cell? ⟨g,j,none⟩=some (.int .i64 l[j]))
  (p:Calls Tryz.prog 52 #[.slice (some ⟨g,0,none⟩) n w] W λe f=>∃c a,e= .returned (.slice (some ⟨c,0,none⟩) n a)/\f.ownsInts W.heap.size 3 .i64 (.slice (some ⟨c,0,none⟩) n a) l/\Below W.heap.size W f):
  Calls Tryz.prog 49 #[.slice (some ⟨g,0,none⟩) n w,.int .i64 x,.int .i64 y] W λe f=>∃c a,e= .returned (.slice (some ⟨c,0,none⟩) n a)/\f.ownsInts W.heap.size 3 .i64 (.slice (some ⟨c,0,none⟩) n a) (oO x y l n)/\Below W.heap.size W f:=by
 go_enter Tryz.func49,Tryz.ntmps49;go_wp2_with (go_at_call 52;refine p.mono ?_;rintro e f ⟨c,a,rfl,B,L⟩);go_loopw [14] (λi v=>∃k:Nat,k<=n/\i= .int .i64 k/\v.ownsInts W.heap.size 3 .i64 (.slice (some ⟨c,0,none⟩) n a) (oO x y l k)/\Below W.heap.size W v)
  (λi _=>n - (intOf i).toNat);case atStart=>grind[oO]
 case round=>
  obtain⟨k,O,rfl,q,o⟩:=hrel;by_cases I:k<n
  ·have H:wr.cell? ⟨g,k,none⟩=some (.int .i64 (l[k]'(by omega))):=(o.cell (by exact A)).trans (G k (by omega));have d:=@QI x y l k (by omega);by_cases t:l[k]'(by omega)=x
   ·rw[if_pos t] at d;have b:=q.1;rw[CM,F] at b;obtain⟨C,K⟩:=b.stored k (.int .i64 y);have D:=b.frozenAt k;have r:=b.cellAt k (by omega);rw[γF,μ (by grind[CM])] at r;go_wp2;have s:W.heap.size<=c:=by
     rcases b.2 with⟨M,_⟩|⟨R,u,J,M,P,_⟩<;>simp_all
    refine⟨⟨k+1,by omega,by simp,⟨?_,?_⟩,o.setCell (by exact s) _⟩,by simp[intOf];omega⟩;·simp_all[CM]
    ·intro z m;rw[d] at m;rcases δl m with m|rfl;·exact q.2 z m
     ·exact E
   ·rw[if_neg t] at d;go_wp2;grind[intOf]
  ·obtain rfl:k=n:=by omega
   go_wp2;go_ret;exact⟨c,a,rfl,q,o⟩
theorem Ra (x0 x1 x2 x3 x4 x5 x6 x7 x8 x9 x10 x11 x12 x13 x14 x15 x16 x17 x18:Value) (a:Option Addr) (n cap:Nat) (hn:n<=60) (nm:Nat->List Int) (hnm:∀k,(nm k).length=n) (aXJ:nm 0=δ n 0) (hwf:∀k,k<=n->∀x∈nm k,(Lit.int .i64 x).wf=true)
  (nk:Nat->Nat->List Int) (hnk:∀k j,(nk k j).length=n) (hwk:∀k j,k<n->∀x∈nk k j,(Lit.int .i64 x).wf=true) (aY1:∀k,k<n->nk k 0=(nm k).set k (k:Int)) (aXK:∀k,k<n->nk k k=nm (k+1))
  (cn:Nat->Nat->Bool) (aM1:∀k j,k<n->j<k->nk k (j+1)=if cn k j=true then oP (nk k j) (bN (nk k j) j 0) (bN (nk k j) k 0) else nk k j)
  (ov:Nat->Fin 8->Value) (w:World)
  (hoc:∀i,i<n->∃q,a=some q/\q.block<w.heap.size/\∀j:Fin 8,w.cell? ((q.add (i*8)).add j)=some (ov i j))
  (hcon:∀i j,i<n->j<n->∀W,Calls Tryz.prog 48 #[Jz (ov i),Jz (ov j)] W λe w'=>e= .returned (.bool (cn i j))/\Below W.heap.size W w')
  (aXL:∀(W:World) (B g cp:Nat) (l:List Int),l.length=n->W.ownsInts B 3 .i64 (.slice (some ⟨g,0,none⟩) n cp) l->∀x y,(Lit.int .i64 y).wf=true->Calls Tryz.prog 49 #[.slice (some ⟨g,0,none⟩) n cp,.int .i64 x,.int .i64 y] W λe w'=>
   ∃g2 cp2,e= .returned (.slice (some ⟨g2,0,none⟩) n cp2)/\w'.ownsInts W.heap.size 3 .i64 (.slice (some ⟨g2,0,none⟩) n cp2) (oP l x y)/\Below W.heap.size W w'):
  Calls Tryz.prog 29 #[.agg #[x0,x1,x2,x3,x4,x5,x6,x7,x8,x9,x10,x11,x12,x13,x14,x15,x16,x17,x18,.slice a n cap]] w λe w'=>∃B,w.heap.size<=B/\QM w' B (nm n) n e/\Below w.heap.size w w':=by
 have hmm:=@run_makeMap Tryz.prog;obtain⟨i0,hi,hz0,hz1,hz2⟩:=info_parts QX;go_enter Tryz.func29,Tryz.ntmps29;go_wp2_with (first
  |(at_make;refine wpList_make_full _ rfl _ _ 24 rfl (w.heap.size+1) 3 i0 (.int .i64 0) 1 Tryz.underlying24 hi hz0 hz1 .i64 .i64 _ _ n rfl rfl rfl rfl (by rw[hz2];omega) (by unfold maxLen;omega) (by simp) ?_;intro w0 hown0 aM2);|go_in);go_loopw [18,3] (λi v wr=>∃(k:Nat) (g:Nat) (cp:Nat),k<=n/\i= .int .i64 k/\v= .slice (some ⟨g,0,none⟩) n cp/\wr.ownsInts (w.heap.size+1) 3 .i64 v (nm k)/\wr.cell? ⟨w.heap.size,19,none⟩=some (.slice a n cap)/\Below w.heap.size w wr)
  (λi _ _=>n - (intOf i).toNat);case atStart=>
  refine⟨0,w.heap.size+1,n,by omega,rfl,rfl,⟨?_,λz hz=>hwf 0 (δ4 _) z hz⟩,?_,((Below.refl _ w).alloc (ξ _) _).grown aM2 (by simp) (by simp_all)⟩;rotate_left
  ·refine(World.cell?_of_block (aM2.block w.heap.size (by simp) (by simp_all))).trans ?_;simp_all
  rw[hnm 0,aXJ];have e1:(madeCells (Value.int IntKind.i64 0).cells (n*1)).toList=(δ n (0:Int)).map (Value.int .i64):=by
   rw[Nat.mul_one,List.map_replicate];exact toList_madeCells_one _ _
  simp_all
 case round=>
  obtain⟨k,g,cp,hk,rfl,rfl,hown,aM3,hnx⟩:=hrel;by_cases hlt:k<n
  ·obtain⟨q,rfl,hqb,_⟩:=hoc k hlt;have asq:=hown.1;rw[hnm k] at asq;obtain⟨hs1,hs2⟩:=asq.stored k (.int .i64 k);have hfr:=asq.frozenAt k;have hce:=asq.cellAt k (by omega);rw[γF,μ (by simp_all)] at hce;go_wp2;have hgb:w.heap.size+1<=g:=QL asq;have hX:(wr.setCell ⟨g,k,none⟩ (.int .i64 k)).ownsInts (w.heap.size+1) 3 .i64 (.slice (some ⟨g,0,none⟩) n cp) (nk k 0):=by
    refine⟨?_,hwk k 0 hlt⟩;simp_all
   have hY:(wr.setCell ⟨g,k,none⟩ (.int .i64 k)).cell? ⟨w.heap.size,19,none⟩=some (.slice (some q) n cap):=by
    rw[<-aM3];exact World.cell?_of_block (Below.heap_setCell _ _ _ _ (by simp;omega))
   have hZ:Below w.heap.size w (wr.setCell ⟨g,k,none⟩ (.int .i64 k)):=hnx.setCell (by simp;omega) _;clear hs1 hs2 hfr hce hown aM3 hnx asq;generalize wr.setCell ⟨g,k,none⟩ (.int .i64 k)=wa at*;go_loopw [26,3] (λi v ws=>∃(j:Nat) (g:Nat) (cp:Nat),j<=k/\i= .int .i64 j/\v= .slice (some ⟨g,0,none⟩) n cp/\ws.ownsInts (w.heap.size+1) 3 .i64 v (nk k j)/\ws.cell? ⟨w.heap.size,19,none⟩=some (.slice (some q) n cap)/\Below w.heap.size w ws)
    (λi _ _=>k - (intOf i).toNat);case atStart=>exact⟨0,g,cp,δ4 _,rfl,rfl,hX,hY,hZ⟩
   case round=>
    obtain⟨j,g2,cp2,hj,rfl,rfl,ho2,hp2,hb2⟩:=hrel;by_cases hjk:j<k
    ·have hcs:∀i,i<n->∀m u,[ov i 0,ov i 1,ov i 2,ov i 3,ov i 4,ov i 5,ov i 6,ov i 7][m]?=some u->wr.cell? ((q.add (i*8)).add m)=some u:=by
      intro i hi m u hu;obtain⟨q',e,_,c⟩:=hoc i hi;injection e with e;subst e;have c0:∀m:Fin 8,wr.cell? ((q.add (i*8)).add m)=some (ov i m):=λm=>(hb2.cell (by simp_all[cY])).trans (c m);match m,hu with
      |0,hu=>cases hu;exact c0 0;|1,hu=>cases hu;exact c0 1;|2,hu=>cases hu;exact c0 2;|3,hu=>cases hu;exact c0 3;|4,hu=>cases hu;exact c0 4;|5,hu=>cases hu;exact c0 5;|6,hu=>cases hu;exact c0 6;|7,hu=>cases hu;exact c0 7;|m+8,hu=>simp at hu
     have hjn:j<n:=by omega
     have aY3:(j:Int)<(n:Int):=by omega
     have hln:=hnk k j;have hoj:wr.cell? ⟨g2,j,none⟩=some (.int .i64 (bN (nk k j) j 0)):=xb ho2 hln (by omega);have hok:wr.cell? ⟨g2,k,none⟩=some (.int .i64 (bN (nk k j) k 0)):=xb ho2 hln (by omega);have hwy:(Lit.int .i64 (bN (nk k j) k 0)).wf=true:=hwk k j hlt _ (by simp[bN,show k<(nk k j).length by omega]);go_wp2;refine wp_region_still_tail 10 (by kernel_rfl) (by kernel_rfl) ?_;simp only[δw,List.take_zero,εw,εq];still_step;still_step;still_step;still_step;refine wpStill_step (λK hK=>?_);refine JA 65 (.tmp 32) (q.add (k*8)) _ _ (hcs k hlt) Tryz.underlying65 (by kernel_rfl) rfl rfl (by rfl) ?_;simp only[Act.put,ζa,δ9,ζe];refine hK _ ?_;clear hK K;still_step;still_step;still_step;still_step;refine wpStill_step (λK hK=>?_);refine JA 65 (.tmp 37) (q.add (j*8)) _ _ (hcs j (by omega)) Tryz.underlying65 (by kernel_rfl) rfl rfl (by rfl) ?_;simp only[Act.put,ζa,δ9,ζe];refine hK _ ?_;clear hK K;refine wpStill_nil ?_;change wpList _ _ _ _ _ wr.drew;have hbd:Below wr.heap.size wr wr.drew:=(Below.refl _ _).drew;have hsd:wr.drew.heap.size=wr.heap.size:=rfl;have ho3:wr.drew.ownsInts (w.heap.size+1) 3 .i64 (.slice (some ⟨g2,0,none⟩) n cp2) (nk k j):=ho2;have hp3:wr.drew.cell? ⟨w.heap.size,19,none⟩=some (.slice (some q) n cap):=hp2;have hb3:Below w.heap.size w wr.drew:=hb2.drew;have hwz:w.heap.size<wr.heap.size:=QJ ho2 hln (by omega);clear hoj hok ho2 hp2 hb2 hcs;generalize wr.drew=wd at*;have hc1:=hcon k j hlt hjn wd;rw[hsd] at hc1;cases hcj:cn k j with
     |false=>
      go_wp2_with (go_at_call 48;refine hc1.mono ?_;rintro e w' ⟨rfl,hb4⟩);have hkS:=aM1 k j hlt hjk;rw[hcj,if_neg (by simp)] at hkS;refine⟨⟨j+1,g2,cp2,by omega,by go_num,rfl,?_,?_,?_⟩,by simp[intOf];omega⟩
      ·rw[hkS];exact J0 ho3 hb4 (by rw[hsd])
      ·rw[<-hp3];exact hb4.cell (by show w.heap.size<_;omega)
      ·exact hb3.trans (hb4.mono (by omega));|true=>
      go_wp2_with (go_at_call 48;refine hc1.mono ?_;rintro e w' ⟨rfl,hb4⟩);have hkS:=aM1 k j hlt hjk;rw[hcj,if_pos rfl] at hkS;have ho4:=J0 ho3 hb4 (by rw[hsd]);have hp4:w'.cell? ⟨w.heap.size,19,none⟩=some (.slice (some q) n cap):=by
       rw[<-hp3];exact hb4.cell (by show w.heap.size<_;omega)
      have hb5:=hb3.trans (hb4.mono (show w.heap.size<=wr.heap.size by omega));have aY4:w.heap.size<w'.heap.size:=γj hwz (by rw[<-hsd];exact hb4.size);have hoj:w'.cell? ⟨g2,j,none⟩=some (.int .i64 (bN (nk k j) j 0)):=xb ho4 hln (by omega);have hok:w'.cell? ⟨g2,k,none⟩=some (.int .i64 (bN (nk k j) k 0)):=xb ho4 hln (by omega);clear ho3 hp3 hb3 hb4 hc1 hsd;refine wp_region_still_tail 9 (by kernel_rfl) (by kernel_rfl) ?_;simp only[δw,List.take_zero,εw,εq];still_step;still_step;still_step;still_step;still_step;still_step;still_step;still_step;still_step;refine wpStill_nil ?_;change wpList _ _ _ _ _ w'.drew;have ho5:w'.drew.ownsInts (w.heap.size+1) 3 .i64 (.slice (some ⟨g2,0,none⟩) n cp2) (nk k j):=ho4;have hp5:w'.drew.cell? ⟨w.heap.size,19,none⟩=some (.slice (some q) n cap):=hp4;have hb6:Below w.heap.size w w'.drew:=hb5.drew;have hsd:w'.drew.heap.size=w'.heap.size:=rfl;clear hoj hok ho4 hp4 hb5;generalize w'.drew=wd2 at*;have hc2:=aXL wd2 _ g2 cp2 (nk k j) hln ho5 (bN (nk k j) j 0) (bN (nk k j) k 0) hwy;go_wp2_with (go_at_call 49;refine hc2.mono ?_;rintro e w'' ⟨g3,cp3,rfl,ho6,hb7⟩);rw[<-hkS] at ho6;refine⟨⟨j+1,g3,cp3,by omega,by go_num,rfl,⟨QK ho6.1 (by omega),ho6.2⟩,?_,?_⟩,by simp[intOf];omega⟩
      ·rw[<-hp5];exact hb7.cell (by show w.heap.size<_;omega)
      ·exact hb6.trans (hb7.mono (by omega))
    ·obtain rfl:j=k:=by omega
     go_wp2;refine⟨⟨j+1,g2,cp2,by omega,by go_num,rfl,by rw[<-aXK j hlt];exact ho2,hp2,hb2⟩,by simp[intOf];omega⟩
  ·obtain rfl:k=n:=by omega
   have hln:=hnm k;have hcl:∀j,j<k->wr.cell? ⟨g,j,none⟩=some (.int .i64 (bN (nm k) j 0)):=by
    intro j hj;have h1:=hown.1;rw[hln] at h1;rw[World.ownsRow.cellAt h1 j (by omega)];simp[bN,show j<(nm k).length by omega]
   have hg:g<wr.heap.size:=by
    rcases hown.1.2 with⟨h0,_⟩|⟨g3,aY5,cur,h0,_,hgg,_⟩;·cases h0
    ·injection h0 with h0;injection h0 with h0;injection h0 with h0;subst h0;exact(γA.1 hgg).1
   generalize hnl:nm k=l at*;generalize wr=w1 at*;go_wp2;go_loopw [55] (λi ws=>∃j:Nat,j<=k/\i= .int .i64 j/\ws.ownsGroups Tryz.prog 3 (w1.heap.size+1) 3 .i64 w1.heap.size j (lX Unit l j)/\Below w1.heap.size w1 ws/\w1.heap.size+1<=ws.heap.size)
    (λi _=>k - (intOf i).toNat);case atStart=>exact⟨0,δ4 _,rfl,World.ownsGroups_made _ _ _ _ _,(Below.refl _ _).alloc (ξ _) _,by simp⟩
   case round=>
    obtain⟨j,hj,rfl,hgr,hbl,hws⟩:=hrel;have hcx:j<k->wr.cell? ⟨g,j,none⟩=some (.int .i64 (bN l j 0)):=λh=>(hbl.cell (by exact hg)).trans (hcl j h);have hkey:j<k->keyOf Tryz.prog 3 (.int .i64 (bN l j 0))=some (.int .i64 (bN l j 0)):=λh=>keyOf_int_mk Tryz.underlying3 (hwf k (ξ _) _ (by rw[hnl];simp[bN,show j<l.length by omega]));by_cases hjk:j<k
    ·replace hcx:=hcx hjk;replace hkey:=hkey hjk;go_wp2_with (first
      |(at_lookup;refine wpList_lookup_groups _ rfl _ _ 94 rfl 3 24 3 .i64 CN Tryz.underlying94 (QV _) (w1.heap.size+1) w1.heap.size j _ rfl hgr (by unfold maxLen;omega) _ _ rfl hkey ?_;intro v zs hat hoi hzl hback);|(at_builtin;refine wpList_append_own_at _ rfl _ _ 24 rfl (w1.heap.size+1) 3 i0 (.int .i64 0) 1 8 Tryz.underlying24 hi hz0 hz1 hz2 rfl (by decide) _ _ _ rfl (hoi.1.alloc _) ⟨wr.heap.size,0,none⟩ 1 1 [.int .i64 j] rfl rfl (cell_one_new _ _ _) (ints_oneCell .i64 [(j:Int)]) (by unfold maxLen;omega) (by omega) (by simp;omega) ?_;intro v' w2 hown' hgrow hnil hloc);|(at_mapUpdate;refine wpList_mapUpdate_back _ rfl _ _ _ 94 rfl hback rfl rfl rfl ((World.grownBy_alloc _ _ _).trans hgrow) (hoi.appended hown' (WalkArith.wf_i64 (by omega))) (by simp;omega) (hloc.imp id (λh=>⟨_,h,by simp⟩)) ?_;intro w3 hown3 hgrow3);|go_in);have hall:=(World.grownBy_alloc wr _ _).trans hgrow;go_roundw;case rel=>
      refine⟨j+1,by omega,by go_num,?_,hbl.groups hoi hall hgrow3 hbl.size (Nat.le_succ _) (ξ _),δ1 hws (δ1 hall.size hgrow3.size)⟩;have hz:=Q7 hoi hat;rw[lX,<-hz,<-(hoi.appended hown' (WalkArith.wf_i64 (by omega))).datum_pos (by simp)];exact hown3
     case measure=>simp[intOf];omega
    ·obtain rfl:j=k:=by omega
     have hmap:wr.ownsMap Tryz.prog 3 (rowElem wr (w1.heap.size+1) 3 .i64) w1.heap.size j (lX Unit l j):=by
      obtain⟨es,ck,h1,h2,h3,h4,h5,h6,h7⟩:=hgr;exact⟨es,ck,h1,h2,h3,h4⟩
     generalize wr=w4 at*;go_wp2_with (first
      |(at_range;refine wpList_range_own _ rfl _ 94 rfl 3 24 CN Tryz.underlying94 _ w1.heap.size j _ rfl hmap ?_;intro w5 hrg0 hg0 hs0);|go_in);go_frame;go_loopw [9] (λu ws=>∃(left:Lit->Bool) (cnt:Nat) (hs:List (Int×Value)),ws.ranges Tryz.prog 3 (rowElem w4 (w1.heap.size+1) 3 .i64) w1.heap.size w4.heap.size j (lX Unit l j) left cnt/\
       ws.ownsRow (w4.heap.size+1) 24 1 u hs.length (hs.map ζ4)/\uP (λv zs=>w4.ownsInts (w1.heap.size+1) 3 .i64 v zs) l j (lX Unit l j) left cnt hs/\
       w4.heap.size+1<=ws.heap.size/\Below w4.heap.size w4 ws)
      (λ_ ws=>ws.rangeLeft w1.heap.size w4.heap.size);case atStart=>
      refine⟨ζ7 (lX Unit l j),Go.Maps.size (lX Unit l j),[],hrg0,⟨by simp,.inl ⟨rfl,rfl⟩⟩,⟨List.nodup_nil,by simp,?_,?_,λ_ h=>h⟩,by omega,(Below.refl _ w4).grown hg0 (ξ _) (by intro k hk;cases hk)⟩
      ·intro f hf hl;rw[JF] at hl;have h2:=B6.1 hf;simp at hl;rw[hl] at h2;cases h2
      ·have:=hmap.size_le;simp;omega
     case round=>
      obtain⟨left,cnt,hs,hrg,hrow,hse,hsz,hbe⟩:=hrel;go_wp2_with (first
       |(at_next;refine wpList_next_ranges _ rfl _ rfl 3 CN (rowElem w4 (w1.heap.size+1) 3 .i64) (Value.int .i64) (λc:Option Addr×Nat×Nat=>Value.slice c.1 c.2.1 c.2.2) (λkey kl hkey=>by obtain⟨x,rfl,_⟩:=Maps.keyOf_int_inv Tryz.underlying3 hkey;exact⟨x,rfl⟩) (λv y hv=>by
        obtain⟨zs,ho,_⟩:=rowElem_inv hv;obtain⟨_,h|⟨g,cp,_,h,_⟩⟩:=ho.1;·exact⟨(none,0,0),h.1⟩
        ·exact⟨(some ⟨g,0,none⟩,zs.length,cp),h⟩) w1.heap.size w4.heap.size j _ _ _ rfl hrg ?_ ?_);|go_in)
      ·intro hc0 hl0;have eg:∀args w,(callFunc 51 args).run Tryz.prog w= .ok (.enter 51 args) w:=enters_of Tryz.func51 (by kernel_rfl) rfl;obtain⟨hmem,hO,hsrt⟩:=hse.done hl0;have hhs:hs.length<=60:=by have:=hse.c;omega
       rcases hrow.2 with⟨rfl,hn0⟩|⟨g2,cap2,cur,rfl,hgb,hgg,q1,q2,q3,q4⟩
       ·have amh:=AnyF.slices_SortFunc_none {Tryz.tU with} none 0 (.func (.func 51) #[] #[]) wr;change Calls Tryz.prog 50 _ _ _ at amh;go_wp2_with (go_at_call 50;refine amh.mono ?_;rintro e w' ⟨rfl,rfl⟩);go_ret;refine⟨w1.heap.size+1,ζu hnx.size,.inl ⟨rfl,?_⟩,hnx.trans ((hbl.trans (hbe.mono (by omega))).mono hnx.size)⟩;rw[hnl,δ2];intro f hf;have hf2:=(hmem f).2 hf;rw[τ hn0] at hf2;cases hf2
       ·by_cases hne:hs=[]
        ·subst hne;have amh:=AnyF.slices_SortFunc_none {Tryz.tU with} (some ⟨g2,0,none⟩) cap2 (.func (.func 51) #[] #[]) wr;change Calls Tryz.prog 50 _ _ _ at amh;go_wp2_with (go_at_call 50;refine amh.mono ?_;rintro e w' ⟨rfl,rfl⟩);go_ret;have h0:dU l j=[]:=by
          rw[δ2];intro f hf;have hf2:=(hmem f).2 hf;cases hf2
         refine⟨w1.heap.size+1,ζu hnx.size,?_,hnx.trans ((hbl.trans (hbe.mono (by omega))).mono hnx.size)⟩;rw[hnl];refine .inr ⟨g2,cap2,cur,lg [],by rw[h0];rfl,by omega,hgg,by rw[h0];simp,q2,q3,by rw[h0];simp,λf hf=>?_⟩;rw[h0] at hf;cases hf
        have hhd:∀x:Hd l j,∃(g n cap:Nat),lg hs x.val= .slice (some ⟨g,0,none⟩) n cap/\0<n/\g<w4.heap.size/\w1.heap.size+1<=g/\w4.cell? ⟨g,0,none⟩=some (.int .i64 x.val):=λx=>by
         have h1:=hO x.val x.property;have h2:=B6.1 x.property;cases hc:fE l j (bN l x.val.toNat 0) with
         |nil=>rw[hc] at h2;cases h2;|cons y tl=>
          rw[hc] at h1 h2;injection h2 with h2;subst h2;exact QS h1
        have hbd:∀x:Hd l j,0<=x.val/\x.val<256:=λx=>by
         have:=Q0 x.property;omega
        have aXR:((hs.map εn).attachWith (·∈dU l j) (λf hf=>(hmem f).1 hf)).map (λx:Hd l j=>lg hs x.val)=hs.map ζ4:=by
         have:(λx:Hd l j=>lg hs x.val)=(lg hs)∘εP:=rfl;rw[this,<-γ5,εQ];exact QZ hse.d
        obtain⟨q0,hq0⟩:=List.exists_mem_of_ne_nil _ hne;haveI:Inhabited (Hd l j):=⟨⟨q0.1,(hse.i q0 hq0).1⟩⟩;have amh:=Any.slices_SortFunc_total Tryz.tU (λx:Hd l j=>lg hs x.val) (λx=>by obtain⟨g,n,cap,e,_⟩:=hhd x;show(lg hs x.val).oneCell'=true;rw[e];rfl) om QO 51 #[] g2 0 cap2 ((hs.map εn).attachWith (·∈dU l j) (λf hf=>(hmem f).1 hf)).toArray wr eg
         (λm os dk hdk x y=>by
          obtain⟨ga,na,ca,ea,la,ba,da,fa⟩:=hhd x;obtain⟨gb,nb,cb,eb,lb,bb,db,fb⟩:=hhd y;simp only[ea,eb];have aY6:=hbe.size;exact QU ga gb na ca nb cb x.val y.val _ la lb (by rw[JB _ _ _ _ _ _ _ _ (by show ga≠g2;omega) (by show ga<_;omega),hbe.cell (by exact ba)];exact fa)
           (by rw[JB _ _ _ _ _ _ _ _ (by show gb≠g2;omega) (by show gb<_;omega),hbe.cell (by exact bb)];exact fb) (hbd x) (hbd y)) (QT hgg (by simp only[ζY,εM,Θ];rw[show hs.length=hs.length*1 by omega,q4];exact aXR.symm)) (γA.1 hgg).1 (by simp;omega) (λx y h1 h2=>by rw[sZ] at h1 h2;simp at h1 h2;exact Subtype.ext (by omega));change Calls Tryz.prog 50 _ _ _ at amh;simp only[ζY,εM,Θ] at amh;go_wp2_with (go_at_call 50;refine amh.mono ?_;rintro e w' ⟨rfl,N,os,rfl⟩);go_ret;have aM6:((hs.map εn).attachWith (·∈dU l j) (λf hf=>(hmem f).1 hf)).map εP=hs.map εn:=εQ _;have hT:=QN ((hs.map εn).attachWith (·∈dU l j) (λf hf=>(hmem f).1 hf)) (by rw[aM6];exact hmem) (by rw[aM6];exact hse.d);have hpl:=(δx ((hs.map εn).attachWith (·∈dU l j) (λf hf=>(hmem f).1 hf)) λx y=>!ltOf om y x).length_eq;generalize (((hs.map εn).attachWith (·∈dU l j) (λf hf=>(hmem f).1 hf)).mergeSort λx y=>!ltOf om y x)=ts at hT hpl ⊢;simp only[εM,Θ] at hpl;have hdl:(dU l j).length=hs.length:=by rw[<-hT,Θ,hpl]
        have hbs:=hbe.size;have hb':=hbe.grown (QQ (λx:Hd l j=>lg hs x.val) (n:=N) (os:=os) (g:=g2) ts.toArray) hbe.size (by intro k hk;injection hk with hk;omega);refine⟨w1.heap.size+1,ζu hnx.size,?_,hnx.trans ((hbl.trans (hb'.mono (by omega))).mono hnx.size)⟩;rw[hnl];have htk:=QP (λx:Hd l j=>lg hs x.val) cur ts.toArray (by simp;omega);refine .inr ⟨g2,cap2,_,lg hs,by rw[hdl];rfl,by omega,QR _ _ hgg,by omega,q2,by simp[putCells,q3],?_,λf hf=>?_⟩
        ·rw[hdl,<-hpl];refine Eq.trans ?_ (congrArg (γd (lg hs)) hT);rw[γ5];simpa using htk
        ·refine World.ownsInts.kept (row:=none) (hO f hf) ⟨hb'.os,hb'.tape,hb'.output,hb'.size,λk hk _=>hb'.block k hk⟩ ?_;obtain⟨g,n,cap,e,_⟩:=hhd ⟨f,hf⟩;right;rw[show lg hs f=_ from e];simp[Value.ownBlock]
      ·intro x ca cn cc kl y yy w6 cnt1 hkx hlx hRc hat hrg1 hlt hg1 hs1 hen;obtain⟨_,e1,rfl,hwx⟩:=Maps.keyOf_int_inv Tryz.underlying3 hkx;cases e1;obtain⟨zs,hoc,hyy⟩:=rowElem_inv hRc;cases hyy;obtain⟨i1,hi1,hy0,hy1,hy2⟩:=info_parts QW;have h1c:∀v∈[Value.slice ca cn cc],v.oneCell'=true:=by
        intro v hv;rw[List.mem_singleton] at hv;subst hv;rfl
       have hkl:=hse.h _ hlx;rw[JF] at hkl;obtain⟨f,tl,hft,hfh,hfx⟩:=Q4 (of_decide_eq_true hkl);have asq:=hrow.kept hg1 (by
        rcases hrow.2 with⟨rfl,_⟩|⟨g,cap,cur,rfl,hgb,_⟩;·exact .inl rfl
        ·right;simp[Value.ownBlock];omega);have hcc:=hse.c;have hhs:hs.length<=60:=by omega
       have aXV:Below w4.heap.size w4 w6:=hbe.grown hg1 hbe.size (by intro k hk;injection hk with hk;omega);go_wp2_with (first
        |(at_builtin;refine wpList_append_own _ rfl _ _ 30 rfl (w4.heap.size+1) 24 i1 (.slice none 0 0) 1 24 Tryz.underlying30 hi1 hy0 hy1 hy2 rfl (by decide) _ _ _ rfl (asq.alloc _) ⟨wr.heap.size,0,none⟩ 1 1 [Value.slice ca cn cc] rfl rfl (by rw[<-hs1];exact cell_one_new _ _ _) h1c (by unfold maxLen;omega) (by omega) (by simp;omega) ?_;intro v' w7 aXW aXX aY7);|go_in);have hg7:(w6.alloc (Obj.cells #[Value.slice ca cn cc] 24)).grownBy w7 u9.ownBlock:=aXX;have hzs:zs=fE l j x:=QY hoc (hat .nil);have hO:w4.ownsInts (w1.heap.size+1) 3 .i64 (Value.slice ca cn cc) (fE l j (bN l f.toNat 0)):=by
        rw[hfx,<-hzs];exact hoc
       have hrw:some w1.heap.size≠u9.ownBlock/\some w4.heap.size≠u9.ownBlock:=by
        rcases hrow.2 with⟨rfl,_⟩|⟨g,cap,cur,rfl,hgb,_⟩;·exact⟨by simp[Value.ownBlock],by simp[Value.ownBlock]⟩
        ·exact⟨by simp[Value.ownBlock];omega,by simp[Value.ownBlock];omega⟩
       have aM7:=(hrg1.alloc (Obj.cells #[Value.slice ca cn cc] 24)).kept hg7 hrw.1 hrw.2;have aY8:=hg7.size;have hsa:(w6.alloc (Obj.cells #[Value.slice ca cn cc] 24)).heap.size=w6.heap.size+1:=by simp
       have hbs:=hbe.size;subst hfx;refine⟨⟨_,cnt1,hs++[(f,.slice ca cn cc)],aM7,?_,hse.step hfh hO hlx hlt,by omega,(aXV.alloc (by omega) _).grown hg7 (by omega) ?_⟩,?_⟩
       ·rw[γh,γa];exact aXW
       ·intro k hk;rcases hrow.2 with⟨rfl,_⟩|⟨g,cap,cur,rfl,hgb,_⟩;·cases hk
        ·simp[Value.ownBlock] at hk;omega
       ·rw[aM7.left_eq,hrg.left_eq];exact hlt
end Go.Proofs
namespace Go.Vi
open Go.Proofs.YtbnhiekmnpikhaaGreat.Ir
open Go.Proofs
theorem Q_ {a b:bC} (d:a.bx.ok=true) (c:b.bx.ok=true):fp a b=true↔a.OA=b.OA\/¬((a.bx.meet b.bx).a0=0/\(a.bx.meet b.bx).a1=0/\(a.bx.meet b.bx).a2=0/\(a.bx.meet b.bx).a3=0/\(a.bx.meet b.bx).a4=0/\(a.bx.meet b.bx).a5=0):=by
 have d:=zi.hJ.1 d;have c:=zi.hJ.1 c;simp only[fp,List.any_cons,List.any_nil,δo,θ,decide_eq_true_eq,Bool.false_eq_true,or_false];simp only[zi.at,RK,Si,zi.meet];omega
def CL:M9:=⟨48,bC×bC,.cons (dy .bu) (.one (dy .bu)),λa=>a.1.bx.ok=true/\a.2.bx.ok=true,λa=> .sb (fp a.1 a.2)⟩
theorem Hu:Holds Tryz.prog CL:=by
 refine bI (L:=[Fb]) CL (λ_=>λ_=> .look) (by grind[IH]) ?_;rintro⟨a,b⟩ ⟨e,f⟩;simp only at e f;refine NH (let e:=(0:Int);let d:=decide (a.OA=b.OA);let c:=a.bx.meet b.bx;(d=true->(δd true).bi (γy (fp a b)))/\(d=false->True/\(γy !(decide (c.a0=e)&&(decide (c.a1=e)&&(decide (c.a2=e)&&(decide (c.a3=e)&&(decide (c.a4=e)&&(decide (c.a5=e)&&true))))))).bi (γy (fp a b)))) (by kernel_rfl) ?_;simp only[vcs];grind[Q_]
def wD (p:cj) (i:Nat) (j:Fin 8):Value:=bN (cI .bu (oI p i)) j .nilFunc
theorem JZ {W:World} (o:bC):nA jL W [] [] ((dy .bu).put o).g (.agg (cI .bu o).toArray):=by
 show nA jL W [] [] (.agg ((cI .bu o).map .sc)) _;simp only[nA];exact⟨_,rfl,by simpa using tA jL W [] [] (cI .bu o) (by simp[cI,iv,Value.oneCell'])⟩
theorem Q9 {a b:bC} (h1:a.bx.ok=true) (h2:b.bx.ok=true) (W:World):Calls Tryz.prog 48 #[.agg (cI .bu a).toArray,.agg (cI .bu b).toArray] W λe w'=>e= .returned (.bool (fp a b))/\RowKit.Below W.heap.size W w':=by
 have hq:Holds Tryz.prog CL:=by exact Hu
 refine((hq (a,b) ⟨h1,h2⟩).2 jL W [] [.agg (cI .bu a).toArray,.agg (cI .bu b).toArray] (yg W (λb hb=>hb.elim)) ⟨_,_,rfl,JZ a,_,_,rfl,JZ b,rfl⟩).mono ?_;rintro e W' ⟨u,σ',rfl,_,hu,hx⟩;have hu:nA jL W' σ' [] (.sc (.bool (fp a b))) u:=hu;simp only[nA] at hu;exact⟨by rw[hu.1],NL hx⟩
theorem Rm {l:List Int} {x y:Int}:oO x y l l.length=oP l x y:=by simp[oO,oP]
theorem Rl {n:Nat} (v:n<=60) (W:World) (B g d:Nat) (l:List Int) (i:l.length=n) (k:W.ownsInts B 3 .i64 (.slice (some ⟨g,0,none⟩) n d) l) (x y:Int) (t:(Lit.int .i64 y).wf=true):
  Calls Tryz.prog 49 #[.slice (some ⟨g,0,none⟩) n d,.int .i64 x,.int .i64 y] W λe o=>
   ∃m a,e= .returned (.slice (some ⟨m,0,none⟩) n a)/\o.ownsInts W.heap.size 3 .i64 (.slice (some ⟨m,0,none⟩) n a) (oP l x y)/\RowKit.Below W.heap.size W o:=by
 have s:∀j (h:j<l.length),W.cell? ⟨g,j,none⟩=some (.int .i64 l[j]):=λj h=>by
  rw[xb k i (by omega)];grind[bN]
 have z:=Rb g n d l i v x y t k.2 W (by have:=k.1.lt g (by simp[Value.ownBlock]);omega) s (by
  have p:Calls Tryz.prog 52 #[.slice (some ⟨g,0,none⟩) n d] W _:=Mu Tryz.tV Tryz.t3 (.int .i64 0) 1 8 (by kernel_rfl) (by kernel_rfl) (by kernel_rfl) (by kernel_rfl) (by kernel_rfl) (by omega) Tryz.sizeOf3 ⟨g,0,none⟩ n d (l.map (Value.int .i64)) W (by simp[i]) (by grind[maxLen]) (by omega) (λj u w=>by
   grind[Addr.add_lit]) (by simp[Value.oneCell']);refine p.mono ?_;rintro e o ⟨A,rfl,b,q,f⟩;have c:=b;rcases c.2 with h|⟨m,a,r,rfl,_⟩;·simp_all
  ·exact⟨m,a,rfl,⟨by rw[i];exact b,k.2⟩,f⟩);grind[Rm]
theorem xa {p:cj} {i:Nat} {l:List Int}:∀{k:Nat},(lh p i l k).length=l.length
 |0=>rfl
 |k+1=>by
  unfold lh;split;·rw[JQ];exact xa
  ·exact xa
theorem B5 {p:cj}:∀{k:Nat},(lH p k).length=p.bj.length
 |0=>List.length_replicate
 |k+1=>by
  show(lh p k _ k).length=_;rw[xa,Φ];exact B5
theorem w_ {p:cj} {i:Nat} {l:List Int} {B:Int} (b:i<l.length) (h:∀x∈l,0<=x/\x<=B):∀{k:Nat},∀x∈lh p i l k,0<=x/\x<=B
 |0=>h
 |k+1=>by
  intro x a;unfold lh at a;split at a
  ·unfold oP at a;obtain⟨y,c,rfl⟩:=Ω.1 a;split
   ·refine w_ (p:=p) b h (k:=k) _ ?_;grind[xa,b_]
   ·exact w_ b h (k:=k) y c
  ·exact w_ b h (k:=k) x a
theorem CK {p:cj}:∀{k:Nat},k<=p.bj.length->∀x∈lH p k,0<=x/\x<=p.bj.length
 |0,_=>λx a=>by
  have:=List.eq_of_mem_replicate a;omega;|k+1,b=>by
  refine w_ (by grind[B5]) λx a=>?_;rcases δl a with a|rfl;·exact CK (by omega) x a
  ·omega
theorem Rk {A:dc} {w:World} {B:Nat} {v:Value} {l:List Int} (e:w.ownsInts B 3 .i64 v l) (u:∀b,A b->b<B):nA A w [] [] (.sl l.length (l.map λx=>AV.sc (.int .i64 x))) v:=by
 have m:cK (l.map λx=>AV.sc (.int .i64 x))=true:=by rw[<-lA];grind[ni]
 have d:=e.1;rcases e.1.2 with⟨rfl,y⟩|⟨g,k,o,rfl,q,p,h,r,s,t⟩;·grind[nA,cH]
 ·simp only[nA];refine⟨_,_,rfl,h,m,cH.kg _ _ _ λi c a=>?_⟩;rw[γF] at a;obtain⟨x,f,rfl⟩:=ε.1 a;have n:=(ζ.1 f).1;refine⟨⟨g,0,none⟩,.int .i64 x,rfl,⟨λ⟨i,c,a⟩=>by simp at a,λj=>by grind⟩,?_,by simp[nA,Value.oneCell']⟩;rw[Addr.add_lit,Nat.zero_add,Nat.zero_add,World.ownsRow.cellAt d i (by omega),γF,f];rfl
theorem JY (L:List (List Int)):bO (.qE (.i .i64)) L=L.map λl=>AV.sl l.length (l.map λx=>AV.sc (.int .i64 x)):=by
 induction L with
 |nil=>rfl;|cons l L a=>
  rw[π,<-a,<-lA];rfl
theorem Rj {w:World} {a:Addr} {v:Value} (h:w.cell? a=some v):a.block<w.heap.size:=by
 grind[World.cell?]
theorem Ri (q:Addr) (a b:Nat):(q.add a).add b=q.add (a+b):=by
 unfold Addr.add;grind
theorem Rh {p:cj} {i:Nat} (a:i<p.bj.length) (j:Fin 8):(bO .bu p.bj)[i*8+j]?=some (.sc (wD p i j)):=by
 have h:=ON (s:=.bu) a;have b:((bO .bu p.bj).drop (i*ew.bu.sz))[(j:Nat)]?=some (.sc (wD p i j)):=by
  rw[h];obtain⟨j,c⟩:=j;have:j=0\/j=1\/j=2\/j=3\/j=4\/j=5\/j=6\/j=7:=by omega
  rcases this with rfl|rfl|rfl|rfl|rfl|rfl|rfl|rfl<;>rfl
 rwa [List.getElem?_drop] at b
def CJ:M9:=⟨29,cj,.one cO,λp=>nW p=0/\p.bj.length<=60,λp=> .row (.qE (.i .i64)) (bE p)⟩
theorem Hx:Holds Tryz.prog CJ:=by
 rintro(p:cj) ⟨hc,hn⟩;refine⟨by kernel_rfl,?_⟩;intro A w σ vs Q E;have T:σ=[]:=by have:=Q.len;simp_all
 subst T;replace E:Aq A w [] [] [.agg (gL p.ss)] vs:=E;simp only[Aq] at E;obtain⟨v,r,rfl,hv,rfl⟩:=E;simp only[nA] at hv;obtain⟨cs,rfl,C⟩:=hv;obtain⟨cs⟩:=cs;simp only[cj.ss,gL,SV.g,Aq] at C;obtain⟨x0,r0,rfl, -,x1,r1,rfl, -,x2,r2,rfl, -,x3,r3,rfl, -,x4,r4,rfl, -,x5,r5,rfl, -,x6,r6,rfl, -,x7,r7,rfl, -,x8,r8,rfl, -,x9,r9,rfl, -,J,a8,rfl, -,H,b0,rfl, -,U,a7,rfl, -,a1,b2,rfl, -,V,b4,rfl, -,a0,b5,rfl, -,I,a5,rfl, -,L,b1,rfl, -,F,a6,rfl, -,b6,b3,rfl,D,rfl⟩:=C;simp only[nA] at D;obtain⟨a,Z,rfl,a2,_,hM⟩:=D;have K:∀i,i<p.bj.length->∃q,a=some q/\q.block<w.heap.size/\∀j:Fin 8,w.cell? ((q.add (i*8)).add j)=some (wD p i j):=by
  intro i m;have hq:∀j:Fin 8,∃b,a=some b/\w.cell? (b.add (i*8+j))=some (wD p i j):=λj=>by
   obtain⟨b,v,e,_,M,a3⟩:=cH.get _ _ _ hM _ _ (Rh m j);grind[nA]
  obtain⟨q,rfl,h0⟩:=hq 0;refine⟨q,rfl,?_,λj=>?_⟩
  ·have:=Rj h0;grind[cY]
  simp_all[Ri]
 have t:∀i:Nat,i<p.bj.length->(oI p i).bx.ok=true:=λi m=>(jP hc (i:=(i:Int)) ⟨by omega,by omega⟩).2.2.1;have a4:∀k:Nat,((lH p k).set k (k:Int)).length=p.bj.length:=λk=>by grind[B5]
 have n:=Ra x0 x1 x2 x3 x4 x5 x6 x7 x8 x9 J H U a1 V a0 I L F a p.bj.length Z hn (lH p) (λ_=>B5) rfl (λk s x o=>WalkArith.wf_i64 (by have:=CK s x o;omega))
  (λk j=>lh p k ((lH p k).set k (k:Int)) j) (λk j=>by grind[xa])
  (λk j s x o=>WalkArith.wf_i64 (by
   have:=w_ (p:=p) (i:=k) (B:=p.bj.length) (by simp_all) (λx o=>by
    rcases δl o with o|rfl;·exact CK (by omega) x o
    ·omega) (k:=j) x o;omega))
  (λk s=>rfl) (λk s=>rfl) (λi j=>fp (oI p i) (oI p j)) (λk j s hj=>rfl) (wD p) w K (λi j m hj W=>Q9 (t i m) (t j hj) W) (λW B g cp l X ho x y hy=>Rl hn W B g cp l X ho x y hy);refine n.mono ?_;rintro e w' ⟨B,hB,z,d⟩;have hA:∀b,A b->b<B:=λb h=>γj (Q.avb b h) hB;have R:OM A w' [] []:=⟨rfl,by simp,by simp,by simp,by simp,λb h=>γj (Q.avb b h) d.size⟩;have hE:Ext w [] [] w' [] []:=⟨d.size,λb h _=>⟨d.block b h,λ⟨i,c,m⟩=>by simp at m⟩,ξ _,λ_ _ ⟨_,_,_,_,h,_⟩=>by simp at h,λ_ ⟨_,_,_,h⟩=>by simp at h,d.os,d.tape,d.output⟩;have e2:(CJ.res p).G= .sl (bE p).length ((bE p).map λl=>AV.sl l.length (l.map λx=>AV.sc (.int .i64 x))):=by rw[<-JY];rfl
 have P:cK ((bE p).map λl=>AV.sl l.length (l.map λx=>AV.sc (.int .i64 x)))=true:=by rw[<-JY];grind[ni]
 have u:bE p=(dU (lH p p.bj.length) p.bj.length).map λf=>fE (lH p p.bj.length) p.bj.length (bN (lH p p.bj.length) f.toNat 0):=Q1;rw[e2];rcases z with⟨rfl,h0⟩|⟨g,cp,Y,sv,rfl,hg,a9,h1,h2,h3,h4,h5⟩;·grind[nA,cH]
 ·have X:(bE p).length=(dU (lH p p.bj.length) p.bj.length).length:=by rw[u,Θ]
  refine⟨_,[],rfl,R,?_,hE⟩;rw[X];simp only[nA];refine⟨_,_,rfl,h1,P,cH.kg _ _ _ λi c m=>?_⟩;rw[u,γ5,γF] at m;obtain⟨f,S,rfl⟩:=ε.1 m;have N:=(ζ.1 S).1;have h9:(Y.toList.take (dU (lH p p.bj.length) p.bj.length).length)[i]?=some (sv f):=by rw[h4,γF,S];rfl
  rw[δB N,Array.getElem?_toList] at h9;refine⟨⟨g,0,none⟩,sv f,rfl,⟨λ⟨i,c,m⟩=>by simp at m,λO=>by have:=hA g O;omega⟩,?_,Rk (h5 f (List.mem_of_getElem? S)) hA⟩;rw[Addr.add_lit];simp_all[World.cell?]
def Df:M9:=⟨36,List Int×List Int,.cons (cL (.i .i64)) (.one (cL (.i .i64))),λa=>a.1.length<=1000000/\a.2.length<=1000000,λa=> .sb (decide (a.1=a.2))⟩
def Rg (x y:List Int):Nat->bG
 |4=> .inv Int (λi=>⟨[(0,.row (.i .i64) x),(1,.row (.i .i64) y),(12,.si .i64 x.length),(13,.si .i64 i)],[]⟩)
   (λs=>iS s 13) (λi=>(0<=i/\i<=x.length)/\∀k:Nat,(k:Int)<i->bN x k 0=bN y k 0) (λi=>(x.length - i).toNat) λ_ _=> .look
 |_=> .look
theorem Hv:Holds Tryz.prog Df:=by
 refine bI (L:=[]) Df (λa=>Rg a.1 a.2) (by simp) ?_;rintro⟨x,y⟩ ⟨t,z⟩;simp only at t z;refine NH (let a:=(0:Int);let e:=γf .i64;let h:=δd false;let o:=(↑x.length:Int);let q:=decide (o≠(↑y.length:Int));let j:=γy (decide (x=y));let f:=Ψ (ew.i .i64) x;let g:=Ψ (ew.i .i64) y;let c:=(↑x.length:Int);let l:=e c;(q=true->(h).bi j)/\(q=false->(((f.bi f/\g.bi g/\(e o).bi l/\(γv .i64 0).bi (e 0)/\True)/\True)/\(a<=a/\a<=c)/\∀(k:Nat),(↑k:Int)<a->bN x k a=bN y k a)/\∀(b:Int),let p:=decide (bN x b.toNat a≠bN y b.toNat a);let d:=b+(1:Int);let s:=e d;((a<=b/\b<=c)/\∀(k:Nat),(↑k:Int)<b->bN x k a=bN y k a)->(decide (b<c)=true->a<=b/\b<o/\b.toNat<x.length/\a<=b/\b<(↑y.length:Int)/\b.toNat<y.length/\(p=true->(h).bi j)/\(p=false->VI .i64 d/\((f.bi f/\g.bi g/\l.bi l/\s.bi s/\True)/\True)/\((a<=d/\d<=c)/\∀(k:Nat),(↑k:Int)<d->bN x k a=bN y k a)/\(c - d).toNat<(c - b).toNat))/\(decide (b<c)=false->(δd true).bi j))) (by kernel_rfl) ?_;simp only[vcs];refine⟨λh=>(decide_eq_false λe=>h (by rw[e])).symm,λh=>⟨⟨by omega,λk w=>by omega⟩,?_⟩⟩;rintro i ⟨⟨r,D⟩,w⟩;refine⟨λn=>⟨r,n,by omega,r,by omega,by omega,λm=>(decide_eq_false λe=>m (by rw[e])).symm,λB=>⟨by omega,⟨by omega,λk u=>?_⟩,by omega⟩⟩,λv=>?_⟩;·grind
 ·refine(decide_eq_true (List.ext_getElem (by omega) λk A C=>?_)).symm;grind[b_]
@[reducible] def cD:ew:=.pair (.qE (.i .i64)) (.pair (.i .i64) (.qE (.pair (.i .i64) (.pair (.i .i64) (.pair (.i .i64) (.pair (.i .i64) (.qE (.pair .b (.pair (.qE (.i .u32)) (.qE (.i .u32)))))))))))
def fh (l:List (List Int)) (r:List cD.T) (n:Nat):List Int:=(bP n).flatMap λi=>oh (bN l i.toNat []) (bN r i.toNat cD.bw).1
def gr (r:List cD.T) (n:Nat):Int:=((r.take n).map λx=>x.2.1).sum
def km (l:List (List Int)) (r:List cD.T) (i j:Int):List Int:=fh l r i.toNat++oh (bN l i.toNat []) ((bN r i.toNat cD.bw).1.take j.toNat)
def B4:M9:=⟨34,List (List Int)×List cD.T,.cons (cL (.qE (.i .i64))) (.one (cL cD)),λa=>(a.2.length<=a.1.length/\a.1.length<=1000)/\(∀n:Nat,n<=a.2.length->(fh a.1 a.2 n).length<=100000/\ -9000000000000000000<=gr a.2 n/\gr a.2 n<=9000000000000000000)/\∀i:Nat,i<a.2.length->∀k∈(bN a.2 i cD.bw).1,0<=k/\k<(bN a.1 i []).length,
 λa=>kr.put ⟨dx (fh a.1 a.2 a.2.length),gr a.2 a.2.length⟩⟩
def Rf (l:List (List Int)) (r:List cD.T):Nat->bG
 |3=> .inv Int (λi=>⟨[(0,.row (.qE (.i .i64)) l),(4,.ptr 0 0 2),(5,.ptr 1 0 2),(10,.row cD r),(11,.si .i64 r.length),(12,.si .i64 i)],[.cells [.sc (.slice none 0 0),.il .i64 0] 40 2 false,.cells [.ow 2 (fh l r i.toNat).length 1,.si .i64 (gr r i.toNat)] 40 2 false,.row (.i .i64) (fh l r i.toNat) 3 true]⟩)
   (λs=>iS s 12) (λi=>0<=i/\i<=r.length) (λi=>(r.length - i).toNat) λi=>λ
   |7=> .inv Int (λj=>⟨[(0,.row (.qE (.i .i64)) l),(4,.ptr 0 0 2),(5,.ptr 1 0 2),(6,.si .i64 i),(10,.row cD r),(11,.si .i64 r.length),(12,.si .i64 i),(26,.row (.i .i64) (bN r i.toNat cD.bw).1),(27,.si .i64 (bN r i.toNat cD.bw).1.length),(28,.si .i64 j)],
      [.cells [.sc (.slice none 0 0),.il .i64 0] 40 2 false,.cells [.ow 2 (km l r i j).length 1,.si .i64 (gr r (i+1).toNat)] 40 2 false,.row (.i .i64) (km l r i j) 3 true,.cells [.row (.i .i64) (bN r i.toNat cD.bw).1,.si .i64 (bN r i.toNat cD.bw).2.1,.row (.pair (.i .i64) (.pair (.i .i64) (.pair (.i .i64) (.pair (.i .i64) (.qE (.pair .b (.pair (.qE (.i .u32)) (.qE (.i .u32))))))))) (bN r i.toNat cD.bw).2.2] 51 3 false]⟩)
     (λs=>iS s 28) (λj=>0<=j/\j<=(bN r i.toNat cD.bw).1.length) (λj=>((bN r i.toNat cD.bw).1.length - j).toNat) λ_ _=> .look
   |_=> .look
 |_=> .look
theorem yC:Holds Tryz.prog B4:=by
 refine j9 (L:=[]) (W:=fT [JI]) B4 (λa=>Rf a.1 a.2) (kf (by grind[y4])) (by simp) ?_;rintro⟨l,r⟩ ⟨⟨h1,h2⟩,Y,h4⟩;simp only at h1 h2 Y h4;refine NH (let a:=γf .i64;let d:=(0:Int);let j:=Ψ;let k:=iZ.cells;let s:=iZ.row;let u:=γW;let v:=VI .i64;let c:=ew.i .i64;let F:=γK 0 0 2;let D:=γK 1 0 2;let t:=(↑r.length:Int);let E:=a t;let X:=γv .i64 0;let C:=k [SV.sc (Value.slice none 0 0),X] 40 2 false;let y:=(ew.i .u32).qE;let G:=c.pair (c.pair (c.pair (c.pair (ew.b.pair (y.pair y)).qE)));((((j c.qE l).bi (j c.qE l)/\F.bi F/\D.bi D/\(j cD r).bi (j cD r)/\E.bi E/\X.bi (a 0)/\True)/\C.bi C/\(k [u 2 0 1,X] 40 2 false).bi (k [u 2 (fh l r 0).length 1,a (gr r 0)] 40 2 false)/\(s c [] 3 true).bi (s c (fh l r 0) 3 true)/\True)/\d<=d/\d<=t)/\∀(x:Int),let J:=bN r x.toNat cD.bw;let M:=gr r x.toNat+J.2.1;let o:=j c J.1;let f:=(↑(γb J.1):Int);let z:=a f;let q:=fh l r x.toNat;let p:=q.length;let O:=km l r x d;let g:=x+(1:Int);let n:=[a (gr r g.toNat)];let A:=k [o,a J.2.1,j G J.2.2] 51 3 false;let H:=bN l x.toNat c.qE.bw;let P:=a g;d<=x/\x<=t->(decide (x<t)=true->d<=x/\x<t/\x.toNat<r.length/\v M/\((((j c.qE l).bi (j c.qE l)/\F.bi F/\D.bi D/\(a x).bi (a x)/\(j cD r).bi (j cD r)/\E.bi E/\(a x).bi (a x)/\o.bi o/\z.bi z/\X.bi (a 0)/\True)/\C.bi C/\(k [u 2 p 1,a M] 40 2 false).bi (k (u 2 O.length 1::n) 40 2 false)/\(s c q 3 true).bi (s c O 3 true)/\A.bi A/\True)/\d<=d/\d<=f)/\∀(e:Int),let w:=bN J.1 e.toNat d;let m:=km l r x e;let V:=m.length+1;let h:=e+(1:Int);let B:=a x;let Q:=a h;let S:=m++[bN H w.toNat d];d<=e/\e<=f->(decide (e<f)=true->d<=e/\e<f/\e.toNat<γb J.1/\d<=x/\x<(↑l.length:Int)/\x.toNat<l.length/\d<=w/\w<(↑H.length:Int)/\w.toNat<H.length/\1=1/\m.length=m.length/\V*8<=140737488355328/\V<=1000000000000/\v h/\(((j c.qE l).bi (j c.qE l)/\F.bi F/\D.bi D/\B.bi B/\(j cD r).bi (j cD r)/\E.bi E/\B.bi B/\o.bi o/\z.bi z/\Q.bi Q/\True)/\C.bi C/\(k (u 2 S.length 1::n) 40 2 false).bi (k (u 2 (km l r x h).length 1::n) 40 2 false)/\(s c S 3 true).bi (s c (km l r x h) 3 true)/\A.bi A/\True)/\(d<=h/\h<=f)/\(f - h).toNat<(f - e).toNat)/\(decide (e<f)=false->v g/\(((j c.qE l).bi (j c.qE l)/\F.bi F/\D.bi D/\(j cD r).bi (j cD r)/\E.bi E/\P.bi P/\True)/\C.bi C/\(k (u 2 m.length 1::n) 40 2 false).bi (k (u 2 (fh l r g.toNat).length 1::n) 40 2 false)/\(s c m 3 true).bi (s c (fh l r g.toNat) 3 true)/\True)/\(d<=g/\g<=t)/\(t - g).toNat<(t - x).toNat))/\(decide (x<t)=false->(p=p/\p<=1000000)/\p=(dx q).length/\(γJ [j c (dx q),a (gr r x.toNat)]).bi (γJ [j c (dx (fh l r r.length)),a (gr r r.length)]))) (by kernel_rfl) ?_;simp only[vcs];have k:∀{a b:Nat} {v u:Int},a=b->v=u->(iZ.cells [γW 2 a 1,γf .i64 v] 40 2 false).bi (iZ.cells [γW 2 b 1,γf .i64 u] 40 2 false):=by rintro _ _ _ _ rfl rfl;rfl
 have I:∀{x y:List Int},x=y->(iZ.row (.i .i64) x 3 true).bi (iZ.row (.i .i64) y 3 true):=by rintro _ _ rfl;rfl
 refine⟨⟨⟨rfl,rfl⟩,by omega⟩,?_⟩;rintro i ⟨i0,i1⟩;refine⟨λa0=>?_,λa3=>?_⟩
 ·have hc:=Y i.toNat (by omega);have a5:=Y (i+1).toNat (by omega);have hv:gr r (i+1).toNat=gr r i.toNat+(bN r i.toNat cD.bw).2.1:=by
   grind[gr,jj]
  have K:fh l r (i+1).toNat=fh l r i.toNat++oh (bN l i.toNat []) (bN r i.toNat cD.bw).1:=by
   grind[fh,ob]
  have U:km l r i 0=fh l r i.toNat:=by simp[km,oh]
  have hk:=h4 i.toNat (by omega);have a4:γb (bN r i.toNat cD.bw).1<=100000:=by
   grind[oh]
  have a1:∀j:Int,(km l r i j).length<=100000:=λj=>by
   have h5:(km l r i j).length<=(fh l r (i+1).toNat).length:=by
    rw[K];unfold km oh;simp only[γh,Θ,List.length_take];omega
   omega
  refine⟨i0,a0,by omega,by omega,⟨⟨k (by rw[U]) hv.symm,I U.symm⟩,by omega,by omega⟩,?_⟩;rintro j ⟨j0,j1⟩;refine⟨λG=>?_,λa2=>?_⟩
  ·have s:=hk (bN (bN r i.toNat cD.bw).1 j.toNat 0) (cE (by omega));have Z:km l r i j++[bN (bN l i.toNat []) (bN (bN r i.toNat cD.bw).1 j.toNat 0).toNat 0]=km l r i (j+1):=by
    unfold km oh;rw[jj (d:=(0:Int)) j0 G,γa,γC];rfl
   have a6:=a1 j;have T:(bN (bN r i.toNat cD.bw).1 j.toNat 0).toNat<(bN l i.toNat []).length:=by
    exact(Int.toNat_lt s.1).2 s.2
   have N:km l r i j++[bN (bN l i.toNat (ew.i IntKind.i64).qE.bw) (bN (bN r i.toNat cD.bw).1 j.toNat 0).toNat 0]=km l r i (j+1):=Z;rw[N];refine⟨j0,G,?_,i0,?_,?_,s.1,s.2,T,?_,?_,?_,⟨k rfl rfl,I rfl⟩,?_,?_⟩<;>omega
  ·have R:km l r i j=fh l r (i+1).toNat:=by
    rw[K];unfold km;rw[show j.toNat=(bN r i.toNat cD.bw).1.length by omega,ψ]
   exact⟨by omega,⟨k (by rw[R]) rfl,I R⟩,by omega,by omega⟩
 ·rw[show i.toNat=r.length by omega];have:=(Y r.length (ξ _)).1;exact⟨by omega,(pC).symm,rfl⟩
def w9:M9:=⟨12,cj,.one cO,λp=>nW p≠0\/p.bj.length<=60,λp=> .Gz [.row (.qE (.i .i64)) (if nW p=0 then bE p else[]),.si .i64 (nW p)]⟩
theorem tX:Holds Tryz.prog w9:=by
 refine bI (L:=[mW,CJ]) w9 lk (by grind[oi,Hx]) ?_;rintro(p:cj) (e:nW p≠0\/p.bj.length<=60);refine NH (let e:=(0:Int);let f:=Ψ;let g:=SV.Gz;let b:=decide (nW p≠e);let d:=[γf .i64 (nW p)];let c:=(ew.i .i64).qE;let a:=g (f c (if nW p=e then bE p else[])::d);True/\(b=true->(g (f (ew.i .i64) []::d)).bi a)/\(b=false->(nW p=e/\p.bj.length<=60)/\(g [f c (bE p),γv .i64 0]).bi a)) (by kernel_rfl) ?_;simp only[vcs];refine⟨λh=>?_,λh=>?_⟩
 ·rw[if_neg h];rfl
 simp_all
noncomputable def qh (p:cj) (c:List Int):cD.T:=((VL (dS p c)).bn,(VL (dS p c)).value,oR (dS p c))
noncomputable def dE (p:cj):List cD.T:=(bE p).map (qh p)
noncomputable def jC (p:cj):List Int:=dx (fh (bE p) (dE p) (dE p).length)
noncomputable def jV (p:cj):Int:=gr (dE p) (dE p).length
def B3 (p:cj):Prop:=nW p≠0\/(p.bj.length<=60/\∀c∈bE p,c.length<=15)
noncomputable def B2:M9:=⟨19,cj,.one cO,B3,
 λp=> .Gz [.agg [.row (.i .i64) (if nW p=0 then jC p else[]),.si .i64 (if nW p=0 then jV p else 0),.row cD (if nW p=0 then dE p else[])],.si .i64 (nW p)]⟩
theorem I_ {p:cj}:∀{n:Nat},n<=(bE p).length->fh (bE p) (dE p) n=((bE p).take n).flatMap λc=>oh c (VL (dS p c)).bn
 |0,_=>by simp[fh,bP];|n+1,h=>by
  have b:=I_ (p:=p) (n:=n) (by omega);have a:fh (bE p) (dE p) (n+1)=fh (bE p) (dE p) n++oh (bN (bE p) n []) (bN (dE p) n cD.bw).1:=by
   grind[fh,ob]
  have d:bN (dE p) n cD.bw=qh p (bN (bE p) n []):=by
   grind[b_,dE]
  rw[a,b,d,γ1 (show n<(bE p).length by omega),List.flatMap_append,b_ (by omega)];simp[qh]
theorem Re {p:cj} {n:Nat}:gr (dE p) n=(((bE p).take n).map λc=>(VL (dS p c)).value).sum:=by
 unfold gr dE;rw[<-ζy,γ5];rfl
theorem I9 {f:List Int->List Int}:∀{L:List (List Int)},(∀c∈L,(f c).length<=160)->(L.flatMap f).length<=160*L.length
 |[],_=>by simp;|c::L,h=>by
  have b:=h c (γZ ..);have e:=I9 (L:=L) λd a=>h d (γz _ a);grind
theorem I8 {f:List Int->Int}:∀{L:List (List Int)},(∀c∈L,0<=f c/\f c<=160000000)->0<=(L.map f).sum/\(L.map f).sum<=160000000*L.length
 |[],_=>by simp;|c::L,h=>by
  have b:=h c (γZ ..);have e:=I8 (L:=L) λd a=>h d (γz _ a);grind
theorem B1 {p:cj} {i:Nat} (a:i<(bE p).length):bN (dE p) i cD.bw=qh p (bN (bE p) i []):=by
 grind[b_,dE]
theorem I7 {p:cj} (b:nW p=0):(∀n:Nat,n<=(dE p).length->(fh (bE p) (dE p) n).length<=2000/\ -9000000000000000<=gr (dE p) n/\gr (dE p) n<=9000000000000000)/\
  ∀i:Nat,i<(dE p).length->∀k∈(bN (dE p) i cD.bw).1,0<=k/\k<(bN (bE p) i []).length:=by
 have l:(dE p).length=(bE p).length:=Θ _;have g:=BB b;have m:=(cT b).1;have a:∀c∈bE p,nW (dS p c)=0:=λc h=>BC b (uQ h);refine⟨λn r=>?_,λi q k d=>?_⟩
 ·rw[I_ (by omega),Re];have s:=I9 (f:=λc=>oh c (VL (dS p c)).bn) (L:=(bE p).take n) λc h=>by
   grind[oh,xe]
  have e:=I8 (f:=λc=>(VL (dS p c)).value) (L:=(bE p).take n) λc h=>(xe (a c (List.mem_of_mem_take h))).2.2.1;grind
 ·have e:=B1 (p:=p) (i:=i) (by omega);have j:bN (bE p) i []∈bE p:=cE (by omega);rw[e] at d;have o:=(Sd.1 (xg (a _ j)).1.1).2 k d;grind[BD]
noncomputable def Rc (p:cj):Nat->bG
 |6=> .inv Int (λi=>⟨[(1,.ptr 0 0 20),(2,.ptr 1 0 3),(4,.row (.qE (.i .i64)) (if nW p=0 then bE p else[])),(6,.ow 2 ((dE p).take i.toNat).length 3),(20,.row (.qE (.i .i64)) (if nW p=0 then bE p else[])),(21,.si .i64 (if nW p=0 then bE p else[]).length),(22,.si .i64 i)],
    [.cells p.ss 27 20 false,.cells [.sc (.slice none 0 0),.il .i64 0,.sc (.slice none 0 0)] 43 3 false,.row cD ((dE p).take i.toNat) 51 false]⟩)
   (λs=>iS s 22) (λi=>0<=i/\i<=(if nW p=0 then bE p else[]).length) (λi=>((if nW p=0 then bE p else[]).length - i).toNat) λ_ _=> .look
 |_=> .look
theorem yD:Holds Tryz.prog B2:=by
 refine bI (L:=[w9,xc,CX,B4]) B2 (λp=>Rc p) (by grind[tX,tW,H7,yC]) ?_;rintro(p:cj) K;refine NH (let c:=γf .i64;let d:=(0:Int);let e:=Ψ;let h:=iZ.row;let u:=SV.Gz;let v:=γJ;let U:=decide (nW p≠d);let g:=ew.i .i64;let H:=γv .i64 0;let R:=v [e g [],H,e g []];let S:=[c (nW p)];let M:=u (v [e g (if nW p=d then jC p else[]),c (if nW p=d then jV p else d),e cD (if nW p=d then dE p else[])]::S);let J:=γK 0 0 20;let I:=γK 1 0 3;let m:=if nW p=d then bE p else[];let X:=γW 2 0 3;let l:=(↑(if nW p=d then bE p else[]).length:Int);let t:=c l;let r:=iZ.cells [c p.bm.a0,c p.bm.a1,c p.bm.a2,c p.bm.a3,c p.bm.a4,c p.bm.a5,c p.bs.a0,c p.bs.a1,c p.bs.a2,c p.bs.a3,c p.bs.a4,c p.bs.a5,c p.bt.a0,c p.bt.a1,c p.bt.a2,c p.bt.a3,c p.bt.a4,c p.bt.a5,e g p.bk,e ew.bu p.bj] 27 20 false;let A:=SV.sc (Value.slice none 0 0);let q:=iZ.cells [A,H,A] 43 3 false;let w:=(ew.i .u32).qE;let z:=g.qE.pair (g.pair (g.pair (g.pair (g.pair (g.pair (ew.b.pair (w.pair w)).qE)))).qE);(nW p≠d\/p.bj.length<=60)/\(U=true->(u (R::S)).bi M)/\(U=false->(((J.bi J/\I.bi I/\(e g.qE m).bi (e g.qE m)/\X.bi X/\(e g.qE m).bi (e g.qE m)/\(c (↑m.length:Int)).bi t/\H.bi (c 0)/\True)/\r.bi r/\q.bi q/\(h z [] 51 false).bi (h cD [] 51 false)/\True)/\d<=d/\d<=l)/\∀(x:Int),let s:=bN m x.toNat g.qE.bw;let f:=dS p s;let F:=decide (nW f≠d);let j:=Γ x.toNat (dE p);let a:=j.length;let o:=x+(1:Int);let D:=j++[(if nW f=d then(VL f).bn else[],if nW f=d then(VL f).value else d,if nW f=d then oR f else[])];let C:=Γ o.toNat (dE p);let y:=c o;d<=x/\x<=l->(decide (x<l)=true->d<=x/\x<(↑m.length:Int)/\x.toNat<m.length/\((∀(i:Int),i∈s->d<=i/\i<(↑p.bj.length:Int))/\s.length<=1000/\p.bk.length<=1000)/\(nW f≠d\/f.bj.length<=15)/\(F=true->(u [R,c (nW f)]).bi M)/\(F=false->a=a/\(a+1)*56<=140737488355328/\a+1<=1000000000000/\VI .i64 o/\((J.bi J/\I.bi I/\(e g.qE m).bi (e g.qE m)/\(γW 2 D.length 3).bi (γW 2 C.length 3)/\(e g.qE m).bi (e g.qE m)/\t.bi t/\y.bi y/\True)/\r.bi r/\q.bi q/\(h z D 51 false).bi (h cD C 51 false)/\True)/\(d<=o/\o<=l)/\(l - o).toNat<(l - x).toNat))/\(decide (x<l)=false->a=a/\((a<=m.length/\m.length<=1000)/\(∀(n:Nat),n<=a->(fh m j n).length<=100000/\(-9000000000000000000:Int)<=gr j n/\gr j n<=(9000000000000000000:Int))/\∀(i:Nat),i<a->∀(k:Int),k∈(bN j i cD.bw).1->d<=k/\k<(↑(bN m i []).length:Int))/\(u [v [e g (dx (fh m j a)),c (gr j a),e cD j],H]).bi M))) (by kernel_rfl) ?_;simp only[vcs];replace K:B3 p:=K;refine⟨K.imp id (·.1),λh=>?_,λh=>?_⟩
 ·rw[if_neg h,if_neg h,if_neg h];rfl
 ·have v:=γc.1 h;obtain⟨a6,P⟩:=K.resolve_left h;simp only[if_pos v];have a8:=BB v;have a7:=(cT v).1;refine⟨by omega,?_⟩;rintro i ⟨V,i1⟩;refine⟨λE=>?_,λZ=>?_⟩
  ·have Q:Γ i.toNat (dE p)++[qh p (bN (bE p) i.toNat [])]=Γ (i+1).toNat (dE p):=by
    unfold dE;rw[<-ζy,<-ζy,jj (d:=[]) V E,γa];rfl
   have u:bN (bE p) i.toNat []∈bE p:=cE (by omega);have N:bN (bE p) i.toNat (ew.i IntKind.i64).qE.bw=bN (bE p) i.toNat []:=rfl;rw[N];generalize bN (bE p) i.toNat []=c at Q u ⊢;have W:=uQ u;have G:=BC v W;have B:=P c u;have e:(((VL (dS p c)).bn,(VL (dS p c)).value,oR (dS p c)):cD.T)=qh p c:=rfl;simp only[if_pos G];rw[e,Q];have Y:=List.length_take_le i.toNat (dE p);have O:(dE p).length=(bE p).length:=Θ _;refine⟨V,E,by omega,⟨W.2,by omega,by omega⟩,.inr (by rw[BD];exact B),λh=>absurd G h,λ_=>⟨by omega,by omega,by omega,⟨rfl,rfl⟩,by omega,by omega⟩⟩
  ·have O:(dE p).length=(bE p).length:=Θ _;obtain⟨j1,j2⟩:=I7 v;rw[show i.toNat=(dE p).length by omega,ψ];exact⟨⟨⟨by omega,by omega⟩,λn hn=>by have:=j1 n hn;omega,j2⟩,rfl,v.symm⟩
@[reducible] def P7:ew:=.pair (.qE (.i .i64)) (.pair (.i .i64) (.qE cD))
def iT (p:cj) (r:List cD.T):Nat->Int
 |0=>0
 |n+1=>if iT p r n≠0 then iT p r n else qj (dS p (bN (bE p) n [])) (bN r n cD.bw)
def qg (p:cj) (x:List Int×Int×List cD.T):Int:=if nW p≠0 then nW p else if x.2.2.length≠(bE p).length then 2 else if iT p x.2.2 x.2.2.length≠0 then iT p x.2.2 x.2.2.length else
 if gr x.2.2 x.2.2.length≠x.2.1\/dx (fh (bE p) x.2.2 x.2.2.length)≠x.1 then 13 else 0
def B0 (p:cj) (x:List Int×Int×List cD.T):Prop:=(nW p≠0\/p.bj.length<=60)/\x.1.length<=1000000/\(nW p=0->x.2.2.length=(bE p).length->(∀i:Nat,i<x.2.2.length->(bN x.2.2 i cD.bw).1.length<=1000000000000/\(bR (dS p (bN (bE p) i [])) (bN x.2.2 i cD.bw).1=0->cA (dS p (bN (bE p) i [])) (bN x.2.2 i cD.bw).1=(bN x.2.2 i cD.bw).2.1->rb (dS p (bN (bE p) i [])) (bN x.2.2 i cD.bw).2.1 (bN x.2.2 i cD.bw).2.2))/\
 (iT p x.2.2 x.2.2.length=0->(∀n:Nat,n<=x.2.2.length->(fh (bE p) x.2.2 n).length<=100000/\ -9000000000000000000<=gr x.2.2 n/\gr x.2.2 n<=9000000000000000000)/\∀i:Nat,i<x.2.2.length->∀k∈(bN x.2.2 i cD.bw).1,0<=k/\k<(bN (bE p) i []).length))
theorem I6 {p:cj} {r:List cD.T} {n:Nat} (h:iT p r n≠0):∀{m:Nat},n<=m->iT p r m=iT p r n
 |0,a=>by simp_all;|m+1,a=>by
  by_cases e:n=m+1;·rw[e]
  ·have b:=I6 h (m:=m) (by omega);simp_all[iT]
def De:M9:=⟨21,cj×List Int×Int×List cD.T,.cons cO (.one (dy P7)),λa=>B0 a.1 a.2,λa=> .si .i64 (qg a.1 a.2)⟩
def QH (p:cj) (x:List Int×Int×List cD.T):Nat->bG
 |7=> .inv Int (λi=>⟨[(2,.ptr 0 0 20),(3,.ptr 1 0 3),(5,.row (.qE (.i .i64)) (if nW p=0 then bE p else[])),(25,.row (.qE (.i .i64)) (if nW p=0 then bE p else[])),(26,.si .i64 (if nW p=0 then bE p else[]).length),(27,.si .i64 i)],
    [.cells p.ss 27 20 false,.cells [.row (.i .i64) x.1,.si .i64 x.2.1,.row cD x.2.2] 43 3 false]⟩)
   (λs=>iS s 27) (λi=>(0<=i/\i<=(if nW p=0 then bE p else[]).length)/\iT p x.2.2 i.toNat=0) (λi=>((if nW p=0 then bE p else[]).length - i).toNat) λ_ _=> .look
 |_=> .look
theorem Hz:Holds Tryz.prog De:=by
 refine bI (L:=[w9,xc,BL,B4,Df]) De (λa=>QH a.1 a.2) (by grind[tX,tW,yG,yC,Hv]) ?_;rintro⟨p,c,v,r⟩ hd;refine NH (let a:=γf .i64;let h:=(0:Int);let m:=Ψ;let q:=γv .i64;let d:=if nW p=h then bE p else[];let P:=(↑d.length:Int);let Z:=decide (nW p≠h);let z:=a (qg p (c,v,r));let K:=γK 0 0 20;let J:=γK 1 0 3;let f:=ew.i .i64;let o:=(↑(if nW p=h then bE p else[]).length:Int);let O:=a o;let C:=q 0;let l:=iZ.cells [a p.bm.a0,a p.bm.a1,a p.bm.a2,a p.bm.a3,a p.bm.a4,a p.bm.a5,a p.bs.a0,a p.bs.a1,a p.bs.a2,a p.bs.a3,a p.bs.a4,a p.bs.a5,a p.bt.a0,a p.bt.a1,a p.bt.a2,a p.bt.a3,a p.bt.a4,a p.bt.a5,m f p.bk,m ew.bu p.bj] 27 20 false;let j:=iZ.cells [m f c,a v,m cD r] 43 3 false;let F:=decide (gr r r.length≠v);let t:=dx (fh d r r.length);let w:=λ(u:Bool) ↦decide ((↑r.length:Int)≠P)=u;(nW p≠h\/p.bj.length<=60)/\(Z=true->(a (nW p)).bi z)/\(Z=false->(w true->(q 2).bi z)/\(w false->(((K.bi K/\J.bi J/\(m f.qE d).bi (m f.qE d)/\(m f.qE d).bi (m f.qE d)/\(a P).bi O/\C.bi (a 0)/\True)/\l.bi l/\j.bi j/\True)/\(h<=h/\h<=o)/\iT p r 0=h)/\∀(x:Int),let s:=bN d x.toNat f.qE.bw;let g:=dS p s;let b:=bN r x.toNat cD.bw;let D:=qj g (b.1,b.2.1,b.2.2);let e:=x+(1:Int);let E:=a e;let I:=λ(u:Bool) ↦decide (D≠h)=u;(h<=x/\x<=o)/\iT p r x.toNat=h->(decide (x<o)=true->h<=x/\x<P/\x.toNat<d.length/\((∀(i:Int),i∈s->h<=i/\i<(↑p.bj.length:Int))/\s.length<=1000/\p.bk.length<=1000)/\h<=x/\x<(↑r.length:Int)/\x.toNat<r.length/\(γb b.1<=1000000000000/\(bR g b.1=h->cA g b.1=b.2.1->rb g b.2.1 b.2.2))/\(I true->(a D).bi z)/\(I false->VI .i64 e/\((K.bi K/\J.bi J/\(m f.qE d).bi (m f.qE d)/\(m f.qE d).bi (m f.qE d)/\O.bi O/\E.bi E/\True)/\l.bi l/\j.bi j/\True)/\((h<=e/\e<=o)/\iT p r e.toNat=h)/\(o - e).toNat<(o - x).toNat))/\(decide (x<o)=false->((r.length<=d.length/\d.length<=1000)/\(∀(n:Nat),n<=r.length->(fh d r n).length<=100000/\(-9000000000000000000:Int)<=gr r n/\gr r n<=(9000000000000000000:Int))/\∀(i:Nat),i<r.length->∀(k:Int),k∈(bN r i cD.bw).1->h<=k/\k<(↑(bN d i []).length:Int))/\(F=true->(q 13).bi z)/\(F=false->(t.length<=1000000/\c.length<=1000000)/\((!decide (t=c))=true->(q 13).bi z)/\((!decide (t=c))=false->C.bi z)))))) (by kernel_rfl) ?_;simp only[vcs];obtain⟨y,H,G⟩:=(hd:B0 p (c,v,r));simp only at y H G;refine⟨y,λh=>by simp_all[qg],λh=>?_⟩;have M:nW p=0:=γc.1 h;simp only[if_pos M];refine⟨λhl=>?_,λhl=>⟨⟨by omega,rfl⟩,?_⟩⟩
 ·have q:r.length≠(bE p).length:=by omega
  simp_all[qg]
 have R:r.length=(bE p).length:=by omega
 obtain⟨hw,hj⟩:=G M R;have w:qg p (c,v,r)=if iT p r r.length≠0 then iT p r r.length else if gr r r.length≠v\/dx (fh (bE p) r r.length)≠c then 13 else 0:=by
  simp_all[qg]
 have X:=BB M;have a9:=(cT M).1;have a6:=y.resolve_left h;rintro i ⟨⟨Y,i1⟩,N⟩;refine⟨λS=>?_,λa7=>?_⟩
 ·have hs:iT p r (i+1).toNat=qj (dS p (bN (bE p) i.toNat [])) (bN r i.toNat cD.bw):=by
   rw[show(i+1).toNat=i.toNat+1 by omega];show(if iT p r i.toNat≠0 then iT p r i.toNat else _)=_;rw[if_neg (by rw[N];exact λh=>h rfl)]
  have T:=hw i.toNat (by omega);have U:bN (bE p) i.toNat []∈bE p:=cE (by omega);have V:bN (bE p) i.toNat (ew.i IntKind.i64).qE.bw=bN (bE p) i.toNat []:=rfl;rw[V];have W:=uQ U;have a8:=pB W;refine⟨Y,S,by omega,⟨W.2,by omega,by omega⟩,Y,by omega,by omega,T,λB=>?_,λB=>⟨by omega,⟨by omega,?_⟩,by omega⟩⟩
  ·have q:iT p r (i+1).toNat≠0:=by rw[hs];exact B
   have A:=I6 q (m:=r.length) (by omega);rw[w,if_pos (by rw[A];exact q),A,hs]
  simp_all
 ·have Q:i.toNat=r.length:=by omega
  rw[Q] at N;obtain⟨j1,j2⟩:=hj N;have b0:(fh (bE p) r r.length).length<=100000:=(j1 r.length (ξ _)).1;rw[if_neg (by rw[N];exact λh=>h rfl)] at w;rw[w];refine⟨⟨⟨by omega,by omega⟩,j1,j2⟩,λB=>(if_pos (.inl B)).symm,λB=>⟨⟨by rw[pC];omega,H⟩,λq=>(if_pos (.inr q)).symm,λq=>(if_neg ?_).symm⟩⟩;rintro(A|A);·exact B A
  ·exact A q
def Dd:M9:=⟨30,bC×bC,.cons (dy .bu) (.one (dy .bu)),λ_=>True,λa=> .sb (fp a.1 a.2)⟩
theorem I5 {a b:bC}:fp a b=true↔a.OA=b.OA\/∃k,k<6/\0<a.bx.at k/\0<b.bx.at k:=by
 unfold fp;rw[δo,List.any_eq_true,decide_eq_true_eq];refine or_congr Iff.rfl ⟨?_,?_⟩;·grind
 ·rintro⟨k,d,c,e⟩;refine⟨k,?_,by simp_all⟩;simp only[γw,List.not_mem_nil,or_false];omega
def QG (a b:bC):Nat->bG
 |4=> .inv Int (λk=>⟨[(2,.ptr 0 0 8),(3,.ptr 1 0 8),(5,.si .i64 k)],[.cells (cJ .bu a) 65 8 false,.cells (cJ .bu b) 65 8 false]⟩)
   (λs=>iS s 5) (λk=>(0<=k/\k<=6)/\a.OA≠b.OA/\∀j:Nat,(j:Int)<k->¬(0<a.bx.at j/\0<b.bx.at j)) (λk=>(6 - k).toNat) λ_ _=> .look
 |_=> .look
theorem Hw:Holds Tryz.prog Dd:=by
 refine bI (L:=[]) Dd (λa=>QG a.1 a.2) (by simp) ?_;rintro⟨a,b⟩ _;refine NH (let h:=(0:Int);let k:=γf .i64;let q:=(6:Int);let i:=decide (a.OA=b.OA);let g:=γK 0 0 8;let f:=γK 1 0 8;let e:=λ(u:bC) ↦let l:=iZ.cells [k u.OA,k u.bx.a0,k u.bx.a1,k u.bx.a2,k u.bx.a3,k u.bx.a4,k u.bx.a5,k u.value] 65 8 false;l.bi l;(i=true->(δd true).bi (γy (fp a b)))/\(i=false->(((g.bi g/\f.bi f/\(γv .i64 0).bi (k 0)/\True)/\e a/\e b/\True)/\(h<=h/\h<=q)/\a.OA≠b.OA/\∀(j:Nat),(↑j:Int)<h->h<a.bx.at j/\h<b.bx.at j->False)/\∀(x:Int),let c:=x+(1:Int);let n:=k c;let d:=decide (x<q);let m:=VI .i64 c/\((g.bi g/\f.bi f/\n.bi n/\True)/\e a/\e b/\True)/\((h<=c/\c<=q)/\a.OA≠b.OA/\∀(j:Nat),(↑j:Int)<c->h<a.bx.at j/\h<b.bx.at j->False)/\(q - c).toNat<(q - x).toNat;let p:=λ(u:Bool) ↦decide (h<bN [a.bx.a0,a.bx.a1,a.bx.a2,a.bx.a3,a.bx.a4,a.bx.a5] x.toNat h)=u;let o:=λ(u:Bool) ↦decide (h<bN [b.bx.a0,b.bx.a1,b.bx.a2,b.bx.a3,b.bx.a4,b.bx.a5] x.toNat h)=u;((h<=x/\x<=q)/\a.OA≠b.OA/\∀(j:Nat),(↑j:Int)<x->h<a.bx.at j/\h<b.bx.at j->False)->(d=true->h<=x/\x<q/\x.toNat<6/\(p true->h<=x/\x<q/\x.toNat<6/\(o true->(δd true).bi (γy (fp a b)))/\(o false->m))/\(p false->m))/\(d=false->(δd false).bi (γy (fp a b))))) (by kernel_rfl) ?_;simp only[vcs];refine⟨λh=>(I5.2 (.inl h)).symm,λh=>⟨⟨by omega,h,λj q=>by omega⟩,?_⟩⟩;rintro k ⟨⟨t,w⟩,_,s⟩;have r:bN [a.bx.a0,a.bx.a1,a.bx.a2,a.bx.a3,a.bx.a4,a.bx.a5] k.toNat 0=a.bx.at k.toNat:=rfl;have v:bN [b.bx.a0,b.bx.a1,b.bx.a2,b.bx.a3,b.bx.a4,b.bx.a5] k.toNat 0=b.bx.at k.toNat:=rfl;grind[I5]
def oN (N i:Nat):List Int:=bP i++δ (N - i) 0
def kL (p:cj) (n:Nat):List (List Int):=((bP n).map (qi p)).filter λc=>decide (c≠[])
def lW (p:cj) (f:Int) (i:Nat):List Int:=(bP i).filter λj=>decide (bN (pN p) j.toNat 0=f)
theorem QF {N i:Nat} (h:i<=N):(oN N i).length=N:=by
 grind[oN,eY]
theorem QE {N i:Nat} (h:i<N):(oN N i).set i (i:Int)=oN N (i+1):=by
 unfold oN;rw[ob,List.set_append_right _ _ (by grind[eY]),eY,Nat.sub_self,show N - i=(N - (i+1))+1 by omega,List.replicate_succ,δ9,γC];rfl
theorem BZ {p:cj} {l:List Int} {i:Nat}:∀{k:Nat},(gI p l i k).length=l.length
 |0=>rfl
 |k+1=>by
  unfold gI;split;·rw[Φ];exact BZ
  ·exact BZ
theorem Dc {p:cj} {l:List Int}:∀{i:Nat},(jq p l i).length=l.length
 |0=>rfl
 |i+1=>by
  show(gI p (jq p l i) i p.bj.length).length=_;rw[BZ];exact Dc
theorem Db {p:cj}:∀{r:Nat},(ef p r).length=p.bj.length
 |0=>eY
 |r+1=>by
  show(jq p (ef p r) p.bj.length).length=_;rw[Dc];exact Db
theorem QC {p:cj} {n:Nat}:kL p (n+1)=kL p n++if qi p (n:Int)≠[] then[qi p (n:Int)] else[]:=by
 grind[kL,ob]
theorem QB {p:cj} {f:Int} {i:Nat}:lW p f (i+1)=lW p f i++if bN (pN p) i 0=f then[(i:Int)] else[]:=by
 grind[lW,ob]
theorem QA {p:cj} {f:Int}:lW p f p.bj.length=qi p f:=rfl
theorem Qz {p:cj}:kL p p.bj.length=bE p:=RL
def Da:M9:=⟨13,cj,.one cO,λp=>nW p≠0\/p.bj.length<=60,λp=> .Gz [.row (.qE (.i .i64)) (if nW p=0 then bE p else[]),.si .i64 (nW p)]⟩
def Qy (p:cj):Nat->bG
 |7=> .inv Int (λi=>⟨[(1,.ptr 0 0 20),(5,.si .i64 p.bj.length),(6,.ow 1 p.bj.length 1),(7,.si .i64 i)],[.cells p.ss 27 20 false,.row (.i .i64) (oN p.bj.length i.toNat) 3 true]⟩)
   (λs=>iS s 7) (λi=>0<=i/\i<=p.bj.length) (λi=>(p.bj.length - i).toNat) λ_ _=> .look
 |11=> .inv Int (λr=>⟨[(1,.ptr 0 0 20),(5,.si .i64 p.bj.length),(6,.ow 1 p.bj.length 1),(8,.si .i64 r)],[.cells p.ss 27 20 false,.row (.i .i64) (ef p r.toNat) 3 true]⟩)
   (λs=>iS s 8) (λi=>0<=i/\i<=p.bj.length) (λi=>(p.bj.length - i).toNat) λr=>λ
   |14=> .inv Int (λi=>⟨[(1,.ptr 0 0 20),(5,.si .i64 p.bj.length),(6,.ow 1 p.bj.length 1),(8,.si .i64 r),(9,.si .i64 i)],[.cells p.ss 27 20 false,.row (.i .i64) (jq p (ef p r.toNat) i.toNat) 3 true]⟩)
     (λs=>iS s 9) (λi=>0<=i/\i<=p.bj.length) (λi=>(p.bj.length - i).toNat) λi=>λ
     |17=> .inv Int (λk=>⟨[(1,.ptr 0 0 20),(5,.si .i64 p.bj.length),(6,.ow 1 p.bj.length 1),(8,.si .i64 r),(9,.si .i64 i),(10,.si .i64 k)],[.cells p.ss 27 20 false,.row (.i .i64) (gI p (jq p (ef p r.toNat) i.toNat) i.toNat k.toNat) 3 true]⟩)
       (λs=>iS s 10) (λi=>0<=i/\i<=p.bj.length) (λi=>(p.bj.length - i).toNat) λ_ _=> .look
     |_=> .look
   |_=> .look
 |23=> .inv Int (λf=>⟨[(5,.si .i64 p.bj.length),(6,.ow 1 p.bj.length 1),(11,.ow 2 (kL p f.toNat).length 1),(12,.si .i64 f)],[.cells p.ss 27 20 false,.row (.i .i64) (pN p) 3 true,.row (.qE (.i .i64)) (kL p f.toNat) 24 false]⟩)
   (λs=>iS s 12) (λi=>0<=i/\i<=p.bj.length) (λi=>(p.bj.length - i).toNat) λf=>λ
   |27=> .inv Int (λi=>⟨[(5,.si .i64 p.bj.length),(6,.ow 1 p.bj.length 1),(11,.ow 2 (kL p f.toNat).length 1),(12,.si .i64 f),(13,.ow 3 (lW p f i.toNat).length 1),(14,.si .i64 i)],[.cells p.ss 27 20 false,.row (.i .i64) (pN p) 3 true,.row (.qE (.i .i64)) (kL p f.toNat) 24 false,.row (.i .i64) (lW p f i.toNat) 3 true]⟩)
     (λs=>iS s 14) (λi=>0<=i/\i<=p.bj.length) (λi=>(p.bj.length - i).toNat) λ_ _=> .look
   |_=> .look
 |_=> .look
theorem HD:Holds Tryz.prog Da:=by
 refine bI (L:=[uk,Dd]) Da (λp=>Qy p) (by grind[y_,Hw]) ?_;rintro(p:cj) (hd:nW p≠0\/p.bj.length<=60);refine NH (let a:=γf .i64;let b:=(0:Int);let e:=iZ.row;let f:=VI .i64;let h:=γW;let k:=(1:Int);let n:=Ψ;let r:=ew.bu.bw;let y:=SV.Gz;let L:=decide (nW p≠b);let q:=ew.i .i64;let U:=[a (nW p)];let W:=q.qE;let V:=y (n W (if nW p=b then bE p else[])::U);let B:=p.bj.length;let N:=(↑B:Int);let z:=γK 0 0 20;let C:=p.bj.length;let l:=(↑C:Int);let j:=a l;let g:=h 1 C 1;let D:=γv .i64 0;let d:=iZ.cells [a p.bm.a0,a p.bm.a1,a p.bm.a2,a p.bm.a3,a p.bm.a4,a p.bm.a5,a p.bs.a0,a p.bs.a1,a p.bs.a2,a p.bs.a3,a p.bs.a4,a p.bs.a5,a p.bt.a0,a p.bt.a1,a p.bt.a2,a p.bt.a3,a p.bt.a4,a p.bt.a5,n q p.bk,n ew.bu p.bj] 27 20 false;let w:=e q (pN p) 3 true;let P:Nat:=(pN p).length;True/\(L=true->(y (n q []::U)).bi V)/\(L=false->b<=N/\N<=N/\N*(8:Int)<=(140737488355328:Int)/\N<=(1000000000000:Int)/\(((z.bi z/\(a N).bi j/\(h 1 N.toNat 1).bi g/\D.bi (a 0)/\True)/\d.bi d/\(e q (δ N.toNat b) 3 true).bi (e q (oN C 0) 3 true)/\True)/\b<=b/\b<=l)/\∀(x:Int),let I:=oN C x.toNat;let H:=x+k;let c0:=a H;b<=x/\x<=l->(decide (x<l)=true->C=I.length/\b<=x/\x<(↑I.length:Int)/\C=I.length/\x.toNat<I.length/\f H/\((z.bi z/\j.bi j/\g.bi g/\c0.bi c0/\True)/\d.bi d/\(e q (I.set x.toNat x) 3 true).bi (e q (oN C H.toNat) 3 true)/\True)/\(b<=H/\H<=l)/\(l - H).toNat<(l - x).toNat)/\(decide (x<l)=false->(((z.bi z/\j.bi j/\g.bi g/\D.bi (a 0)/\True)/\d.bi d/\(e q I 3 true).bi (e q (ef p 0) 3 true)/\True)/\b<=b/\b<=l)/\∀(x:Int),let R:=ef p x.toNat;let b7:=e q R 3 true;let G:=x+k;let c2:=a G;b<=x/\x<=l->(decide (x<l)=true->(((z.bi z/\j.bi j/\g.bi g/\(a x).bi (a x)/\D.bi (a 0)/\True)/\d.bi d/\b7.bi (e q (jq p R 0) 3 true)/\True)/\b<=b/\b<=l)/\∀(c:Int),let A:=a x;let Q:=jq p R c.toNat;let b9:=e q Q 3 true;let F:=c+k;let b8:=a F;b<=c/\c<=l->(decide (c<l)=true->(((z.bi z/\j.bi j/\g.bi g/\A.bi A/\(a c).bi (a c)/\D.bi (a 0)/\True)/\d.bi d/\b9.bi (e q (gI p Q c.toNat 0) 3 true)/\True)/\b<=b/\b<=l)/\∀(x:Int),let v:=x+k;let S:=a c;let T:=a v;let J:=gI p Q c.toNat x.toNat;let b3:=e q J 3 true;let Z:=e q (gI p Q c.toNat v.toNat) 3 true;let a7:=fp (bN p.bj c.toNat r) (bN p.bj x.toNat r);let m:=J.length;let b0:=bN J x.toNat b;let b6:=decide (b0<bN J c.toNat b);let c1:=f v/\((z.bi z/\j.bi j/\g.bi g/\A.bi A/\S.bi S/\T.bi T/\True)/\d.bi d/\b3.bi Z/\True)/\(b<=v/\v<=l)/\(l - v).toNat<(l - x).toNat;b<=x/\x<=l->(decide (x<l)=true->b<=c/\c<N/\c.toNat<B/\b<=x/\x<N/\x.toNat<B/\True/\(a7=true->C=m/\b<=x/\x<(↑m:Int)/\C=m/\x.toNat<m/\C=m/\b<=c/\c<(↑m:Int)/\C=m/\c.toNat<m/\(b6=true->C=m/\b<=x/\x<(↑m:Int)/\C=m/\x.toNat<m/\C=m/\b<=c/\c<(↑m:Int)/\C=m/\c.toNat<m/\f v/\((z.bi z/\j.bi j/\g.bi g/\A.bi A/\S.bi S/\T.bi T/\True)/\d.bi d/\(e q (J.set c.toNat b0) 3 true).bi Z/\True)/\(b<=v/\v<=l)/\(l - v).toNat<(l - x).toNat)/\(b6=false->c1))/\(a7=false->c1))/\(decide (x<l)=false->f F/\((z.bi z/\j.bi j/\g.bi g/\A.bi A/\b8.bi b8/\True)/\d.bi d/\b3.bi (e q (jq p R F.toNat) 3 true)/\True)/\(b<=F/\F<=l)/\(l - F).toNat<(l - c).toNat))/\(decide (c<l)=false->f G/\((z.bi z/\j.bi j/\g.bi g/\c2.bi c2/\True)/\d.bi d/\b9.bi (e q (ef p G.toNat) 3 true)/\True)/\(b<=G/\G<=l)/\(l - G).toNat<(l - x).toNat))/\(decide (x<l)=false->(((j.bi j/\g.bi g/\(h 2 0 1).bi (h 2 (kL p 0).length 1)/\D.bi (a 0)/\True)/\d.bi d/\b7.bi w/\(e W [] 24 false).bi (e W (kL p 0) 24 false)/\True)/\b<=b/\b<=l)/\∀(x:Int),let t:=kL p x.toNat;let K:=h 2 t.length 1;let M:=e W t 24 false;let b5:=t.length+1;let s:=x+k;let a8:=h 2 (kL p s.toNat).length 1;let O:=a s;let a6:=e W (kL p s.toNat) 24 false;b<=x/\x<=l->(decide (x<l)=true->(((j.bi j/\g.bi g/\K.bi K/\(a x).bi (a x)/\(h 3 0 1).bi (h 3 (lW p x 0).length 1)/\D.bi (a 0)/\True)/\d.bi d/\w.bi w/\M.bi M/\(e q [] 3 true).bi (e q (lW p x 0) 3 true)/\True)/\b<=b/\b<=l)/\∀(c:Int),let E:=c+k;let Y:=a x;let a9:=a E;let b1:=decide (bN (pN p) c.toNat b=x);let o:=lW p x c.toNat;let b2:=o.length+1;let b4:=decide (b<(↑o.length:Int));let X:=λ(u:Nat) (c6:iZ) ↦f E/\((j.bi j/\g.bi g/\K.bi K/\Y.bi Y/\(h 3 u 1).bi (h 3 (lW p x E.toNat).length 1)/\a9.bi a9/\True)/\d.bi d/\w.bi w/\M.bi M/\c6.bi (e q (lW p x E.toNat) 3 true)/\True)/\(b<=E/\E<=l)/\(l - E).toNat<(l - c).toNat;b<=c/\c<=l->(decide (c<l)=true->C=P/\b<=c/\c<(↑P:Int)/\C=P/\c.toNat<P/\(b1=true->o.length=o.length/\b2*8<=140737488355328/\b2<=1000000000000/\X (o++[c]).length (e q (o++[c]) 3 true))/\(b1=false->X o.length (e q o 3 true)))/\(decide (c<l)=false->(b4=true->o.length=o.length/\t.length=t.length/\b5*24<=140737488355328/\b5<=1000000000000/\f s/\((j.bi j/\g.bi g/\(h 2 (t++[o]).length 1).bi a8/\O.bi O/\True)/\d.bi d/\w.bi w/\(e W (t++[o]) 24 false).bi a6/\True)/\(b<=s/\s<=l)/\(l - s).toNat<(l - x).toNat)/\(b4=false->f s/\((j.bi j/\g.bi g/\K.bi a8/\O.bi O/\True)/\d.bi d/\w.bi w/\M.bi a6/\True)/\(b<=s/\s<=l)/\(l - s).toNat<(l - x).toNat)))/\(decide (x<l)=false->t.length=t.length/\(y [n W t,D]).bi V))))) (by kernel_rfl) ?_;simp only[vcs];have c8:(iZ.cells p.ss 27 20 false).bi (iZ.cells p.ss 27 20 false):=rfl;have B:∀{x y:List Int},x=y->(iZ.row (.i .i64) x 3 true).bi (iZ.row (.i .i64) y 3 true):=by rintro _ _ rfl;rfl
 have U:∀{x y:List (List Int)},x=y->(iZ.row (.qE (.i .i64)) x 24 false).bi (iZ.row (.qE (.i .i64)) y 24 false):=by rintro _ _ rfl;rfl
 have hw:∀{k a b:Nat},a=b->(γW k a 1).bi (γW k b 1):=by rintro _ _ _ rfl;rfl
 refine⟨λh=>by rw[if_neg h];rfl,λh=>?_⟩;have hc:nW p=0:=γc.1 h;have hN:=hd.resolve_left h;refine⟨by omega,by omega,by omega,by omega,⟨⟨hw (by omega),B (by simp[oN,bP])⟩,by omega,by omega⟩,?_⟩;rintro i ⟨i0,i1⟩;refine⟨λc5=>?_,λV=>?_⟩;·grind[QF,QE]
 refine⟨⟨B (by rw[show i.toNat=p.bj.length by omega];simp[oN,ef]),by omega,by omega⟩,?_⟩;clear i0 i1 V i;rintro r ⟨r0,r1⟩;refine⟨λc5=>?_,λV=>?_⟩
 ·refine⟨⟨B rfl,by omega,by omega⟩,?_⟩;rintro i ⟨i0,i1⟩;refine⟨λc3=>?_,λc4=>?_⟩
  ·refine⟨⟨B rfl,by omega,by omega⟩,?_⟩;rintro k ⟨k0,k1⟩;have d5:(gI p (jq p (ef p r.toNat) i.toNat) i.toNat k.toNat).length=p.bj.length:=by rw[BZ,Dc,Db]
   have d2:gI p (jq p (ef p r.toNat) i.toNat) i.toNat (k+1).toNat=if fp (bN p.bj i.toNat ew.bu.bw) (bN p.bj k.toNat ew.bu.bw)=true/\bN (gI p (jq p (ef p r.toNat) i.toNat) i.toNat k.toNat) k.toNat 0<bN (gI p (jq p (ef p r.toNat) i.toNat) i.toNat k.toNat) i.toNat 0 then(gI p (jq p (ef p r.toNat) i.toNat) i.toNat k.toNat).set i.toNat (bN (gI p (jq p (ef p r.toNat) i.toNat) i.toNat k.toNat) k.toNat 0) else gI p (jq p (ef p r.toNat) i.toNat) i.toNat k.toNat:=by
    rw[show(k+1).toNat=k.toNat+1 by omega];rfl
   refine⟨λd0=>?_,λd4=>?_⟩;·grind
   ·refine⟨by omega,B ?_,by omega,by omega⟩;rw[show k.toNat=p.bj.length by omega,show(i+1).toNat=i.toNat+1 by omega];rfl
  ·refine⟨by omega,B ?_,by omega,by omega⟩;rw[show i.toNat=p.bj.length by omega,show(r+1).toNat=r.toNat+1 by omega];rfl
 refine⟨⟨⟨hw (by simp[kL,bP]),B (by rw[show r.toNat=p.bj.length by omega];rfl),U (by simp[kL,bP])⟩,by omega,by omega⟩,?_⟩;have c7:(pN p).length=p.bj.length:=Db;clear r0 r1 V r;rintro f ⟨f0,f1⟩;have d3:(kL p f.toNat).length<=f.toNat:=by
  grind[kL,eY]
 refine⟨λc9=>?_,λd6=>⟨?_,hc.symm⟩⟩
 ·have e0:([]:List Int)=lW p f 0:=by simp[lW,bP]
  refine⟨⟨⟨hw (by simp_all),B e0⟩,by omega,by omega⟩,?_⟩;rintro i ⟨i0,i1⟩;have hs:=QB (p:=p) (f:=f) (i:=i.toNat);rw[show((i.toNat:Nat):Int)=i by omega,show i.toNat+1=(i+1).toNat by omega] at hs;have d1:(lW p f i.toNat).length<=i.toNat:=by
   grind[lW,eY]
  refine⟨λc3=>?_,λc4=>?_⟩
  ·rw[c7];grind
  ·rw[show i.toNat=p.bj.length by omega,QA];have hS:=QC (p:=p) (n:=f.toNat);rw[show((f.toNat:Nat):Int)=f by omega,show f.toNat+1=(f+1).toNat by omega] at hS;refine⟨λhv=>?_,λhv=>?_⟩
   ·rw[if_pos (by intro e;rw[e] at hv;simp at hv)] at hS;rw[hS];refine⟨?_,?_,?_,⟨hw rfl,U rfl⟩,?_,?_⟩<;>omega
   ·have e:qi p f=[]:=τ (by omega);rw[if_neg (by simp[e]),List.append_nil] at hS;rw[hS];refine⟨?_,⟨hw rfl,U rfl⟩,?_,?_⟩<;>omega
 ·rw[if_pos hc,show f.toNat=p.bj.length by omega];exact Qz
def C_:M9:=⟨16,cj×List Int,.cons cO (.one (cL (.i .i64))),λa=>a.2.length<=1000000000000,λa=> .Gz [.agg (gz a.1 a.2).ss,.si .i64 (jd a.1 a.2)]⟩
theorem HB:Holds Tryz.prog C_:=by
 refine bI (L:=[uk,AH]) C_ lk (by grind[y_,yW]) ?_;rintro⟨p,l⟩ (z:l.length<=1000000000000);refine NH (let e:=γf .i64;let f:=Ψ;let h:=γJ;let o:=SV.Gz;let a:=γv .i64 0;let g:=ew.i .i64;let d:=(gz p l).bm;let b:=(gz p l).bs;let c:=(gz p l).bt;let k:=o [h [e d.a0,e d.a1,e d.a2,e d.a3,e d.a4,e d.a5,e b.a0,e b.a1,e b.a2,e b.a3,e b.a4,e b.a5,e c.a0,e c.a1,e c.a2,e c.a3,e c.a4,e c.a5,f g (gz p l).bk,f ew.bu (gz p l).bj],e (jd p l)];let n:=decide (nW p≠(0:Int));let m:=λ(u:Bool) (j:SV) ↦u=true->(o [h [a,a,a,a,a,a,a,a,a,a,a,a,a,a,a,a,a,a,f g [],f g []],j]).bi k;True/\m n (e (nW p))/\(n=false->(l.length<=9223372036854775807/\p.bj.length<=1000)/\m (!dW p l) (γv .i64 4)/\((!dW p l)=false->(o [h [e p.bm.a0,e p.bm.a1,e p.bm.a2,e p.bm.a3,e p.bm.a4,e p.bm.a5,e p.bs.a0,e p.bs.a1,e p.bs.a2,e p.bs.a3,e p.bs.a4,e p.bs.a5,e p.bt.a0,e p.bt.a1,e p.bt.a2,e p.bt.a3,e p.bt.a4,e p.bt.a5,f g p.bk,f ew.bu (cF p l)],a]).bi k))) (by kernel_rfl) ?_;simp only[vcs];have o:jd p l≠0->gz p l=BA:=λh=>by simp_all[gz]
 refine⟨λh=>?_,λh=>?_⟩
 ·have e:jd p l=nW p:=by simp_all[jd]
  rw[o (by omega),e];exact⟨rfl,rfl⟩
 ·have r:nW p=0:=γc.1 h;have w:=cT r;have e:jd p l=if dW p l=true then 0 else 4:=by simp_all[jd]
  refine⟨⟨by omega,by have:=w.2.1;omega⟩,λf=>?_,λf=>?_⟩
  ·rw[f] at e;have q:jd p l=4:=e;rw[o (by omega),q];exact⟨rfl,rfl⟩
  ·have y:=zm (by omega) f;rw[f] at e;have s:jd p l=0:=e;have v:gz p l=dS p l:=by simp_all[gz]
   have t:cF p l=l.map (oI p):=by unfold cF;rw[vD ⟨y.1,λx A=>by grind⟩];rfl
   rw[v,s,t];exact⟨rfl,rfl⟩
def pM (p:cj):Bool:=decide (p.bk.length<=8)&&(decide (p.bj.length<=12)&&decide (nW p=0))
def C9:M9:=⟨18,cj,.one cO,λ_=>True,λp=> .sb (pM p)⟩
theorem HA:Holds Tryz.prog C9:=by
 refine bI (L:=[uk]) C9 lk (by grind[y_]) ?_;intro(p:cj) _;refine NH (let c:=δd false;let d:=γy;let b:=decide ((↑p.bk.length:Int)<=(8:Int));let a:=decide ((↑p.bj.length:Int)<=(12:Int));(b=true->(a=true->True/\(d (decide (nW p=(0:Int)))).bi (d (pM p)))/\(a=false->(c).bi (d (pM p))))/\(b=false->(c).bi (d (pM p)))) (by kernel_rfl) ?_;simp only[vcs,pM];grind
def eh:cj:=⟨⟨1,1,0,0,0,0⟩,⟨1,1,0,0,0,0⟩,.zero,[0,0],[⟨0,⟨1,0,0,0,0,0⟩,5⟩,⟨1,⟨0,1,0,0,0,0⟩,7⟩]⟩
def C8:M9:=⟨27,Unit,.nil,λ_=>True,λ_=>cO.put eh⟩
theorem Hy:Holds Tryz.prog C8:=by
 refine bI (L:=[]) C8 lk (by simp) ?_;intro _ _;refine NH (let d:=γf .i64;let e:=(0:Int);let f:=Ψ;let g:=(1:Int);let c:=γv .i64 1;let a:=γv .i64 0;let b:=eh.bm;(γJ [c,c,a,a,a,a,c,c,a,a,a,a,a,a,a,a,a,a,f (ew.i .i64) [e,e],f ew.bu [bC.mk e (zi.mk g e e e e e) (5:Int),bC.mk g (zi.mk e g e e e e) (7:Int)]]).bi (γJ [d b.a0,d b.a1,d b.a2,d b.a3,d b.a4,d b.a5,d eh.bs.a0,d eh.bs.a1,d eh.bs.a2,d eh.bs.a3,d eh.bs.a4,d eh.bs.a5,d eh.bt.a0,d eh.bt.a1,d eh.bt.a2,d eh.bt.a3,d eh.bt.a4,d eh.bt.a5,f (ew.i .i64) eh.bk,f ew.bu eh.bj])) (by kernel_rfl) ?_;conv=>zeta
 try simp only[vcs]
 try rfl
theorem Qx {p:cj} (hc:nW p=0) (h60:p.bj.length<=60) (h15:∀c∈bE p,c.length<=15):
  B0 p (jC p,jV p,dE p)/\qg p (jC p,jV p,dE p)=0/\∀n:Nat,n<=(bE p).length->iT p (dE p) n=0:=by
 have hpl:(dE p).length=(bE p).length:=Θ _;have hpc:∀i,i<(bE p).length->nW (dS p (bN (bE p) i []))=0/\(dS p (bN (bE p) i [])).bj.length<=15:=λi hi=>by
  have hm:bN (bE p) i []∈bE p:=cE hi;exact⟨BC hc (uQ hm),by rw[BD];exact h15 _ hm⟩
 have hk:∀n:Nat,n<=(bE p).length->iT p (dE p) n=0:=by
  intro n;induction n with
  |zero=>exact λ_=>rfl;|succ n ih=>
   intro hn;show(if iT p (dE p) n≠0 then iT p (dE p) n else _)=0;rw[if_neg (by rw[ih (by omega)];exact λh=>h rfl),B1 (by omega)];obtain⟨a,b⟩:=hpc n (by omega);exact JR a b
 obtain⟨j1,j2⟩:=I7 hc;have hjl:(jC p).length<=2000:=by unfold jC;rw[pC];exact(j1 _ (ξ _)).1
 refine⟨⟨.inr h60,by simp only;omega,λ_ _=>⟨λi hi=>?_,λ_=>⟨λn hn=>by have:=j1 n hn;simp only;omega,j2⟩⟩⟩,?_,hk⟩
 ·simp only at hi ⊢;obtain⟨a,b⟩:=hpc i (by omega);have hbi:=xe a;rw[B1 (by omega)];exact⟨by have:=hbi.2.2.2;show(VL _).bn.length<=_;omega,λ_ _=>(CV a b).1 _ (by have:=hbi.2.2.1;show _<=(VL _).value/\(VL _).value<=_;omega)⟩
 ·unfold qg;rw[if_neg (by simp[hc]),if_neg (by simp[hpl]),if_neg (by simp[hpl,hk _ (ξ _)]),if_neg (by simp[jC,jV])]
theorem Qw:nW eh=0:=by kernel_rfl
theorem I4:bE eh=[[0],[1]]:=by kernel_rfl
theorem Qv:fh (bE eh) (dE eh) (dE eh).length=[0,1]:=by kernel_rfl
theorem I3:jC eh=[0,1]:=by
 unfold jC;rw[Qv];exact List.mergeSort_of_pairwise (by simp)
theorem Qu:bD (jC eh) [0,1]=0:=by
 rw[I3];rfl
theorem Qt:jd eh [1]=0:=by kernel_rfl
def C7:M9:=⟨11,Unit,.nil,λ_=>True,λ_=> .sb true⟩
theorem HE:Holds Tryz.prog C7:=by
 refine bI (L:=[C8,w9,B2,CP,y8,De]) C7 lk (by grind[Hy,tX,yD,HC,IZ,Hz]) ?_;intro _ _;refine NH (let a:=δd false;let e:=γy;let f:=(0:Int);let g:=(1:Int);let b:=(jC eh,jV eh,dE eh);let d:=decide (bD (jC eh) [f,g]=f);let c:=λ(u:Bool) ↦decide (qg eh b=f)=u;True/\(nW eh≠f\/eh.bj.length<=60)/\True/\B3 eh/\True/\1<=1000000000000/\(true=true->(true=true->(true=true->(true=true->((jC eh).length<=1000000000000/\2<=1000000000000)/\(d=true->(true=true->True/\B0 eh b/\(c true->(true=true->(true=true->f<=f/\f<g/\0<(gz eh [g]).bj.length/\(e true).bi (e true))/\(true=false->(a).bi (e true)))/\(true=false->(a).bi (e true)))/\(c false->(a).bi (e true)))/\(true=false->(a).bi (e true)))/\(d=false->(a).bi (e true)))/\(true=false->(a).bi (e true)))/\(true=false->(a).bi (e true)))/\(true=false->(a).bi (e true)))/\(true=false->(a).bi (e true))) (by kernel_rfl) ?_;simp only[vcs];have e:=Qx Qw (by decide) (by grind[I4]);have g:(jC eh).length=2:=by grind[I3]
 have a:true=false->false=true:=λh=>by cases h
 have f:(gz eh [1]).bj.length=1:=by
  unfold gz;rw[if_pos Qt];rfl
 exact⟨.inr (by decide),.inr ⟨by decide,by grind[I4]⟩,by omega,λ_=>⟨λ_=>⟨λ_=>⟨λ_=>⟨⟨by omega,by omega⟩,λ_=>⟨λ_=>⟨e.1,λ_=>⟨λ_=>⟨λ_=>⟨by omega,by omega,by omega⟩,a⟩,a⟩,λh=>absurd e.2.1 h⟩,a⟩,λh=>absurd Qu h⟩,a⟩,a⟩,a⟩,a⟩
theorem I2 {p:cj} (h:pM p=true):nW p=0/\p.bj.length<=12/\p.bk.length<=8:=by
 simp_all[pM]
theorem Qs {p:cj} (h:pM p=true):∀c∈bE p,c.length<=12:=λc a=>δ1 (pB (uQ a)) (I2 h).2.1
theorem Qr {p:cj} (a:nW p=0) {c:List Int} (h:dO p.bj.length c):jd p c=0/\gz p c=dS p c:=by
 simp_all[dW,vD,jd,gz]
noncomputable def Qq (p:cj):TN:=[.cells p.ss 27 20 false,.cells [.row (.i .i64) (if nW p=0 then jC p else[]),.si .i64 (if nW p=0 then jV p else 0),.row cD (if nW p=0 then dE p else[])] 43 3 false]
noncomputable def Qp (p:cj):Nat->bG
 |8=> .inv Int (λi=>⟨[(1,.ptr 0 0 20),(3,.ptr 1 0 3),(5,.row (.qE (.i .i64)) (if nW p=0 then bE p else[])),(7,.si .i64 i)],Qq p⟩)
   (λs=>iS s 7) (λi=>0<=i/\i<=(if nW p=0 then bE p else[]).length) (λi=>((if nW p=0 then bE p else[]).length - i).toNat) λ_ _=> .look
 |_=> .look
noncomputable def Ck:M9:=⟨6,cj,.one cO,λ_=>True,λ_=> .sb true⟩
theorem HF:Holds Tryz.prog Ck:=by
 refine bI (L:=[C9,C7,B2,Da,C_,D5,y8,BL]) Ck (λp=>Qp p) (by simpa using⟨HA,HE,yD,HD,HB,H8,IZ,yG⟩) ?_;intro(p:cj) _;refine NH (let c:=γf .i64;let f:=(0:Int);let h:=δd false;let n:=Ψ;let o:=γy;let E:=if nW p=f then dE p else[];let B:=E.length;let z:=(↑B:Int);let l:=if nW p=f then bE p else[];let w:=(↑l.length:Int);let I:=decide (nW p≠f);let y:=γK 0 0 20;let A:=γK 1 0 3;let m:=ew.i .i64;let j:=iZ.cells [c p.bm.a0,c p.bm.a1,c p.bm.a2,c p.bm.a3,c p.bm.a4,c p.bm.a5,c p.bs.a0,c p.bs.a1,c p.bs.a2,c p.bs.a3,c p.bs.a4,c p.bs.a5,c p.bt.a0,c p.bt.a1,c p.bt.a2,c p.bt.a3,c p.bt.a4,c p.bt.a5,n m p.bk,n ew.bu p.bj] 27 20 false;let k:=iZ.cells [n m (if nW p=f then jC p else[]),c (if nW p=f then jV p else f),n cD E] 43 3 false;let e:=(↑(if nW p=f then bE p else[]).length:Int);let s:=m.qE.bw;let J:=λ(u:Bool) ↦decide (z≠w)=u;True/\((!pM p)=true->True/\(o true).bi (o true))/\((!pM p)=false->B3 p/\(nW p≠f\/p.bj.length<=60)/\(I=true->(h).bi (o true))/\(I=false->(J true->(h).bi (o true))/\(J false->(((y.bi y/\A.bi A/\(n m.qE l).bi (n m.qE l)/\(γv .i64 0).bi (c 0)/\True)/\j.bi j/\k.bi k/\True)/\f<=f/\f<=e)/\∀(x:Int),let b:=gz p (bN l x.toNat s);let a:=bN E x.toNat cD.bw;let g:=a.2.1;let d:=x+(1:Int);let q:=c d;let r:=λ(u:Bool) ↦decide (qj b (a.1,g,a.2.2)≠f)=u;let v:=λ(u:Bool) ↦decide (g≠(VL b).value)=u;let t:=λ(u:Bool) ↦decide (bD a.1 (VL b).bn≠f)=u;f<=x/\x<=e->(decide (x<w)=true->f<=x/\x<w/\x.toNat<l.length/\(bN l x.toNat s).length<=1000000000000/\nW b=f/\f<=x/\x<z/\x.toNat<B/\(v true->(h).bi (o true))/\(v false->f<=x/\x<z/\x.toNat<B/\(γb a.1<=1000000000000/\(VL b).bn.length<=1000000000000)/\(t true->(h).bi (o true))/\(t false->f<=x/\x<z/\x.toNat<B/\(γb a.1<=1000000000000/\(bR b a.1=f->cA b a.1=g->rb b g a.2.2))/\(r true->(h).bi (o true))/\(r false->VI .i64 d/\((y.bi y/\A.bi A/\(n m.qE l).bi (n m.qE l)/\q.bi q/\True)/\j.bi j/\k.bi k/\True)/\(f<=d/\d<=e)/\(e - d).toNat<(e - x).toNat))))/\(decide (x<w)=false->True/\(o true).bi (o true)))))) (by kernel_rfl) ?_;simp only[vcs];refine⟨λ_=>trivial,λh=>?_⟩;obtain⟨o,P,V⟩:=I2 h;have n:∀c∈bE p,c.length<=15:=λc f=>by have:=Qs h c f;omega
 have F:(dE p).length=(bE p).length:=Θ _;have M:=BB o;simp only[if_pos o];refine⟨.inr ⟨by omega,n⟩,.inr (by omega),λh=>absurd o h,λ_=>⟨λh=>by omega,λ_=>⟨by omega,?_⟩⟩⟩;rintro i ⟨W,U⟩;refine⟨λN=>?_,λ_=>trivial⟩;have C:bN (bE p) i.toNat (ew.i IntKind.i64).qE.bw=bN (bE p) i.toNat []:=rfl;rw[C,B1 (p:=p) (i:=i.toNat) (by omega),F];have f:bN (bE p) i.toNat []∈bE p:=cE (by omega);generalize bN (bE p) i.toNat []=c at f ⊢;have G:=uQ f;obtain⟨_,S⟩:=Qr o G;rw[S];have D:=BC o G;have H:(dS p c).bj.length<=15:=by rw[BD];exact n c f
 have R:=pB G;have K:=xe D;have Q:γb (qh p c).1<=160:=K.2.2.2;have O:(VL (dS p c)).bn.length<=160:=K.2.2.2;have T:bD (qh p c).1 (VL (dS p c)).bn=0:=FG _;grind[qh,JR,CV]
end Go.Vi

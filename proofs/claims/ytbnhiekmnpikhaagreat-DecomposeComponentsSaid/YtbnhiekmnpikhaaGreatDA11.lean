/-
  Contracts: newTableau, setGoal, start.
  Conditions: none.
-/
import Derived.Test.YtbnhiekmnpikhaaGreatDA06
import Derived.Test.YtbnhiekmnpikhaaGreatDA07
import Derived.Test.YtbnhiekmnpikhaaGreatDA09
import Derived.Test.YtbnhiekmnpikhaaGreatDA08
import Derived.Test.YtbnhiekmnpikhaaGreatDA10
set_option maxRecDepth 100000
set_option maxHeartbeats 4000000
set_option linter.all false
open Bool renaming and_eq_true->θ
open Go.Vi.AV renaming sl->ζ1,sc->δg,os->θg
open Go.Vi.AV.sc renaming injEq->δd
open Go.Vi.SV renaming ow->γZ,si->γg,row->Ω,il->γA,ptr->γP,sb->γx
open Int renaming toNat_natCast->γl,le_refl->εf
open IntCast renaming intCast->κ
open List renaming replicate->δ,length->γc,take->Δ,map->γb,length_replicate->γC,length_map->Ξ,length_take->γw,map_append->γa,take_length->ψ,length_set->Φ,map_map->γ3,map_congr_left->γY,flatMap->ζ4,elem->ζL,getElem_of_mem->γJ,mem_map->Ψ,mem_append_left->εq,mem_append->γk,all_eq_true->φ,map_cons->π,sum_cons->ε3,perm_ext_iff_of_nodup->γ4,nodup_append->γs,filter_sublist->γR,sum_append->θb,idxOf_lt_length_of_mem->εk,getElem?_set_ne->δq,range_eq_range'->δD,take_append_drop->γM,map_nil->γr
open List.cons renaming injEq->Γ
open Nat renaming one_le_two_pow->ζY
open Option renaming map_eq_some_iff->ε
open Option.some renaming injEq->γ
namespace Go.Vi
open Go.Proofs.YtbnhiekmnpikhaaGreat.Ir
open Go.Proofs
def Bq (a:tf):nM:=⟨a.1.length,a.2.length,a.2.length,a.2.length,a.2.length,a.1.length,a.2.map (·.1),a.2.map (·.2),δ a.1.length (bu 0),bu 0,(cG a.2.length).map λi=>a.1.length+i,cG a.1.length⟩
def Kr:dG where
 f:=157;α:=tf;put a:=[yM.put a];st _:=[];dec v o:=match v,o with
  |[v],[]=>yM.dec v
  |_,_=>none;ok v o a h:=by
  split at h;·exact⟨by simp only[gL,yM.ok _ _ h],rfl⟩
  ·cases h
 inj a b h _:=yM.inj a b (by simpa[gL] using h);dom a:=a.1.length<=1000/\a.2.length<=1000/\∀r∈a.2,r.1.length<=1000;res a:=.ptr 0 0 10;out a:=(Bq a).gR
def Ub (a:tf) (k0 k1 k2 k3 k4:Nat) (co:List (List bL)) (bo ct:List bL) (ba fr:List Int):bZ:=
 [.cells [.row sF a.1,.row sR a.2] 217 2 false,.cells [.si .i64 a.1.length,.si .i64 a.2.length,.ow 2 k0 1,.ow 3 k1 3,.ow 4 k2 3,.sb (bu 0).1,.row (.i .u32) (bu 0).2.1,.row (.i .u32) (bu 0).2.2,.ow 5 k3 1,.ow 6 k4 1] 261 10 false,
  .row (.bD sF) co 106 false,.row sF bo 177 false,.row sF ct 177 true,.row (.i .i64) ba 3 false,.row (.i .i64) fr 3 false]
def ad2 (a:tf):Nat->cC
 |3=> .inv Int (λj=>⟨[(1,.ptr 0 0 2),(3,.ptr 1 0 10),(18,.si .i64 a.1.length),(19,.si .i64 j)],Ub a 0 0 j.toNat 0 j.toNat [] [] (δ j.toNat (bu 0)) [] (cG j.toNat)⟩)
   (λs=>iS s 19) (λj=>0<=j/\j<=a.1.length) (λj=>(a.1.length - j).toNat) λ_ _=> .look
 |9=> .inv Int (λi=>⟨[(3,.ptr 1 0 10),(44,.row sR a.2),(45,.si .i64 a.2.length),(46,.si .i64 i)],Ub a i.toNat i.toNat a.1.length i.toNat a.1.length ((a.2.take i.toNat).map (·.1)) ((a.2.take i.toNat).map (·.2)) (δ a.1.length (bu 0)) ((cG i.toNat).map λi=>a.1.length+i) (cG a.1.length)⟩)
   (λs=>iS s 46) (λi=>0<=i/\i<=a.2.length) (λi=>(a.2.length - i).toNat) λ_ _=> .look
 |_=> .look
theorem h399:ec Tryz.prog Kr:=by
 refine HO (L:=[oH]) (W:=[]) Kr (λ_=>none) ad2 (by simp) (by simpa using h94) ?_;rintro⟨g,rs⟩ ⟨hg,hr,hrr⟩;simp only at hg hr hrr;refine bQ (let a:=bq.row;let c:=γZ;let d:=bq.cells;let e:=(0:Int);let f:=γg .i64;let h:=(-9223372036854775808:Int);let j:=Ω;let k:=(9223372036854775807:Int);let l:=γA .i64 0;let o:=cq .i64;let p:=γP;let V:=p 0 0 2;let w:=p 1 0 10;let a6:=f (↑g.length:Int);let r:=(↑g.length:Int);let s:=f r;let N:=j sR rs;let y:=d [j sF g,N] 217 2 false;let a7:=f (↑rs.length:Int);let G:=c 2 0 1;let H:=c 3 0 3;let a8:=c 4 0 3;let I:=bu (κ e);let z:=bp.i .u32;let O:=c 5 0 1;let a9:=[O,c 6 0 1];let A:=(↑rs.length:Int);let t:=f A;let J:=bu (0:Rat);let B:=γx J.fst;let C:=j z J.snd.fst;let D:=j z J.snd.snd;let P:=bp.b.pair (z.bD.pair z.bD);let Q:=a sF.bD [] 106 false;let R:=a sF [] 177 false;let u:=bp.i .i64;let F:=a u [] 3 false;let a1:=c 4 g.length 3;let a2:=[c 6 g.length 1];let a3:=δ g.length J;let a4:=a sF a3 177 true;let W:=a u (cG g.length) 3 false;let aa:=p 0 0 10;let q:=Bq (g,rs);(h<=e/\e<=k)/\(((V.same V/\w.same w/\a6.same s/\(l).same (f 0)/\True)/\y.same y/\(d (a6::a7::G::H::a8::γx I.fst::j z I.snd.fst::j z I.snd.snd::a9) 261 10 false).same (d (s::t::G::H::a8::B::C::D::a9) 261 10 false)/\(a P.bD [] 106 false).same Q/\(a P [] 177 false).same R/\(a P [] 177 true).same (a sF [] 177 true)/\F.same F/\F.same (a u (cG 0) 3 false)/\True)/\e<=e/\e<=r)/\∀(x:Int),let S:=cG x.toNat;let ab:=S.length+1;let X:=δ x.toNat J;let ac:=X.length+1;let K:=x+(1:Int);let ad:=f K;let ae:=X++[(I.fst,I.snd.fst,I.snd.snd)];let Y:=K.toNat;e<=x/\x<=r->(decide (x<r)=true->1=1/\x.toNat=S.length/\ab*8<=140737488355328/\ab<=1000000000000/\(h<=e/\e<=k)/\1=1/\x.toNat=X.length/\ac*56<=140737488355328/\ac<=1000000000000/\o K/\((V.same V/\w.same w/\s.same s/\ad.same ad/\True)/\y.same y/\(d [s,t,G,H,c 4 ae.length 3,B,C,D,O,c 6 (S++[x]).length 1] 261 10 false).same (d [s,t,G,H,c 4 Y 3,B,C,D,O,c 6 Y 1] 261 10 false)/\Q.same Q/\R.same R/\(a P ae 177 true).same (a sF (δ Y J) 177 true)/\F.same F/\(a u (S++[x]) 3 false).same (a u (cG Y) 3 false)/\True)/\(e<=K/\K<=r)/\(r - K).toNat<(r - x).toNat)/\(decide (x<r)=false->(((w.same w/\N.same N/\a7.same t/\(l).same (f 0)/\True)/\y.same y/\(d [s,t,G,H,c 4 x.toNat 3,B,C,D,O,c 6 x.toNat 1] 261 10 false).same (d (s::t::G::H::a1::B::C::D::O::a2) 261 10 false)/\Q.same Q/\R.same R/\(a sF X 177 true).same a4/\F.same F/\(a u S 3 false).same W/\True)/\e<=e/\e<=A)/\∀(x:Int),let T:=bj rs x.toNat sR.dflt;let E:=γc T.fst;let af:=Δ x.toNat rs;let Z:=γb (λx ↦x.fst) af;let a5:=Z.length+1;let a0:=γb (λx ↦x.snd) af;let ag:=a0.length+1;let U:=γb (λi ↦(↑(g,rs).fst.length:Int)+i) (cG x.toNat);let ah:=U.length+1;let L:=x+(1:Int);let ai:=f L;let aj:=a0++[(T.snd.fst,T.snd.snd.fst,T.snd.snd.snd)];let M:=L.toNat;e<=x/\x<=A->(decide (x<A)=true->e<=x/\x<(↑rs.length:Int)/\x.toNat<rs.length/\0=0/\(0+E)*56<=140737488355328/\0+E<=1000000000000/\x.toNat=Z.length/\a5*24<=140737488355328/\a5<=1000000000000/\E=E/\E=E/\E=E/\1=1/\x.toNat=a0.length/\ag*56<=140737488355328/\ag<=1000000000000/\o (r+x)/\1=1/\x.toNat=U.length/\ah*8<=140737488355328/\ah<=1000000000000/\o L/\((w.same w/\N.same N/\t.same t/\ai.same ai/\True)/\y.same y/\(d (s::t::c 2 a5 1::c 3 aj.length 3::a1::B::C::D::c 5 (U++[r+x]).length 1::a2) 261 10 false).same (d (s::t::c 2 M 1::c 3 M 3::a1::B::C::D::c 5 M 1::a2) 261 10 false)/\(a sF.bD (Z++[T.fst]) 106 false).same (a sF.bD (γb (λx ↦x.fst) (Δ M rs)) 106 false)/\(a P aj 177 false).same (a sF (γb (λx ↦x.snd) (Δ M rs)) 177 false)/\a4.same a4/\(a u (U++[r+x]) 3 false).same (a u (γb (λi ↦(↑(g,rs).fst.length:Int)+i) (cG M)) 3 false)/\W.same W/\True)/\(e<=L/\L<=A)/\(A - L).toNat<(A - x).toNat)/\(decide (x<A)=false->g.length=a3.length/\aa.same aa/\(d [s,t,c 1 x.toNat 1,c 2 x.toNat 3,j sF a3,B,C,D,c 3 x.toNat 1,c 4 g.length 1] 261 10 false).same (d [f q.n,f q.m,c 1 q.k0 1,c 2 q.k1 3,j sF q.cost,γx q.v.fst,j z q.v.snd.fst,j z q.v.snd.snd,c 3 q.k3 1,c 4 q.k4 1] 261 10 false)/\(a sF.bD Z 106 false).same (a sF.bD q.cj 106 false)/\(a sF a0 177 false).same (a sF q.bound 177 false)/\(a u U 3 false).same (a u q.basic 3 false)/\W.same (a u q.free 3 false)/\True))) (by kernel_rfl) ?_;simp only[vcs];have h0:(κ 0:Rat)=0:=rfl;simp only[h0,jO];have hcell:∀{a b a' b' c d e a2 b2 c2 d2 e2:Nat},a=a2->b=b2->c=c2->d=d2->e=e2->(bq.cells [.si .i64 a',.si .i64 b',.ow 2 a 1,.ow 3 b 3,.ow 4 c 3,.sb (bu 0).1,.row (.i .u32) (bu 0).2.1,.row (.i .u32) (bu 0).2.2,.ow 5 d 1,.ow 6 e 1] 261 10 false).same
   (bq.cells [.si .i64 a',.si .i64 b',.ow 2 a2 1,.ow 3 b2 3,.ow 4 c2 3,.sb (bu 0).1,.row (.i .u32) (bu 0).2.1,.row (.i .u32) (bu 0).2.2,.ow 5 d2 1,.ow 6 e2 1] 261 10 false):=by
  rintro _ _ _ _ _ _ _ _ _ _ _ _ rfl rfl rfl rfl rfl;rfl
 have hrF:∀{x y:List bL},x=y->(bq.row sF x 177 false).same (bq.row sF y 177 false):=by rintro _ _ rfl;rfl
 have uR:∀{x y:List bL},x=y->(bq.row sF x 177 true).same (bq.row sF y 177 true):=by rintro _ _ rfl;rfl
 have hrM:∀{x y:List (List bL)},x=y->(bq.row (.bD sF) x 106 false).same (bq.row (.bD sF) y 106 false):=by rintro _ _ rfl;rfl
 have lJ:∀{x y:List Int},x=y->(bq.row (.i .i64) x 3 false).same (bq.row (.i .i64) y 3 false):=by rintro _ _ rfl;rfl
 have hcast:∀k:Nat,((k:Nat):Int).toNat=k:=λk=>γl k;refine⟨by omega,⟨⟨rfl,lJ rfl⟩,by omega,by omega⟩,?_⟩;rintro j ⟨j0,j1⟩;have l1:=@fU j.toNat;have l2:(δ j.toNat (bu 0)).length=j.toNat:=γC;refine⟨λhj=>?_,λhj=>?_⟩
 ·have e1:cG j.toNat++[j]=cG (j+1).toNat:=by
   rw[show(j+1).toNat=j.toNat+1 by omega,pX,show((j.toNat:Nat):Int)=j by omega]
  have e2:δ j.toNat (bu 0)++[bu 0]=δ (j+1).toNat (bu 0):=by
   rw[show(j+1).toNat=j.toNat+1 by omega,List.replicate_succ']
  rw[e1,e2,fU,γC];rw[fU,γC];refine⟨rfl,?_,?_,?_,rfl,?_,?_,?_,⟨hcell rfl rfl rfl rfl rfl,uR rfl,lJ rfl⟩,?_,?_⟩<;>omega
 ·rw[show j.toNat=g.length by omega];refine⟨⟨⟨hcell rfl rfl rfl rfl rfl,uR rfl,lJ rfl⟩,by omega,by omega⟩,?_⟩;rintro i ⟨i0,i1⟩;have l3:(γb (λx:List bL×bL=>x.1) (Δ i.toNat rs)).length=i.toNat:=by rw[Ξ,γw];omega
  have l4:(γb (λx:List bL×bL=>x.2) (Δ i.toNat rs)).length=i.toNat:=by rw[Ξ,γw];omega
  have l5:(γb (λi:Int=>(g.length:Int)+i) (cG i.toNat)).length=i.toNat:=by rw[Ξ,fU]
  refine⟨λhi=>?_,λhi=>?_⟩
  ·have hm:=hrr _ (dq (d:=sR.dflt) (show i.toNat<rs.length by omega));have et:=jZ (d:=sR.dflt) i0 hi;have e1:γb (λx:List bL×bL=>x.1) (Δ i.toNat rs)++[(bj rs i.toNat sR.dflt).1]=γb (λx:List bL×bL=>x.1) (Δ (i+1).toNat rs):=by rw[et,γa];rfl
   have e2:γb (λx:List bL×bL=>x.2) (Δ i.toNat rs)++[(bj rs i.toNat sR.dflt).2]=γb (λx:List bL×bL=>x.2) (Δ (i+1).toNat rs):=by rw[et,γa];rfl
   have e3:γb (λi:Int=>(g.length:Int)+i) (cG i.toNat)++[(g.length:Int)+i]=γb (λi:Int=>(g.length:Int)+i) (cG (i+1).toNat):=by
    rw[show(i+1).toNat=i.toNat+1 by omega,pX,γa,show((i.toNat:Nat):Int)=i by omega];rfl
   have l6:(γb (λx:List bL×bL=>x.2) (Δ (i+1).toNat rs)).length=(i+1).toNat:=by rw[Ξ,γw];omega
   have l7:(γb (λi:Int=>(g.length:Int)+i) (cG (i+1).toNat)).length=(i+1).toNat:=by rw[Ξ,fU]
   refine⟨i0,hi,by omega,by omega,by omega,l3.symm,by omega,by omega,l4.symm,by omega,by omega,by omega,l5.symm,by omega,by omega,by omega,⟨hcell ?_ ?_ rfl ?_ rfl,hrM e1,hrF e2,lJ e3⟩,by omega,by omega⟩;·omega
   ·exact(congrArg γc e2).trans l6
   ·exact(congrArg γc e3).trans l7
  ·have e:i.toNat=rs.length:=by omega
   rw[e,ψ];exact⟨γC.symm,rfl,rfl,rfl,rfl,rfl⟩
def r400:dG:=uL 158 Unit .nil (λ_ m t _=>kq m.toNat t) (λ_ _ _ _=> .bI [.sc (.slice none 0 0),.sb true]) (λ_ _ t _=>t)
def ad5 (n m:Int) (t:Tb):Nat->cC
 |3=> .inv Int (λi=>⟨[(0,.ptr 0 0 10),(4,.si .i64 (-1)),(12,.ow 2 t.bound.length 3),(13,.si .i64 t.bound.length),(14,.si .i64 i)],(bH n m t).gR⟩)
   (λs=>iS s 14) (λi=>0<=i/\i<=m) (λi=>(m - i).toNat) λ_ _=> .look
 |_=> .look
theorem h400:ec Tryz.prog r400:=by
 refine lB (L:=[s9]) (W:=[]) r400 (λa=>ad5 a.1.n a.1.m a.1.t) (by simp) (by simpa using h99) ?_;rintro⟨x,u⟩ ⟨n,m,t,hx,hok,hd⟩;simp only at hx hd;subst hx;refine bQ (let a:=γg .i64;let b:=bq.row;let c:=(0:Int);let d:=γZ;let e:=Ω;let f:=(-1:Int);let w:=γP 0 0 10;let A:=a f;let E:=d 2 (bH n m t).k1 3;let k:=(bH n m t).t.bound.length;let B:=d 2 k 3;let C:=a (↑k:Int);let j:=(bH n m t).m;let y:=bp.i .u32;let g:=bH (bH n m t).n j (bH n m t).t;let l:=bq.cells [a g.n,a g.m,d 1 g.k0 1,d 2 g.k1 3,e sF g.cost,γx g.v.fst,e y g.v.snd.fst,e y g.v.snd.snd,d 3 g.k3 1,d 4 g.k4 1] 261 10 false;let o:=b sF.bD g.cj 106 false;let p:=b sF g.bound 177 false;let z:=bp.i .i64;let q:=b z g.basic 3 false;let r:=b z g.free 3 false;let h:=g.bound.length;let F:=SV.sc (Value.slice none 0 0);(((w.same w/\(γA .i64 f).same A/\E.same B/\(a (↑(bH n m t).k1:Int)).same C/\(γA .i64 0).same (a 0)/\True)/\(bq.cells [a (bH n m t).n,a j,d 1 (bH n m t).k0 1,E,e sF (bH n m t).cost,γx (bH n m t).v.fst,e y (bH n m t).v.snd.fst,e y (bH n m t).v.snd.snd,d 3 (bH n m t).k3 1,d 4 (bH n m t).k4 1] 261 10 false).same l/\(b sF.bD (bH n m t).cj 106 false).same o/\(b sF (bH n m t).bound 177 false).same p/\(b z (bH n m t).basic 3 false).same q/\(b z (bH n m t).free 3 false).same r/\True)/\c<=c/\c<=j)/\∀(x:Int),let D:=bj g.bound x.toNat sF.dflt;let G:=(D.fst,D.snd.fst,D.snd.snd);let s:=x+(1:Int);let H:=a s;let I:=decide (x<(↑k:Int));let J:=λ(u:Bool) ↦decide (jN (bW G)<c)=u;let K:=λ(u:SV) ↦cq .i64 s/\((w.same w/\u.same A/\B.same B/\C.same C/\H.same H/\True)/\l.same l/\o.same o/\p.same p/\q.same q/\r.same r/\True)/\(c<=s/\s<=j)/\(j - s).toNat<(j - x).toNat;c<=x/\x<=j->(I=true->k=h/\c<=x/\x<(↑h:Int)/\k=h/\x.toNat<h/\cE G/\(J true->(true=true->K (a x))/\(true=false->g.k1=h/\c<=f/\f<(↑h:Int)/\g.k1=h/\0<h/\False))/\(J false->K A))/\(I=false->(true=true->(SV.bI [F,SV.bl true]).same (SV.bI [F,γx true])/\l.same l/\o.same o/\p.same p/\q.same q/\r.same r/\True)/\(true=false->False))) (by kernel_rfl) ?_;simp only[td];try simp only[bH]
 simp only[vcs];obtain⟨⟨⟨n0,n1⟩,m0,m1⟩,hw,hz⟩:=id hok;have hbl:=hw.bound;have J0:=@fF t.bound;refine⟨⟨by omega,by omega⟩,?_⟩;rintro i ⟨i0,i1⟩;refine⟨λhi=>?_,λhi=>⟨λ_=>trivial,λh=>by cases h⟩⟩;have hB:bj (fL t.bound) i.toNat sF.dflt=bu (t.bd i.toNat):=jz (by omega);have hpos:=hd i.toNat (by omega);have hneg:¬jN (t.bd i.toNat)<0:=λh=>by have:=Bn.1 h;grind
 simp only[hB,jO,ez];exact⟨by omega,i0,by omega,by omega,by omega,dN (hok.bd (by omega)) (by omega),λh=>absurd h hneg,λ_=>⟨by omega,by omega,by omega⟩⟩
def Ks:dG:=uL 159 (List bL) (.one (dL sF)) (λn m t a=>∃g:List Rat,a=fL g/\g.length=n.toNat/\t.free=cG n.toNat/\∀v∈t.basic,n<=v) (λ_ _ _ _=> .bI []) (λ_ _ t a=>{t with cost:=vL a,value:=0})
def ad6 (n m:Int) (t:Tb) (a:List bL):Nat->cC
 |3=> .inv Int (λj=>⟨[(0,.ptr 0 0 10),(1,.row sF a),(4,.ow 5 n.toNat 3),(24,.ow 4 t.free.length 1),(25,.si .i64 t.free.length),(26,.si .i64 j)],(bH n m {t with value:=0}).gR++[.row sF (eT a j.toNat (false,([],[]))) 177 true]⟩)
   (λs=>iS s 26) (λi=>0<=i/\i<=n) (λi=>(n - i).toNat) λ_ _=> .look
 |10=> .inv Int (λi=>⟨[(0,.ptr 0 0 10),(1,.row sF a),(4,.ow 5 n.toNat 3),(52,.ow 3 t.basic.length 1),(53,.si .i64 t.basic.length),(54,.si .i64 i)],(bH n m {t with value:=0}).gR++[.row sF a 177 true]⟩)
   (λs=>iS s 54) (λi=>0<=i/\i<=m) (λi=>(m - i).toNat) λ_ _=> .look
 |_=> .look
theorem h401:ec Tryz.prog Ks:=by
 refine lB (L:=[oH]) (W:=[]) Ks (λa=>ad6 a.1.n a.1.m a.1.t a.2) (by simp) (by simpa using h94) ?_;rintro⟨x,a⟩ ⟨n,m,t,hx,hok,g,ha,hgl,hfr,hbs⟩;simp only at hx ha;subst hx ha;refine bQ (let a:=(0:Int);let c:=γg .i64;let d:=bq.row;let e:=γZ;let f:=(-9223372036854775808:Int);let h:=Ω;let j:=(9223372036854775807:Int);let k:=bq.cells;let l:=γA .i64 0;let w:=(↑(bH n m t).k4:Int);let y:=γP 0 0 10;let s:=h sF (fL g);let p:=(bH n m t).n;let F:=e 5 p.toNat 3;let a0:=e 4 (bH n m t).k4 1;let r:=(bH n m t).t;let N:=r.free.length;let U:=e 4 N 1;let V:=c (↑N:Int);let z:=(bH n m t).m;let H:=bu (κ a);let A:=bp.i .u32;let o:=bH p z (Tb.mk r.cj r.bound r.cost (0:Rat) r.basic r.free);let a1:=c o.n;let a2:=c o.m;let a3:=e 1 o.k0 1;let a4:=e 2 o.k1 3;let a5:=e 3 o.k3 1;let a6:=[γx o.v.fst,h A o.v.snd.fst,h A o.v.snd.snd,a5,e 4 o.k4 1];let G:=k (a1::a2::a3::a4::h sF o.cost::a6) 261 10 false;let B:=d sF.bD o.cj 106 false;let C:=d sF o.bound 177 false;let I:=bp.i .i64;let J:=o.basic;let D:=d I J 3 false;let E:=d I o.free 3 false;let R:=(false,[],[]);let S:=o.free.length;let z29:Nat:=(fL g).length;let O:=r.basic.length;let W:=e 3 O 1;let X:=c (↑O:Int);let Y:=d sF (fL g) 177 true;let q:=bH p z (Tb.mk r.cj r.bound (vL (fL g)) (0:Rat) r.basic r.free);(f<=a/\a<=j)/\a<=w/\w<=w/\w*(56:Int)<=(140737488355328:Int)/\w<=(1000000000000:Int)/\(((y.same y/\s.same s/\(e 5 w.toNat 3).same F/\a0.same U/\(c w).same V/\(l).same (c 0)/\True)/\(k [c p,c z,e 1 (bH n m t).k0 1,e 2 (bH n m t).k1 3,h sF (bH n m t).cost,γx H.fst,h A H.snd.fst,h A H.snd.snd,e 3 (bH n m t).k3 1,a0] 261 10 false).same G/\(d sF.bD (bH n m t).cj 106 false).same B/\(d sF (bH n m t).bound 177 false).same C/\(d I (bH n m t).basic 3 false).same D/\(d I (bH n m t).free 3 false).same E/\(d (bp.b.pair (A.bD.pair A.bD)) (δ w.toNat R) 177 true).same (d sF (eT (fL g) 0 R) 177 true)/\True)/\a<=a/\a<=p)/\∀(x:Int),let K:=x+(1:Int);let a7:=c K;let a8:=decide (x<(↑N:Int));let L:=eT (fL g) x.toNat R;let P:=bj o.free x.toNat a;let a9:=decide (P<o.n);let M:=L.set x.toNat (H.fst,H.snd.fst,H.snd.snd);let Z:=bj (fL g) P.toNat sF.dflt;let aa:=λ(u:List (Bool×List Int×List Int)) ↦cq .i64 K/\((y.same y/\s.same s/\F.same F/\U.same U/\V.same V/\a7.same a7/\True)/\G.same G/\B.same B/\C.same C/\D.same D/\E.same E/\(d sF u 177 true).same (d sF (eT (fL g) K.toNat R) 177 true)/\True)/\(a<=K/\K<=p)/\(p - K).toNat<(p - x).toNat;a<=x/\x<=p->(a8=true->N=S/\a<=x/\x<(↑S:Int)/\N=S/\x.toNat<S/\(f<=a/\a<=j)/\p.toNat=L.length/\a<=x/\x<(↑L.length:Int)/\p.toNat=L.length/\x.toNat<L.length/\(a9=true->a<=P/\P<(↑z29:Int)/\P.toNat<z29/\p.toNat=M.length/\a<=x/\x<(↑M.length:Int)/\p.toNat=M.length/\x.toNat<M.length/\aa (M.set x.toNat (Z.fst,Z.snd.fst,Z.snd.snd)))/\(a9=false->aa M))/\(a8=false->(((y.same y/\s.same s/\F.same F/\a5.same W/\(c (↑o.k3:Int)).same X/\(l).same (c 0)/\True)/\G.same G/\B.same B/\C.same C/\D.same D/\E.same E/\(d sF L 177 true).same Y/\True)/\a<=a/\a<=z)/\∀(x:Int),let ab:=decide (x<(↑O:Int));let T:=bj J x.toNat a;let ac:=decide (o.n<=T);let Q:=x+(1:Int);let ad:=c Q;a<=x/\x<=z->(ab=true->O=J.length/\a<=x/\x<(↑J.length:Int)/\O=J.length/\x.toNat<J.length/\(ac=true->cq .i64 Q/\((y.same y/\s.same s/\F.same F/\W.same W/\X.same X/\ad.same ad/\True)/\G.same G/\B.same B/\C.same C/\D.same D/\E.same E/\Y.same Y/\True)/\(a<=Q/\Q<=z)/\(z - Q).toNat<(z - x).toNat)/\(ac=false->a<=T/\T<(↑z29:Int)/\T.toNat<z29/\False))/\(ab=false->p.toNat=z29/\(SV.bI []).same (SV.bI [])/\(k (a1::a2::a3::a4::s::a6) 261 10 false).same (k [c q.n,c q.m,e 1 q.k0 1,e 2 q.k1 3,h sF q.cost,γx q.v.fst,h A q.v.snd.fst,h A q.v.snd.snd,e 3 q.k3 1,e 4 q.k4 1] 261 10 false)/\B.same (d sF.bD q.cj 106 false)/\C.same (d sF q.bound 177 false)/\D.same (d I q.basic 3 false)/\E.same (d I q.free 3 false)/\True))) (by kernel_rfl) ?_;simp only[td];try simp only[bH]
 simp only[vcs];obtain⟨⟨⟨n0,n1⟩,m0,m1⟩,hw,hz⟩:=id hok;have hbb:=hw.basic;have hfl:=hw.free;have hfg:=@fF g;have h0:(κ 0:Rat)=0:=rfl;have hrow:∀{x y:List bL},x=y->(bq.row sF x 177 true).same (bq.row sF y 177 true):=by rintro _ _ rfl;rfl
 simp only[h0,jO];refine⟨by omega,by omega,by omega,by omega,by omega,⟨⟨?_,?_,?_⟩,by omega,by omega⟩,?_⟩;·rw[hfl];rfl
 ·rfl
 ·exact hrow (by rw[yI,hfg,hgl,hfl];rfl)
 rintro j ⟨j0,j1⟩;have o7:=@yH (fL g) j.toNat (false,([],[])) (by omega);refine⟨λhj=>?_,λhj=>?_⟩
 ·have hv:bj t.free j.toNat 0=j:=by rw[hfr,J7 (by omega)];omega
  rw[hv];have hset:((eT (fL g) j.toNat (false,([],[]))).set j.toNat (bu 0)).set j.toNat (bj (fL g) j.toNat sF.dflt)=eT (fL g) (j+1).toNat (false,([],[])):=by
   have e:=yK (d:=fL g) (j:=j.toNat) (z:=(false,([],[]))) (x:=bj (fL g) j.toNat sF.dflt) (by omega) rfl;rw[List.set_set,show(j+1).toNat=j.toNat+1 by omega];exact e
  rw[Φ];exact⟨j0,by omega,by omega,by omega,by omega,j0,by omega,by omega,by omega,λ_=>⟨j0,by omega,by omega,by omega,j0,by omega,by omega,by omega,by omega,hrow hset,by omega,by omega⟩,λh=>(h (by omega)).elim⟩
 ·have e:j.toNat=(fL g).length:=by omega
  rw[e,yJ];refine⟨⟨hrow rfl,by omega,by omega⟩,?_⟩;rintro i ⟨i0,i1⟩;refine⟨λhi=>⟨i0,hi,by omega,λ_=>⟨by omega,by omega,by omega⟩,λh=>absurd (hbs _ (dq (by omega))) h⟩,λhi=>⟨by omega,?_⟩⟩;rw[kO];rfl
abbrev Lp:=List Rat×List (List Rat×Rat)
def iL (a:Lp):tf:=(fL a.1,a.2.map λr=>(fL r.1,bu r.2))
def lq (a:Lp):Tb:=⟨a.2.map (·.1),a.2.map (·.2),a.1,0,(cG a.2.length).map λi=>a.1.length+i,cG a.1.length⟩
def rQ (a:Lp):Tb:={lq a with cost:=δ a.1.length 0}
theorem ad7 {a:Lp}:Bq (iL a)=bH a.1.length a.2.length (rQ a):=by
 unfold Bq iL bH rQ lq;simp_all[fU,fM,fL]
structure Br (a:Lp):Prop where
 n:a.1.length<=160
 m:a.2.length<=40
 small:∃M G,Small a.1.length a.2.length M G (lq a)
 yt:kq a.2.length (lq a)
 bnd:∃B,∀x z,(lq a).holds a.1.length a.2.length x z->(∀v∈(lq a).basic++(lq a).free,0<=x v)->z<=B
noncomputable def nO (a:Lp):Tb:=lastT a.1.length a.2.length (lq a)
theorem ad8 {a:Lp} (h:Br a):okO a.1.length a.2.length (lq a):=by
 obtain⟨M,G,b⟩:=h.small;exact⟨lq a,M,G,b,Run.refl b.wf b.nd,h.yt⟩
theorem ad9 {a:Lp} (h:Br a):Run a.1.length a.2.length (lq a) (nO a)/\kq a.2.length (nO a)/\eA (nO a) a.1.length<0:=by
 obtain⟨M,G,c⟩:=h.small;obtain⟨B,d⟩:=h.bnd;have b:=Run.refl c.wf c.nd;have:=J5 b h.yt;exact⟨this.1,this.2.1,TL b h.yt d⟩
noncomputable def Kt:bM:=⟨133,tf,.one yM,λx=>∃a:Lp,x=iL a/\Br a,λx=>
 let a:Lp:=(vL x.1,x.2.map λr=>(vL r.1,bW r.2));.bI [.agg [.si .i64 1,.sb (bu (nO a).value).1,.row (.i .u32) (bu (nO a).value).2.1,.row (.i .u32) (bu (nO a).value).2.2,.row sF (fL (gq (nO a) a.1.length a.2.length)),.row sF (fL (jA (nO a) a.1.length a.2.length a.1.length)),.row sF []],.si .i64 0]⟩
theorem aea {a:Lp}:((vL (iL a).1,(iL a).2.map λr=>(vL r.1,bW r.2)):Lp)=a:=by
 obtain⟨g,b⟩:=a;unfold iL;simp only[kO,γ3];congr 1;conv=>rhs;rw[<-List.map_id b]
 refine γY λr _=>?_;grind[kO,ez]
theorem aeb {a:Lp}:((iL a).1,(iL a).2)=iL a:=rfl
theorem Uc {a:Lp}:vL (iL a).1=a.1:=kO _
theorem Ud {a:Lp}:(iL a).2.map (λr=>(vL r.1,bW r.2))=a.2:=congrArg Prod.snd (@aea a)
theorem aec {a:Lp}:({cj:=(rQ a).cj,bound:=(rQ a).bound,cost:=a.1,value:=0,basic:=(rQ a).basic,free:=(rQ a).free}:Tb)=lq a:=rfl
theorem aed {a:Lp}:(iL a).1.length=a.1.length:=fF
theorem aee {a:Lp}:(iL a).2.length=a.2.length:=Ξ _
theorem Ue {q:Rat} (h:Sz 1000000 q):iW (bu q)/\okF (bu q)=true:=by
 obtain⟨g,⟨a,_,c⟩,⟨b,_,e⟩⟩:=mq q;obtain⟨d,f⟩:=pz h;refine⟨⟨⟨a,b⟩,by omega,by omega⟩,?_⟩;grind[okF,ez]
theorem aef {o:Store} {d:Nat} {acc:List Nat} {l:List bL}:cT o d (γb (λx:bL=>dP bp.b x.1++dP ((bp.i .u32).bD.pair (bp.i .u32).bD) x.2) l).flatten acc=acc:=Aj λa c=>np (s:=sF) (l:=l) c
theorem aeg {o:Store} {d:Nat} {acc:List Nat} {l:List (List bL)}:cT o d (γb (λx:List bL=>[ζ1 (γc x) (ζ4 (dP sF) x)]) l).flatten acc=acc:=Aj λa b=>np (s:=sF.bD) (l:=l) b
theorem aeh {o:Store} {d:Nat} {acc:List Nat} {l:List Int}:cT o d (γb (λx:Int=>γb δg (dy (bp.i .i64) x)) l).flatten acc=acc:=Aj λa b=>np (s:=bp.i .i64) (l:=l) b
theorem h395:Holds Tryz.prog Kt:=by
 refine Z4 (L:=[Kq]) (W:=gP [Kr,r400,Ks,Ko,EH,EI]) Kt (λf=>Nat.beq f EH.f||Nat.beq f EI.f) lk (lg (by simpa using⟨h399,h400,h401,h402,h403,h405⟩)) (by simpa using h398) ?_;rintro x ⟨a,hx,hok⟩;subst hx;refine bQ (let c:=Ω;let d:=bq.row;let e:=γg .i64;let f:=γZ;let h:=bq.cells;let j:=γA .i64;let k:=(0:Int);let l:=γx;let o:=SV.bl false;let p:=SV.agg;let q:=SV.bI;let B:=(iL a).fst;let C:=(iL a).snd;let J:=h [c sF B,c sR C] 217 2 false;let Q:=j 0;let a1:=Value.slice none 0 0;let G:=SV.sc a1;let K:=h [Q,o,G,G,G,G,G] 221 7 false;let L:=Bq (B,C);let D:=bH L.n L.m L.t;let E:=bH D.n D.m (Tb.mk D.t.cj D.t.bound (vL B) (0:Rat) D.t.basic D.t.free);let a2:=lastT E.n.toNat E.m.toNat E.t;let s:=bH E.n E.m a2;let y:=bp.i .u32;let M:=s.v.snd.fst;let N:=s.v.snd.snd;let w:=bH s.n s.m s.t;let R:=w.v.snd.fst;let S:=w.v.snd.snd;let a3:=h [e w.n,e w.m,f 3 w.k0 1,f 4 w.k1 3,c sF w.cost,l w.v.fst,c y R,c y S,f 5 w.k3 1,f 6 w.k4 1] 261 10 false;let a4:=d sF.bD w.cj 106 false;let a5:=d sF w.bound 177 false;let z:=bp.i .i64;let a6:=d z w.basic 3 false;let a7:=d z w.free 3 false;let F:=c z [];let U:=γb (λ(r:List bL×bL) ↦(vL r.fst,bW r.snd)) C;let H:=nO (vL B,U);let z31:Nat:=(vL B).length;let a8:=e 0;let a9:=q [p [e 1,l (bu H.value).fst,c y (bu H.value).snd.fst,c y (bu H.value).snd.snd,c sF (fL (gq H z31 U.length)),c sF (fL (jA H z31 U.length z31)),c sF []],a8];let A:=bH w.n w.m w.t;let aa:=bR.cells [ζ1 B.length (γb (λ(x:sF.T) ↦dP bp.b x.fst++dP (y.bD.pair y.bD) x.snd) B).flatten,ζ1 C.length (γb (λ(x:sR.T) ↦dP sF.bD x.fst++dP sF x.snd) C).flatten] 217 2 false;let I:=δg a1;let ab:=bR.cells [δg (Value.int .i64 k),δg (Value.bool false),I,I,I,I,I] 221 7 false;let ac:=(γb (λ(x:sF.bD.T) ↦[ζ1 (γc x) (ζ4 (dP sF) x)]) s.cj).flatten;let ad:=(γb (λ(x:sF.T) ↦dP bp.b x.fst++dP (y.bD.pair y.bD) x.snd) s.bound).flatten;let ae:=(γb (λ(x:z.T) ↦γb δg (dy z x)) s.basic).flatten;let af:=(γb (λ(x:z.T) ↦γb δg (dy z x)) s.free).flatten;let O:=[aa,ab,bR.cells [δg (Value.int .i64 s.n),δg (Value.int .i64 s.m),θg 3 0 s.k0 (s.k0*1),θg 4 0 s.k1 (s.k1*3),ζ1 s.cost.length (γb (λ(x:sF.T) ↦dP bp.b x.fst++dP (y.bD.pair y.bD) x.snd) s.cost).flatten,δg (Value.bool s.v.fst),ζ1 M.length (γb (λ(x:y.T) ↦γb δg (dy y x)) M).flatten,ζ1 N.length (γb (λ(x:y.T) ↦γb δg (dy y x)) N).flatten,θg 5 0 s.k3 (s.k3*1),θg 6 0 s.k4 (s.k4*1)] 261 10 false,bR.cells ac 106 1 false,bR.cells ad 177 3 false,bR.cells ae 3 1 false,bR.cells af 3 1 false];let ag:=[2,3];let V:=cT O (nat_lit 396) ac ag;let W:=if ζL 4 V=true then V else cT O (nat_lit 395) ad (V++[4]);let X:=if ζL 5 W=true then W else cT O (nat_lit 390) ae (W++[5]);let ah:=(γb (λ(x:sF.bD.T) ↦[ζ1 (γc x) (ζ4 (dP sF) x)]) w.cj).flatten;let ai:=(γb (λ(x:sF.T) ↦dP bp.b x.fst++dP (y.bD.pair y.bD) x.snd) w.bound).flatten;let aj:=(γb (λ(x:z.T) ↦γb δg (dy z x)) w.basic).flatten;let ak:=(γb (λ(x:z.T) ↦γb δg (dy z x)) w.free).flatten;let P:=[aa,ab,bR.cells [δg (Value.int .i64 w.n),δg (Value.int .i64 w.m),θg 3 0 w.k0 (w.k0*1),θg 4 0 w.k1 (w.k1*3),ζ1 w.cost.length (γb (λ(x:sF.T) ↦dP bp.b x.fst++dP (y.bD.pair y.bD) x.snd) w.cost).flatten,δg (Value.bool w.v.fst),ζ1 R.length (γb (λ(x:y.T) ↦γb δg (dy y x)) R).flatten,ζ1 S.length (γb (λ(x:y.T) ↦γb δg (dy y x)) S).flatten,θg 5 0 w.k3 (w.k3*1),θg 6 0 w.k4 (w.k4*1)] 261 10 false,bR.cells ah 106 1 false,bR.cells ai 177 3 false,bR.cells aj 3 1 false,bR.cells ak 3 1 false];let Y:=cT P (nat_lit 396) ah ag;let Z:=if ζL 4 Y=true then Y else cT P (nat_lit 395) ai (Y++[4]);let a0:=if ζL 5 Z=true then Z else cT P (nat_lit 390) aj (Z++[5]);let al:=J.same J/\K.same K/\(h [e s.n,e s.m,f 3 s.k0 1,f 4 s.k1 3,c sF s.cost,l s.v.fst,c y M,c y N,f 5 s.k3 1,f 6 s.k4 1] 261 10 false).same a3/\(d sF.bD s.cj 106 false).same a4/\(d sF s.bound 177 false).same a5/\(d z s.basic 3 false).same a6/\(d z s.free 3 false).same a7/\True;let am:=∃(n:Int),∃(m:Int),∃(t:Tb),s=bH n m t/\kP n m t/\∀(v:Int),v∈t.basic->k<=v;let an:=λ(u:Bool) ↦(!decide (eA a2 E.n.toNat<k))=u;let ao:=λ(u:Int) (u_1:SV) ↦false=true->(q [p [j u,o,F,F,F,F,F],u_1]).same a9;((B.length<=160/\C.length<=40)/\(∀(x:bL),x∈B->iW x/\okF x=true)/\∀(r:List bL×bL),r∈C->r.fst.length=B.length/\(∀(x:bL),x∈r.fst->iW x/\okF x=true)/\iW r.snd/\okF r.snd=true)/\ao k a8/\(false=false->(B.length<=1000/\C.length<=1000/\∀(r:List bL×bL),r∈C->r.fst.length<=1000)/\(∃(n:Int),∃(m:Int),∃(t:Tb),L=bH n m t/\kP n m t/\kq m.toNat t)/\ao (2:Int) Q/\(false=false->(∃(n:Int),∃(m:Int),∃(t:Tb),D=bH n m t/\kP n m t/\∃(g:List Rat),B=fL g/\g.length=n.toNat/\t.free=cG n.toNat/\∀(v:Int),v∈t.basic->n<=v)/\(∃(n:Int),∃(m:Int),∃(t:Tb),E=bH n m t/\kP n m t/\okO n.toNat m.toNat t)/\(an true->am/\al/\False)/\(an false->am/\al/\(∃(n:Int),∃(m:Int),∃(t:Tb),w=bH n m t/\kP n m t/\True)/\(J.same J/\K.same K/\a3.same (h [e A.n,e A.m,f 3 A.k0 1,f 4 A.k1 3,c sF A.cost,l A.v.fst,c y A.v.snd.fst,c y A.v.snd.snd,f 5 A.k3 1,f 6 A.k4 1] 261 10 false)/\a4.same (d sF.bD A.cj 106 false)/\a5.same (d sF A.bound 177 false)/\a6.same (d z A.basic 3 false)/\a7.same (d z A.free 3 false)/\True)/\if(((if ζL 6 X=true then X else cT O (nat_lit 389) af (X++[6])).all λ(i:Nat) ↦decide (i<7))&&(((if ζL 6 a0=true then a0 else cT P (nat_lit 389) ak (a0++[6])).all λ(i:Nat) ↦decide (i<7))&&true))=true then(q [p [j 1,l s.v.fst,c y M,c y N,c sF (fL (gq s.t s.n.toNat s.m.toNat)),c sF (fL (jA w.t w.n.toNat w.m.toNat w.n.toNat)),F],Q]).same a9 else False)))) (by kernel_rfl) ?_;simp only[aeb,ad7,td,Tz,TA,Uc,Ud,aec,aed,aee,γl];try simp only[vcs]
 obtain⟨M,G,hs⟩:=hok.small;obtain⟨r1,r2,r3⟩:=ad9 hok;have hw:=hs.wf;have hz:=hs.wG (Run.refl hs.wf hs.nd);have hn:=hok.n;have hm:=hok.m;have hO:=ad8 hok;have k1:kP a.1.length a.2.length (lq a):=⟨⟨by omega,by omega⟩,by simpa using hw,hz⟩;have k0:kP a.1.length a.2.length (rQ a):=by
  refine⟨⟨by omega,by omega⟩,⟨hw.cj,hw.row,hw.bound,by simp[rQ],hw.basic,hw.free⟩,hz.1,hz.2.1,λq hq=>?_,hz.2.2.2⟩;rw[(List.mem_replicate.1 hq).2];exact hz.2.2.2
 have k2:kP a.1.length a.2.length (nO a):=TE hs (by simpa using r1) (by omega) (by omega);have hl:lastT a.1.length a.2.length (lq a)=nO a:=rfl;have Ku:((a.1,a.2):Lp)=a:=rfl;simp only[hl,Ku,aef,aeg,aeh];have mem2:∀i,i<a.2.length->bj a.2 i ([],0)∈a.2:=λi hi=>dq hi;have hrow:∀r∈a.2,r.1.length=a.1.length/\(∀q∈r.1,Sz 1000000 q)/\Sz 1000000 r.2:=λr hr=>by
  obtain⟨i,hi,rfl⟩:=γJ hr;have h1:=hw.row i hi;have e:bj (lq a).cj i []=a.2[i].1:=by
   show bj (a.2.map (·.1)) i []=_;rw[cV (by rw[Ξ];exact hi),List.getElem_map]
  rw[e] at h1;refine⟨h1,hz.1 _ (Ψ.2 ⟨a.2[i],hr,rfl⟩),hz.2.1 _ (Ψ.2 ⟨a.2[i],hr,rfl⟩)⟩
 have hg:∀q∈a.1,Sz 1000000 q:=hz.2.2.1;have hF:∀{l:List Rat},(∀q∈l,Sz 1000000 q)->∀x∈fL l,iW x/\okF x=true:=λh x hx=>by
  obtain⟨q,hq,rfl⟩:=Ψ.1 hx;exact Ue (h q hq)
 have hdg:(∀x∈(iL a).1,iW x/\okF x=true)/\∀r∈(iL a).2,r.1.length=a.1.length/\(∀x∈r.1,iW x/\okF x=true)/\iW r.2/\okF r.2=true:=by
  refine⟨hF hg,λr hr=>?_⟩;obtain⟨r0,hr0,rfl⟩:=Ψ.1 hr;obtain⟨h1,h2,h3⟩:=hrow r0 hr0;exact⟨by rw[<-h1];exact fF,hF h2,Ue h3⟩
 have hb0:∀v∈(nO a).basic,0<=v:=λv hv=>by
  have:=r1.perm.mem_iff.1 (εq _ hv);simp only[lq,γk,Ψ,jv] at this;rcases this with⟨i,hi,rfl⟩|h;·omega
  ·exact h.1
 have hbn:∀v∈(rQ a).basic,(a.1.length:Int)<=v:=λv hv=>by
  simp only[rQ,lq,Ψ,jv] at hv;obtain⟨i,hi,rfl⟩:=hv;omega
 refine⟨⟨⟨hn,hm⟩,hdg.1,hdg.2⟩,λh=>(by cases h),λ_=>⟨⟨by omega,by omega,λr hr=>by have:=(hdg.2 r hr).1;omega⟩,⟨_,_,_,rfl,k0,by rw[γl];exact hok.yt⟩,λh=>(by cases h),λ_=>⟨⟨_,_,_,rfl,k0,a.1,rfl,by simp,rfl,hbn⟩,⟨_,_,_,rfl,k1,by simpa using hO⟩,λh=>absurd r3 h,λ_=>⟨⟨_,_,_,rfl,k2,hb0⟩,⟨_,_,_,rfl,k2⟩,?_⟩⟩⟩⟩;rw[if_pos (by decide)];rfl
theorem Bt {f:List Int} {d:Int} {i:Int} (h:0<=i) (c:i<f.length):bE (f.take (i+1).toNat) d=bE (f.take i.toNat) d++if bj f i.toNat 0=d then[i] else[]:=by
 have a:(f.take (i+1).toNat).length=i.toNat+1:=by grind
 have b:(f.take i.toNat).length=i.toNat:=by grind
 unfold bE;rw[a,b,pX,List.filter_append];have e:∀{k:Nat} {m:Nat},k<m->m<=f.length->bj (f.take m) k 0=bj f k 0:=λ{k m} c j=>by
  grind[cV]
 congr 1
 ·refine List.filter_congr λx g=>?_;grind[jv]
 grind
def jP (f:List Int):Bool:=f.all λx=>decide (-1<=x)&&decide (x<=1)
def jg (p:bn) (f:List Int):Int:=if bz p≠0 then bz p else if f.length≠p.offers.length then 3 else if jP f=true then 0 else 4
def EJ:bM:=⟨131,bn×List Int,.cons dO (.one (dL (.i .i64))),λa=>a.2.length<=1000000000000,λa=> .si .i64 (jg a.1 a.2)⟩
def aei (p:bn) (f:List Int):Nat->cC
 |7=> .inv Int (λi=>⟨[(19,.row (.i .i64) f),(20,.si .i64 f.length),(21,.si .i64 i)],[.cells p.ss 27 20 false]⟩)
   (λs=>iS s 21) (λi=>(0<=i/\i<=f.length)/\jP (f.take i.toNat)=true) (λi=>(f.length - i).toNat) λ_ _=> .look
 |_=> .look
theorem h393:Holds Tryz.prog EJ:=by
 refine cH (L:=[po]) EJ (λa=>aei a.1 a.2) (by grind[h79]) ?_;rintro⟨p,f⟩ (D:f.length<=1000000000000);refine bQ (let a:=γg .i64;let d:=(0:Int);let g:=γA .i64;let v:=decide (bz p≠d);let e:=a (jg p f);let q:=(↑f.length:Int);let r:=decide (q≠(↑p.offers.length:Int));let n:=Ω (bp.i .i64) f;let c:=(↑f.length:Int);let o:=a c;let w:=g 0;let m:=bq.cells (bn.ss p) 27 20 false;True/\(v=true->(a (bz p)).same e)/\(v=false->(r=true->(g 3).same e)/\(r=false->(((n.same n/\(a q).same o/\w.same (a 0)/\True)/\m.same m/\True)/\(d<=d/\d<=c)/\jP []=true)/\∀(x:Int),let s:=bj f x.toNat d;let l:=decide (s<(-1:Int));let j:=decide ((1:Int)<s);let b:=x+(1:Int);let k:=a b;(d<=x/\x<=c)/\jP (Δ x.toNat f)=true->(decide (x<c)=true->d<=x/\x<q/\x.toNat<f.length/\(l=true->(g 4).same e)/\(l=false->(j=true->(g 4).same e)/\(j=false->cq .i64 b/\((n.same n/\o.same o/\k.same k/\True)/\m.same m/\True)/\((d<=b/\b<=c)/\jP (Δ b.toNat f)=true)/\(c - b).toNat<(c - x).toNat)))/\(decide (x<c)=false->w.same e)))) (by kernel_rfl) ?_;simp only[vcs];refine⟨λh=>by simp[jg,h],λh=>?_⟩;have F:bz p=0:=Classical.not_not.1 h;refine⟨λy=>by
  grind[jg],λy=>⟨⟨⟨by omega,by omega⟩,rfl⟩,?_⟩⟩;have u:f.length=p.offers.length:=by omega
 rintro i ⟨⟨A,G⟩,g⟩;refine⟨λt=>?_,λt=>?_⟩
 ·have B:=dq (d:=0) (show i.toNat<f.length by omega);have H:=jZ (d:=0) A t;have z:¬(-1<=bj f i.toNat 0/\bj f i.toNat 0<=1)->(4:Int)=jg p f:=λE=>by
   have:jP f=false:=by
    rw[Bool.eq_false_iff];intro C;have:=φ.1 C _ B;grind
   grind[jg]
  grind[jP]
 ·rw[show i.toNat=f.length by omega,ψ] at g;grind[jg]
def gC (p:bn) (f:List Int):Int:=cM ((bE f 1).map (oI p))
theorem Bv {p:bn} (c:bz p=0) {f:List Int} {k:Nat} (g:f.length=p.offers.length):0<=gC p (f.take k)/\gC p (f.take k)<=160000000:=by
 have a:=dQ c;have e:=@uQ (f.take k) 1;have h:(f.take k).length<=f.length:=by grind
 have j:=@sT p a ((bE (f.take k) 1).map (oI p)) λx b=>by
  obtain⟨i,d,rfl⟩:=Ψ.1 b;have:=(kQ.1 d).1;exact dq (by omega)
 have l:=a.2.1;grind[gC]
theorem Uf {p:bn} {f:List Int} {i:Int} (b:0<=i) (a:i<f.length):gC p (f.take (i+1).toNat)=gC p (f.take i.toNat)+if bj f i.toNat 0=1 then(oI p i).value else 0:=by
 unfold gC;rw[Bt b a,γa,pU];grind[cM]
def jQ (p:bn) (f:List Int):Lp:=((cK p f).cost,(cG (mF p)).map λr=>((bE f 0).map λi=>((dW p r (oI p i):Int):Rat),((dm p r - cY p ((bE f 1).map (oI p)) r:Int):Rat)))
theorem EK {p:bn} {f:List Int}:lq (jQ p f)=cK p f:=by
 simp_all[lq,jQ,cK,cG]
def mr (p:bn) (f:List Int) (j:Nat):List bL:=fL (((bE f 0).take j).map λi=>(((oI p i).value:Int):Rat))
def nP (p:bn) (f:List Int) (r:Int) (j:Nat):List bL:=fL (((bE f 0).take j).map λi=>((dW p r (oI p i):Int):Rat))
def nQ (p:bn) (f:List Int) (k:Nat):List (List bL×bL):=(cG k).map λr=>(nP p f r (bE f 0).length,bu ((dm p r - cY p ((bE f 1).map (oI p)) r:Int):Rat))
theorem Ug {p:bn} {f:List Int}:mr p f (bE f 0).length=(iL (jQ p f)).1:=by
 unfold mr;rw[ψ];rfl
theorem Uh {p:bn} {f:List Int}:nQ p f (mF p)=(iL (jQ p f)).2:=by
 simp_all[nQ,iL,jQ,nP]
theorem Kv {p:bn} {f:List Int} {j:Nat} (h:j<=(bE f 0).length):(mr p f j).length=j:=by
 grind[mr,fF]
theorem Ui {p:bn} {f:List Int} {r:Int} {j:Nat} (h:j<=(bE f 0).length):(nP p f r j).length=j:=by
 grind[nP,fF]
theorem Uj {p:bn} {f:List Int} {k:Nat}:(nQ p f k).length=k:=by
 grind[nQ,fU]
theorem Uk {l m:List Rat}:fL (l++m)=fL l++fL m:=γa
theorem aej {p:bn} {f:List Int} {j:Int} (a:0<=j) (h:j<(bE f 0).length):mr p f (j+1).toNat=mr p f j.toNat++[bu (((oI p (bj (bE f 0) j.toNat 0)).value:Int):Rat)]:=by
 unfold mr;rw[jZ (d:=0) a h,γa,Uk];rfl
theorem aek {p:bn} {f:List Int} {r j:Int} (a:0<=j) (h:j<(bE f 0).length):nP p f r (j+1).toNat=nP p f r j.toNat++[bu ((dW p r (oI p (bj (bE f 0) j.toNat 0)):Int):Rat)]:=by
 unfold nP;rw[jZ (d:=0) a h,γa,Uk];rfl
theorem ael {p:bn} {f:List Int} {r:Int} (a:0<=r):nQ p f (r+1).toNat=nQ p f r.toNat++[(nP p f r (bE f 0).length,bu ((dm p r - cY p ((bE f 1).map (oI p)) r:Int):Rat))]:=by
 unfold nQ;rw[show(r+1).toNat=r.toNat+1 by omega,pX,γa,show((r.toNat:Nat):Int)=r by omega];rfl
def ic (p:bn) (f:List Int):Bool:=gl p ((bE f 1).map (oI p))
def mT (p:bn) (f:List Int):List bL×(List (List bL×bL)×List Int):=if ic p f=true then((iL (jQ p f)).1,((iL (jQ p f)).2,bE f 0)) else([],([],[]))
theorem aem {p:bn} {f:List Int} (h:eV p f):Br (jQ p f):=by
 have a:=dQ h.1;have c:(jQ p f).1.length=nF f:=by
  show((bE f 0).map _).length=_;simp_all
 have b:(jQ p f).2.length=mF p:=by
  show((cG (mF p)).map _).length=_;grind[fU]
 have g:=@uQ f 0;have i:mF p=p.classes.length+12:=rfl;refine⟨?_,?_,?_,?_,?_⟩;·rw[c];have:=h.2.1;have:=a.2.1;grind
 ·rw[b];have:=a.1;omega
 ·grind[EK,EB]
 ·grind[EK,J9]
 ·rw[c,b,EK];exact⟨_,λx z d e=>TR h d e⟩
theorem aen {p:bn} {f:List Int}:nO (jQ p f)=dx p f:=by
 have b:(jQ p f).1.length=nF f:=by
  show((bE f 0).map _).length=_;simp_all
 have a:(jQ p f).2.length=mF p:=by
  show((cG (mF p)).map _).length=_;grind[fU]
 grind[nO,dx,EK]
noncomputable def j5 (p:bn) (f:List Int) (k:Nat):List Rat:=(cG f.length).map λi=>if bj f i.toNat 0=1 then 1 else if i∈(bE f 0).take k then bj (gq (dx p f) (nF f) (mF p)) ((bE f 0).idxOf i) 0 else 0
noncomputable def jh (p:bn) (f:List Int):Rat:=((gC p f:Int):Rat)+(dx p f).value
noncomputable def iD (p:bn) (f:List Int):List Rat:=jA (dx p f) (nF f) (mF p) (nF f)
theorem yN {p:bn} {f:List Int} {k:Nat}:(j5 p f k).length=f.length:=by
 grind[j5,fU]
theorem EL {p:bn} {f:List Int} {k i:Nat} (h:i<f.length):bj (j5 p f k) i 0=if bj f i 0=1 then 1 else if(i:Int)∈(bE f 0).take k then bj (gq (dx p f) (nF f) (mF p)) ((bE f 0).idxOf (i:Int)) 0 else 0:=by
 unfold j5;rw[J6 (e:=0) (by grind[fU]),J7 h,γl]
theorem aeo {l m:List Rat} (a:l.length=m.length) (h:∀i,i<m.length->bj l i 0=bj m i 0):l=m:=List.ext_getElem a λi b c=>by
 grind[cV]
theorem aep {p:bn} {f:List Int} {k:Nat} (b:k<nF f):(j5 p f k).set (bj (bE f 0) k 0).toNat (bj (gq (dx p f) (nF f) (mF p)) k 0)=j5 p f (k+1):=by
 have g:=kQ.1 (dq (d:=0) b);refine aeo (by grind[yN]) λi a=>?_;rw[yN] at a;have c:(bE f 0).idxOf (bj (bE f 0) k 0)=k:=py (uP.imp λh=>by omega) b;have e:(bE f 0).take (k+1)=(bE f 0).take k++[bj (bE f 0) k 0]:=by simp_all[cV]
 rw[iK (by grind[yN]),EL a,EL a,e];grind
theorem aer {p:bn} {f:List Int} {i:Nat} (h:i<f.length):bj (j5 p f 0) i 0=if bj f i 0=1 then 1 else 0:=by
 grind[EL]
def j6 (p:bn) (f:List Int):Bool:=decide (jg p f=0)&&ic p f
noncomputable def kr (p:bn) (f:List Int):bL:=if j6 p f=true then bu (jh p f) else(false,([],[]))
noncomputable def qR (p:bn) (f:List Int):List bL:=if j6 p f=true then fL (iD p f) else[]
noncomputable def ku (p:bn) (f:List Int):List bL:=if j6 p f=true then fL (j5 p f (nF f)) else[]
noncomputable def aes (p:bn) (f:List Int):SV:=.agg [.sb (j6 p f),.sb (kr p f).1,.row (.i .u32) (kr p f).2.1,.row (.i .u32) (kr p f).2.2,.row sF (qR p f),.row sF (ku p f)]
theorem Kw {t:List Int} {g:Int->Int}:∀{l:List Int},((l.filter λx=>decide (x∈t)).map g).sum=(l.map λx=>if x∈t then g x else 0).sum
 |[]=>rfl
 |x::l=>by
  simp only[List.filter_cons,π,ε3];by_cases h:x∈t;·rw[if_pos (decide_eq_true h),if_pos h,π,ε3,Kw]
  ·rw[if_neg (by simpa using h),if_neg h,Kw];omega
theorem Kx {t:List Int} {g:Int->Int}:∀{l:List Int},mh (λx=>((g x:Int):Rat)*(if x∈t then 1 else 0)) l=(((l.map λx=>if x∈t then g x else 0).sum:Int):Rat)
 |[]=>rfl
 |x::l=>by
  have:=@Kx t g l;simp only[mh,this,π,ε3,Rat.intCast_add];congr 1;split<;>simp_all
theorem Ky {p:bn}:∀{l:List Int},cM (l.map (oI p))=(l.map λi=>(oI p i).value).sum
 |[]=>rfl
 |x::l=>by
  have:=@Ky p l;grind[cM]
section
variable {p:bn} {f t:List Int}
theorem Ul (k:jP f=true) (u:f.length=p.offers.length) (e:eL p.offers.length t) (j:∀i∈t,bj f i.toNat 0≠ -1) (r:∀i∈bE f 1,i∈t) (g:Int->Int):
  (t.map g).sum=((bE f 1).map g).sum+((bE f 0).map λx=>if x∈t then g x else 0).sum:=by
 have l:t.Perm (bE f 1++(bE f 0).filter λx=>decide (x∈t)):=by
  refine(γ4 (A4 e) ?_).2 λx=>?_
  ·rw[γs];refine⟨uP.imp λh=>by omega,(uP.sublist γR).imp λh=>by omega,λa s b o m=>?_⟩;grind[kQ]
  ·rw[γk,List.mem_filter,decide_eq_true_eq];constructor
   ·intro c;have v:=e.2 x c;have q:=j x c;have n:=φ.1 k _ (dq (d:=0) (show x.toNat<f.length by omega));simp only[θ,decide_eq_true_eq] at n;grind[kQ]
   grind
 rw[Tc (l.map g),γa,θb,Kw]
theorem wK (l:List Int) (r:Int):cY p (l.map (oI p)) r=(l.map λi=>dW p r (oI p i)).sum:=by
 unfold cY;rw[γ3];rfl
theorem weak (h:eV p f) (s:jP f=true) (z:eL p.offers.length t) (a:gl p (t.map (oI p))=true) (u:∀i∈t,bj f i.toNat 0≠ -1) (A:∀i∈bE f 1,i∈t):((cM (t.map (oI p)):Int):Rat)<=jh p f:=by
 obtain⟨l,E,r⟩:=oJ h;have d:∀g:Int->Int,bO (nF f) (λj=>((g (bj (bE f 0) j 0):Int):Rat)*(if bj (bE f 0) j 0∈t then(1:Rat) else 0))=(((t.map g).sum - ((bE f 1).map g).sum:Int):Rat):=λg=>by
  have e:=@qN (λx=>((g x:Int):Rat)*(if x∈t then(1:Rat) else 0)) (bE f 0);rw[Kx] at e;rw[Ul s h.2.1 z u A g];grind
 have q:=asg_holds (n:=nF f) (m:=mF p) (t:=cK p f) lI qQ (y:=λj=>if bj (bE f 0) j 0∈t then(1:Rat) else 0);have B:(cK p f).value+bO (nF f) (λj=>(cK p f).cs j*(if bj (bE f 0) j 0∈t then(1:Rat) else 0))=((cM (t.map (oI p)) - gC p f:Int):Rat):=by
  grind[cK,dJ,Bo,gC,Ky]
 rw[B] at q;have o:∀v∈(cK p f).basic++(cK p f).free,0<=jw (nF f) (cK p f) (λj=>if bj (bE f 0) j 0∈t then(1:Rat) else 0) v:=λv b=>by
  rcases γk.1 b with b|b
  ·obtain⟨i,k,rfl⟩:=yu lI b;rw[nL lI qQ k,yF k,dJ (g:=λj=>((dW p i (oI p (bj (bE f 0) j 0)):Int):Rat)*(if bj (bE f 0) j 0∈t then(1:Rat) else 0)) λj c=>by rw[yE k c],d λx=>dW p i (oI p x),<-wK,<-wK];have C:=pn.1 a i (by grind[df]);have w:0<=(dm p i - cY p ((bE f 1).map (oI p)) i) - (cY p (t.map (oI p)) i - cY p ((bE f 1).map (oI p)) i):=by omega
   have D:=EC w;simp_all
  grind[wz,lI,mP,qQ]
 have:=l.best r q λj c=>o _ (l.perm.mem_iff.1 (List.mem_append_right _ (wy l.wf c)));grind[jh]
end
theorem Um {t:Tb} {n j:Nat} (b:j<n):∀{k:Nat},(∀i,i<k->0<=t.bv i)->(∃i,i<k/\t.bv i=j/\bj (gq t n k) j 0=t.bd i)\/((∀i,i<k->t.bv i≠j)/\bj (gq t n k) j 0=0)
 |0,_=> .inr ⟨λi a=>by omega,by
   grind[gq,cV]⟩
 |k+1,h=>by
  have e:=h k (by omega);have d:=@Um t n j b k λi a=>h i (by omega);unfold gq;by_cases c:t.bv k<n
  ·rw[if_pos c,iK (by grind[EF])];grind
  grind
theorem Un {t:Tb} {n m r:Nat} (a:r<m):∀{k:Nat},(∃j,j<k/\t.fv j=((n+r:Nat):Int)/\bj (jA t n m k) r 0= -(t.cs j))\/((∀j,j<k->t.fv j≠((n+r:Nat):Int))/\bj (jA t n m k) r 0=0)
 |0=> .inr ⟨λi d=>by omega,by
   grind[jA,cV]⟩
 |k+1=>by
  have c:=@Un t n m r a k;unfold jA;by_cases b:(n:Int)<=t.fv k/\t.fv k<n+m
  ·rw[if_pos b,iK (by grind[EG])];grind
  grind
theorem Uo {n m:Nat} {t:Tb} (h:t.WF n m) (c:(t.basic++t.free).Nodup) {j:Nat} (a:j<n):ei t (t.fv j)=t.cs j:=by
 have b:j<t.free.length:=by rw[h.free];exact a
 unfold ei;rw[if_pos (wy h a),show t.free.idxOf (t.fv j)=j from py (γs.1 c).2.1 b]
theorem aeu {n m:Nat} {t:Tb} (h:t.WF n m) (b:(t.basic++t.free).Nodup) {j:Nat} (a:j<m):ei t (t.bv j)=0:=by
 unfold ei;rw[if_neg (JB h b a)]
section
variable {p:bn} {f:List Int}
noncomputable def qb (p:bn) (f:List Int):Int->Rat:=jw (nF f) (dx p f) λ_=>0
theorem optX_holds (h:eV p f):(cK p f).holds (nF f) (mF p) (qb p f) (dx p f).value:=by
 obtain⟨a,_,_⟩:=oJ h;have b:=asg_holds a.wf a.gp (y:=λ_=>0);rw[dJ (g:=λ_=>0) λj _=>by grind,iT] at b;have c:=(a.mQ _ _).1 b;rwa [show(dx p f).value+0=(dx p f).value by grind] at c
theorem Kz (h:eV p f) {i:Nat} (b:i<mF p):qb p f ((dx p f).bv i)=(dx p f).bd i:=by
 obtain⟨a,_,_⟩:=oJ h;unfold qb;rw[nL a.wf a.gp b,dJ (g:=λ_=>0) λj _=>by grind,iT];grind
theorem KA (h:eV p f) {j:Nat} (b:j<nF f):qb p f ((dx p f).fv j)=0:=by
 obtain⟨a,_,_⟩:=oJ h;unfold qb;rw[mP a.wf a.gp b]
theorem EM (h:eV p f) {v:Int} (a:v∈(cK p f).basic++(cK p f).free):(∃i,i<mF p/\(dx p f).bv i=v)\/∃j,j<nF f/\(dx p f).fv j=v:=by
 obtain⟨b,_,_⟩:=oJ h;rw[<-b.perm.mem_iff,γk] at a;rcases a with a|a;·exact .inl (yu b.wf a)
 ·exact .inr (wz b.wf a)
theorem KB (h:eV p f) {v:Int} (c:v∈(cK p f).basic++(cK p f).free):0<=qb p f v:=by
 obtain⟨_,b,_⟩:=oJ h;rcases EM h c with⟨i,a,rfl⟩|⟨j,d,rfl⟩
 ·rw[Kz h a];exact b i a
 grind[KA]
theorem KC {j:Nat} (a:j<nF f):(j:Int)∈(cK p f).basic++(cK p f).free:=by
 have:=wy (n:=nF f) (m:=mF p) (t:=cK p f) lI a;grind[wH]
theorem aev (h:eV p f) {i:Nat} (b:i<mF p):0<=(dx p f).bv i:=by
 obtain⟨a,_,_⟩:=oJ h;have c:=a.perm.mem_iff.1 (εq _ (Bc a.wf b));grind[yu,lI,Ez,wz,wH]
theorem aew (h:eV p f) {j:Nat} (c:j<nF f):bj (gq (dx p f) (nF f) (mF p)) j 0=qb p f j:=by
 rcases @Um (dx p f) (nF f) j c (mF p) λi b=>aev h b with⟨i,d,a,g⟩|⟨d,a⟩;·grind[Kz]
 ·rw[a];rcases EM h (KC c) with⟨i,b,e⟩|⟨k,l,e⟩<;>grind[EM,KC,KA]
theorem aex (h:eV p f) {j:Nat} (a:j<nF f):qb p f j<=1:=by
 have:=TQ h (optX_holds h) (λv b=>KB h b) a;grind[wH]
theorem Up (h:eV p f):(∀i,i<mF p->Sz 1000 ((dx p f).bd i))/\(∀j,j<nF f->Sz 1000 ((dx p f).cs j))/\Sz 1000 (dx p f).value:=have a:=(EB h).TD (oJ h).1;⟨a.1,a.2.1,a.2.2.1⟩
theorem KD (q:Rat) (h:q=0\/q=1):Sz 1000 q:=by
 have a:Sz 1 q:=by rcases h with rfl|rfl<;>exact⟨by decide,by decide⟩
 exact a.mono (by omega)
theorem aey (h:eV p f) {v:Int} (a:v∈(cK p f).basic++(cK p f).free):Sz 1000 (qb p f v):=by
 grind[EM,Kz,Up,KA,KD]
noncomputable def dD (p:bn) (f:List Int):List Rat:=j5 p f (nF f)
theorem rR:(dD p f).length=f.length:=yN
theorem Bw (h:eV p f) (c:jP f=true) {i:Nat} (b:i<f.length):(bj f i 0=1/\bj (dD p f) i 0=1)\/(bj f i 0= -1/\bj (dD p f) i 0=0)\/(bj f i 0=0/\(i:Int)∈bE f 0/\(bE f 0).idxOf (i:Int)<nF f/\bj (dD p f) i 0=qb p f ((bE f 0).idxOf (i:Int))):=by
 have g:=φ.1 c _ (dq (d:=0) b);simp only[θ,decide_eq_true_eq] at g;unfold dD;rw[EL b,ψ];rcases(show bj f i 0=1\/bj f i 0= -1\/bj f i 0=0 by omega) with a|a|a;·simp_all
 ·simp_all[kQ]
 ·have e:(i:Int)∈bE f 0:=kQ.2 ⟨by omega,by simp_all⟩;have j:(bE f 0).idxOf (i:Int)<nF f:=εk e;simp_all[aew]
theorem EN (h:eV p f) (a:jP f=true) {i:Nat} (b:i<f.length):0<=bj (dD p f) i 0/\bj (dD p f) i 0<=1/\Sz 1000 (bj (dD p f) i 0):=by
 rcases Bw h a b with⟨_,e⟩|⟨_,e⟩|⟨_,_,c,e⟩;all_goals grind[KD,KB,KC,aex,aey]
theorem tg (h:eV p f) (c:jP f=true) {i:Nat} (b:i<f.length) (d:0<bj (dD p f) i 0) (a:bj (dD p f) i 0<1):bj f i 0=0:=by
 grind[Bw]
def eE (x:List Rat):List Int:=(cG x.length).filter λi=>decide (0<bj x i.toNat 0)
theorem yO {x:List Rat} {i:Int}:i∈eE x↔(0<=i/\i<x.length)/\0<bj x i.toNat 0:=by
 simp_all[eE,jv]
theorem Ur {x:List Rat}:eL x.length (eE x):=⟨rM.sublist γR,λi a=>(yO.1 a).1⟩
def mU (x:List Rat):Bool:=x.all λq=>decide (q.den=1)
theorem aez {q:Rat} (h:q.den=1):q=(q.num:Rat):=by
 grind[Rat.mkRat_self,Rat.mkRat_one]
theorem aeA {q:Rat} (c:q.den=1) (b:0<=q) (a:q<=1):q=0\/q=1:=by
 rw[aez c] at b a ⊢;have f:0<=q.num:=by exact_mod_cast b
 have d:q.num<=1:=by exact_mod_cast a
 rcases(show q.num=0\/q.num=1 by omega) with e|e<;>simp_all
theorem aeB {t:List Int} (a:jP f=true) (c:f.length=p.offers.length) (h:eL p.offers.length t) (b:∀i∈t,bj f i.toNat 0≠ -1) (d:∀i∈bE f 1,i∈t) (g:Int->Int):bO (nF f) (λj=>((g (bj (bE f 0) j 0):Int):Rat)*(if bj (bE f 0) j 0∈t then(1:Rat) else 0))=(((t.map g).sum - ((bE f 1).map g).sum:Int):Rat):=by
 have e:=@qN (λx=>((g x:Int):Rat)*(if x∈t then(1:Rat) else 0)) (bE f 0);rw[Kx] at e;rw[Ul a c h b d g];grind
theorem Us (h:eV p f) (t:jP f=true) (F:mU (dD p f)=true):gl p ((eE (dD p f)).map (oI p))=true/\((cM ((eE (dD p f)).map (oI p)):Int):Rat)=jh p f:=by
 have n:=h.2.1;have z:=@rR p f;have q:∀i:Nat,i<f.length->bj (dD p f) i 0=0\/bj (dD p f) i 0=1:=λi o=>by
  obtain⟨O,J,_⟩:=EN h t o;have:=φ.1 F _ (dq (d:=0) (show i<(dD p f).length by omega));simp_all[aeA]
 have B:eL p.offers.length (eE (dD p f)):=by
  grind[Ur]
 have A:∀i∈eE (dD p f),bj f i.toNat 0≠ -1:=λi x K=>by
  grind[yO,Bw]
 have D:∀i∈bE f 1,i∈eE (dD p f):=λi x=>by
  grind[kQ,yO,Bw]
 have G:∀j,j<nF f->(if bj (bE f 0) j 0∈eE (dD p f) then(1:Rat) else 0)=qb p f ((cK p f).fv j):=λj c=>by
  obtain⟨C,L⟩:=yG h c;have E:(bE f 0).idxOf (bj (bE f 0) j 0)=j:=py (uP.imp λh=>by omega) c;have M:((((bj (bE f 0) j 0).toNat:Nat)):Int)=bj (bE f 0) j 0:=by omega
  have e:bj (dD p f) (bj (bE f 0) j 0).toNat 0=qb p f j:=by
   grind[Bw]
  rw[wH c,<-e];rcases q (bj (bE f 0) j 0).toNat (by omega) with l|l;·simp_all[yO]
  ·rw[l,if_pos];grind[yO]
 obtain⟨v,w⟩:=optX_holds h;have k:=aeB t n B A D;refine⟨pn.2 λy b=>?_,?_⟩
 ·obtain⟨r,m⟩:∃r:Int,r=(y:Int):=⟨_,rfl⟩;rw[<-m] at b ⊢;have I:0<=r:=by omega
  have a:r.toNat<mF p:=by unfold df at b;grind
  have s:=v r.toNat a;rw[dJ (g:=λj=>((dW p r (oI p (bj (bE f 0) j 0)):Int):Rat)*(if bj (bE f 0) j 0∈eE (dD p f) then(1:Rat) else 0)) λj c=>by grind[yE],k λi=>dW p r (oI p i),yF a,show((r.toNat:Nat):Int)=r by omega] at s;have N:=KB h (εq _ (Bc lI a));rw[<-wK,<-wK] at s;have l:((cY p ((eE (dD p f)).map (oI p)) r - cY p ((bE f 1).map (oI p)) r:Int):Rat)<=((dm p r - cY p ((bE f 1).map (oI p)) r:Int):Rat):=by grind
  have H:cY p ((eE (dD p f)).map (oI p)) r - cY p ((bE f 1).map (oI p)) r<=dm p r - cY p ((bE f 1).map (oI p)) r:=by exact_mod_cast l
  omega
 ·have u:(cK p f).value=0:=rfl;rw[u,dJ (g:=λj=>(((oI p (bj (bE f 0) j 0)).value:Int):Rat)*(if bj (bE f 0) j 0∈eE (dD p f) then(1:Rat) else 0)) λj c=>by grind[Bo],k λi=>(oI p i).value] at w;grind[jh,gC,Ky]
theorem Ut (h:eV p f) {x:Int->Rat} {z:Rat} (l:(cK p f).holds (nF f) (mF p) x z):z=(dx p f).value+(bO (mF p) (λk=>ei (dx p f) ((nF f+k:Nat):Int)*x ((nF f+k:Nat):Int))+bO (nF f) λj=>ei (dx p f) (j:Int)*x (j:Int)):=by
 obtain⟨a,_,_⟩:=oJ h;have i:=((a.mQ _ _).2 l).2;have m:bO (nF f) (λj=>(dx p f).cs j*x ((dx p f).fv j))=mh (λv=>ei (dx p f) v*x v) ((dx p f).basic++(dx p f).free):=by
  rw[A7,qN,qN,a.wf.basic,a.wf.free];rw[dJ (n:=mF p) (g:=λ_=>0) λk b=>by
   show ei (dx p f) ((dx p f).bv k)*x ((dx p f).bv k)=0;rw[aeu a.wf a.gp b];grind,iT];rw[dJ (n:=nF f) (f:=λk=>ei (dx p f) (bj (dx p f).free k 0)*x (bj (dx p f).free k 0)) (g:=λj=>(dx p f).cs j*x ((dx p f).fv j)) λj e=>by
   show ei (dx p f) ((dx p f).fv j)*x ((dx p f).fv j)=_;rw[Uo a.wf a.gp e]];grind
 have d:mh (λv=>ei (dx p f) v*x v) ((cK p f).basic++(cK p f).free)=bO (mF p) (λk=>ei (dx p f) ((nF f+k:Nat):Int)*x ((nF f+k:Nat):Int))+bO (nF f) λj=>ei (dx p f) (j:Int)*x (j:Int):=by
  have c:=@lI p f;rw[A7,qN,qN,c.basic,c.free];congr 1
  ·refine dJ λk b=>?_;show ei (dx p f) ((cK p f).bv k)*x ((cK p f).bv k)=_;rw[Ez b]
  ·refine dJ λk b=>?_;show ei (dx p f) ((cK p f).fv k)*x ((cK p f).fv k)=_;rw[wH b]
 rw[i,m,JA a.perm,d]
theorem Uu (h:eV p f) {v:Int}:ei (dx p f) v<=0:=by
 obtain⟨d,_,e⟩:=oJ h;unfold ei;split
 ·rename_i g;have k:(dx p f).free.idxOf v<nF f:=by rw[<-d.wf.free];grind
  rcases @uK (dx p f) (nF f) with⟨a,b⟩|⟨c,a,b,i,j⟩<;>grind
 ·decide
theorem EO (h:eV p f) {r:Nat} (g:r<mF p):bj (iD p f) r 0= -(ei (dx p f) ((nF f+r:Nat):Int)):=by
 obtain⟨a,_,_⟩:=oJ h;unfold iD;rcases @Un (dx p f) (nF f) (mF p) r g (nF f) with⟨j,c,b,i⟩|⟨c,b⟩;·rw[i,<-b,Uo a.wf a.gp c]
 ·rw[b];unfold ei;rw[if_neg];·decide
  ·intro d;obtain⟨j,k,e⟩:=wz a.wf d;simp_all
theorem EP:(iD p f).length=mF p:=EG
theorem KE (h:eV p f) {r:Nat} (a:r<mF p):0<=bj (iD p f) r 0/\Sz 1000 (bj (iD p f) r 0):=by
 obtain⟨c,_,_⟩:=oJ h;have d:=@Uu p f h ((nF f+r:Nat):Int);refine⟨by grind[EO],?_⟩;rw[EO h a];refine Bh ?_;unfold ei;split
 ·rename_i b;exact(Up h).2.1 _ (by have:=εk b;rw[c.wf.free] at this;exact this)
 grind[KD]
theorem Uw (h:eV p f):(dx p f).value=bO (mF p) λr=>bj (iD p f) r 0*(cK p f).bd r:=by
 have c:=asg_holds (n:=nF f) (m:=mF p) (t:=cK p f) lI qQ (y:=λ_=>0);have a:=Ut h c;have d:(cK p f).value=0:=rfl;rw[d,dJ (n:=nF f) (f:=λj=>(cK p f).cs j*(λ_=>(0:Rat)) j) (g:=λ_=>0) λj _=>by grind,iT] at a;rw[dJ (n:=nF f) (f:=λj=>ei (dx p f) (j:Int)*jw (nF f) (cK p f) (λ_=>0) (j:Int)) (g:=λ_=>0) λj b=>by
  have e:=mP (n:=nF f) (m:=mF p) (t:=cK p f) lI qQ (y:=λ_=>0) b;grind[wH],iT] at a;rw[dJ (n:=mF p) (g:=λk=>(-1:Rat)*(bj (iD p f) k 0*(cK p f).bd k)) λk i=>by
  have e:=nL (n:=nF f) (m:=mF p) (t:=cK p f) lI qQ (y:=λ_=>0) i;grind[Ez,iT,EO],wu] at a;grind
theorem aeC (h:eV p f) {j:Nat} (b:j<nF f):(cK p f).cs j<=bO (mF p) λr=>bj (iD p f) r 0*(cK p f).cf r j:=by
 have l:=asg_holds (n:=nF f) (m:=mF p) (t:=cK p f) lI qQ (y:=λi=>if i=j then 1 else 0);have a:=Ut h l;have o:(cK p f).value=0:=rfl;rw[o,dJ (n:=nF f) (f:=λi=>(cK p f).cs i*(if i=j then(1:Rat) else 0)) (g:=λi=>if i=j then(cK p f).cs j else 0) λi _=>by
  grind,uN b] at a;rw[dJ (n:=nF f) (f:=λi=>ei (dx p f) (i:Int)*jw (nF f) (cK p f) (λi=>if i=j then 1 else 0) (i:Int)) (g:=λi=>if i=j then ei (dx p f) (j:Int) else 0) λi d=>by
  have e:=mP (n:=nF f) (m:=mF p) (t:=cK p f) lI qQ (y:=λi=>if i=j then(1:Rat) else 0) d;rw[wH d] at e;grind,uN b] at a;rw[dJ (n:=mF p) (g:=λk=>bj (iD p f) k 0*(cK p f).cf k j - bj (iD p f) k 0*(cK p f).bd k) λk c=>by
  have e:=nL (n:=nF f) (m:=mF p) (t:=cK p f) lI qQ (y:=λi=>if i=j then(1:Rat) else 0) c;rw[Ez c,dJ (g:=λi=>if i=j then(cK p f).cf k j else 0) λi _=>by
   grind,uN b] at e;grind[EO],J1] at a;grind[Uw,Uu]
end
abbrev dj:=Int×(Int×(Int×(Int×List bL)))
@[reducible] def bF:bp:=.pair (.i .i64) (.pair (.i .i64) (.pair (.i .i64) (.pair (.i .i64) (.bD sF))))
def zN:dj:=(0,(0,(0,(0,[]))))
def ER:dj:=(3,(0,(0,(0,[]))))
noncomputable def qS (p:bn) (f:List Int):dj:=(1,(0,(0,(0,fL (iD p f)))))
def j7 (k o:Int):dj:=(2,(k,(o,(o+1,[]))))
structure dc where
 ch:List Int
 val:Int
 found:Bool
 prf:List dj
 err:Int
def dV (b:Int->Bool) (s:dc) (a:Alloc):dc:=if s.val<a.value then⟨a.chosen,a.value,s.found||b a.value,s.prf,s.err⟩ else s
def mV (q:Rat):Rat:=if q<0 then -q else q
def jB (x:List Rat):Nat->Option (Int×Rat)
 |0=>none
 |k+1=>if 0<bj x k 0/\bj x k 0<1 then(match jB x k with
   |none=>some ((k:Int),mV (bj x k 0 - 1 / 2))
   |some (i,l)=>if mV (bj x k 0 - 1 / 2)<l then some ((k:Int),mV (bj x k 0 - 1 / 2)) else some (i,l)) else jB x k
def jR (x:List Rat):Option Int:=(jB x x.length).map (·.1)
theorem KF {x:List Rat}:∀{k:Nat} {i:Int} {l:Rat},jB x k=some (i,l)->(0<=i/\i<k)/\(0<bj x i.toNat 0/\bj x i.toNat 0<1)/\l=mV (bj x i.toNat 0 - 1 / 2)
 |0,i,l,h=>by cases h;|k+1,i,l,h=>by
  unfold jB at h;have b:some ((k:Int),mV (bj x k 0 - 1 / 2))=some (i,l)->(0<bj x k 0/\bj x k 0<1)->(0<=i/\i<((k+1:Nat):Int))/\(0<bj x i.toNat 0/\bj x i.toNat 0<1)/\l=mV (bj x i.toNat 0 - 1 / 2):=λh f=>by
   grind
  have a:jB x k=some (i,l)->(0<=i/\i<((k+1:Nat):Int))/\(0<bj x i.toNat 0/\bj x i.toNat 0<1)/\l=mV (bj x i.toNat 0 - 1 / 2):=λh=>by
   obtain⟨c,d,e⟩:=KF h;grind
  grind
theorem Ux {x:List Rat}:∀{k:Nat},jB x k=none->∀i,i<k->¬(0<bj x i 0/\bj x i 0<1)
 |0,_,i,a=>by omega;|k+1,h,i,a=>by
  unfold jB at h;split at h;·grind
  ·rename_i b;by_cases e:i=k;·simp_all
   ·exact Ux h i (by omega)
theorem tj {x:List Rat} {k:Int} (h:jR x=some k):(0<=k/\k<x.length)/\0<bj x k.toNat 0/\bj x k.toNat 0<1:=by
 unfold jR at h;obtain⟨⟨i,l⟩,b,a⟩:=ε.1 h;simp only at a;subst a;obtain⟨c,d,_⟩:=KF b;simp_all
theorem aeD {x:List Rat} (h:jR x=none):∀i,i<x.length->¬(0<bj x i 0/\bj x i 0<1):=Ux (Option.map_eq_none_iff.1 h)
noncomputable def pC (p:bn) (f:List Int):Alloc:=⟨eE (dD p f),cM ((eE (dD p f)).map (oI p))⟩
noncomputable def dp (p:bn) (a:Int->Bool) (s:dc) (f:List Int):dc:=if((s.val+1:Int):Rat)<=jh p f/\mU (dD p f)=true then dV a s (pC p f) else s
def gG (s:dc) (a k:Int):dc:={s with prf:=(s.prf++[zN,zN]).set a.toNat (j7 k s.prf.length)}
noncomputable def fH (p:bn) (en:Int->Bool) (most:Int) (b:dc->Int->List Int->dc) (s:dc) (a:Int) (f:List Int):dc:=
 if s.err≠0\/s.found=true then s
 else if ic p f=false then {s with prf:=s.prf.set a.toNat ER}
 else if jh p f<(((dp p en s f).val+1:Int):Rat) then {dp p en s f with prf:=(dp p en s f).prf.set a.toNat (qS p f)}
 else match jR (dD p f) with
  |none=>{dp p en s f with err:=12}
  |some k=>if most<(dp p en s f).prf.length+2 then {dp p en s f with err:=12}
   else b (b (gG (dp p en s f) a k) ((dp p en s f).prf.length+1) (f.set k.toNat 1)) (dp p en s f).prf.length (f.set k.toNat (-1))
noncomputable def dF (p:bn) (b:Int->Bool) (a:Int):Nat->dc->Int->List Int->dc
 |0=>fH p b a λs _ _=>s
 |n+1=>fH p b a (dF p b a n)
structure eJ (p:bn) (f:List Int):Prop where
 c:bz p=0
 l:f.length=p.offers.length
 r:jP f=true
theorem eJ.ok {p:bn} {f:List Int} (h:eJ p f) (a:ic p f=true):eV p f:=⟨h.c,h.l,a⟩
theorem eJ.e {p:bn} {f:List Int} (h:eJ p f):jg p f=0:=by
 unfold jg;rw[if_neg (by simp[h.c]),if_neg (by simp[h.l]),if_pos h.r]
theorem eJ.j6 {p:bn} {f:List Int} (h:eJ p f):j6 p f=ic p f:=by
 unfold Go.Vi.j6;rw[h.e];simp
theorem Uy {f:List Int} {k:Nat} {d:Int} (h:jP f=true) (a: -1<=d/\d<=1):jP (f.set k d)=true:=by
 grind[jP]
theorem eJ.set {p:bn} {f:List Int} (h:eJ p f) {k:Nat} {d:Int} (a: -1<=d/\d<=1):eJ p (f.set k d):=⟨h.c,by rw[Φ];exact h.l,Uy h.r a⟩
theorem my {f:List Int} {k d:Int} (i:0<=k/\k<f.length) (l:bj f k.toNat 0=0) (g:d≠0):nF f=nF (f.set k.toNat d)+1:=by
 have c:(bE f 0).Perm (k::bE (f.set k.toNat d) 0):=by
  refine(γ4 (uP.imp λh=>by omega) ?_).2 λx=>?_
  ·rw[List.nodup_cons];refine⟨λj=>?_,uP.imp λh=>by omega⟩;simp_all[kQ,iK]
  ·rw[List.mem_cons,kQ,kQ,Φ];constructor
   ·rintro⟨a,b⟩;by_cases e:x=k;·exact .inl e
    ·exact .inr ⟨a,by rw[iK (by omega),if_neg (by omega)];exact b⟩
   grind[iK]
 have:=c.length_eq;omega
theorem ES {en:Int->Bool} {s:dc} {a:Alloc}:(dV en s a).prf=s.prf/\(dV en s a).err=s.err/\s.val<=(dV en s a).val/\((dV en s a).val=s.val\/(dV en s a).val=a.value)/\((dV en s a).ch=s.ch\/(dV en s a).ch=a.chosen):=by
 grind[dV]
theorem ET {p:bn} {en:Int->Bool} {s:dc} {f:List Int}:(dp p en s f).prf=s.prf/\(dp p en s f).err=s.err/\s.val<=(dp p en s f).val/\((dp p en s f).val=s.val\/(dp p en s f).val=(pC p f).value)/\((dp p en s f).ch=s.ch\/(dp p en s f).ch=(pC p f).chosen):=by
 grind[dp,ES]
theorem aeE {x:List Rat}:(eE x).length<=x.length:=by
 have:=List.length_filter_le (λi:Int=>decide (0<bj x i.toNat 0)) (cG x.length);rw[fU] at this;exact this
theorem aeF {p:bn} {f:List Int} (b:f.length=p.offers.length):∀x∈(eE (dD p f)).map (oI p),x∈p.offers:=λx a=>by
 obtain⟨i,c,rfl⟩:=Ψ.1 a;have:=(yO.1 c).1;rw[rR,b] at this;exact dq (by omega)
theorem Uz {p:bn} {f:List Int} (h:eJ p f):0<=(pC p f).value/\(pC p f).value<=160000000/\(pC p f).chosen.length<=160:=by
 have a:=dQ h.c;have b:=@sT p a ((eE (dD p f)).map (oI p)) (aeF h.l);have d:=@aeE (dD p f);rw[rR,h.l] at d;have e:=a.2.1;rw[Ξ] at b;refine⟨b.1,?_,?_⟩
 ·show cM _<=_;omega
 ·show(eE (dD p f)).length<=160;omega
theorem KG {p:bn} (a:bz p=0) {c:List Int} (h:eL p.offers.length c):di p c=0↔gl p (c.map (oI p))=true:=by
 simp_all[Ea,jd,eI,di]
theorem yP {p:bn} (a:bz p=0) {c:List Int} (h:eL p.offers.length c):ef p c=cM (c.map (oI p)):=by
 simp_all[eI,Ea,ef]
theorem rT {p:bn} {en:Int->Bool} {most:Int}:∀{n:Nat} {s:dc} {a:Int} {f:List Int},eJ p f->s.prf.length<=(dF p en most n s a f).prf.length/\((dF p en most n s a f).prf.length<=most\/(dF p en most n s a f).prf.length=s.prf.length)/\s.val<=(dF p en most n s a f).val/\((dF p en most n s a f).val=s.val\/(dF p en most n s a f).val<=160000000)/\((dF p en most n s a f).ch=s.ch\/(dF p en most n s a f).ch.length<=160)/\((dF p en most n s a f).err=s.err\/(dF p en most n s a f).err=12):=by
 have d:∀{b:dc->Int->List Int->dc},(∀{s:dc} {a:Int} {f:List Int},eJ p f->s.prf.length<=(b s a f).prf.length/\((b s a f).prf.length<=most\/(b s a f).prf.length=s.prf.length)/\s.val<=(b s a f).val/\((b s a f).val=s.val\/(b s a f).val<=160000000)/\((b s a f).ch=s.ch\/(b s a f).ch.length<=160)/\((b s a f).err=s.err\/(b s a f).err=12))->
   ∀{s:dc} {a:Int} {f:List Int},eJ p f->s.prf.length<=(fH p en most b s a f).prf.length/\((fH p en most b s a f).prf.length<=most\/(fH p en most b s a f).prf.length=s.prf.length)/\s.val<=(fH p en most b s a f).val/\((fH p en most b s a f).val=s.val\/(fH p en most b s a f).val<=160000000)/\((fH p en most b s a f).ch=s.ch\/(fH p en most b s a f).ch.length<=160)/\((fH p en most b s a f).err=s.err\/(fH p en most b s a f).err=12):=by
  intro b c s a f h;obtain⟨v,j,E,l,r⟩:=@ET p en s f;obtain⟨H,A,L⟩:=Uz h;have w:(dp p en s f).ch=s.ch\/(dp p en s f).ch.length<=160:=r.imp id λh=>by simp_all
  have x:(dp p en s f).val=s.val\/(dp p en s f).val<=160000000:=l.imp id λh=>by omega
  unfold fH;split;·simp_all
  split;·simp_all
  split;·simp_all
  split;·simp_all
  rename_i k J;split;·simp_all
  rename_i o;have F:(gG (dp p en s f) a k).prf.length=s.prf.length+2:=by
   simp_all[gG]
  obtain⟨D,K,u,z,e,t⟩:=@c (gG (dp p en s f) a k) ((dp p en s f).prf.length+1) (f.set k.toNat 1) (h.set (by omega));obtain⟨B,C,G,I,g,M⟩:=@c (b (gG (dp p en s f) a k) ((dp p en s f).prf.length+1) (f.set k.toNat 1)) (dp p en s f).prf.length (f.set k.toNat (-1)) (h.set (by omega));have i:(gG (dp p en s f) a k).val=(dp p en s f).val:=rfl;have m:(gG (dp p en s f) a k).ch=(dp p en s f).ch:=rfl;have q:(gG (dp p en s f) a k).err=(dp p en s f).err:=rfl;rw[v] at o;rw[i] at u z;rw[m] at e;rw[q,j] at t;refine⟨by omega,.inl (by omega),by omega,by omega,?_,?_⟩
  ·rcases g with g|g
   ·rw[g];rcases e with e|e<;>simp_all
   omega
  omega
 intro n;induction n with
 |zero=>exact d λ{s a f} _=>⟨Nat.le_refl _,.inr rfl,εf _,.inl rfl,.inl rfl,.inl rfl⟩;|succ n y=>exact d λh=>y h
inductive ji (p:bn) (v:Int) (t:List dj):Nat->List Int->Nat->Nat->Prop
 |bnd {a:Nat} {f:List Int} {lo:Nat}:t[a]?=some (qS p f)->ic p f=true->jh p f<((v+1:Int):Rat)->ji p v t a f lo lo
 |con {a:Nat} {f:List Int} {lo:Nat}:t[a]?=some ER->ic p f=false->ji p v t a f lo lo
 |tn {a:Nat} {f:List Int} {lo mid hi:Nat} {k:Int}:t[a]?=some (j7 k lo)->a<lo->(0<=k/\k<f.length)->bj f k.toNat 0=0->ji p v t (lo+1) (f.set k.toNat 1) (lo+2) mid->ji p v t lo (f.set k.toNat (-1)) mid hi->ji p v t a f lo hi
section
variable {p:bn} {v v':Int} {t t':List dj} {a lo hi:Nat} {f:List Int}
theorem ji.le (h:ji p v t a f lo hi):lo<=hi:=by
 induction h with
 |bnd _ _ _=>omega;|con _ _=>omega;|tn _ _ _ _ _ _ b c=>omega
theorem ji.mono (h:ji p v t a f lo hi) (q:v<=v') (e:∀i,i=a\/(lo<=i/\i<hi)->t'[i]?=t[i]?):ji p v' t' a f lo hi:=by
 induction h with
 |bnd c b d=>
  refine .bnd (by simp_all) b ?_;have:((v+1:Int):Rat)<=((v'+1:Int):Rat):=by exact_mod_cast (show v+1<=v'+1 by omega)
  grind;|con c b=>exact .con (by simp_all) b;|tn c b d l k g m j=>
  have o:=k.le;have n:=g.le;exact .tn (by simp_all) b d l (m λi hi=>e i (by omega)) (j λi hi=>e i (by omega))
def EU (f:List Int) (l:List Int):Prop:=(∀i∈l,bj f i.toNat 0≠ -1)/\∀i∈bE f 1,i∈l
theorem UA {l:List Int} {k d:Int} (g:0<=k/\k<f.length) (m:bj f k.toNat 0=0) (e:∀i∈l,0<=i) (h:EU f l) (j:(d=1/\k∈l)\/(d= -1/\k∉l)):EU (f.set k.toNat d) l:=by
 obtain⟨b,c⟩:=h;refine⟨λi a=>?_,λi a=>?_⟩<;>grind[iK,kQ]
theorem aeG {l m:List Int} (e:bz p=0) (f:∀i∈l,0<=i/\i<p.offers.length) (q:m.Nodup) (j:∀i∈m,i∈l) (o:l.Nodup) (h:gl p (l.map (oI p))=true):gl p (m.map (oI p))=true:=by
 refine pn.2 λr b=>?_;have d:=pn.1 h r b;have a:l.Perm (m++l.filter λi=>decide (i∉m)):=by
  grind
 have g:cY p (l.map (oI p)) r=cY p (m.map (oI p)) r+cY p ((l.filter λi=>decide (i∉m)).map (oI p)) r:=by
  rw[wK,wK,wK,Tc (a.map _),γa,θb]
 have n:=@sS p r ((l.filter λi=>decide (i∉m)).map (oI p)) λx c=>by
  obtain⟨i,k,rfl⟩:=Ψ.1 c;simp_all[kR]
 omega
theorem ji.sound (h:ji p v t a f lo hi) (e:eJ p f) {l:List Int} (d:eL p.offers.length l) (b:gl p (l.map (oI p))=true) (g:EU f l):cM (l.map (oI p))<=v:=by
 induction h with
 |bnd o n m=>
  have j:=weak (e.ok n) e.r d b g.1 g.2;have s:((cM (l.map (oI p)):Int):Rat)<((v+1:Int):Rat):=by grind
  have u:cM (l.map (oI p))<v+1:=by exact_mod_cast s
  omega;|con o n=>
  exfalso;have:=aeG e.c d.2 (uP.imp λh=>by omega) g.2 (A4 d) b;grind[ic];|@tn a f lo y hi k o n m j s u x w=>
  by_cases q:k∈l;·exact x (e.set (by omega)) (UA m j (λi hi=>(d.2 i hi).1) g (.inl ⟨rfl,q⟩))
  ·exact w (e.set (by omega)) (UA m j (λi hi=>(d.2 i hi).1) g (.inr ⟨rfl,q⟩))
end
theorem UB {p:bn} {en:Int->Bool} {most:Int}:∀{n:Nat} {s:dc} {a:Int} {f:List Int},eJ p f->nF f<=n->(0<=a/\a<s.prf.length)->(dF p en most n s a f).err=0->(dF p en most n s a f).found=false->
  ji p (dF p en most n s a f).val (dF p en most n s a f).prf a.toNat f s.prf.length (dF p en most n s a f).prf.length/\(∀i:Nat,i<s.prf.length->i≠a.toNat->(dF p en most n s a f).prf[i]?=s.prf[i]?)/\s.err=0/\s.found=false:=by
 have y:∀{b:dc->Int->List Int->dc} {s:dc} {a:Int} {f:List Int},eJ p f->(0<=a/\a<s.prf.length)->
   (∀{s:dc} {a:Int} {g:List Int},eJ p g->nF f=nF g+1->(0<=a/\a<s.prf.length)->s.prf.length<=(b s a g).prf.length/\s.val<=(b s a g).val/\((b s a g).err=0->(b s a g).found=false->ji p (b s a g).val (b s a g).prf a.toNat g s.prf.length (b s a g).prf.length/\(∀i:Nat,i<s.prf.length->i≠a.toNat->(b s a g).prf[i]?=s.prf[i]?)/\s.err=0/\s.found=false))->
   (fH p en most b s a f).err=0->(fH p en most b s a f).found=false->ji p (fH p en most b s a f).val (fH p en most b s a f).prf a.toNat f s.prf.length (fH p en most b s a f).prf.length/\(∀i:Nat,i<s.prf.length->i≠a.toNat->(fH p en most b s a f).prf[i]?=s.prf[i]?)/\s.err=0/\s.found=false:=by
  intro b s a f t C q e c;obtain⟨D,e2,e3,e4,e5⟩:=@ET p en s f;have B:a.toNat<s.prf.length:=by omega
  unfold fH at e c ⊢;split at e;·simp_all
  rename_i x;have G:s.err=0/\s.found=false:=by simpa using x
  rw[if_neg x] at c ⊢;split at e
  ·rename_i m;rw[if_pos m];refine⟨?_,λi u j=>?_,G⟩
   ·rw[Φ];exact .con (by simp_all) m
   ·show(s.prf.set a.toNat ER)[i]?=_;rw[δq (λh=>j h.symm)]
  rename_i m;rw[if_neg m] at c ⊢;have O:ic p f=true:=by simpa using m
  split at e
  ·rename_i w;rw[if_pos w];refine⟨?_,λi u j=>?_,G⟩
   ·rw[Φ,D];refine .bnd ?_ O w;simp_all
   ·show((dp p en s f).prf.set a.toNat _)[i]?=_;rw[δq (λh=>j h.symm),D]
  rename_i w;rw[if_neg w] at c ⊢;cases A:jR (dD p f) with
  |none=>simp_all;|some k=>
  rw[A] at e c;simp only at e c ⊢;split at e;·simp at e
  rename_i Q;rw[if_neg Q] at c ⊢;obtain⟨l,K,L⟩:=tj A;rw[rR] at l;have v:bj f k.toNat 0=0:=tg (t.ok O) t.r (by omega) K L;have n1:=my l v (d:=1) (by omega);have Y:=my l v (d:= -1) (by omega);have T:eJ p (f.set k.toNat 1):=t.set (by omega);have f2:eJ p (f.set k.toNat (-1)):=t.set (by omega);have S:(gG (dp p en s f) a k).prf.length=s.prf.length+2:=by
   simp_all[gG]
  rw[D] at e c ⊢;obtain⟨l1,v1,t1⟩:=@q (gG (dp p en s f) a k) ((s.prf.length:Int)+1) (f.set k.toNat 1) T n1 (by omega);generalize R:b (gG (dp p en s f) a k) ((s.prf.length:Int)+1) (f.set k.toNat 1)=I at*;obtain⟨l2,V,Z⟩:=@q I (s.prf.length:Int) (f.set k.toNat (-1)) f2 Y (by omega);generalize X:b I (s.prf.length:Int) (f.set k.toNat (-1))=P at*;obtain⟨N,F,U,w2⟩:=Z e c;obtain⟨J,H,w3,w4⟩:=t1 U w2;have M:∀i:Nat,i<s.prf.length+2->(gG (dp p en s f) a k).prf[i]?=if i=a.toNat then some (j7 k s.prf.length) else(s.prf++[zN,zN])[i]?:=λi u=>by
   unfold gG;simp only[D];rw[List.getElem?_set];by_cases h:a.toNat=i;·simp_all
   ·rw[if_neg h,if_neg (λm=>h m.symm)]
  have E:((s.prf.length:Int)).toNat=s.prf.length:=by omega
  have z:((s.prf.length:Int)+1).toNat=s.prf.length+1:=by omega
  rw[E] at N F;rw[z] at J H;rw[S] at J H;have o:∀i:Nat,i<s.prf.length->P.prf[i]?=(gG (dp p en s f) a k).prf[i]?:=λi u=>by rw[F i (by omega) (by omega),H i (by omega) (by omega)]
  refine⟨.tn (k:=k) (mid:=I.prf.length) ?_ B l v ?_ N,λi u j=>?_,G⟩;·rw[o _ B,M _ (by omega),if_pos rfl]
  ·exact J.mono V λi u=>F i (by omega) (by omega)
  ·rw[o i u,M i (by omega),if_neg j,List.getElem?_append_left u]
 intro n;induction n with
 |zero=>
  intro s a f t W C e c;exact y t C (λ{s a g} _ h _=>by omega) e c;|succ n ih=>
  intro s a f t W C e c;refine y t C (λ{s a g} x m w=>?_) e c;have A:=@rT p en most n s a g x;exact⟨A.1,A.2.2.1,λe c=>ih x (by omega) w e c⟩
theorem UC {p:bn} {en:Int->Bool} {most:Int} {G:List Int->Int->Bool->Prop} (u:∀c w b q w',G c w b->di p q=0->ef p q=w'->w<w'->G q w' (b||en w')):
  ∀{n:Nat} {s:dc} {a:Int} {f:List Int},eJ p f->G s.ch s.val s.found->G (dF p en most n s a f).ch (dF p en most n s a f).val (dF p en most n s a f).found:=by
 have k:∀{d:dc->Int->List Int->dc},(∀{s:dc} {a:Int} {f:List Int},eJ p f->G s.ch s.val s.found->G (d s a f).ch (d s a f).val (d s a f).found)->
   ∀{s:dc} {a:Int} {f:List Int},eJ p f->G s.ch s.val s.found->G (fH p en most d s a f).ch (fH p en most d s a f).val (fH p en most d s a f).found:=by
  intro d e s a f i j;unfold fH;split;·exact j
  split;·exact j
  rename_i t;have y:ic p f=true:=by simp_all
  have m:G (dp p en s f).ch (dp p en s f).val (dp p en s f).found:=by
   unfold dp;split
   ·rename_i A;unfold dV;split
    ·rename_i o;obtain⟨z,B⟩:=Us (i.ok y) i.r A.2;have g:eL p.offers.length (eE (dD p f)):=by
      have:=@Ur (dD p f);rw[rR,i.l] at this;exact this
     refine u _ _ _ _ _ j ?_ ?_ o;·exact(KG i.c g).2 z
     ·exact yP i.c g
    ·exact j
   ·exact j
  split;·exact m
  split;·exact m
  split;·exact m
  ·exact e (i.set (by omega)) (e (i.set (by omega)) m)
 intro n;induction n with
 |zero=>exact k λ_ h=>h;|succ n x=>exact k λv t=>x v t
theorem two_pow_pos (n:Nat):1<=2^n:=ζY
theorem UD {p:bn} {en:Int->Bool} {most:Int}:∀{n:Nat} {s:dc} {a:Int} {f:List Int},eJ p f->nF f<=n->s.err=0->((s.prf.length+2^(nF f+1):Nat):Int)<=most+2->(dF p en most n s a f).err=0/\(dF p en most n s a f).prf.length+2<=s.prf.length+2^(nF f+1):=by
 have l:∀{c:dc->Int->List Int->dc} {s:dc} {a:Int} {f:List Int},eJ p f->s.err=0->((s.prf.length+2^(nF f+1):Nat):Int)<=most+2->
   (∀{s:dc} {a:Int} {g:List Int},eJ p g->nF f=nF g+1->s.err=0->((s.prf.length+2^(nF g+1):Nat):Int)<=most+2->(c s a g).err=0/\(c s a g).prf.length+2<=s.prf.length+2^(nF g+1))->
   (fH p en most c s a f).err=0/\(fH p en most c s a f).prf.length+2<=s.prf.length+2^(nF f+1):=by
  intro c s a f b t u C;obtain⟨L,J,T,X,e5⟩:=@ET p en s f;have F:2<=2^(nF f+1):=by grind
  unfold fH;split;·omega
  split;·simp_all
  rename_i E N;have x:ic p f=true:=by simp_all
  split;·simp_all
  rename_i v;cases A:jR (dD p f) with
  |none=>
   exfalso;apply v;have o:mU (dD p f)=true:=by
    unfold mU;rw[φ];intro q H;obtain⟨i,B,rfl⟩:=γJ H;have w:=aeD A i B;obtain⟨M,I,_⟩:=EN (b.ok x) b.r (show i<f.length by grind[rR]);rw[cV B] at w M I;rcases(show(dD p f)[i]=0\/(dD p f)[i]=1 by grind) with e|e<;>simp_all
   obtain⟨Y,K⟩:=Us (b.ok x) b.r o;have P:((pC p f).value:Rat)=jh p f:=K;by_cases D:((s.val+1:Int):Rat)<=jh p f
   ·have O:s.val<(pC p f).value:=by
     rw[<-P] at D;have:s.val+1<=(pC p f).value:=by exact_mod_cast D
     omega
    have:(dp p en s f).val=(pC p f).value:=by
     simp_all[dp,dV]
    grind
   grind;|some k=>
   simp only;obtain⟨j,z,y⟩:=tj A;rw[rR] at j;have m:bj f k.toNat 0=0:=tg (b.ok x) b.r (by omega) z y;have n1:=my j m (d:=1) (by omega);have n2:=my j m (d:= -1) (by omega);have W:eJ p (f.set k.toNat 1):=b.set (by omega);have Z:eJ p (f.set k.toNat (-1)):=b.set (by omega);have V:(gG (dp p en s f) a k).prf.length=s.prf.length+2:=by
    grind[gG]
   have U:2^(nF f+1)=2^(nF (f.set k.toNat 1)+1)+2^(nF (f.set k.toNat 1)+1):=by
    grind
   have ne:nF (f.set k.toNat (-1))=nF (f.set k.toNat 1):=by omega
   have Q:2<=2^(nF (f.set k.toNat 1)+1):=by omega
   rw[if_neg (by rw[L];omega)];have S:(gG (dp p en s f) a k).err=0:=by show(dp p en s f).err=0;rw[J,t]
   grind
 intro n;induction n with
 |zero=>
  intro s a f b G t u;exact l b t u λ{s a g} _ h _ _=>by omega;|succ n R=>
  intro s a f b G t u;exact l b t u λ{s a g} E N v w=>R E (by omega) v w
def EV (p:i7) (lo:Nat) (Λ:Nat->cC):IR->cu->(cu->Prop)->Prop
 | .skip,b,K=>K b
 | .seq x y,b,K=>wpS p lo x Λ b λc a=>match c with
  | .norm=>EV p lo Λ y a K
  |_=>False
 |_,_,_=>False
def EW (p:i7) (Λ:Nat->cC) (F:fz) (args:List SV) (o:bZ) (Q:SV->bZ->Prop):Prop:=
 match F.body with
 | .tL g c d a b=>EV p o.length Λ a ⟨nu 0 args,o⟩ λe=>wpS p e.o.length b Λ ⟨(d,.ud)::e.env,e.o⟩ λi j=>if ri i=true then
   (match p.it g with
    |some G=>if(c.map (jK e.env)).length=G.params/\G.res.isEmpty=true then wpS p j.o.length G.body (λn=>Λ (1000+n)) ⟨nu 0 (c.map (jK e.env)),j.o⟩ λf h=>if ri f=true then
      og ⟨j.env,h.o⟩ F.res λr=>if r.bY o.length&&h.o.all (λx=>x.bY o.length)&&decide (o.length<=h.o.length) then Q r (h.o.take o.length) else False
     else False else False
    |none=>False) else False
 |_=>False
section
variable {P:Program} {T:Tab} {p:i7} {Λ:Nat->cC}
theorem aeH (i:pQ T.K p.C) (j:∀f F,p.it f=some F->T.fn f=some F) {lo:Nat}:∀{a:IR} {st:cu} {K:cu->Prop},EV p lo Λ a st K->∃s0:cu,(∃N,∀n,N<=n->rh (exec T .plain n lo) a st.g=some s0.g)/\K s0:=by
 intro a;induction a with
 |skip=>intro st K h;exact⟨st,⟨0,λ_ _=>rfl⟩,h⟩;|seq x y _ d=>
  intro st K h;simp only[EV] at h;obtain⟨c,s,⟨N,e⟩,r,rfl,b⟩:=vQ i j h;cases c with
  |norm=>
   obtain⟨s0,⟨M,m⟩,k⟩:=d b;refine⟨s0,⟨N+M,λn o=>?_⟩,k⟩;simp only[rh,e n n (by omega) (by omega)];grind;|exit q=>exact b.elim;|ret=>exact b.elim;|goto l=>exact b.elim
 |_=>intro st K h;exact h.elim
theorem aeI (J:kG P T) (u:pQ T.K p.C) (n:∀f F,p.it f=some F->T.fn f=some F) {f:FuncId} {F:fz} (S:T.fn f=some F) {args:List SV} {o:bZ} {r:AV} {o':Store} (V:T.K f (gL args) (gO o) true=none) (B:args.length=F.params)
  {Q:SV->bZ->Prop} (A:∀v s,Q v s->v.g=r/\gO s=o') (h:EW p Λ F args o Q):gX P f=true/\kF P f (gL args) (gO o) r o':=by
 unfold EW at h;split at h
 ·rename_i g a d ia ib Z;obtain⟨b,h1,h⟩:=aeH u n h;obtain⟨O,U,h2,c,rfl,h⟩:=vQ u n h;split at h
  ·rename_i k;split at h
   ·rename_i G hG;split at h
    ·rename_i Y;obtain⟨D,I,h3,i,rfl,h⟩:=vQ u n h;split at h
     ·rename_i j;obtain⟨t,k1,m⟩:=xO h;split at m
      ·rename_i y;simp only[θ,decide_eq_true_eq,φ] at y;obtain⟨⟨a2,L⟩,N⟩:=y;have R:(cu.mk (nu 0 args) o).g=⟨ix 0 (gL args),gO o⟩:=by simp[cu.g,vR]
       have w:(gO o).length=o.length:=om o;have a1:b.g.o.length=b.o.length:=om b.o;have a0:c.g.o.length=c.o.length:=om c.o;have H:a.map (eG b.g.env)=gL (a.map (jK b.env)):=by
        rw[gk,γ3];refine γY λx _=>?_;show eG (gE b.env) x=_;grind[zY]
       have z:(cu.mk ((d,.ud)::b.env) b.o).g=⟨(d,.ud)::b.g.env,b.g.o⟩:=by simp[cu.g,gE,SV.g]
       have E:(cu.mk (nu 0 (a.map (jK b.env))) c.o).g=⟨ix 0 (gL (a.map (jK b.env))),c.g.o⟩:=by simp[cu.g,vR]
       have W:(cu.mk c.env i.o).g=⟨c.g.env,i.g.o⟩:=rfl;have q:∀x∈gO i.o,x.bY o.length=true:=by
        grind[gO,C9]
       have l:finish true (gO o).length t.g i.g.o=some (r,o'):=by
        simp only[finish,if_true,w];have e:lN o.length t.g i.g.o=some (t.g,(i.g.o).take o.length):=PQ (by grind[zZ]) q (by show o.length<=(gO i.o).length;grind[om]);rw[e,<-(A _ _ m).1,<-(A _ _ m).2];simp_all[cu.g,gO]
       obtain⟨X,M,_⟩:=Zc J S Z (own:=true) V (by grind[jY]) (s0:=b.g) (s2:=c.g) (s3:=i.g) (by simp_all) (by simp_all) k (n g G hG) (by grind) Y.2 (by simp_all) j (by simp_all) l;exact⟨X,M⟩
      ·exact m.elim
     ·exact h.elim
    ·exact h.elim
   simp_all
  ·exact h.elim
 simp_all
end
theorem aeJ {P:Program} {d:FuncId->Option fz} {L:List bM} {W:List dG} (c:dG) {F:fz} {k:TypeId->Option bp} {e:List Nat×Bool->Option (bp×bp)} {Λ:c.α->Nat->cC}
  (n:kG P ⟨d,λ_ _ _ _=>none⟩) (i:∀c∈W,ec P c) (o:∀c∈L,Holds P c)
  (l:d c.f=some F) (b:∀a,(c.put a).length=F.params)
  (a:c.α) (m:oq c.f W=none)
  (h:EW (oo L (gP W) k e d) (Λ a) F (c.put a) (c.st a) λv s=>v.same (c.res a)/\kH s (c.out a)):
  gX P c.f=true/\kF P c.f (gL (c.put a)) (gO (c.st a)) (c.res a).g (gO (c.out a)):=by
 refine aeI (p:=oo L (gP W) k e d) (Λ:=Λ a) (Q:=λv s=>v.same (c.res a)/\kH s (c.out a)) (vT (lg i) o n) (vU (lg i)) (λ_ _ h=>h) l ?_ (b a) (λv s j=>⟨j.1,xN j.2⟩) h;simp_all[qD,sN,gP,uu]
theorem aeK {k:Nat} {r a:AV} {o mid o2:Store} (c:r.bV o (λi=>decide (k<=i))=some a) (g:jG o (λi=>decide (k<=i)) o=some mid) (e:fQ (λi=>decide (k<=i)) 0 mid=o2) (f:a.bY k=true) (d:∀x∈o2,x.bY k=true) (l:k<=o2.length):lN k r o=some (a,o2.take k):=by
 unfold lN;rw[c,g];simp only[e];have m:∀x∈o2.take k,x.bY k=true:=λx h=>d x (List.mem_of_mem_take h);rw[PK (by grind[eu,Hv])];have j:iO.pG (List.range k)=true:=by rw[δD];exact nodup_range'
 rw[if_pos j,Dh f];have b:=Hu (k:=k) (o:=o2) m l (n:=k) (s:=0) (by omega);rw[<-δD,List.drop_zero] at b;rw[b]
def EX (k:Nat) (r:SV) (o:bZ) (K:SV->bZ->Prop):Prop:=
 lh o k r λb=>pg o k 0 o λa=>if b.bY k&&a.all (λx=>x.bY k)&&decide (k<=a.length) then K b (a.take k) else False
theorem aeL {k:Nat} {r:SV} {o:bZ} {K:SV->bZ->Prop} (h:EX k r o K):∃r' o',lN k r.g (gO o)=some (r'.g,gO o')/\K r' o':=by
 unfold EX at h;obtain⟨l,p,f⟩:=HM h;obtain⟨c,i,n,m,a⟩:=xW f;split at a
 ·rename_i b;simp only[θ,decide_eq_true_eq,φ] at b;obtain⟨⟨d,j⟩,e⟩:=b;refine⟨l,c.take k,?_,a⟩;simp_all[aeK,zZ,gO,C9]
 simp_all
def EY (p:i7) (Λ:Nat->cC) (F:fz) (args:List SV) (o:bZ) (Q:SV->bZ->Prop):Prop:=
 wpS p o.length F.body Λ ⟨nu 0 args,o⟩ λa b=>match a with
  | .exit _=>False
  | .goto _=>False
  |_=>og b F.res λr=>EX o.length r b.o Q
theorem aeM {P:Program} {T:Tab} {p:i7} {Λ:Nat->cC} (A:kG P T) (t:pQ T.K p.C) (y:∀f F,p.it f=some F->T.fn f=some F) {f:FuncId} {F:fz} (n:T.fn f=some F) {args:List SV} {o:bZ} {r:AV} {o':Store} (z:T.K f (gL args) (gO o) true=none) (j:args.length=F.params)
  {Q:SV->bZ->Prop} (D:∀v s,Q v s->v.g=r/\gO s=o') (h:EY p Λ F args o Q):gX P f=true/\kF P f (gL args) (gO o) r o':=by
 unfold EY at h;have e:=vQ t y h;have d:(cu.mk (nu 0 args) o).g=⟨ix 0 (gL args),gO o⟩:=by simp[cu.g,vR]
 rw[d] at e;have i:(gO o).length=o.length:=om o;rw[<-i] at e;have x:∀(a:cu),(og a F.res λv=>EX (gO o).length v a.o Q)->(nV a.g F.res).bind (λc=>finish true (gO o).length c a.g.o)=some (r,o'):=by
  intro a m;obtain⟨c,k,l⟩:=xO m;obtain⟨u,q,w,E⟩:=aeL l;rw[k];simp only[Option.bind_some,finish,if_true];have:lN (gO o).length c.g a.g.o=some (u.g,gO q):=w;grind
 obtain⟨k,l,_⟩:=CU A n (o:=gO o) (own:=true) z (by grind[jY]) (v:=r) (o':=o') (e.mono λb s B=>by
  obtain⟨a,rfl,m⟩:=B;cases b<;>simp_all);simp_all
theorem aeN {P:Program} {d:FuncId->Option fz} {L:List bM} {W:List dG} (c:dG) {F:fz} {k:TypeId->Option bp} {e:List Nat×Bool->Option (bp×bp)} {Λ:c.α->Nat->cC}
  (n:kG P ⟨d,λ_ _ _ _=>none⟩) (i:∀c∈W,ec P c) (o:∀c∈L,Holds P c)
  (l:d c.f=some F) (b:∀a,(c.put a).length=F.params)
  (a:c.α) (m:oq c.f W=none)
  (h:EY (oo L (gP W) k e d) (Λ a) F (c.put a) (c.st a) λv s=>v.same (c.res a)/\kH s (c.out a)):
  gX P c.f=true/\kF P c.f (gL (c.put a)) (gO (c.st a)) (c.res a).g (gO (c.out a)):=by
 refine aeM (p:=oo L (gP W) k e d) (Λ:=Λ a) (Q:=λv s=>v.same (c.res a)/\kH s (c.out a)) (vT (lg i) o n) (vU (lg i)) (λ_ _ h=>h) l ?_ (b a) (λv s j=>⟨j.1,xN j.2⟩) h;simp_all[qD,sN,gP,uu]
structure dI where
 p:bn
 ch:List Int
 val:Int
 found:Bool
 en:Option Int
 k1:Nat
 k2:Nat
 most:Int
 err:Int
 prf:List dj
 fx:List Int
def dI.cs (x:dI) (e:SV) (i j:Nat):List SV:=[.row (.i .i64) x.ch,.si .i64 x.val,.sb x.found,e,.ow i x.k1 5,.ow j x.k2 1,.si .i64 x.most,.si .i64 x.err]
def dI.yQ (x:dI):bZ:=[.cells (x.p.ss++x.cs (.fn (.func 70) [] []) 1 2) 126 28 false,.row bF x.prf 108 true,.row (.i .i64) x.fx 3 true]
def dI.yR (x:dI) (m:Int):bZ:=[.cells (x.p.ss++x.cs (.fn (.func 116) [] [.ptr 1 0 1]) 2 3) 126 28 false,.cells [.si .i64 m] 2 1 false,.row bF x.prf 108 true,.row (.i .i64) x.fx 3 true]
def dI.gR (x:dI):bZ:=match x.en with
 |none=>x.yQ
 |some m=>x.yR m
def KH:bZ->Option dI
 |[.cells cs 126 28 false,.row s1 l1 108 true,.row s2 l2 3 true]=>match cs.drop 20 with
  |[c,v,b,.fn (.func 70) [] [],.ow 1 k1 5,.ow 2 k2 1,mo,er]=>match vV (cs.take 20),jJ (.i .i64) c,v.int .i64,b.boo,mo.int .i64,er.int .i64 with
   |some p,some c,some v,some b,some mo,some er=>match iH s1 bF l1,iH s2 (.i .i64) l2 with
    |some l1,some l2=>some ⟨p,c,v,b,none,k1,k2,mo,er,l1,l2⟩
    |_,_=>none
   |_,_,_,_,_,_=>none
  |_=>none
 |[.cells cs 126 28 false,.cells [m] 2 1 false,.row s1 l1 108 true,.row s2 l2 3 true]=>match cs.drop 20 with
  |[c,v,b,.fn (.func 116) [] [.ptr 1 0 1],.ow 2 k1 5,.ow 3 k2 1,mo,er]=>match vV (cs.take 20),jJ (.i .i64) c,v.int .i64,b.boo,mo.int .i64,er.int .i64 with
   |some p,some c,some v,some b,some mo,some er=>match iH s1 bF l1,iH s2 (.i .i64) l2,m.int .i64 with
    |some l1,some l2,some m=>some ⟨p,c,v,b,some m,k1,k2,mo,er,l1,l2⟩
    |_,_,_=>none
   |_,_,_,_,_,_=>none
  |_=>none
 |_=>none
theorem aeO {o:bZ} {x:dI} (h:KH o=some x):gO o=gO x.gR:=by
 unfold KH at h;split at h
 ·rename_i cs s1 l1 s2 l2;split at h
  ·rename_i c v b k1 k2 mo er hd;split at h
   ·rename_i p c' v' b' mo' er' h1 h2 h3 h4 h5 h6;split at h
    ·rename_i l1' l2' g1 g2;simp only[γ] at h;subst h;obtain⟨rfl,e1⟩:=mJ g1;obtain⟨rfl,e2⟩:=mJ g2;cases e1;cases e2;have e3:gL cs=gL p.ss++gL [c,v,b,.fn (.func 70) [] [],.ow 1 k1 5,.ow 2 k2 1,mo,er]:=by
      rw[<-hd,<-Ah h1,<-uo,γM]
     simp only[dI.gR,dI.yQ,dI.cs,gO,π,γr,bq.g,uo,e3];simp only[gL,pe h2,iP h3,vC h4,iP h5,iP h6,SV.g]
    ·cases h
   ·cases h
  ·cases h
 ·rename_i cs m s1 l1 s2 l2;split at h
  ·rename_i c v b k1 k2 mo er hd;split at h
   ·rename_i p c' v' b' mo' er' h1 h2 h3 h4 h5 h6;split at h
    ·rename_i l1' l2' m' g1 g2 g3;simp only[γ] at h;subst h;obtain⟨rfl,e1⟩:=mJ g1;obtain⟨rfl,e2⟩:=mJ g2;cases e1;cases e2;have e3:gL cs=gL p.ss++gL [c,v,b,.fn (.func 116) [] [.ptr 1 0 1],.ow 2 k1 5,.ow 3 k2 1,mo,er]:=by
      rw[<-hd,<-Ah h1,<-uo,γM]
     simp only[dI.gR,dI.yR,dI.cs,gO,π,γr,bq.g,uo,e3];simp only[gL,pe h2,iP h3,vC h4,iP h5,iP h6,iP g3,SV.g]
    ·cases h
   ·cases h
  ·cases h
 ·cases h
theorem aeT {p q:bn} (h:gL p.ss=gL q.ss):p=q:=dO.inj p q (by grind[dO,SV.g])
theorem aeU {x y:dI} (h:gO x.gR=gO y.gR):x=y:=by
 obtain⟨p,E,u,b,J,H,G,k,o,A,L⟩:=x;obtain⟨B,n,d,a,l,r,v,c,f,q,C⟩:=y;have w:∀{e I:SV} {i j:Nat},gL (p.ss++(dI.mk p E u b J H G k o A L).cs e i j)=gL (B.ss++(dI.mk B n d a l r v c f q C).cs I i j)->p=B/\E=n/\u=d/\b=a/\H=r/\G=v/\k=c/\o=f:=by
  intro e I i j h;rw[uo,uo] at h;obtain⟨z,t⟩:=List.append_inj h (by rw[jY,jY];rfl);simp only[dI.cs,gL,SV.g,Γ,δd,Value.int.injEq,Value.bool.injEq,AV.os.injEq,AV.sl.injEq,and_true,true_and] at t;grind[aeT,pA]
 cases J with
 |none=>
  cases l with
  |none=>
   simp only[dI.gR,dI.yQ,gO,π,γr,bq.g,Γ,bR.cells.injEq,and_true] at h;obtain⟨z,t,D⟩:=h;obtain⟨rfl,rfl,rfl,rfl,rfl,rfl,rfl,rfl⟩:=w z;rw[pA (s:=bF) t,pA (s:=.i .i64) D];|some K=>
   have:=congrArg γc h;simp_all[dI.gR,dI.yQ,dI.yR,gO]
 |some m=>
  cases l with
  |none=>
   have:=congrArg γc h;simp_all[dI.gR,dI.yQ,dI.yR,gO];|some K=>
   simp only[dI.gR,dI.yR,gO,π,γr,bq.g,Γ,bR.cells.injEq,and_true] at h;obtain⟨z,F,t,D⟩:=h;obtain⟨rfl,rfl,rfl,rfl,rfl,rfl,rfl,rfl⟩:=w z;simp only[gL,SV.g,Γ,δd,Value.int.injEq,and_true,true_and] at F;subst F;rw[pA (s:=bF) t,pA (s:=.i .i64) D]
def EZ (f:FuncId) (c:Type) (A:qC c) (i:dI->c->Prop) (e:dI->c->SV) (out:dI->c->dI):dG where
 f:=f;α:=dI×c;put a:=.ptr 0 0 28::A.put a.2;st a:=a.1.gR;dec v o:=match v with
  | .ptr 0 0 28::r=>match KH o,A.dec r with
   |some s,some b=>some (s,b)
   |_,_=>none
  |_=>none;ok v o a h:=by
  split at h
  ·split at h
   ·rename_i d g;simp only[γ] at h;subst h;exact⟨by simp only[gL,A.ok _ _ g],aeO d⟩
   ·cases h
  ·cases h
 inj a b d g:=by
  simp only[gL,Γ,true_and] at d;exact Prod.ext (aeU g) (A.inj _ _ d)
 dom a:=i a.1 a.2;res a:=e a.1 a.2;out a:=(out a.1 a.2).gR
def cy (e:Option Int) (v:Int):Bool:=match e with
 |none=>false
 |some m=>decide (m<=v)
def dI.s (x:dI):dc:=⟨x.ch,x.val,x.found,x.prf,x.err⟩
def dI.upd (x:dI) (s:dc):dI:=⟨x.p,s.ch,s.val,s.found,x.en,s.prf.length,x.k2,x.most,s.err,s.prf,x.fx⟩
structure fp (x:dI):Prop where
 f:eJ x.p x.fx
 k1:x.k1=x.prf.length
 k2:x.k2=x.fx.length
 v0:0<=x.val
 v1:x.val<=9223372036854775806
 m0:1<=x.most
 m1:x.most<=65536
 l:x.prf.length<=65536
 c:x.ch.length<=9223372036854775807
def KI:dG where
 f:=70;α:=Alloc;put a:=[nA.put a];st _:=[];dec v o:=match v,o with
  |[a],[]=>nA.dec a
  |_,_=>none;ok v o a h:=by
  split at h;·exact⟨by simp only[gL,nA.ok _ _ h],rfl⟩
  ·cases h
 inj a b h1 _:=by
  simp only[gL,Γ,and_true] at h1;exact nA.inj _ _ h1
 dom _:=True;res _:=.sb false;out _:=[]
theorem h438:ec Tryz.prog KI:=by
 refine lB (L:=[]) (W:=[]) KI lk (by simp) (by simp) ?_;rintro(a:Alloc) -;refine bQ ((SV.bl false).same (γx false)/\True) (by kernel_rfl) ?_;simp_all
def KJ:dG where
 f:=116;α:=Alloc×Int;put a:=[nA.put a.1,.ptr 0 0 1];st a:=[.cells [.si .i64 a.2] 2 1 false];dec v o:=match v,o with
  |[a,.ptr 0 0 1],[.cells [m] 2 1 false]=>match nA.dec a,m.int .i64 with
   |some a,some m=>some (a,m)
   |_,_=>none
  |_,_=>none;ok v o a h:=by
  split at h
  ·split at h
   ·rename_i h1 h2;simp only[γ] at h;subst h;exact⟨by simp only[gL,nA.ok _ _ h1],by simp only[gO,π,γr,bq.g,gL,iP h2,SV.g]⟩
   ·cases h
  ·cases h
 inj a b h1 h2:=by
  simp only[gL,Γ,and_true] at h1;simp only[gO,π,γr,bq.g,gL,SV.g,Γ,bR.cells.injEq,δd,Value.int.injEq,and_true,true_and] at h2;exact Prod.ext (nA.inj _ _ h1) h2
 dom _:=True;res a:=.sb (decide (a.2<=a.1.value));out a:=[.cells [.si .i64 a.2] 2 1 false]
theorem h442:ec Tryz.prog KJ:=by
 refine lB (L:=[]) (W:=[]) KJ lk (by simp) (by simp) ?_;rintro⟨a,m⟩ -;refine bQ (let b:=bq.cells [γg .i64 m] 2 1 false;(γx (decide (m<=a.value))).same (γx (decide (m<=a.value)))/\b.same b/\True) (by kernel_rfl) ?_;conv=>zeta
 exact⟨rfl,rfl,trivial⟩
def By:dG:=EZ 71 Alloc (.one nA) (λx _=>x.k1=x.prf.length) (λ_ _=> .bI []) λx a=>x.upd (dV (cy x.en) x.s a)
theorem h439:ec Tryz.prog By:=by
 refine lB (L:=[]) (W:=[KI,KJ]) By lk (by simpa using⟨h438,h442⟩) (by simp) ?_;rintro⟨⟨p,ch,val,found,en,k1,k2,most,err,prf,fx⟩,a⟩ hk;have hk:k1=prf.length:=hk;subst hk;have e1:∀en:Int->Bool,val<a.value->dV en ⟨ch,val,found,prf,err⟩ a=⟨a.chosen,a.value,found||en a.value,prf,err⟩:=λen h=>if_pos h;have e2:∀en:Int->Bool,¬val<a.value->dV en ⟨ch,val,found,prf,err⟩ a=⟨ch,val,found,prf,err⟩:=λen h=>if_neg h;cases en with
 |none=>
  refine bQ (let b:=γg .i64;let c:=bq.row;let d:=bq.cells;let e:=Ω;let f:=SV.bI;let k:=b p.supply.a0;let l:=b p.supply.a1;let m:=b p.supply.a2;let n:=b p.supply.a3;let o:=b p.supply.a4;let q:=b p.supply.a5;let r:=b p.opn.a0;let s:=b p.opn.a1;let t:=b p.opn.a2;let v:=b p.opn.a3;let w:=b p.opn.a4;let x:=b p.opn.a5;let y:=b p.cls.a0;let z:=b p.cls.a1;let A:=b p.cls.a2;let B:=b p.cls.a3;let C:=b p.cls.a4;let D:=b p.cls.a5;let h:=bp.i .i64;let E:=e h p.classes;let F:=e bp.off p.offers;let G:=SV.fn (Fn.func 70) [] [];let H:=γZ 2 k2 1;let I:=b most;let J:=[G,γZ 1 prf.length 5,H,I,b err];let g:=dV (cy none) (dc.mk ch val found prf err) a;let K:=d [k,l,m,n,o,q,r,s,t,v,w,x,y,z,A,B,C,D,E,F,e h g.ch,b g.val,γx g.found,G,γZ 1 g.prf.length 5,H,I,b g.err] 126 28 false;let j:=c h fx 3 true;let L:=decide (val<a.value);let M:=λ(u u_1:Bool) (u_2:List Int) (u_3:Int) (u_4:SV) ↦u=u_1->(f []).same (f [])/\(d (k::l::m::n::o::q::r::s::t::v::w::x::y::z::A::B::C::D::E::F::e h u_2::b u_3::u_4::J) 126 28 false).same K/\(c bF prf 108 true).same (c bF g.prf 108 true)/\j.same j/\True;(L=true->M found true a.chosen a.value (SV.bl true)/\(found=false->True/\(f []).same (f [])/\(d (k::l::m::n::o::q::r::s::t::v::w::x::y::z::A::B::C::D::E::F::e h a.chosen::b a.value::γx false::J) 126 28 false).same K/\(c bF prf 108 true).same (c bF g.prf 108 true)/\j.same j/\True))/\M L false ch val (γx found)) (by kernel_rfl) ?_;conv=>zeta
  refine⟨λh=>?_,λh=>?_⟩
  ·simp only[e1 _ (of_decide_eq_true h)];refine⟨λhf=>?_,λhf=>?_⟩
   ·subst hf;exact⟨rfl,rfl,rfl,rfl,trivial⟩
   ·subst hf;exact⟨trivial,rfl,rfl,rfl,rfl,trivial⟩
  ·simp only[e2 _ (of_decide_eq_false h)];exact⟨rfl,rfl,rfl,rfl,trivial⟩;|some m=>
  refine bQ (let b:=γg .i64;let c:=bp.i .i64;let d:=bq.cells;let e:=Ω;let f:=bq.row;let g:=γZ;let h:=γP;let j:=SV.bI;let k:=γx;(decide (val<a.value)=true->(found=true->(j []).same (j [])/\(d [b p.supply.a0,b p.supply.a1,b p.supply.a2,b p.supply.a3,b p.supply.a4,b p.supply.a5,b p.opn.a0,b p.opn.a1,b p.opn.a2,b p.opn.a3,b p.opn.a4,b p.opn.a5,b p.cls.a0,b p.cls.a1,b p.cls.a2,b p.cls.a3,b p.cls.a4,b p.cls.a5,e (c) p.classes,e bp.off p.offers,e (c) a.chosen,b a.value,SV.bl true,SV.fn (Fn.func 116) [] [h 1 0 1],g 2 prf.length 5,g 3 k2 1,b most,b err] 126 28 false).same (d [b p.supply.a0,b p.supply.a1,b p.supply.a2,b p.supply.a3,b p.supply.a4,b p.supply.a5,b p.opn.a0,b p.opn.a1,b p.opn.a2,b p.opn.a3,b p.opn.a4,b p.opn.a5,b p.cls.a0,b p.cls.a1,b p.cls.a2,b p.cls.a3,b p.cls.a4,b p.cls.a5,e (c) p.classes,e bp.off p.offers,e (c) (dV (cy (some m)) (dc.mk ch val found prf err) a).ch,b (dV (cy (some m)) (dc.mk ch val found prf err) a).val,k (dV (cy (some m)) (dc.mk ch val found prf err) a).found,SV.fn (Fn.func 116) [] [h 1 0 1],g 2 (dV (cy (some m)) (dc.mk ch val found prf err) a).prf.length 5,g 3 k2 1,b most,b (dV (cy (some m)) (dc.mk ch val found prf err) a).err] 126 28 false)/\(d [b m] 2 1 false).same (d [b m] 2 1 false)/\(f bF prf 108 true).same (f bF (dV (cy (some m)) (dc.mk ch val found prf err) a).prf 108 true)/\(f (c) fx 3 true).same (f (c) fx 3 true)/\True)/\(found=false->True/\(j []).same (j [])/\(d [b p.supply.a0,b p.supply.a1,b p.supply.a2,b p.supply.a3,b p.supply.a4,b p.supply.a5,b p.opn.a0,b p.opn.a1,b p.opn.a2,b p.opn.a3,b p.opn.a4,b p.opn.a5,b p.cls.a0,b p.cls.a1,b p.cls.a2,b p.cls.a3,b p.cls.a4,b p.cls.a5,e (c) p.classes,e bp.off p.offers,e (c) a.chosen,b a.value,k (decide (m<=a.value)),SV.fn (Fn.func 116) [] [h 1 0 1],g 2 prf.length 5,g 3 k2 1,b most,b err] 126 28 false).same (d [b p.supply.a0,b p.supply.a1,b p.supply.a2,b p.supply.a3,b p.supply.a4,b p.supply.a5,b p.opn.a0,b p.opn.a1,b p.opn.a2,b p.opn.a3,b p.opn.a4,b p.opn.a5,b p.cls.a0,b p.cls.a1,b p.cls.a2,b p.cls.a3,b p.cls.a4,b p.cls.a5,e (c) p.classes,e bp.off p.offers,e (c) (dV (cy (some m)) (dc.mk ch val found prf err) a).ch,b (dV (cy (some m)) (dc.mk ch val found prf err) a).val,k (dV (cy (some m)) (dc.mk ch val found prf err) a).found,SV.fn (Fn.func 116) [] [h 1 0 1],g 2 (dV (cy (some m)) (dc.mk ch val found prf err) a).prf.length 5,g 3 k2 1,b most,b (dV (cy (some m)) (dc.mk ch val found prf err) a).err] 126 28 false)/\(d [b m] 2 1 false).same (d [b m] 2 1 false)/\(f bF prf 108 true).same (f bF (dV (cy (some m)) (dc.mk ch val found prf err) a).prf 108 true)/\(f (c) fx 3 true).same (f (c) fx 3 true)/\True))/\(decide (val<a.value)=false->(j []).same (j [])/\(d [b p.supply.a0,b p.supply.a1,b p.supply.a2,b p.supply.a3,b p.supply.a4,b p.supply.a5,b p.opn.a0,b p.opn.a1,b p.opn.a2,b p.opn.a3,b p.opn.a4,b p.opn.a5,b p.cls.a0,b p.cls.a1,b p.cls.a2,b p.cls.a3,b p.cls.a4,b p.cls.a5,e (c) p.classes,e bp.off p.offers,e (c) ch,b val,k found,SV.fn (Fn.func 116) [] [h 1 0 1],g 2 prf.length 5,g 3 k2 1,b most,b err] 126 28 false).same (d [b p.supply.a0,b p.supply.a1,b p.supply.a2,b p.supply.a3,b p.supply.a4,b p.supply.a5,b p.opn.a0,b p.opn.a1,b p.opn.a2,b p.opn.a3,b p.opn.a4,b p.opn.a5,b p.cls.a0,b p.cls.a1,b p.cls.a2,b p.cls.a3,b p.cls.a4,b p.cls.a5,e (c) p.classes,e bp.off p.offers,e (c) (dV (cy (some m)) (dc.mk ch val found prf err) a).ch,b (dV (cy (some m)) (dc.mk ch val found prf err) a).val,k (dV (cy (some m)) (dc.mk ch val found prf err) a).found,SV.fn (Fn.func 116) [] [h 1 0 1],g 2 (dV (cy (some m)) (dc.mk ch val found prf err) a).prf.length 5,g 3 k2 1,b most,b (dV (cy (some m)) (dc.mk ch val found prf err) a).err] 126 28 false)/\(d [b m] 2 1 false).same (d [b m] 2 1 false)/\(f bF prf 108 true).same (f bF (dV (cy (some m)) (dc.mk ch val found prf err) a).prf 108 true)/\(f (c) fx 3 true).same (f (c) fx 3 true)/\True)) (by kernel_rfl) ?_;refine⟨λh=>?_,λh=>?_⟩
  ·simp only[e1 _ (of_decide_eq_true h)];refine⟨λhf=>?_,λhf=>?_⟩
   ·subst hf;exact⟨rfl,rfl,rfl,rfl,rfl,trivial⟩
   ·subst hf;exact⟨trivial,rfl,rfl,rfl,rfl,rfl,trivial⟩
  ·simp only[e2 _ (of_decide_eq_false h)];exact⟨rfl,rfl,rfl,rfl,rfl,trivial⟩
theorem KL {a b:bC} (h:∀k,k<6->a.at k<=b.at k):a.le b=true:=by
 have i:=h 0 (by omega);have c:=h 1 (by omega);have d:=h 2 (by omega);have f:=h 3 (by omega);have g:=h 4 (by omega);have e:=h 5 (by omega);simp_all[bC.at,bj,bC.le_iff]
theorem aeV {p:bn} {L:List Off} (d:(L.map Off.bT).Nodup) (c:gl p L=true):jr p L:=by
 refine⟨d,KL λk a=>?_,KL λk a=>?_⟩
 ·have h:=pn.1 c (p.classes.length+k) (by grind[df]);rw[show(((p.classes.length+k:Nat)):Int)=p.classes.length+k by omega,QP a] at h;rw[ou,γ3];have:cY p L (p.classes.length+k)=(L.map ((λb=>bC.at b k)∘Off.want)).sum:=by
   unfold cY;congr 1;simp_all[QN]
  omega
 ·have h:=pn.1 c (p.classes.length+6+k) (by grind[df]);rw[show(((p.classes.length+6+k:Nat)):Int)=p.classes.length+6+k by omega,QQ a] at h;rw[ou,γ3];have:cY p L (p.classes.length+6+k)=(L.map ((λb=>bC.at b k)∘fh p)).sum:=by
   unfold cY;congr 1;simp_all[QO]
  omega
theorem UE {l:List Off}:∀{t:List Int} {a:Int} {r:List Off}, -1<=a->eU l a t=some r->t.Pairwise (·<·)/\∀j∈t,a<j/\j<l.length
 |[],_,_,_,_=>by simp;|i::t,a,r,g,h=>by
  simp only[eU] at h;split at h;·cases h
  ·rename_i k;obtain⟨f,d,rfl⟩:=ε.1 h;obtain⟨e,c⟩:=UE (by omega) d;refine⟨List.pairwise_cons.2 ⟨λj b=>(c j b).1,e⟩,λj b=>?_⟩;grind
def rU (p:bn) (t:List Int):Prop:=nB 0 p.offers.length t/\jr p (cZ p t)
theorem yS {p:bn} (c:bz p=0) {t:List Int}:di p t=0↔rU p t:=by
 refine⟨λh=>?_,λh=>QU c h.1 h.2⟩;have e:=aaW h;obtain⟨i,a,l,m,o⟩:=Ii h;obtain⟨r,d⟩:=Option.isSome_iff_exists.1 a;obtain⟨f,g⟩:=UE (by omega) d;have n:eI p t=cZ p t:=by grind[eI,DL]
 have b:gl p (cZ p t)=true:=by
  simp_all[di]
 exact⟨⟨f,λj k=>by simp_all⟩,aeV e b⟩
theorem aeW {p:bn} (a:Good p):rU p []:=⟨⟨by simp,by simp⟩,of_decide_eq_true (QG a)⟩
theorem KN {p:bn} (a:bz p=0) {t:List Int} (h:rU p t):ef p t=cM (cZ p t):=by
 grind[yS,aaV,Ap,DK]
theorem aeX {p:bn} (c:bz p=0) {L:List Off} (b:jr p L) (d:∀x∈L,x∈p.offers):cM L<=rI p (allM p):=by
 have a:=dQ c;have f:=Ao a.1;rw[QY c (m:=allM p) (by grind[allM]) (by grind[allM])];refine DG a ⟨b.1,λx e=>?_,b.2.1,b.2.2⟩;have:=a.2.2.2.2 x (d x e);grind[aa8]
theorem aeY {p:bn} (c:bz p=0):∃L,jr p L/\(∀x∈L,x∈p.offers)/\cM L=rI p (allM p):=by
 have a:=dQ c;have f:=Ao a.1;rw[QY c (m:=allM p) (by grind[allM]) (by grind[allM])];have h:=bC.jb.1 a.2.2.1;have g:=bC.jb.1 a.2.2.2.1;obtain⟨L,b,e⟩:=DI a (QK (allM p)) (l:=p.supply) (o:=p.opn) (by grind[bC.le_iff,bC.zero]) (by grind[bC.le_iff,bC.zero]);exact⟨L,⟨b.nd,b.w,b.o⟩,λx d=>(b.mem x d).1,e⟩
def iE (p:bn):List Int:=δ p.offers.length 0
theorem yT {n:Nat}:nF (δ n 0)=n:=by
 have e:bE (δ n 0) 0=cG n:=by
  simp_all[bE,jv,cV]
 grind[fU]
theorem oK {p:bn} (a:bz p=0):eJ p (iE p) where
 c:=a;l:=γC;r:=by
  unfold jP;rw[φ];intro x b;rw[List.eq_of_mem_replicate b];decide
def kS (p:bn) (c:List Int):dc:=dV (cy none) (dV (cy none) ⟨c,ef p c,false,[zN],0⟩ (gB p c)) (gB p (j3 p))
noncomputable def iM (p:bn) (c:List Int) (a:Int):dc:=dF p (cy none) a p.offers.length (kS p c) 0 (iE p)
noncomputable def kx (p:bn) (c:List Int) (a:Int):Int:=if di p c≠0 then di p c else if a<1\/65536<a then 4 else(iM p c a).err
def kT (p:bn) (m:Int):dc:=dV (cy (some m)) ⟨[],m - 1,false,[zN],0⟩ (gB p (j3 p))
noncomputable def fZ (p:bn) (m a:Int):dc:=dF p (cy (some m)) a p.offers.length (kT p m) 0 (iE p)
noncomputable def jj (p:bn) (m a:Int):Int:=if bz p≠0 then bz p else if a<1\/65536<a then 4 else if m<=0 then 0 else if(fZ p m a).found=true then 0 else(fZ p m a).err
noncomputable def j8 (p:bn) (m a:Int):Bool:=decide (jj p m a=0)&&(decide (m<=0)||(fZ p m a).found)
noncomputable def oL (p:bn) (m a:Int):Alloc:=if j8 p m a=true/\0<m then⟨(fZ p m a).ch,(fZ p m a).val⟩ else⟨[],0⟩
theorem UF {p:bn} (a:bz p=0) {t:List Int} (h:di p t=0):ef p t<=(cB p).value:=by
 have b:=(yS a).1 h;obtain⟨_,d⟩:=uG h;have c:=Ip (dQ a) b.1 (decide_eq_true b.2);rw[yP a d];exact c
theorem UG {p:bn} (a:bz p=0):∃t,di p t=0/\ef p t=(cB p).value:=by
 obtain⟨t,c,f,e⟩:=Iq (dQ a);have b:di p t=0:=(yS a).2 ⟨c,of_decide_eq_true f⟩;obtain⟨_,d⟩:=uG b;refine⟨t,b,?_⟩;rw[yP a d,e];rfl
theorem aeZ {p:bn} {l:List Int} (h:eL p.offers.length l):EU (iE p) l:=by
 have b:∀i:Int,0<=i/\i<p.offers.length->bj (iE p) i.toNat 0=0:=λi a=>by
  grind[iE,cV]
 refine⟨λi a=>by rw[b i (h.2 i a)];omega,λi a=>?_⟩;grind[kQ,iE]
theorem UH {p:bn} {v:Int} {t:List dj} {a lo f:Nat} (b:bz p=0) (h:ji p v t a (iE p) lo f):(cB p).value<=v:=by
 obtain⟨l,d,e⟩:=UG b;obtain⟨_,c⟩:=uG d;rw[<-e,yP b c];exact h.sound (oK b) c ((KG b c).1 d) (aeZ c)
theorem yU {en:Int->Bool} {G:List Int->Int->Bool->Prop} {p:bn} (h:∀c w b d w',G c w b->di p d=0->ef p d=w'->w<w'->G d w' (b||en w')) {s:dc} {a:Alloc} (e:G s.ch s.val s.found) (f:di p a.chosen=0) (g:ef p a.chosen=a.value):G (dV en s a).ch (dV en s a).val (dV en s a).found:=by
 grind[dV]
theorem yV {p:bn} (a:bz p=0):di p (gB p (j3 p)).chosen=0/\ef p (gB p (j3 p)).chosen=(gB p (j3 p)).value:=by
 simp_all[JK,Tf]
theorem KO {p:bn} (d:bz p=0) {c:List Int} (h:di p c=0) {most:Int} {G:List Int->Int->Bool->Prop} (a:∀c w b e w',G c w b->di p e=0->ef p e=w'->w<w'->G e w' (b||cy none w')) (i:G c (ef p c) false):G (iM p c most).ch (iM p c most).val (iM p c most).found:=by
 have f:=JK d h;have g:=yV d;exact UC a (oK d) (yU a (yU a i f.2.1 f.2.2.1) g.1 g.2)
theorem KP {p:bn} {c:List Int}:(kS p c).prf=[zN]/\(kS p c).err=0/\ef p c<=(kS p c).val:=by
 grind[kS,dV]
theorem KQ {p:bn} (d:bz p=0) {c:List Int} (i:di p c=0) {most:Int} (C:1<=most):
  ((iM p c most).err=0\/(iM p c most).err=12)/\((iM p c most).err=0->(di p (iM p c most).ch=0/\ef p (iM p c most).ch=(iM p c most).val)/\(iM p c most).val=(cB p).value/\(iM p c most).prf.length<=most/\ji p (cB p).value (iM p c most).prf 0 (iE p) 1 (iM p c most).prf.length/\(ef p c=(cB p).value->(iM p c most).ch=c))/\
   (((1+2^(p.offers.length+1):Nat):Int)<=most+2->(iM p c most).err=0):=by
 obtain⟨y,l,A⟩:=@KP p c;have t:(kS p c).prf.length=1:=by rw[y];rfl
 have q:=@rT p (cy none) most p.offers.length (kS p c) 0 (iE p) (oK d);have j:(iM p c most).found=false:=by
  refine(KO d i (most:=most) (G:=λ_ _ b=>b=false) (λc w b g o h _ _ _=>?_) rfl);rw[h];rfl
 refine⟨?_,λx=>?_,λB=>?_⟩
 ·have:=q.2.2.2.2.2;rw[l] at this;exact this
 ·have v:=KO d i (most:=most) (G:=λc w _=>di p c=0/\ef p c=w) (λc w b g o _ k m _=>⟨k,m⟩) ⟨i,rfl⟩;have u:=KO d i (most:=most) (G:=λg w _=>ef p c<=w/\(w=ef p c->g=c)) (λD w b g o h _ _ r=>⟨by omega,λe=>by omega⟩) ⟨εf _,λ_=>rfl⟩;have z:=UB (p:=p) (en:=cy none) (most:=most) (n:=p.offers.length) (s:=kS p c) (a:=0) (oK d) (by show nF (δ _ 0)<=_;grind[yT]) (by rw[t];omega) x j;have k:=UH d z.1;have m:=UF d v.1;grind[iM]
 ·refine(UD (p:=p) (en:=cy none) (most:=most) (n:=p.offers.length) (s:=kS p c) (a:=0) (f:=iE p) (oK d) ?_ l ?_).1;all_goals simp_all[yT,iE]
theorem ae0 {p:bn} (i:bz p=0) {m most:Int}:((fZ p m most).found=false->(fZ p m most).ch=[]/\(fZ p m most).val=m - 1)/\((fZ p m most).found=true->di p (fZ p m most).ch=0/\ef p (fZ p m most).ch=(fZ p m most).val/\m<=(fZ p m most).val):=by
 have j:=yV i;have g:∀(c:List Int) (w:Int) (b:Bool) (e:List Int) (d:Int),((m - 1<=w)/\(b=false->c=[]/\w=m - 1)/\(b=true->di p c=0/\ef p c=w/\m<=w))->di p e=0->ef p e=d->w<d->((m - 1<=d)/\((b||cy (some m) d)=false->e=[]/\d=m - 1)/\((b||cy (some m) d)=true->di p e=0/\ef p e=d/\m<=d)):=by
  intro c w b e d h l q k;have o:cy (some m) d=true:=by
   show decide (m<=d)=true;grind
  grind
 have:=UC (p:=p) (en:=cy (some m)) (most:=most) g (n:=p.offers.length) (s:=kT p m) (a:=0) (f:=iE p) (oK i) (yU g (s:=⟨[],m - 1,false,[zN],0⟩) ⟨εf _,λ_=>⟨rfl,rfl⟩,(λh=>by cases h)⟩ j.1 j.2);exact this.2
theorem KR {p:bn} {m:Int}:(kT p m).prf=[zN]/\(kT p m).err=0:=by
 grind[kT,ES]
theorem UI {p:bn} (b:bz p=0) {m most:Int}:
  ((fZ p m most).err=0\/(fZ p m most).err=12)/\((fZ p m most).found=true->m<=(cB p).value)/\((fZ p m most).found=false->(fZ p m most).err=0->(cB p).value<m)/\
   (((1+2^(p.offers.length+1):Nat):Int)<=most+2->(fZ p m most).err=0):=by
 obtain⟨i,d⟩:=@KR p m;have h:(kT p m).prf.length=1:=by rw[i];rfl
 have g:=@rT p (cy (some m)) most p.offers.length (kT p m) 0 (iE p) (oK b);obtain⟨r,l⟩:=@ae0 p b m most;refine⟨?_,λc=>?_,λc k=>?_,λo=>?_⟩
 ·have:=g.2.2.2.2.2;rw[d] at this;exact this
 ·obtain⟨e,q,t⟩:=l c;have:=UF b e;omega
 ·have j:=UB (p:=p) (en:=cy (some m)) (most:=most) (n:=p.offers.length) (s:=kT p m) (a:=0) (oK b) (by show nF (δ _ 0)<=_;grind[yT]) (by rw[h];omega) k c;have e:(cB p).value<=(fZ p m most).val:=UH b j.1;grind
 ·refine(UD (p:=p) (en:=cy (some m)) (most:=most) (n:=p.offers.length) (s:=kT p m) (a:=0) (f:=iE p) (oK b) ?_ d ?_).1;all_goals simp_all[yT,iE]
theorem ae1 {p:bn} {c:List Int} {m:Int} (b:di p c=0) (a:1<=m/\m<=65536):kx p c m=(iM p c m).err:=by
 simp_all[kx,if_neg]
theorem ae2 {p:bn} (d:bz p=0) {c:List Int} {m:Int} (b:di p c=0) (e:m<=65536) (f:((1+2^(p.offers.length+1):Nat):Int)<=m+2):kx p c m=0:=by
 have a:=ζY (n:=p.offers.length+1);grind[ae1,KQ]
theorem KT {p:bn} (a:bz p=0) {m k:Int} (d:k<=65536) (b:((1+2^(p.offers.length+1):Nat):Int)<=k+2):jj p m k=0:=by
 have c:2<=2^(p.offers.length+1):=by grind
 unfold jj;rw[if_neg (by simp[a]),if_neg (by omega)];grind[UI]
theorem UJ {p:bn} (a:bz p=0) {m k:Int} (b:jj p m k=0):j8 p m k=true↔m<=(cB p).value:=by
 have j:0<=(cB p).value:=by
  obtain⟨t,d,e⟩:=UG a;obtain⟨_,c⟩:=uG d;rw[<-e,yP a c];exact(sT (dQ a) (l:=t.map (oI p)) λx g=>by
   obtain⟨i,f,rfl⟩:=Ψ.1 g;have:=c.2 i f;exact dq (by omega)).1
 have h:=@UI p a m k;unfold j8;rw[b,decide_eq_true rfl,Bool.true_and,Bool.or_eq_true,decide_eq_true_eq];unfold jj at b;grind
theorem tq {p q:Rat}:iU p q<0↔p<q:=by
 unfold iU;grind
end Go.Vi

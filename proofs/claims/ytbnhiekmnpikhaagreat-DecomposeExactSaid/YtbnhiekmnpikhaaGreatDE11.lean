import Derived.Test.YtbnhiekmnpikhaaGreatDE10
set_option maxRecDepth 100000
set_option maxHeartbeats 4000000
set_option linter.all false
open Bool renaming and_eq_true->θ
open Go.Vi.AV renaming sl->ζ5,sc->δg,os->θi
open Go.Vi.AV.sc renaming injEq->δe
open Go.Vi.SV renaming ow->γ1,si->γj,row->γa,il->γC,ptr->γV,sb->γB
open Int renaming toNat_natCast->γk,le_refl->εM
open IntCast renaming intCast->κ
open List renaming replicate->δ,length->γd,take->Δ,map->γc,length_replicate->γE,length_map->Ξ,length_take->γz,map_append->γb,take_length->φ,length_set->Ω,map_map->γP,map_congr_left->γI,flatMap->ζ8,elem->ζQ,getElem_of_mem->γJ,mem_map->Γ,mem_append_left->εp,mem_append->γi,all_eq_true->ψ,pairwise_cons->γr,mem_cons->γq,mem_cons_of_mem->γp,map_cons->ξ,sum_cons->εl,perm_ext_iff_of_nodup->γ7,nodup_append->γx,filter_sublist->γo,sum_append->θe,idxOf_lt_length_of_mem->γ6,getElem?_set_ne->δs,range_eq_range'->δH,take_append_drop->γT,map_nil->γw
open List.cons renaming injEq->Θ
open Nat renaming one_le_two_pow->ζ2
open Option renaming map_eq_some_iff->ε
open Option.some renaming injEq->γ
namespace Go.Vi
open Go.Proofs.YtbnhiekmnpikhaaGreat.Ir
open Go.Proofs
def wT (a:qN):me:=⟨a.1.length,a.2.length,a.2.length,a.2.length,a.2.length,a.1.length,a.2.map (·.1),a.2.map (·.2),δ a.1.length (nf 0),nf 0,(cA a.2.length).map λi=>a.1.length+i,cA a.1.length⟩
def DA:cW where
 f:=157;α:=qN;put a:=[uL.put a];st _:=[];dec v o:=match v,o with
  |[v],[]=>uL.dec v
  |_,_=>none;ok v o a h:=by
  split at h;·exact⟨by simp only[gL,uL.ok _ _ h],rfl⟩
  ·cases h
 inj a b h _:=uL.inj a b (by simpa[gL] using h);dom a:=a.1.length<=1000/\a.2.length<=1000/\∀r∈a.2,r.1.length<=1000;res a:=.ptr 0 0 10;out a:=(wT a).fO
def Kv (a:qN) (k0 k1 k2 k3 k4:Nat) (co:List (List NH)) (bo ct:List NH) (ba fr:List Int):TP:=
 [.cells [.row sF a.1,.row sR a.2] 217 2 false,.cells [.si .i64 a.1.length,.si .i64 a.2.length,.ow 2 k0 1,.ow 3 k1 3,.ow 4 k2 3,.sb (nf 0).1,.row (.i .u32) (nf 0).2.1,.row (.i .u32) (nf 0).2.2,.ow 5 k3 1,.ow 6 k4 1] 261 10 false,
  .row (.Ap sF) co 106 false,.row sF bo 177 false,.row sF ct 177 true,.row (.i .i64) ba 3 false,.row (.i .i64) fr 3 false]
def Uf (a:qN):Nat->bK
 |3=> .inv Int (λj=>⟨[(1,.ptr 0 0 2),(3,.ptr 1 0 10),(18,.si .i64 a.1.length),(19,.si .i64 j)],Kv a 0 0 j.toNat 0 j.toNat [] [] (δ j.toNat (nf 0)) [] (cA j.toNat)⟩)
   (λs=>iS s 19) (λj=>0<=j/\j<=a.1.length) (λj=>(a.1.length - j).toNat) λ_ _=> .bz
 |9=> .inv Int (λi=>⟨[(3,.ptr 1 0 10),(44,.row sR a.2),(45,.si .i64 a.2.length),(46,.si .i64 i)],Kv a i.toNat i.toNat a.1.length i.toNat a.1.length ((a.2.take i.toNat).map (·.1)) ((a.2.take i.toNat).map (·.2)) (δ a.1.length (nf 0)) ((cA i.toNat).map λi=>a.1.length+i) (cA a.1.length)⟩)
   (λs=>iS s 46) (λi=>0<=i/\i<=a.2.length) (λi=>(a.2.length - i).toNat) λ_ _=> .bz
 |_=> .bz
theorem Ip:dD Tryz.prog DA:=by
 refine Fv (L:=[mn]) (W:=[]) DA (λ_=>none) Uf (by simp) (by simpa using nH) ?_;rintro⟨g,rs⟩ ⟨hg,hr,hrr⟩;simp only at hg hr hrr;refine NI (let a:=iZ.row;let c:=γ1;let d:=iZ.cells;let e:=(0:Int);let f:=γj .i64;let h:=(-9223372036854775808:Int);let j:=γa;let k:=(9223372036854775807:Int);let l:=γC .i64 0;let o:=VL .i64;let p:=γV;let V:=p 0 0 2;let w:=p 1 0 10;let a6:=f (↑g.length:Int);let r:=(↑g.length:Int);let s:=f r;let N:=j sR rs;let y:=d [j sF g,N] 217 2 false;let a7:=f (↑rs.length:Int);let G:=c 2 0 1;let H:=c 3 0 3;let a8:=c 4 0 3;let I:=nf (κ e);let z:=ew.i .u32;let O:=c 5 0 1;let a9:=[O,c 6 0 1];let A:=(↑rs.length:Int);let t:=f A;let J:=nf (0:Rat);let B:=γB J.1;let C:=j z J.2.1;let D:=j z J.2.2;let P:=ew.b.pair (z.Ap.pair z.Ap);let Q:=a sF.Ap [] 106 false;let R:=a sF [] 177 false;let u:=ew.i .i64;let F:=a u [] 3 false;let a1:=c 4 g.length 3;let a2:=[c 6 g.length 1];let a3:=δ g.length J;let a4:=a sF a3 177 true;let W:=a u (cA g.length) 3 false;let aa:=p 0 0 10;let q:=wT (g,rs);(h<=e/\e<=k)/\(((V.as V/\w.as w/\a6.as s/\(l).as (f 0)/\True)/\y.as y/\(d (a6::a7::G::H::a8::γB I.1::j z I.2.1::j z I.2.2::a9) 261 10 false).as (d (s::t::G::H::a8::B::C::D::a9) 261 10 false)/\(a P.Ap [] 106 false).as Q/\(a P [] 177 false).as R/\(a P [] 177 true).as (a sF [] 177 true)/\F.as F/\F.as (a u (cA 0) 3 false)/\True)/\e<=e/\e<=r)/\∀(x:Int),let S:=cA x.toNat;let ab:=S.length+1;let X:=δ x.toNat J;let ac:=X.length+1;let K:=x+(1:Int);let ad:=f K;let ae:=X++[(I.1,I.2.1,I.2.2)];let Y:=K.toNat;e<=x/\x<=r->(decide (x<r)=true->1=1/\x.toNat=S.length/\ab*8<=140737488355328/\ab<=1000000000000/\(h<=e/\e<=k)/\1=1/\x.toNat=X.length/\ac*56<=140737488355328/\ac<=1000000000000/\o K/\((V.as V/\w.as w/\s.as s/\ad.as ad/\True)/\y.as y/\(d [s,t,G,H,c 4 ae.length 3,B,C,D,O,c 6 (S++[x]).length 1] 261 10 false).as (d [s,t,G,H,c 4 Y 3,B,C,D,O,c 6 Y 1] 261 10 false)/\Q.as Q/\R.as R/\(a P ae 177 true).as (a sF (δ Y J) 177 true)/\F.as F/\(a u (S++[x]) 3 false).as (a u (cA Y) 3 false)/\True)/\(e<=K/\K<=r)/\(r - K).toNat<(r - x).toNat)/\(decide (x<r)=false->(((w.as w/\N.as N/\a7.as t/\(l).as (f 0)/\True)/\y.as y/\(d [s,t,G,H,c 4 x.toNat 3,B,C,D,O,c 6 x.toNat 1] 261 10 false).as (d (s::t::G::H::a1::B::C::D::O::a2) 261 10 false)/\Q.as Q/\R.as R/\(a sF X 177 true).as a4/\F.as F/\(a u S 3 false).as W/\True)/\e<=e/\e<=A)/\∀(x:Int),let T:=bN rs x.toNat sR.bu;let E:=γd T.1;let af:=Δ x.toNat rs;let Z:=γc (λx ↦x.1) af;let a5:=Z.length+1;let a0:=γc (λx ↦x.2) af;let ag:=a0.length+1;let U:=γc (λi ↦(↑(g,rs).1.length:Int)+i) (cA x.toNat);let ah:=U.length+1;let L:=x+(1:Int);let ai:=f L;let aj:=a0++[(T.2.1,T.2.2.1,T.2.2.2)];let M:=L.toNat;e<=x/\x<=A->(decide (x<A)=true->e<=x/\x<(↑rs.length:Int)/\x.toNat<rs.length/\0=0/\(0+E)*56<=140737488355328/\0+E<=1000000000000/\x.toNat=Z.length/\a5*24<=140737488355328/\a5<=1000000000000/\E=E/\E=E/\E=E/\1=1/\x.toNat=a0.length/\ag*56<=140737488355328/\ag<=1000000000000/\o (r+x)/\1=1/\x.toNat=U.length/\ah*8<=140737488355328/\ah<=1000000000000/\o L/\((w.as w/\N.as N/\t.as t/\ai.as ai/\True)/\y.as y/\(d (s::t::c 2 a5 1::c 3 aj.length 3::a1::B::C::D::c 5 (U++[r+x]).length 1::a2) 261 10 false).as (d (s::t::c 2 M 1::c 3 M 3::a1::B::C::D::c 5 M 1::a2) 261 10 false)/\(a sF.Ap (Z++[T.1]) 106 false).as (a sF.Ap (γc (λx ↦x.1) (Δ M rs)) 106 false)/\(a P aj 177 false).as (a sF (γc (λx ↦x.2) (Δ M rs)) 177 false)/\a4.as a4/\(a u (U++[r+x]) 3 false).as (a u (γc (λi ↦(↑(g,rs).1.length:Int)+i) (cA M)) 3 false)/\W.as W/\True)/\(e<=L/\L<=A)/\(A - L).toNat<(A - x).toNat)/\(decide (x<A)=false->g.length=a3.length/\aa.as aa/\(d [s,t,c 1 x.toNat 1,c 2 x.toNat 3,j sF a3,B,C,D,c 3 x.toNat 1,c 4 g.length 1] 261 10 false).as (d [f q.n,f q.m,c 1 q.k0 1,c 2 q.k1 3,j sF q.cost,γB q.v.1,j z q.v.2.1,j z q.v.2.2,c 3 q.k3 1,c 4 q.k4 1] 261 10 false)/\(a sF.Ap Z 106 false).as (a sF.Ap q.VK 106 false)/\(a sF a0 177 false).as (a sF q.bound 177 false)/\(a u U 3 false).as (a u q.basic 3 false)/\W.as (a u q.free 3 false)/\True))) (by kernel_rfl) ?_;simp only[vcs];have h0:(κ 0:Rat)=0:=rfl;simp only[h0,iQ];have hcell:∀{a b a' b' c d e a2 b2 c2 d2 e2:Nat},a=a2->b=b2->c=c2->d=d2->e=e2->(iZ.cells [.si .i64 a',.si .i64 b',.ow 2 a 1,.ow 3 b 3,.ow 4 c 3,.sb (nf 0).1,.row (.i .u32) (nf 0).2.1,.row (.i .u32) (nf 0).2.2,.ow 5 d 1,.ow 6 e 1] 261 10 false).as
   (iZ.cells [.si .i64 a',.si .i64 b',.ow 2 a2 1,.ow 3 b2 3,.ow 4 c2 3,.sb (nf 0).1,.row (.i .u32) (nf 0).2.1,.row (.i .u32) (nf 0).2.2,.ow 5 d2 1,.ow 6 e2 1] 261 10 false):=by
  rintro _ _ _ _ _ _ _ _ _ _ _ _ rfl rfl rfl rfl rfl;rfl
 have hrF:∀{x y:List NH},x=y->(iZ.row sF x 177 false).as (iZ.row sF y 177 false):=by rintro _ _ rfl;rfl
 have hrT:∀{x y:List NH},x=y->(iZ.row sF x 177 true).as (iZ.row sF y 177 true):=by rintro _ _ rfl;rfl
 have hrM:∀{x y:List (List NH)},x=y->(iZ.row (.Ap sF) x 106 false).as (iZ.row (.Ap sF) y 106 false):=by rintro _ _ rfl;rfl
 have hrI:∀{x y:List Int},x=y->(iZ.row (.i .i64) x 3 false).as (iZ.row (.i .i64) y 3 false):=by rintro _ _ rfl;rfl
 have hcast:∀k:Nat,((k:Nat):Int).toNat=k:=λk=>γk k;refine⟨by omega,⟨⟨rfl,hrI rfl⟩,by omega,by omega⟩,?_⟩;rintro j ⟨j0,j1⟩;have l1:=@gR j.toNat;have l2:(δ j.toNat (nf 0)).length=j.toNat:=γE;refine⟨λhj=>?_,λhj=>?_⟩
 ·have e1:cA j.toNat++[j]=cA (j+1).toNat:=by
   rw[show(j+1).toNat=j.toNat+1 by omega,ql,show((j.toNat:Nat):Int)=j by omega]
  have e2:δ j.toNat (nf 0)++[nf 0]=δ (j+1).toNat (nf 0):=by
   rw[show(j+1).toNat=j.toNat+1 by omega,List.replicate_succ']
  rw[e1,e2,gR,γE];rw[gR,γE];refine⟨rfl,?_,?_,?_,rfl,?_,?_,?_,⟨hcell rfl rfl rfl rfl rfl,hrT rfl,hrI rfl⟩,?_,?_⟩<;>omega
 ·rw[show j.toNat=g.length by omega];refine⟨⟨⟨hcell rfl rfl rfl rfl rfl,hrT rfl,hrI rfl⟩,by omega,by omega⟩,?_⟩;rintro i ⟨i0,i1⟩;have l3:(γc (λx:List NH×NH=>x.1) (Δ i.toNat rs)).length=i.toNat:=by rw[Ξ,γz];omega
  have l4:(γc (λx:List NH×NH=>x.2) (Δ i.toNat rs)).length=i.toNat:=by rw[Ξ,γz];omega
  have l5:(γc (λi:Int=>(g.length:Int)+i) (cA i.toNat)).length=i.toNat:=by rw[Ξ,gR]
  refine⟨λhi=>?_,λhi=>?_⟩
  ·have hm:=hrr _ (cB (d:=sR.bu) (show i.toNat<rs.length by omega));have et:=jj (d:=sR.bu) i0 hi;have e1:γc (λx:List NH×NH=>x.1) (Δ i.toNat rs)++[(bN rs i.toNat sR.bu).1]=γc (λx:List NH×NH=>x.1) (Δ (i+1).toNat rs):=by rw[et,γb];rfl
   have e2:γc (λx:List NH×NH=>x.2) (Δ i.toNat rs)++[(bN rs i.toNat sR.bu).2]=γc (λx:List NH×NH=>x.2) (Δ (i+1).toNat rs):=by rw[et,γb];rfl
   have e3:γc (λi:Int=>(g.length:Int)+i) (cA i.toNat)++[(g.length:Int)+i]=γc (λi:Int=>(g.length:Int)+i) (cA (i+1).toNat):=by
    rw[show(i+1).toNat=i.toNat+1 by omega,ql,γb,show((i.toNat:Nat):Int)=i by omega];rfl
   have l6:(γc (λx:List NH×NH=>x.2) (Δ (i+1).toNat rs)).length=(i+1).toNat:=by rw[Ξ,γz];omega
   have l7:(γc (λi:Int=>(g.length:Int)+i) (cA (i+1).toNat)).length=(i+1).toNat:=by rw[Ξ,gR]
   refine⟨i0,hi,by omega,by omega,by omega,l3.symm,by omega,by omega,l4.symm,by omega,by omega,by omega,l5.symm,by omega,by omega,by omega,⟨hcell ?_ ?_ rfl ?_ rfl,hrM e1,hrF e2,hrI e3⟩,by omega,by omega⟩;·omega
   ·exact(congrArg γd e2).trans l6
   ·exact(congrArg γd e3).trans l7
  ·have e:i.toNat=rs.length:=by omega
   rw[e,φ];exact⟨γE.symm,rfl,rfl,rfl,rfl,rfl⟩
def r400:cW:=sa 158 Unit .nil (λ_ m t _=>ju m.toNat t) (λ_ _ _ _=> .Gz [.sc (.slice none 0 0),.sb true]) (λ_ _ t _=>t)
def Ue (n m:Int) (t:Tb):Nat->bK
 |3=> .inv Int (λi=>⟨[(0,.ptr 0 0 10),(4,.si .i64 (-1)),(12,.ow 2 t.bound.length 3),(13,.si .i64 t.bound.length),(14,.si .i64 i)],(FV n m t).fO⟩)
   (λs=>iS s 14) (λi=>0<=i/\i<=m) (λi=>(m - i).toNat) λ_ _=> .bz
 |_=> .bz
theorem Io:dD Tryz.prog r400:=by
 refine kq (L:=[p9]) (W:=[]) r400 (λa=>Ue a.1.n a.1.m a.1.t) (by simp) (by simpa using sA) ?_;rintro⟨x,u⟩ ⟨n,m,t,hx,hok,hd⟩;simp only at hx hd;subst hx;refine NI (let a:=γj .i64;let b:=iZ.row;let c:=(0:Int);let d:=γ1;let e:=γa;let f:=(-1:Int);let w:=γV 0 0 10;let A:=a f;let E:=d 2 (FV n m t).k1 3;let k:=(FV n m t).t.bound.length;let B:=d 2 k 3;let C:=a (↑k:Int);let j:=(FV n m t).m;let y:=ew.i .u32;let g:=FV (FV n m t).n j (FV n m t).t;let l:=iZ.cells [a g.n,a g.m,d 1 g.k0 1,d 2 g.k1 3,e sF g.cost,γB g.v.1,e y g.v.2.1,e y g.v.2.2,d 3 g.k3 1,d 4 g.k4 1] 261 10 false;let o:=b sF.Ap g.VK 106 false;let p:=b sF g.bound 177 false;let z:=ew.i .i64;let q:=b z g.basic 3 false;let r:=b z g.free 3 false;let h:=g.bound.length;let F:=SV.sc (Value.slice none 0 0);(((w.as w/\(γC .i64 f).as A/\E.as B/\(a (↑(FV n m t).k1:Int)).as C/\(γC .i64 0).as (a 0)/\True)/\(iZ.cells [a (FV n m t).n,a j,d 1 (FV n m t).k0 1,E,e sF (FV n m t).cost,γB (FV n m t).v.1,e y (FV n m t).v.2.1,e y (FV n m t).v.2.2,d 3 (FV n m t).k3 1,d 4 (FV n m t).k4 1] 261 10 false).as l/\(b sF.Ap (FV n m t).VK 106 false).as o/\(b sF (FV n m t).bound 177 false).as p/\(b z (FV n m t).basic 3 false).as q/\(b z (FV n m t).free 3 false).as r/\True)/\c<=c/\c<=j)/\∀(x:Int),let D:=bN g.bound x.toNat sF.bu;let G:=(D.1,D.2.1,D.2.2);let s:=x+(1:Int);let H:=a s;let I:=decide (x<(↑k:Int));let J:=λ(u:Bool) ↦decide (iR (TL G)<c)=u;let K:=λ(u:SV) ↦VL .i64 s/\((w.as w/\u.as A/\B.as B/\C.as C/\H.as H/\True)/\l.as l/\o.as o/\p.as p/\q.as q/\r.as r/\True)/\(c<=s/\s<=j)/\(j - s).toNat<(j - x).toNat;c<=x/\x<=j->(I=true->k=h/\c<=x/\x<(↑h:Int)/\k=h/\x.toNat<h/\bM G/\(J true->(true=true->K (a x))/\(true=false->g.k1=h/\c<=f/\f<(↑h:Int)/\g.k1=h/\0<h/\False))/\(J false->K A))/\(I=false->(true=true->(SV.Gz [F,SV.bl true]).as (SV.Gz [F,γB true])/\l.as l/\o.as o/\p.as p/\q.as q/\r.as r/\True)/\(true=false->False))) (by kernel_rfl) ?_;simp only[qi];try simp only[FV]
 simp only[vcs];obtain⟨⟨⟨n0,n1⟩,m0,m1⟩,hw,hz⟩:=id hok;have hbl:=hw.bound;have hfb:=@eA t.bound;refine⟨⟨by omega,by omega⟩,?_⟩;rintro i ⟨i0,i1⟩;refine⟨λhi=>?_,λhi=>⟨λ_=>trivial,λh=>by cases h⟩⟩;have hB:bN (fL t.bound) i.toNat sF.bu=nf (t.bd i.toNat):=iE (by omega);have hpos:=hd i.toNat (by omega);have hneg:¬iR (t.bd i.toNat)<0:=λh=>by have:=wV.1 h;grind
 simp only[hB,iQ,dL];exact⟨by omega,i0,by omega,by omega,by omega,df (hok.bd (by omega)) (by omega),λh=>absurd h hneg,λ_=>⟨by omega,by omega,by omega⟩⟩
def Dz:cW:=sa 159 (List NH) (.one (cQ sF)) (λn m t a=>∃g:List Rat,a=fL g/\g.length=n.toNat/\t.free=cA n.toNat/\∀v∈t.basic,n<=v) (λ_ _ _ _=> .Gz []) (λ_ _ t a=>{t with cost:=vL a,value:=0})
def Ud (n m:Int) (t:Tb) (a:List NH):Nat->bK
 |3=> .inv Int (λj=>⟨[(0,.ptr 0 0 10),(1,.row sF a),(4,.ow 5 n.toNat 3),(24,.ow 4 t.free.length 1),(25,.si .i64 t.free.length),(26,.si .i64 j)],(FV n m {t with value:=0}).fO++[.row sF (dW a j.toNat (false,([],[]))) 177 true]⟩)
   (λs=>iS s 26) (λi=>0<=i/\i<=n) (λi=>(n - i).toNat) λ_ _=> .bz
 |10=> .inv Int (λi=>⟨[(0,.ptr 0 0 10),(1,.row sF a),(4,.ow 5 n.toNat 3),(52,.ow 3 t.basic.length 1),(53,.si .i64 t.basic.length),(54,.si .i64 i)],(FV n m {t with value:=0}).fO++[.row sF a 177 true]⟩)
   (λs=>iS s 54) (λi=>0<=i/\i<=m) (λi=>(m - i).toNat) λ_ _=> .bz
 |_=> .bz
theorem Im:dD Tryz.prog Dz:=by
 refine kq (L:=[mn]) (W:=[]) Dz (λa=>Ud a.1.n a.1.m a.1.t a.2) (by simp) (by simpa using nH) ?_;rintro⟨x,a⟩ ⟨n,m,t,hx,hok,g,ha,hgl,hfr,hbs⟩;simp only at hx ha;subst hx ha;refine NI (let a:=(0:Int);let c:=γj .i64;let d:=iZ.row;let e:=γ1;let f:=(-9223372036854775808:Int);let h:=γa;let j:=(9223372036854775807:Int);let k:=iZ.cells;let l:=γC .i64 0;let w:=(↑(FV n m t).k4:Int);let y:=γV 0 0 10;let s:=h sF (fL g);let p:=(FV n m t).n;let F:=e 5 p.toNat 3;let a0:=e 4 (FV n m t).k4 1;let r:=(FV n m t).t;let N:=r.free.length;let U:=e 4 N 1;let V:=c (↑N:Int);let z:=(FV n m t).m;let H:=nf (κ a);let A:=ew.i .u32;let o:=FV p z (Tb.mk r.VK r.bound r.cost (0:Rat) r.basic r.free);let a1:=c o.n;let a2:=c o.m;let a3:=e 1 o.k0 1;let a4:=e 2 o.k1 3;let a5:=e 3 o.k3 1;let a6:=[γB o.v.1,h A o.v.2.1,h A o.v.2.2,a5,e 4 o.k4 1];let G:=k (a1::a2::a3::a4::h sF o.cost::a6) 261 10 false;let B:=d sF.Ap o.VK 106 false;let C:=d sF o.bound 177 false;let I:=ew.i .i64;let J:=o.basic;let D:=d I J 3 false;let E:=d I o.free 3 false;let R:=(false,[],[]);let S:=o.free.length;let z29:Nat:=(fL g).length;let O:=r.basic.length;let W:=e 3 O 1;let X:=c (↑O:Int);let Y:=d sF (fL g) 177 true;let q:=FV p z (Tb.mk r.VK r.bound (vL (fL g)) (0:Rat) r.basic r.free);(f<=a/\a<=j)/\a<=w/\w<=w/\w*(56:Int)<=(140737488355328:Int)/\w<=(1000000000000:Int)/\(((y.as y/\s.as s/\(e 5 w.toNat 3).as F/\a0.as U/\(c w).as V/\(l).as (c 0)/\True)/\(k [c p,c z,e 1 (FV n m t).k0 1,e 2 (FV n m t).k1 3,h sF (FV n m t).cost,γB H.1,h A H.2.1,h A H.2.2,e 3 (FV n m t).k3 1,a0] 261 10 false).as G/\(d sF.Ap (FV n m t).VK 106 false).as B/\(d sF (FV n m t).bound 177 false).as C/\(d I (FV n m t).basic 3 false).as D/\(d I (FV n m t).free 3 false).as E/\(d (ew.b.pair (A.Ap.pair A.Ap)) (δ w.toNat R) 177 true).as (d sF (dW (fL g) 0 R) 177 true)/\True)/\a<=a/\a<=p)/\∀(x:Int),let K:=x+(1:Int);let a7:=c K;let a8:=decide (x<(↑N:Int));let L:=dW (fL g) x.toNat R;let P:=bN o.free x.toNat a;let a9:=decide (P<o.n);let M:=L.set x.toNat (H.1,H.2.1,H.2.2);let Z:=bN (fL g) P.toNat sF.bu;let aa:=λ(u:List (Bool×List Int×List Int)) ↦VL .i64 K/\((y.as y/\s.as s/\F.as F/\U.as U/\V.as V/\a7.as a7/\True)/\G.as G/\B.as B/\C.as C/\D.as D/\E.as E/\(d sF u 177 true).as (d sF (dW (fL g) K.toNat R) 177 true)/\True)/\(a<=K/\K<=p)/\(p - K).toNat<(p - x).toNat;a<=x/\x<=p->(a8=true->N=S/\a<=x/\x<(↑S:Int)/\N=S/\x.toNat<S/\(f<=a/\a<=j)/\p.toNat=L.length/\a<=x/\x<(↑L.length:Int)/\p.toNat=L.length/\x.toNat<L.length/\(a9=true->a<=P/\P<(↑z29:Int)/\P.toNat<z29/\p.toNat=M.length/\a<=x/\x<(↑M.length:Int)/\p.toNat=M.length/\x.toNat<M.length/\aa (M.set x.toNat (Z.1,Z.2.1,Z.2.2)))/\(a9=false->aa M))/\(a8=false->(((y.as y/\s.as s/\F.as F/\a5.as W/\(c (↑o.k3:Int)).as X/\(l).as (c 0)/\True)/\G.as G/\B.as B/\C.as C/\D.as D/\E.as E/\(d sF L 177 true).as Y/\True)/\a<=a/\a<=z)/\∀(x:Int),let ab:=decide (x<(↑O:Int));let T:=bN J x.toNat a;let ac:=decide (o.n<=T);let Q:=x+(1:Int);let ad:=c Q;a<=x/\x<=z->(ab=true->O=J.length/\a<=x/\x<(↑J.length:Int)/\O=J.length/\x.toNat<J.length/\(ac=true->VL .i64 Q/\((y.as y/\s.as s/\F.as F/\W.as W/\X.as X/\ad.as ad/\True)/\G.as G/\B.as B/\C.as C/\D.as D/\E.as E/\Y.as Y/\True)/\(a<=Q/\Q<=z)/\(z - Q).toNat<(z - x).toNat)/\(ac=false->a<=T/\T<(↑z29:Int)/\T.toNat<z29/\False))/\(ab=false->p.toNat=z29/\(SV.Gz []).as (SV.Gz [])/\(k (a1::a2::a3::a4::s::a6) 261 10 false).as (k [c q.n,c q.m,e 1 q.k0 1,e 2 q.k1 3,h sF q.cost,γB q.v.1,h A q.v.2.1,h A q.v.2.2,e 3 q.k3 1,e 4 q.k4 1] 261 10 false)/\B.as (d sF.Ap q.VK 106 false)/\C.as (d sF q.bound 177 false)/\D.as (d I q.basic 3 false)/\E.as (d I q.free 3 false)/\True))) (by kernel_rfl) ?_;simp only[qi];try simp only[FV]
 simp only[vcs];obtain⟨⟨⟨n0,n1⟩,m0,m1⟩,hw,hz⟩:=id hok;have hbb:=hw.basic;have hfl:=hw.free;have hfg:=@eA g;have h0:(κ 0:Rat)=0:=rfl;have hrow:∀{x y:List NH},x=y->(iZ.row sF x 177 true).as (iZ.row sF y 177 true):=by rintro _ _ rfl;rfl
 simp only[h0,iQ];refine⟨by omega,by omega,by omega,by omega,by omega,⟨⟨?_,?_,?_⟩,by omega,by omega⟩,?_⟩;·rw[hfl];rfl
 ·rfl
 ·exact hrow (by rw[vT,hfg,hgl,hfl];rfl)
 rintro j ⟨j0,j1⟩;have hru:=@vU (fL g) j.toNat (false,([],[])) (by omega);refine⟨λhj=>?_,λhj=>?_⟩
 ·have hv:bN t.free j.toNat 0=j:=by rw[hfr,DG (by omega)];omega
  rw[hv];have hset:((dW (fL g) j.toNat (false,([],[]))).set j.toNat (nf 0)).set j.toNat (bN (fL g) j.toNat sF.bu)=dW (fL g) (j+1).toNat (false,([],[])):=by
   have e:=uN (d:=fL g) (j:=j.toNat) (z:=(false,([],[]))) (x:=bN (fL g) j.toNat sF.bu) (by omega) rfl;rw[List.set_set,show(j+1).toNat=j.toNat+1 by omega];exact e
  rw[Ω];exact⟨j0,by omega,by omega,by omega,by omega,j0,by omega,by omega,by omega,λ_=>⟨j0,by omega,by omega,by omega,j0,by omega,by omega,by omega,by omega,hrow hset,by omega,by omega⟩,λh=>(h (by omega)).elim⟩
 ·have e:j.toNat=(fL g).length:=by omega
  rw[e,vS];refine⟨⟨hrow rfl,by omega,by omega⟩,?_⟩;rintro i ⟨i0,i1⟩;refine⟨λhi=>⟨i0,hi,by omega,λ_=>⟨by omega,by omega,by omega⟩,λh=>absurd (hbs _ (cB (by omega))) h⟩,λhi=>⟨by omega,?_⟩⟩;rw[jQ];rfl
abbrev Lp:=List Rat×List (List Rat×Rat)
def gC (a:Lp):qN:=(fL a.1,a.2.map λr=>(fL r.1,nf r.2))
def j9 (a:Lp):Tb:=⟨a.2.map (·.1),a.2.map (·.2),a.1,0,(cA a.2.length).map λi=>a.1.length+i,cA a.1.length⟩
def pB (a:Lp):Tb:={j9 a with cost:=δ a.1.length 0}
theorem Uc {a:Lp}:wT (gC a)=FV a.1.length a.2.length (pB a):=by
 unfold wT gC FV pB j9;simp_all[gR,fM,fL]
structure wS (a:Lp):Prop where
 n:a.1.length<=160
 m:a.2.length<=40
 small:∃M G,Small a.1.length a.2.length M G (j9 a)
 vA:ju a.2.length (j9 a)
 ec:∃B,∀x z,(j9 a).holds a.1.length a.2.length x z->(∀v∈(j9 a).basic++(j9 a).free,0<=x v)->z<=B
noncomputable def lI (a:Lp):Tb:=cu a.1.length a.2.length (j9 a)
theorem Ub {a:Lp} (h:wS a):p_ a.1.length a.2.length (j9 a):=by
 obtain⟨M,G,b⟩:=h.small;exact⟨j9 a,M,G,b,dv.refl b.wf b.nd,h.vA⟩
theorem Ua {a:Lp} (h:wS a):dv a.1.length a.2.length (j9 a) (lI a)/\ju a.2.length (lI a)/\dK (lI a) a.1.length<0:=by
 obtain⟨M,G,c⟩:=h.small;obtain⟨B,d⟩:=h.ec;have b:=dv.refl c.wf c.nd;have:=DI b h.vA;exact⟨this.1,this.2.1,Mb b h.vA d⟩
noncomputable def Dy:NG:=⟨133,qN,.one uL,λx=>∃a:Lp,x=gC a/\wS a,λx=>
 let a:Lp:=(vL x.1,x.2.map λr=>(vL r.1,TL r.2));.Gz [.agg [.si .i64 1,.sb (nf (lI a).value).1,.row (.i .u32) (nf (lI a).value).2.1,.row (.i .u32) (nf (lI a).value).2.2,.row sF (fL (fk (lI a) a.1.length a.2.length)),.row sF (fL (iy (lI a) a.1.length a.2.length a.1.length)),.row sF []],.si .i64 0]⟩
theorem T_ {a:Lp}:((vL (gC a).1,(gC a).2.map λr=>(vL r.1,TL r.2)):Lp)=a:=by
 obtain⟨g,b⟩:=a;unfold gC;simp only[jQ,γP];congr 1;conv=>rhs;rw[<-List.map_id b]
 refine γI λr _=>?_;grind[jQ,dL]
theorem T9 {a:Lp}:((gC a).1,(gC a).2)=gC a:=rfl
theorem Ku {a:Lp}:vL (gC a).1=a.1:=jQ _
theorem Kt {a:Lp}:(gC a).2.map (λr=>(vL r.1,TL r.2))=a.2:=congrArg Prod.snd (@T_ a)
theorem T8 {a:Lp}:({VK:=(pB a).VK,bound:=(pB a).bound,cost:=a.1,value:=0,basic:=(pB a).basic,free:=(pB a).free}:Tb)=j9 a:=rfl
theorem T7 {a:Lp}:(gC a).1.length=a.1.length:=eA
theorem T6 {a:Lp}:(gC a).2.length=a.2.length:=Ξ _
theorem Ks {q:Rat} (h:Sz 1000000 q):gJ (nf q)/\okF (nf q)=true:=by
 obtain⟨g,⟨a,_,c⟩,⟨b,_,e⟩⟩:=kP q;obtain⟨d,f⟩:=m_ h;refine⟨⟨⟨a,b⟩,by omega,by omega⟩,?_⟩;grind[okF,dL]
theorem T5 {o:a_} {d:Nat} {acc:List Nat} {l:List NH}:cd o d (γc (λx:NH=>dh ew.b x.1++dh ((ew.i .u32).Ap.pair (ew.i .u32).Ap) x.2) l).flatten acc=acc:=xo λa c=>lS (s:=sF) (l:=l) c
theorem T4 {o:a_} {d:Nat} {acc:List Nat} {l:List (List NH)}:cd o d (γc (λx:List NH=>[ζ5 (γd x) (ζ8 (dh sF) x)]) l).flatten acc=acc:=xo λa b=>lS (s:=sF.Ap) (l:=l) b
theorem T3 {o:a_} {d:Nat} {acc:List Nat} {l:List Int}:cd o d (γc (λx:Int=>γc δg (cK (ew.i .i64) x)) l).flatten acc=acc:=xo λa b=>lS (s:=ew.i .i64) (l:=l) b
theorem Is:Holds Tryz.prog Dy:=by
 refine Yb (L:=[DB]) (W:=fT [DA,r400,Dz,DD,zM,zL]) Dy (λf=>Nat.beq f zM.f||Nat.beq f zL.f) lk (ke (by simpa using⟨Ip,Io,Im,Il,Ik,Ij⟩)) (by simpa using Iq) ?_;rintro x ⟨a,hx,hok⟩;subst hx;refine NI (let c:=γa;let d:=iZ.row;let e:=γj .i64;let f:=γ1;let h:=iZ.cells;let j:=γC .i64;let k:=(0:Int);let l:=γB;let o:=SV.bl false;let p:=SV.agg;let q:=SV.Gz;let B:=(gC a).1;let C:=(gC a).2;let J:=h [c sF B,c sR C] 217 2 false;let Q:=j 0;let a1:=Value.slice none 0 0;let G:=SV.sc a1;let K:=h [Q,o,G,G,G,G,G] 221 7 false;let L:=wT (B,C);let D:=FV L.n L.m L.t;let E:=FV D.n D.m (Tb.mk D.t.VK D.t.bound (vL B) (0:Rat) D.t.basic D.t.free);let a2:=cu E.n.toNat E.m.toNat E.t;let s:=FV E.n E.m a2;let y:=ew.i .u32;let M:=s.v.2.1;let N:=s.v.2.2;let w:=FV s.n s.m s.t;let R:=w.v.2.1;let S:=w.v.2.2;let a3:=h [e w.n,e w.m,f 3 w.k0 1,f 4 w.k1 3,c sF w.cost,l w.v.1,c y R,c y S,f 5 w.k3 1,f 6 w.k4 1] 261 10 false;let a4:=d sF.Ap w.VK 106 false;let a5:=d sF w.bound 177 false;let z:=ew.i .i64;let a6:=d z w.basic 3 false;let a7:=d z w.free 3 false;let F:=c z [];let U:=γc (λ(r:List NH×NH) ↦(vL r.1,TL r.2)) C;let H:=lI (vL B,U);let z31:Nat:=(vL B).length;let a8:=e 0;let a9:=q [p [e 1,l (nf H.value).1,c y (nf H.value).2.1,c y (nf H.value).2.2,c sF (fL (fk H z31 U.length)),c sF (fL (iy H z31 U.length z31)),c sF []],a8];let A:=FV w.n w.m w.t;let aa:=OL.cells [ζ5 B.length (γc (λ(x:sF.T) ↦dh ew.b x.1++dh (y.Ap.pair y.Ap) x.2) B).flatten,ζ5 C.length (γc (λ(x:sR.T) ↦dh sF.Ap x.1++dh sF x.2) C).flatten] 217 2 false;let I:=δg a1;let ab:=OL.cells [δg (Value.int .i64 k),δg (Value.bool false),I,I,I,I,I] 221 7 false;let ac:=(γc (λ(x:sF.Ap.T) ↦[ζ5 (γd x) (ζ8 (dh sF) x)]) s.VK).flatten;let ad:=(γc (λ(x:sF.T) ↦dh ew.b x.1++dh (y.Ap.pair y.Ap) x.2) s.bound).flatten;let ae:=(γc (λ(x:z.T) ↦γc δg (cK z x)) s.basic).flatten;let af:=(γc (λ(x:z.T) ↦γc δg (cK z x)) s.free).flatten;let O:=[aa,ab,OL.cells [δg (Value.int .i64 s.n),δg (Value.int .i64 s.m),θi 3 0 s.k0 (s.k0*1),θi 4 0 s.k1 (s.k1*3),ζ5 s.cost.length (γc (λ(x:sF.T) ↦dh ew.b x.1++dh (y.Ap.pair y.Ap) x.2) s.cost).flatten,δg (Value.bool s.v.1),ζ5 M.length (γc (λ(x:y.T) ↦γc δg (cK y x)) M).flatten,ζ5 N.length (γc (λ(x:y.T) ↦γc δg (cK y x)) N).flatten,θi 5 0 s.k3 (s.k3*1),θi 6 0 s.k4 (s.k4*1)] 261 10 false,OL.cells ac 106 1 false,OL.cells ad 177 3 false,OL.cells ae 3 1 false,OL.cells af 3 1 false];let ag:=[2,3];let V:=cd O (nat_lit 396) ac ag;let W:=if ζQ 4 V=true then V else cd O (nat_lit 395) ad (V++[4]);let X:=if ζQ 5 W=true then W else cd O (nat_lit 390) ae (W++[5]);let ah:=(γc (λ(x:sF.Ap.T) ↦[ζ5 (γd x) (ζ8 (dh sF) x)]) w.VK).flatten;let ai:=(γc (λ(x:sF.T) ↦dh ew.b x.1++dh (y.Ap.pair y.Ap) x.2) w.bound).flatten;let aj:=(γc (λ(x:z.T) ↦γc δg (cK z x)) w.basic).flatten;let ak:=(γc (λ(x:z.T) ↦γc δg (cK z x)) w.free).flatten;let P:=[aa,ab,OL.cells [δg (Value.int .i64 w.n),δg (Value.int .i64 w.m),θi 3 0 w.k0 (w.k0*1),θi 4 0 w.k1 (w.k1*3),ζ5 w.cost.length (γc (λ(x:sF.T) ↦dh ew.b x.1++dh (y.Ap.pair y.Ap) x.2) w.cost).flatten,δg (Value.bool w.v.1),ζ5 R.length (γc (λ(x:y.T) ↦γc δg (cK y x)) R).flatten,ζ5 S.length (γc (λ(x:y.T) ↦γc δg (cK y x)) S).flatten,θi 5 0 w.k3 (w.k3*1),θi 6 0 w.k4 (w.k4*1)] 261 10 false,OL.cells ah 106 1 false,OL.cells ai 177 3 false,OL.cells aj 3 1 false,OL.cells ak 3 1 false];let Y:=cd P (nat_lit 396) ah ag;let Z:=if ζQ 4 Y=true then Y else cd P (nat_lit 395) ai (Y++[4]);let a0:=if ζQ 5 Z=true then Z else cd P (nat_lit 390) aj (Z++[5]);let al:=J.as J/\K.as K/\(h [e s.n,e s.m,f 3 s.k0 1,f 4 s.k1 3,c sF s.cost,l s.v.1,c y M,c y N,f 5 s.k3 1,f 6 s.k4 1] 261 10 false).as a3/\(d sF.Ap s.VK 106 false).as a4/\(d sF s.bound 177 false).as a5/\(d z s.basic 3 false).as a6/\(d z s.free 3 false).as a7/\True;let am:=∃(n:Int),∃(m:Int),∃(t:Tb),s=FV n m t/\jK n m t/\∀(v:Int),v∈t.basic->k<=v;let an:=λ(u:Bool) ↦(!decide (dK a2 E.n.toNat<k))=u;let ao:=λ(u:Int) (u_1:SV) ↦false=true->(q [p [j u,o,F,F,F,F,F],u_1]).as a9;((B.length<=160/\C.length<=40)/\(∀(x:NH),x∈B->gJ x/\okF x=true)/\∀(r:List NH×NH),r∈C->r.1.length=B.length/\(∀(x:NH),x∈r.1->gJ x/\okF x=true)/\gJ r.2/\okF r.2=true)/\ao k a8/\(false=false->(B.length<=1000/\C.length<=1000/\∀(r:List NH×NH),r∈C->r.1.length<=1000)/\(∃(n:Int),∃(m:Int),∃(t:Tb),L=FV n m t/\jK n m t/\ju m.toNat t)/\ao (2:Int) Q/\(false=false->(∃(n:Int),∃(m:Int),∃(t:Tb),D=FV n m t/\jK n m t/\∃(g:List Rat),B=fL g/\g.length=n.toNat/\t.free=cA n.toNat/\∀(v:Int),v∈t.basic->n<=v)/\(∃(n:Int),∃(m:Int),∃(t:Tb),E=FV n m t/\jK n m t/\p_ n.toNat m.toNat t)/\(an true->am/\al/\False)/\(an false->am/\al/\(∃(n:Int),∃(m:Int),∃(t:Tb),w=FV n m t/\jK n m t/\True)/\(J.as J/\K.as K/\a3.as (h [e A.n,e A.m,f 3 A.k0 1,f 4 A.k1 3,c sF A.cost,l A.v.1,c y A.v.2.1,c y A.v.2.2,f 5 A.k3 1,f 6 A.k4 1] 261 10 false)/\a4.as (d sF.Ap A.VK 106 false)/\a5.as (d sF A.bound 177 false)/\a6.as (d z A.basic 3 false)/\a7.as (d z A.free 3 false)/\True)/\if(((if ζQ 6 X=true then X else cd O (nat_lit 389) af (X++[6])).all λ(i:Nat) ↦decide (i<7))&&(((if ζQ 6 a0=true then a0 else cd P (nat_lit 389) ak (a0++[6])).all λ(i:Nat) ↦decide (i<7))&&true))=true then(q [p [j 1,l s.v.1,c y M,c y N,c sF (fL (fk s.t s.n.toNat s.m.toNat)),c sF (fL (iy w.t w.n.toNat w.m.toNat w.n.toNat)),F],Q]).as a9 else False)))) (by kernel_rfl) ?_;simp only[T9,Uc,qi,LG,LF,Ku,Kt,T8,T7,T6,γk];try simp only[vcs]
 obtain⟨M,G,hs⟩:=hok.small;obtain⟨r1,r2,r3⟩:=Ua hok;have hw:=hs.wf;have hz:=hs.sw (dv.refl hs.wf hs.nd);have hn:=hok.n;have hm:=hok.m;have hO:=Ub hok;have k1:jK a.1.length a.2.length (j9 a):=⟨⟨by omega,by omega⟩,by simpa using hw,hz⟩;have k0:jK a.1.length a.2.length (pB a):=by
  refine⟨⟨by omega,by omega⟩,⟨hw.VK,hw.row,hw.bound,by simp[pB],hw.basic,hw.free⟩,hz.1,hz.2.1,λq hq=>?_,hz.2.2.2⟩;rw[(List.mem_replicate.1 hq).2];exact hz.2.2.2
 have k2:jK a.1.length a.2.length (lI a):=Mi hs (by simpa using r1) (by omega) (by omega);have hl:cu a.1.length a.2.length (j9 a)=lI a:=rfl;have aEm:((a.1,a.2):Lp)=a:=rfl;simp only[hl,aEm,T5,T4,T3];have mem2:∀i,i<a.2.length->bN a.2 i ([],0)∈a.2:=λi hi=>cB hi;have hrow:∀r∈a.2,r.1.length=a.1.length/\(∀q∈r.1,Sz 1000000 q)/\Sz 1000000 r.2:=λr hr=>by
  obtain⟨i,hi,rfl⟩:=γJ hr;have h1:=hw.row i hi;have e:bN (j9 a).VK i []=a.2[i].1:=by
   show bN (a.2.map (·.1)) i []=_;rw[bW (by rw[Ξ];exact hi),List.getElem_map]
  rw[e] at h1;refine⟨h1,hz.1 _ (Γ.2 ⟨a.2[i],hr,rfl⟩),hz.2.1 _ (Γ.2 ⟨a.2[i],hr,rfl⟩)⟩
 have hg:∀q∈a.1,Sz 1000000 q:=hz.2.2.1;have hF:∀{l:List Rat},(∀q∈l,Sz 1000000 q)->∀x∈fL l,gJ x/\okF x=true:=λh x hx=>by
  obtain⟨q,hq,rfl⟩:=Γ.1 hx;exact Ks (h q hq)
 have hdg:(∀x∈(gC a).1,gJ x/\okF x=true)/\∀r∈(gC a).2,r.1.length=a.1.length/\(∀x∈r.1,gJ x/\okF x=true)/\gJ r.2/\okF r.2=true:=by
  refine⟨hF hg,λr hr=>?_⟩;obtain⟨r0,hr0,rfl⟩:=Γ.1 hr;obtain⟨h1,h2,h3⟩:=hrow r0 hr0;exact⟨by rw[<-h1];exact eA,hF h2,Ks h3⟩
 have hb0:∀v∈(lI a).basic,0<=v:=λv hv=>by
  have:=r1.perm.mem_iff.1 (εp _ hv);simp only[j9,γi,Γ,ji] at this;rcases this with⟨i,hi,rfl⟩|h;·omega
  ·exact h.1
 have hbn:∀v∈(pB a).basic,(a.1.length:Int)<=v:=λv hv=>by
  simp only[pB,j9,Γ,ji] at hv;obtain⟨i,hi,rfl⟩:=hv;omega
 refine⟨⟨⟨hn,hm⟩,hdg.1,hdg.2⟩,λh=>(by cases h),λ_=>⟨⟨by omega,by omega,λr hr=>by have:=(hdg.2 r hr).1;omega⟩,⟨_,_,_,rfl,k0,by rw[γk];exact hok.vA⟩,λh=>(by cases h),λ_=>⟨⟨_,_,_,rfl,k0,a.1,rfl,by simp,rfl,hbn⟩,⟨_,_,_,rfl,k1,by simpa using hO⟩,λh=>absurd r3 h,λ_=>⟨⟨_,_,_,rfl,k2,hb0⟩,⟨_,_,_,rfl,k2⟩,?_⟩⟩⟩⟩;rw[if_pos (by decide)];rfl
theorem wR {f:List Int} {d:Int} {i:Int} (h:0<=i) (c:i<f.length):zi (f.take (i+1).toNat) d=zi (f.take i.toNat) d++if bN f i.toNat 0=d then[i] else[]:=by
 have a:(f.take (i+1).toNat).length=i.toNat+1:=by grind
 have b:(f.take i.toNat).length=i.toNat:=by grind
 unfold zi;rw[a,b,ql,List.filter_append];have e:∀{k:Nat} {m:Nat},k<m->m<=f.length->bN (f.take m) k 0=bN f k 0:=λ{k m} c j=>by
  grind[bW]
 congr 1
 ·refine List.filter_congr λx g=>?_;grind[ji]
 grind
def iP (f:List Int):Bool:=f.all λx=>decide (-1<=x)&&decide (x<=1)
def h_ (p:cj) (f:List Int):Int:=if nW p≠0 then nW p else if f.length≠p.bi.length then 3 else if iP f=true then 0 else 4
def zK:NG:=⟨131,cj×List Int,.cons cX (.one (cQ (.i .i64))),λa=>a.2.length<=1000000000000,λa=> .si .i64 (h_ a.1 a.2)⟩
def T2 (p:cj) (f:List Int):Nat->bK
 |7=> .inv Int (λi=>⟨[(19,.row (.i .i64) f),(20,.si .i64 f.length),(21,.si .i64 i)],[.cells p.ss 27 20 false]⟩)
   (λs=>iS s 21) (λi=>(0<=i/\i<=f.length)/\iP (f.take i.toNat)=true) (λi=>(f.length - i).toNat) λ_ _=> .bz
 |_=> .bz
theorem yQ:Holds Tryz.prog zK:=by
 refine bO (L:=[mW]) zK (λa=>T2 a.1 a.2) (by grind[om]) ?_;rintro⟨p,f⟩ (D:f.length<=1000000000000);refine NI (let a:=γj .i64;let d:=(0:Int);let g:=γC .i64;let v:=decide (nW p≠d);let e:=a (h_ p f);let q:=(↑f.length:Int);let r:=decide (q≠(↑p.bi.length:Int));let n:=γa (ew.i .i64) f;let c:=(↑f.length:Int);let o:=a c;let w:=g 0;let m:=iZ.cells (cj.ss p) 27 20 false;True/\(v=true->(a (nW p)).as e)/\(v=false->(r=true->(g 3).as e)/\(r=false->(((n.as n/\(a q).as o/\w.as (a 0)/\True)/\m.as m/\True)/\(d<=d/\d<=c)/\iP []=true)/\∀(x:Int),let s:=bN f x.toNat d;let l:=decide (s<(-1:Int));let j:=decide ((1:Int)<s);let b:=x+(1:Int);let k:=a b;(d<=x/\x<=c)/\iP (Δ x.toNat f)=true->(decide (x<c)=true->d<=x/\x<q/\x.toNat<f.length/\(l=true->(g 4).as e)/\(l=false->(j=true->(g 4).as e)/\(j=false->VL .i64 b/\((n.as n/\o.as o/\k.as k/\True)/\m.as m/\True)/\((d<=b/\b<=c)/\iP (Δ b.toNat f)=true)/\(c - b).toNat<(c - x).toNat)))/\(decide (x<c)=false->w.as e)))) (by kernel_rfl) ?_;simp only[vcs];refine⟨λh=>by simp[h_,h],λh=>?_⟩;have F:nW p=0:=Classical.not_not.1 h;refine⟨λy=>by
  grind[h_],λy=>⟨⟨⟨by omega,by omega⟩,rfl⟩,?_⟩⟩;have u:f.length=p.bi.length:=by omega
 rintro i ⟨⟨A,G⟩,g⟩;refine⟨λt=>?_,λt=>?_⟩
 ·have B:=cB (d:=0) (show i.toNat<f.length by omega);have H:=jj (d:=0) A t;have z:¬(-1<=bN f i.toNat 0/\bN f i.toNat 0<=1)->(4:Int)=h_ p f:=λE=>by
   have:iP f=false:=by
    rw[Bool.eq_false_iff];intro C;have:=ψ.1 C _ B;grind
   grind[h_]
  grind[iP]
 ·rw[show i.toNat=f.length by omega,φ] at g;grind[h_]
def fN (p:cj) (f:List Int):Int:=bG ((zi f 1).map (oI p))
theorem wQ {p:cj} (c:nW p=0) {f:List Int} {k:Nat} (g:f.length=p.bi.length):0<=fN p (f.take k)/\fN p (f.take k)<=160000000:=by
 have a:=cN c;have e:=@rh (f.take k) 1;have h:(f.take k).length<=f.length:=by grind
 have j:=@oA p a ((zi (f.take k) 1).map (oI p)) λx b=>by
  obtain⟨i,d,rfl⟩:=Γ.1 b;have:=(jP.1 d).1;exact cB (by omega)
 have l:=a.2.1;grind[fN]
theorem Kr {p:cj} {f:List Int} {i:Int} (b:0<=i) (a:i<f.length):fN p (f.take (i+1).toNat)=fN p (f.take i.toNat)+if bN f i.toNat 0=1 then(oI p i).value else 0:=by
 unfold fN;rw[wR b a,γb,my];grind[bG]
def iY (p:cj) (f:List Int):Lp:=((bR p f).cost,(cA (mF p)).map λr=>((zi f 0).map λi=>((dA p r (oI p i):Int):Rat),((cD p r - b_ p ((zi f 1).map (oI p)) r:Int):Rat)))
theorem zJ {p:cj} {f:List Int}:j9 (iY p f)=bR p f:=by
 simp_all[j9,iY,bR,cA]
def kO (p:cj) (f:List Int) (j:Nat):List NH:=fL (((zi f 0).take j).map λi=>(((oI p i).value:Int):Rat))
def l_ (p:cj) (f:List Int) (r:Int) (j:Nat):List NH:=fL (((zi f 0).take j).map λi=>((dA p r (oI p i):Int):Rat))
def l9 (p:cj) (f:List Int) (k:Nat):List (List NH×NH):=(cA k).map λr=>(l_ p f r (zi f 0).length,nf ((cD p r - b_ p ((zi f 1).map (oI p)) r:Int):Rat))
theorem Kq {p:cj} {f:List Int}:kO p f (zi f 0).length=(gC (iY p f)).1:=by
 unfold kO;rw[φ];rfl
theorem Kp {p:cj} {f:List Int}:l9 p f (mF p)=(gC (iY p f)).2:=by
 simp_all[l9,gC,iY,l_]
theorem Dx {p:cj} {f:List Int} {j:Nat} (h:j<=(zi f 0).length):(kO p f j).length=j:=by
 grind[kO,eA]
theorem Ko {p:cj} {f:List Int} {r:Int} {j:Nat} (h:j<=(zi f 0).length):(l_ p f r j).length=j:=by
 grind[l_,eA]
theorem Kn {p:cj} {f:List Int} {k:Nat}:(l9 p f k).length=k:=by
 grind[l9,gR]
theorem Km {l m:List Rat}:fL (l++m)=fL l++fL m:=γb
theorem T1 {p:cj} {f:List Int} {j:Int} (a:0<=j) (h:j<(zi f 0).length):kO p f (j+1).toNat=kO p f j.toNat++[nf (((oI p (bN (zi f 0) j.toNat 0)).value:Int):Rat)]:=by
 unfold kO;rw[jj (d:=0) a h,γb,Km];rfl
theorem T0 {p:cj} {f:List Int} {r j:Int} (a:0<=j) (h:j<(zi f 0).length):l_ p f r (j+1).toNat=l_ p f r j.toNat++[nf ((dA p r (oI p (bN (zi f 0) j.toNat 0)):Int):Rat)]:=by
 unfold l_;rw[jj (d:=0) a h,γb,Km];rfl
theorem Uw {p:cj} {f:List Int} {r:Int} (a:0<=r):l9 p f (r+1).toNat=l9 p f r.toNat++[(l_ p f r (zi f 0).length,nf ((cD p r - b_ p ((zi f 1).map (oI p)) r:Int):Rat))]:=by
 unfold l9;rw[show(r+1).toNat=r.toNat+1 by omega,ql,γb,show((r.toNat:Nat):Int)=r by omega];rfl
def f_ (p:cj) (f:List Int):Bool:=ir p ((zi f 1).map (oI p))
def lC (p:cj) (f:List Int):List NH×(List (List NH×NH)×List Int):=if f_ p f=true then((gC (iY p f)).1,((gC (iY p f)).2,zi f 0)) else([],([],[]))
theorem Uv {p:cj} {f:List Int} (h:dY p f):wS (iY p f):=by
 have a:=cN h.1;have c:(iY p f).1.length=nF f:=by
  show((zi f 0).map _).length=_;simp_all
 have b:(iY p f).2.length=mF p:=by
  show((cA (mF p)).map _).length=_;grind[gR]
 have g:=@rh f 0;have i:mF p=p.bj.length+12:=rfl;refine⟨?_,?_,?_,?_,?_⟩;·rw[c];have:=h.2.1;have:=a.2.1;grind
 ·rw[b];have:=a.1;omega
 ·grind[zJ,zR]
 ·grind[zJ,DE]
 ·rw[c,b,zJ];exact⟨_,λx z d e=>KC h d e⟩
theorem Uu {p:cj} {f:List Int}:lI (iY p f)=cG p f:=by
 have b:(iY p f).1.length=nF f:=by
  show((zi f 0).map _).length=_;simp_all
 have a:(iY p f).2.length=mF p:=by
  show((cA (mF p)).map _).length=_;grind[gR]
 grind[lI,cG,zJ]
noncomputable def jg (p:cj) (f:List Int) (k:Nat):List Rat:=(cA f.length).map λi=>if bN f i.toNat 0=1 then 1 else if i∈(zi f 0).take k then bN (fk (cG p f) (nF f) (mF p)) ((zi f 0).idxOf i) 0 else 0
noncomputable def hJ (p:cj) (f:List Int):Rat:=((fN p f:Int):Rat)+(cG p f).value
noncomputable def gw (p:cj) (f:List Int):List Rat:=iy (cG p f) (nF f) (mF p) (nF f)
theorem uK {p:cj} {f:List Int} {k:Nat}:(jg p f k).length=f.length:=by
 grind[jg,gR]
theorem zI {p:cj} {f:List Int} {k i:Nat} (h:i<f.length):bN (jg p f k) i 0=if bN f i 0=1 then 1 else if(i:Int)∈(zi f 0).take k then bN (fk (cG p f) (nF f) (mF p)) ((zi f 0).idxOf (i:Int)) 0 else 0:=by
 unfold jg;rw[DH (e:=0) (by grind[gR]),DG h,γk]
theorem Ut {l m:List Rat} (a:l.length=m.length) (h:∀i,i<m.length->bN l i 0=bN m i 0):l=m:=List.ext_getElem a λi b c=>by
 grind[bW]
theorem Us {p:cj} {f:List Int} {k:Nat} (b:k<nF f):(jg p f k).set (bN (zi f 0) k 0).toNat (bN (fk (cG p f) (nF f) (mF p)) k 0)=jg p f (k+1):=by
 have g:=jP.1 (cB (d:=0) b);refine Ut (by grind[uK]) λi a=>?_;rw[uK] at a;have c:(zi f 0).idxOf (bN (zi f 0) k 0)=k:=nc (rX.imp λh=>by omega) b;have e:(zi f 0).take (k+1)=(zi f 0).take k++[bN (zi f 0) k 0]:=by simp_all[bW]
 rw[gN (by grind[uK]),zI a,zI a,e];grind
theorem Ur {p:cj} {f:List Int} {i:Nat} (h:i<f.length):bN (jg p f 0) i 0=if bN f i 0=1 then 1 else 0:=by
 grind[zI]
def ki (p:cj) (f:List Int):Bool:=decide (h_ p f=0)&&f_ p f
noncomputable def js (p:cj) (f:List Int):NH:=if ki p f=true then nf (hJ p f) else(false,([],[]))
noncomputable def oY (p:cj) (f:List Int):List NH:=if ki p f=true then fL (gw p f) else[]
noncomputable def jr (p:cj) (f:List Int):List NH:=if ki p f=true then fL (jg p f (nF f)) else[]
noncomputable def Uq (p:cj) (f:List Int):SV:=.agg [.sb (ki p f),.sb (js p f).1,.row (.i .u32) (js p f).2.1,.row (.i .u32) (js p f).2.2,.row sF (oY p f),.row sF (jr p f)]
theorem wP:∀{l m:List Int},l.Pairwise (·<·)->m.Pairwise (·<·)->(∀x,x∈l↔x∈m)->l=m
 |[],[],_,_,_=>rfl
 |[],y::m,_,_,h=>by have:=(h y).2 (by simp);simp at this;|x::l,[],_,_,h=>by have:=(h x).1 (by simp);simp at this;|x::l,y::m,hl,hm,h=>by
  rw[γr] at hl hm;have e:x=y:=by
   rcases γq.1 ((h x).1 (by simp)) with h1|h1;·exact h1
   ·rcases γq.1 ((h y).2 (by simp)) with h2|h2;·exact h2.symm
    ·have:=hl.1 y h2;have:=hm.1 x h1;omega
  subst e;congr 1;refine wP hl.2 hm.2 λz=>?_;constructor
  ·intro hz;rcases γq.1 ((h z).1 (γp _ hz)) with h1|h1;·have:=hl.1 z hz;omega
   ·exact h1
  ·intro hz;rcases γq.1 ((h z).2 (γp _ hz)) with h1|h1;·have:=hm.1 z hz;omega
   ·exact h1
theorem Dw {t:List Int} {g:Int->Int}:∀{l:List Int},((l.filter λx=>decide (x∈t)).map g).sum=(l.map λx=>if x∈t then g x else 0).sum
 |[]=>rfl
 |x::l=>by
  simp only[List.filter_cons,ξ,εl];by_cases h:x∈t;·rw[if_pos (decide_eq_true h),if_pos h,ξ,εl,Dw]
  ·rw[if_neg (by simpa using h),if_neg h,Dw];omega
theorem Dv {t:List Int} {g:Int->Int}:∀{l:List Int},kR (λx=>((g x:Int):Rat)*(if x∈t then 1 else 0)) l=(((l.map λx=>if x∈t then g x else 0).sum:Int):Rat)
 |[]=>rfl
 |x::l=>by
  have:=@Dv t g l;simp only[kR,this,ξ,εl,Rat.intCast_add];congr 1;split<;>simp_all
theorem zH {p:cj}:∀{l:List Int},bG (l.map (oI p))=(l.map λi=>(oI p i).value).sum
 |[]=>rfl
 |x::l=>by
  have:=@zH p l;grind[bG]
section
variable {p:cj} {f t:List Int}
theorem Kl (k:iP f=true) (u:f.length=p.bi.length) (e:dn p.bi.length t) (j:∀i∈t,bN f i.toNat 0≠ -1) (r:∀i∈zi f 1,i∈t) (g:Int->Int):
  (t.map g).sum=((zi f 1).map g).sum+((zi f 0).map λx=>if x∈t then g x else 0).sum:=by
 have l:t.Perm (zi f 1++(zi f 0).filter λx=>decide (x∈t)):=by
  refine(γ7 (vG e) ?_).2 λx=>?_
  ·rw[γx];refine⟨rX.imp λh=>by omega,(rX.sublist γo).imp λh=>by omega,λa s b o m=>?_⟩;grind[jP]
  ·rw[γi,List.mem_filter,decide_eq_true_eq];constructor
   ·intro c;have v:=e.2 x c;have q:=j x c;have n:=ψ.1 k _ (cB (d:=0) (show x.toNat<f.length by omega));simp only[θ,decide_eq_true_eq] at n;grind[jP]
   grind
 rw[LQ (l.map g),γb,θe,Dw]
theorem sC (l:List Int) (r:Int):b_ p (l.map (oI p)) r=(l.map λi=>dA p r (oI p i)).sum:=by
 unfold b_;rw[γP];rfl
theorem Hx (h:dY p f) (s:iP f=true) (z:dn p.bi.length t) (a:ir p (t.map (oI p))=true) (u:∀i∈t,bN f i.toNat 0≠ -1) (A:∀i∈zi f 1,i∈t):((bG (t.map (oI p)):Int):Rat)<=hJ p f:=by
 obtain⟨l,E,r⟩:=mQ h;have d:∀g:Int->Int,Ov (nF f) (λj=>((g (bN (zi f 0) j 0):Int):Rat)*(if bN (zi f 0) j 0∈t then(1:Rat) else 0))=(((t.map g).sum - ((zi f 1).map g).sum:Int):Rat):=λg=>by
  have e:=@o6 (λx=>((g x:Int):Rat)*(if x∈t then(1:Rat) else 0)) (zi f 0);rw[Dv] at e;rw[Kl s h.2.1 z u A g];grind
 have q:=asg_holds (n:=nF f) (m:=mF p) (t:=bR p f) kn oZ (y:=λj=>if bN (zi f 0) j 0∈t then(1:Rat) else 0);have B:(bR p f).value+Ov (nF f) (λj=>(bR p f).cs j*(if bN (zi f 0) j 0∈t then(1:Rat) else 0))=((bG (t.map (oI p)) - fN p f:Int):Rat):=by
  grind[bR,cZ,wU,fN,zH]
 rw[B] at q;have o:∀v∈(bR p f).basic++(bR p f).free,0<=iC (nF f) (bR p f) (λj=>if bN (zi f 0) j 0∈t then(1:Rat) else 0) v:=λv b=>by
  rcases γi.1 b with b|b
  ·obtain⟨i,k,rfl⟩:=vz kn b;rw[mf kn oZ k,vW k,cZ (g:=λj=>((dA p i (oI p (bN (zi f 0) j 0)):Int):Rat)*(if bN (zi f 0) j 0∈t then(1:Rat) else 0)) λj c=>by rw[vX k c],d λx=>dA p i (oI p x),<-sC,<-sC];have C:=nj.1 a i (by grind[cr]);have w:0<=(cD p i - b_ p ((zi f 1).map (oI p)) i) - (b_ p (t.map (oI p)) i - b_ p ((zi f 1).map (oI p)) i):=by omega
   have D:=zQ w;simp_all
  grind[sL,kn,lE,oZ]
 have:=l.IV r q λj c=>o _ (l.perm.mem_iff.1 (List.mem_append_right _ (sM l.wf c)));grind[hJ]
end
theorem Kk {t:Tb} {n j:Nat} (b:j<n):∀{k:Nat},(∀i,i<k->0<=t.bv i)->(∃i,i<k/\t.bv i=j/\bN (fk t n k) j 0=t.bd i)\/((∀i,i<k->t.bv i≠j)/\bN (fk t n k) j 0=0)
 |0,_=> .inr ⟨λi a=>by omega,by
   grind[fk,bW]⟩
 |k+1,h=>by
  have e:=h k (by omega);have d:=@Kk t n j b k λi a=>h i (by omega);unfold fk;by_cases c:t.bv k<n
  ·rw[if_pos c,gN (by grind[zP])];grind
  grind
theorem Kj {t:Tb} {n m r:Nat} (a:r<m):∀{k:Nat},(∃j,j<k/\t.fv j=((n+r:Nat):Int)/\bN (iy t n m k) r 0= -(t.cs j))\/((∀j,j<k->t.fv j≠((n+r:Nat):Int))/\bN (iy t n m k) r 0=0)
 |0=> .inr ⟨λi d=>by omega,by
   grind[iy,bW]⟩
 |k+1=>by
  have c:=@Kj t n m r a k;unfold iy;by_cases b:(n:Int)<=t.fv k/\t.fv k<n+m
  ·rw[if_pos b,gN (by grind[zO])];grind
  grind
theorem K2 {n m:Nat} {t:Tb} (h:t.WF n m) (c:(t.basic++t.free).Nodup) {j:Nat} (a:j<n):dH t (t.fv j)=t.cs j:=by
 have b:j<t.free.length:=by rw[h.free];exact a
 unfold dH;rw[if_pos (sM h a),show t.free.idxOf (t.fv j)=j from nc (γx.1 c).2.1 b]
theorem Up {n m:Nat} {t:Tb} (h:t.WF n m) (b:(t.basic++t.free).Nodup) {j:Nat} (a:j<m):dH t (t.bv j)=0:=by
 unfold dH;rw[if_neg (EX h b a)]
section
variable {p:cj} {f:List Int}
noncomputable def nK (p:cj) (f:List Int):Int->Rat:=iC (nF f) (cG p f) λ_=>0
theorem optX_holds (h:dY p f):(bR p f).holds (nF f) (mF p) (nK p f) (cG p f).value:=by
 obtain⟨a,_,_⟩:=mQ h;have b:=asg_holds a.wf a.fm (y:=λ_=>0);rw[cZ (g:=λ_=>0) λj _=>by grind,gP] at b;have c:=(a.sol _ _).1 b;rwa [show(cG p f).value+0=(cG p f).value by grind] at c
theorem Du (h:dY p f) {i:Nat} (b:i<mF p):nK p f ((cG p f).bv i)=(cG p f).bd i:=by
 obtain⟨a,_,_⟩:=mQ h;unfold nK;rw[mf a.wf a.fm b,cZ (g:=λ_=>0) λj _=>by grind,gP];grind
theorem Dt (h:dY p f) {j:Nat} (b:j<nF f):nK p f ((cG p f).fv j)=0:=by
 obtain⟨a,_,_⟩:=mQ h;unfold nK;rw[lE a.wf a.fm b]
theorem zG (h:dY p f) {v:Int} (a:v∈(bR p f).basic++(bR p f).free):(∃i,i<mF p/\(cG p f).bv i=v)\/∃j,j<nF f/\(cG p f).fv j=v:=by
 obtain⟨b,_,_⟩:=mQ h;rw[<-b.perm.mem_iff,γi] at a;rcases a with a|a;·exact .inl (vz b.wf a)
 ·exact .inr (sL b.wf a)
theorem Ds (h:dY p f) {v:Int} (c:v∈(bR p f).basic++(bR p f).free):0<=nK p f v:=by
 obtain⟨_,b,_⟩:=mQ h;rcases zG h c with⟨i,a,rfl⟩|⟨j,d,rfl⟩
 ·rw[Du h a];exact b i a
 grind[Dt]
theorem Dr {j:Nat} (a:j<nF f):(j:Int)∈(bR p f).basic++(bR p f).free:=by
 have:=sM (n:=nF f) (m:=mF p) (t:=bR p f) kn a;grind[sE]
theorem Uo (h:dY p f) {i:Nat} (b:i<mF p):0<=(cG p f).bv i:=by
 obtain⟨a,_,_⟩:=mQ h;have c:=a.perm.mem_iff.1 (εp _ (w_ a.wf b));grind[vz,kn,zT,sL,sE]
theorem Un (h:dY p f) {j:Nat} (c:j<nF f):bN (fk (cG p f) (nF f) (mF p)) j 0=nK p f j:=by
 rcases @Kk (cG p f) (nF f) j c (mF p) λi b=>Uo h b with⟨i,d,a,g⟩|⟨d,a⟩;·grind[Du]
 ·rw[a];rcases zG h (Dr c) with⟨i,b,e⟩|⟨k,l,e⟩<;>grind[zG,Dr,Dt]
theorem S8 (h:dY p f) {j:Nat} (a:j<nF f):nK p f j<=1:=by
 have:=KD h (optX_holds h) (λv b=>Ds h b) a;grind[sE]
theorem K1 (h:dY p f):(∀i,i<mF p->Sz 1000 ((cG p f).bd i))/\(∀j,j<nF f->Sz 1000 ((cG p f).cs j))/\Sz 1000 (cG p f).value:=have a:=(zR h).IW (mQ h).1;⟨a.1,a.2.1,a.2.2.1⟩
theorem Dq (q:Rat) (h:q=0\/q=1):Sz 1000 q:=by
 have a:Sz 1 q:=by rcases h with rfl|rfl<;>exact⟨by decide,by decide⟩
 exact a.mono (by omega)
theorem S7 (h:dY p f) {v:Int} (a:v∈(bR p f).basic++(bR p f).free):Sz 1000 (nK p f v):=by
 grind[zG,Du,K1,Dt,Dq]
noncomputable def cP (p:cj) (f:List Int):List Rat:=jg p f (nF f)
theorem pA:(cP p f).length=f.length:=uK
theorem wO (h:dY p f) (c:iP f=true) {i:Nat} (b:i<f.length):(bN f i 0=1/\bN (cP p f) i 0=1)\/(bN f i 0= -1/\bN (cP p f) i 0=0)\/(bN f i 0=0/\(i:Int)∈zi f 0/\(zi f 0).idxOf (i:Int)<nF f/\bN (cP p f) i 0=nK p f ((zi f 0).idxOf (i:Int))):=by
 have g:=ψ.1 c _ (cB (d:=0) b);simp only[θ,decide_eq_true_eq] at g;unfold cP;rw[zI b,φ];rcases(show bN f i 0=1\/bN f i 0= -1\/bN f i 0=0 by omega) with a|a|a;·simp_all
 ·simp_all[jP]
 ·have e:(i:Int)∈zi f 0:=jP.2 ⟨by omega,by simp_all⟩;have j:(zi f 0).idxOf (i:Int)<nF f:=γ6 e;simp_all[Un]
theorem Ak (h:dY p f) (a:iP f=true) {i:Nat} (b:i<f.length):0<=bN (cP p f) i 0/\bN (cP p f) i 0<=1/\Sz 1000 (bN (cP p f) i 0):=by
 rcases wO h a b with⟨_,e⟩|⟨_,e⟩|⟨_,_,c,e⟩;all_goals grind[Dq,Ds,Dr,S8,S7]
theorem qL (h:dY p f) (c:iP f=true) {i:Nat} (b:i<f.length) (d:0<bN (cP p f) i 0) (a:bN (cP p f) i 0<1):bN f i 0=0:=by
 grind[wO]
def dP (x:List Rat):List Int:=(cA x.length).filter λi=>decide (0<bN x i.toNat 0)
theorem uJ {x:List Rat} {i:Int}:i∈dP x↔(0<=i/\i<x.length)/\0<bN x i.toNat 0:=by
 simp_all[dP,ji]
theorem K0 {x:List Rat}:dn x.length (dP x):=⟨nM.sublist γo,λi a=>(uJ.1 a).1⟩
def lB (x:List Rat):Bool:=x.all λq=>decide (q.den=1)
theorem S6 {q:Rat} (h:q.den=1):q=(q.num:Rat):=by
 grind[Rat.mkRat_self,Rat.mkRat_one]
theorem S5 {q:Rat} (c:q.den=1) (b:0<=q) (a:q<=1):q=0\/q=1:=by
 rw[S6 c] at b a ⊢;have f:0<=q.num:=by exact_mod_cast b
 have d:q.num<=1:=by exact_mod_cast a
 rcases(show q.num=0\/q.num=1 by omega) with e|e<;>simp_all
theorem S4 {t:List Int} (a:iP f=true) (c:f.length=p.bi.length) (h:dn p.bi.length t) (b:∀i∈t,bN f i.toNat 0≠ -1) (d:∀i∈zi f 1,i∈t) (g:Int->Int):Ov (nF f) (λj=>((g (bN (zi f 0) j 0):Int):Rat)*(if bN (zi f 0) j 0∈t then(1:Rat) else 0))=(((t.map g).sum - ((zi f 1).map g).sum:Int):Rat):=by
 have e:=@o6 (λx=>((g x:Int):Rat)*(if x∈t then(1:Rat) else 0)) (zi f 0);rw[Dv] at e;rw[Kl a c h b d g];grind
theorem KZ (h:dY p f) (t:iP f=true) (F:lB (cP p f)=true):ir p ((dP (cP p f)).map (oI p))=true/\((bG ((dP (cP p f)).map (oI p)):Int):Rat)=hJ p f:=by
 have n:=h.2.1;have z:=@pA p f;have q:∀i:Nat,i<f.length->bN (cP p f) i 0=0\/bN (cP p f) i 0=1:=λi o=>by
  obtain⟨O,J,_⟩:=Ak h t o;have:=ψ.1 F _ (cB (d:=0) (show i<(cP p f).length by omega));simp_all[S5]
 have B:dn p.bi.length (dP (cP p f)):=by
  grind[K0]
 have A:∀i∈dP (cP p f),bN f i.toNat 0≠ -1:=λi x K=>by
  grind[uJ,wO]
 have D:∀i∈zi f 1,i∈dP (cP p f):=λi x=>by
  grind[jP,uJ,wO]
 have G:∀j,j<nF f->(if bN (zi f 0) j 0∈dP (cP p f) then(1:Rat) else 0)=nK p f ((bR p f).fv j):=λj c=>by
  obtain⟨C,L⟩:=vV h c;have E:(zi f 0).idxOf (bN (zi f 0) j 0)=j:=nc (rX.imp λh=>by omega) c;have M:((((bN (zi f 0) j 0).toNat:Nat)):Int)=bN (zi f 0) j 0:=by omega
  have e:bN (cP p f) (bN (zi f 0) j 0).toNat 0=nK p f j:=by
   grind[wO]
  rw[sE c,<-e];rcases q (bN (zi f 0) j 0).toNat (by omega) with l|l;·simp_all[uJ]
  ·rw[l,if_pos];grind[uJ]
 obtain⟨v,w⟩:=optX_holds h;have k:=S4 t n B A D;refine⟨nj.2 λy b=>?_,?_⟩
 ·obtain⟨r,m⟩:∃r:Int,r=(y:Int):=⟨_,rfl⟩;rw[<-m] at b ⊢;have I:0<=r:=by omega
  have a:r.toNat<mF p:=by unfold cr at b;grind
  have s:=v r.toNat a;rw[cZ (g:=λj=>((dA p r (oI p (bN (zi f 0) j 0)):Int):Rat)*(if bN (zi f 0) j 0∈dP (cP p f) then(1:Rat) else 0)) λj c=>by grind[vX],k λi=>dA p r (oI p i),vW a,show((r.toNat:Nat):Int)=r by omega] at s;have N:=Ds h (εp _ (w_ kn a));rw[<-sC,<-sC] at s;have l:((b_ p ((dP (cP p f)).map (oI p)) r - b_ p ((zi f 1).map (oI p)) r:Int):Rat)<=((cD p r - b_ p ((zi f 1).map (oI p)) r:Int):Rat):=by grind
  have H:b_ p ((dP (cP p f)).map (oI p)) r - b_ p ((zi f 1).map (oI p)) r<=cD p r - b_ p ((zi f 1).map (oI p)) r:=by exact_mod_cast l
  omega
 ·have u:(bR p f).value=0:=rfl;rw[u,cZ (g:=λj=>(((oI p (bN (zi f 0) j 0)).value:Int):Rat)*(if bN (zi f 0) j 0∈dP (cP p f) then(1:Rat) else 0)) λj c=>by grind[wU],k λi=>(oI p i).value] at w;grind[hJ,fN,zH]
theorem KY (h:dY p f) {x:Int->Rat} {z:Rat} (l:(bR p f).holds (nF f) (mF p) x z):z=(cG p f).value+(Ov (mF p) (λk=>dH (cG p f) ((nF f+k:Nat):Int)*x ((nF f+k:Nat):Int))+Ov (nF f) λj=>dH (cG p f) (j:Int)*x (j:Int)):=by
 obtain⟨a,_,_⟩:=mQ h;have i:=((a.sol _ _).2 l).2;have m:Ov (nF f) (λj=>(cG p f).cs j*x ((cG p f).fv j))=kR (λv=>dH (cG p f) v*x v) ((cG p f).basic++(cG p f).free):=by
  rw[ya,o6,o6,a.wf.basic,a.wf.free];rw[cZ (n:=mF p) (g:=λ_=>0) λk b=>by
   show dH (cG p f) ((cG p f).bv k)*x ((cG p f).bv k)=0;rw[Up a.wf a.fm b];grind,gP];rw[cZ (n:=nF f) (f:=λk=>dH (cG p f) (bN (cG p f).free k 0)*x (bN (cG p f).free k 0)) (g:=λj=>(cG p f).cs j*x ((cG p f).fv j)) λj e=>by
   show dH (cG p f) ((cG p f).fv j)*x ((cG p f).fv j)=_;rw[K2 a.wf a.fm e]];grind
 have d:kR (λv=>dH (cG p f) v*x v) ((bR p f).basic++(bR p f).free)=Ov (mF p) (λk=>dH (cG p f) ((nF f+k:Nat):Int)*x ((nF f+k:Nat):Int))+Ov (nF f) λj=>dH (cG p f) (j:Int)*x (j:Int):=by
  have c:=@kn p f;rw[ya,o6,o6,c.basic,c.free];congr 1
  ·refine cZ λk b=>?_;show dH (cG p f) ((bR p f).bv k)*x ((bR p f).bv k)=_;rw[zT b]
  ·refine cZ λk b=>?_;show dH (cG p f) ((bR p f).fv k)*x ((bR p f).fv k)=_;rw[sE b]
 rw[i,m,EY a.perm,d]
theorem KX (h:dY p f) {v:Int}:dH (cG p f) v<=0:=by
 obtain⟨d,_,e⟩:=mQ h;unfold dH;split
 ·rename_i g;have k:(cG p f).free.idxOf v<nF f:=by rw[<-d.wf.free];grind
  rcases @sd (cG p f) (nF f) with⟨a,b⟩|⟨c,a,b,i,j⟩<;>grind
 ·decide
theorem Aj (h:dY p f) {r:Nat} (g:r<mF p):bN (gw p f) r 0= -(dH (cG p f) ((nF f+r:Nat):Int)):=by
 obtain⟨a,_,_⟩:=mQ h;unfold gw;rcases @Kj (cG p f) (nF f) (mF p) r g (nF f) with⟨j,c,b,i⟩|⟨c,b⟩;·rw[i,<-b,K2 a.wf a.fm c]
 ·rw[b];unfold dH;rw[if_neg];·decide
  ·intro d;obtain⟨j,k,e⟩:=sL a.wf d;simp_all
theorem Ai:(gw p f).length=mF p:=zO
theorem Dp (h:dY p f) {r:Nat} (a:r<mF p):0<=bN (gw p f) r 0/\Sz 1000 (bN (gw p f) r 0):=by
 obtain⟨c,_,_⟩:=mQ h;have d:=@KX p f h ((nF f+r:Nat):Int);refine⟨by grind[Aj],?_⟩;rw[Aj h a];refine wY ?_;unfold dH;split
 ·rename_i b;exact(K1 h).2.1 _ (by have:=γ6 b;rw[c.wf.free] at this;exact this)
 grind[Dq]
theorem KW (h:dY p f):(cG p f).value=Ov (mF p) λr=>bN (gw p f) r 0*(bR p f).bd r:=by
 have c:=asg_holds (n:=nF f) (m:=mF p) (t:=bR p f) kn oZ (y:=λ_=>0);have a:=KY h c;have d:(bR p f).value=0:=rfl;rw[d,cZ (n:=nF f) (f:=λj=>(bR p f).cs j*(λ_=>(0:Rat)) j) (g:=λ_=>0) λj _=>by grind,gP] at a;rw[cZ (n:=nF f) (f:=λj=>dH (cG p f) (j:Int)*iC (nF f) (bR p f) (λ_=>0) (j:Int)) (g:=λ_=>0) λj b=>by
  have e:=lE (n:=nF f) (m:=mF p) (t:=bR p f) kn oZ (y:=λ_=>0) b;grind[sE],gP] at a;rw[cZ (n:=mF p) (g:=λk=>(-1:Rat)*(bN (gw p f) k 0*(bR p f).bd k)) λk i=>by
  have e:=mf (n:=nF f) (m:=mF p) (t:=bR p f) kn oZ (y:=λ_=>0) i;grind[zT,gP,Aj],sO] at a;grind
theorem S3 (h:dY p f) {j:Nat} (b:j<nF f):(bR p f).cs j<=Ov (mF p) λr=>bN (gw p f) r 0*(bR p f).cf r j:=by
 have l:=asg_holds (n:=nF f) (m:=mF p) (t:=bR p f) kn oZ (y:=λi=>if i=j then 1 else 0);have a:=KY h l;have o:(bR p f).value=0:=rfl;rw[o,cZ (n:=nF f) (f:=λi=>(bR p f).cs i*(if i=j then(1:Rat) else 0)) (g:=λi=>if i=j then(bR p f).cs j else 0) λi _=>by
  grind,rZ b] at a;rw[cZ (n:=nF f) (f:=λi=>dH (cG p f) (i:Int)*iC (nF f) (bR p f) (λi=>if i=j then 1 else 0) (i:Int)) (g:=λi=>if i=j then dH (cG p f) (j:Int) else 0) λi d=>by
  have e:=lE (n:=nF f) (m:=mF p) (t:=bR p f) kn oZ (y:=λi=>if i=j then(1:Rat) else 0) d;rw[sE d] at e;grind,rZ b] at a;rw[cZ (n:=mF p) (g:=λk=>bN (gw p f) k 0*(bR p f).cf k j - bN (gw p f) k 0*(bR p f).bd k) λk c=>by
  have e:=mf (n:=nF f) (m:=mF p) (t:=bR p f) kn oZ (y:=λi=>if i=j then(1:Rat) else 0) c;rw[zT c,cZ (g:=λi=>if i=j then(bR p f).cf k j else 0) λi _=>by
   grind,rZ b] at e;grind[Aj],E9] at a;grind[KW,KX]
end
abbrev cz:=Int×(Int×(Int×(Int×List NH)))
@[reducible] def Ao:ew:=.pair (.i .i64) (.pair (.i .i64) (.pair (.i .i64) (.pair (.i .i64) (.Ap sF))))
def zN:cz:=(0,(0,(0,(0,[]))))
def ze:cz:=(3,(0,(0,(0,[]))))
noncomputable def oX (p:cj) (f:List Int):cz:=(1,(0,(0,(0,fL (gw p f)))))
def jf (k o:Int):cz:=(2,(k,(o,(o+1,[]))))
structure cm where
 ch:List Int
 val:Int
 bn:Bool
 bp:List cz
 err:Int
def dx (b:Int->Bool) (s:cm) (a:bC):cm:=if s.val<a.value then⟨a.bm,a.value,s.bn||b a.value,s.bp,s.err⟩ else s
def lA (q:Rat):Rat:=if q<0 then -q else q
def iA (x:List Rat):Nat->Option (Int×Rat)
 |0=>none
 |k+1=>if 0<bN x k 0/\bN x k 0<1 then(match iA x k with
   |none=>some ((k:Int),lA (bN x k 0 - 1 / 2))
   |some (i,l)=>if lA (bN x k 0 - 1 / 2)<l then some ((k:Int),lA (bN x k 0 - 1 / 2)) else some (i,l)) else iA x k
def iN (x:List Rat):Option Int:=(iA x x.length).map (·.1)
theorem Do {x:List Rat}:∀{k:Nat} {i:Int} {l:Rat},iA x k=some (i,l)->(0<=i/\i<k)/\(0<bN x i.toNat 0/\bN x i.toNat 0<1)/\l=lA (bN x i.toNat 0 - 1 / 2)
 |0,i,l,h=>by cases h;|k+1,i,l,h=>by
  unfold iA at h;have b:some ((k:Int),lA (bN x k 0 - 1 / 2))=some (i,l)->(0<bN x k 0/\bN x k 0<1)->(0<=i/\i<((k+1:Nat):Int))/\(0<bN x i.toNat 0/\bN x i.toNat 0<1)/\l=lA (bN x i.toNat 0 - 1 / 2):=λh f=>by
   grind
  have a:iA x k=some (i,l)->(0<=i/\i<((k+1:Nat):Int))/\(0<bN x i.toNat 0/\bN x i.toNat 0<1)/\l=lA (bN x i.toNat 0 - 1 / 2):=λh=>by
   obtain⟨c,d,e⟩:=Do h;grind
  grind
theorem KV {x:List Rat}:∀{k:Nat},iA x k=none->∀i,i<k->¬(0<bN x i 0/\bN x i 0<1)
 |0,_,i,a=>by omega;|k+1,h,i,a=>by
  unfold iA at h;split at h;·grind
  ·rename_i b;by_cases e:i=k;·simp_all
   ·exact KV h i (by omega)
theorem qK {x:List Rat} {k:Int} (h:iN x=some k):(0<=k/\k<x.length)/\0<bN x k.toNat 0/\bN x k.toNat 0<1:=by
 unfold iN at h;obtain⟨⟨i,l⟩,b,a⟩:=ε.1 h;simp only at a;subst a;obtain⟨c,d,_⟩:=Do b;simp_all
theorem S2 {x:List Rat} (h:iN x=none):∀i,i<x.length->¬(0<bN x i 0/\bN x i 0<1):=KV (Option.map_eq_none_iff.1 h)
noncomputable def nC (p:cj) (f:List Int):bC:=⟨dP (cP p f),bG ((dP (cP p f)).map (oI p))⟩
noncomputable def cF (p:cj) (a:Int->Bool) (s:cm) (f:List Int):cm:=if((s.val+1:Int):Rat)<=hJ p f/\lB (cP p f)=true then dx a s (nC p f) else s
def fK (s:cm) (a k:Int):cm:={s with bp:=(s.bp++[zN,zN]).set a.toNat (jf k s.bp.length)}
noncomputable def ez (p:cj) (en:Int->Bool) (bA:Int) (b:cm->Int->List Int->cm) (s:cm) (a:Int) (f:List Int):cm:=
 if s.err≠0\/s.bn=true then s
 else if f_ p f=false then {s with bp:=s.bp.set a.toNat ze}
 else if hJ p f<(((cF p en s f).val+1:Int):Rat) then {cF p en s f with bp:=(cF p en s f).bp.set a.toNat (oX p f)}
 else match iN (cP p f) with
  |none=>{cF p en s f with err:=12}
  |some k=>if bA<(cF p en s f).bp.length+2 then {cF p en s f with err:=12}
   else b (b (fK (cF p en s f) a k) ((cF p en s f).bp.length+1) (f.set k.toNat 1)) (cF p en s f).bp.length (f.set k.toNat (-1))
noncomputable def cR (p:cj) (b:Int->Bool) (a:Int):Nat->cm->Int->List Int->cm
 |0=>ez p b a λs _ _=>s
 |n+1=>ez p b a (cR p b a n)
structure dR (p:cj) (f:List Int):Prop where
 c:nW p=0
 l:f.length=p.bi.length
 r:iP f=true
theorem dR.ok {p:cj} {f:List Int} (h:dR p f) (a:f_ p f=true):dY p f:=⟨h.c,h.l,a⟩
theorem dR.e {p:cj} {f:List Int} (h:dR p f):h_ p f=0:=by
 unfold h_;rw[if_neg (by simp[h.c]),if_neg (by simp[h.l]),if_pos h.r]
theorem dR.ki {p:cj} {f:List Int} (h:dR p f):ki p f=f_ p f:=by
 unfold Go.Vi.ki;rw[h.e];simp
theorem KU {f:List Int} {k:Nat} {d:Int} (h:iP f=true) (a: -1<=d/\d<=1):iP (f.set k d)=true:=by
 grind[iP]
theorem dR.set {p:cj} {f:List Int} (h:dR p f) {k:Nat} {d:Int} (a: -1<=d/\d<=1):dR p (f.set k d):=⟨h.c,by rw[Ω];exact h.l,KU h.r a⟩
theorem kN {f:List Int} {k d:Int} (i:0<=k/\k<f.length) (l:bN f k.toNat 0=0) (g:d≠0):nF f=nF (f.set k.toNat d)+1:=by
 have c:(zi f 0).Perm (k::zi (f.set k.toNat d) 0):=by
  refine(γ7 (rX.imp λh=>by omega) ?_).2 λx=>?_
  ·rw[List.nodup_cons];refine⟨λj=>?_,rX.imp λh=>by omega⟩;simp_all[jP,gN]
  ·rw[γq,jP,jP,Ω];constructor
   ·rintro⟨a,b⟩;by_cases e:x=k;·exact .inl e
    ·exact .inr ⟨a,by rw[gN (by omega),if_neg (by omega)];exact b⟩
   grind[gN]
 have:=c.length_eq;omega
theorem Ah {en:Int->Bool} {s:cm} {a:bC}:(dx en s a).bp=s.bp/\(dx en s a).err=s.err/\s.val<=(dx en s a).val/\((dx en s a).val=s.val\/(dx en s a).val=a.value)/\((dx en s a).ch=s.ch\/(dx en s a).ch=a.bm):=by
 grind[dx]
theorem Ag {p:cj} {en:Int->Bool} {s:cm} {f:List Int}:(cF p en s f).bp=s.bp/\(cF p en s f).err=s.err/\s.val<=(cF p en s f).val/\((cF p en s f).val=s.val\/(cF p en s f).val=(nC p f).value)/\((cF p en s f).ch=s.ch\/(cF p en s f).ch=(nC p f).bm):=by
 grind[cF,Ah]
theorem S1 {x:List Rat}:(dP x).length<=x.length:=by
 have:=List.length_filter_le (λi:Int=>decide (0<bN x i.toNat 0)) (cA x.length);rw[gR] at this;exact this
theorem S0 {p:cj} {f:List Int} (b:f.length=p.bi.length):∀x∈(dP (cP p f)).map (oI p),x∈p.bi:=λx a=>by
 obtain⟨i,c,rfl⟩:=Γ.1 a;have:=(uJ.1 c).1;rw[pA,b] at this;exact cB (by omega)
theorem KT {p:cj} {f:List Int} (h:dR p f):0<=(nC p f).value/\(nC p f).value<=160000000/\(nC p f).bm.length<=160:=by
 have a:=cN h.c;have b:=@oA p a ((dP (cP p f)).map (oI p)) (S0 h.l);have d:=@S1 (cP p f);rw[pA,h.l] at d;have e:=a.2.1;rw[Ξ] at b;refine⟨b.1,?_,?_⟩
 ·show bG _<=_;omega
 ·show(dP (cP p f)).length<=160;omega
theorem Dn {p:cj} (a:nW p=0) {c:List Int} (h:dn p.bi.length c):bU p c=0↔ir p (c.map (oI p))=true:=by
 simp_all[zp,fY,cM,bU]
theorem uI {p:cj} (a:nW p=0) {c:List Int} (h:dn p.bi.length c):cC p c=bG (c.map (oI p)):=by
 simp_all[cM,zp,cC]
theorem pz {p:cj} {en:Int->Bool} {bA:Int}:∀{n:Nat} {s:cm} {a:Int} {f:List Int},dR p f->s.bp.length<=(cR p en bA n s a f).bp.length/\((cR p en bA n s a f).bp.length<=bA\/(cR p en bA n s a f).bp.length=s.bp.length)/\s.val<=(cR p en bA n s a f).val/\((cR p en bA n s a f).val=s.val\/(cR p en bA n s a f).val<=160000000)/\((cR p en bA n s a f).ch=s.ch\/(cR p en bA n s a f).ch.length<=160)/\((cR p en bA n s a f).err=s.err\/(cR p en bA n s a f).err=12):=by
 have d:∀{b:cm->Int->List Int->cm},(∀{s:cm} {a:Int} {f:List Int},dR p f->s.bp.length<=(b s a f).bp.length/\((b s a f).bp.length<=bA\/(b s a f).bp.length=s.bp.length)/\s.val<=(b s a f).val/\((b s a f).val=s.val\/(b s a f).val<=160000000)/\((b s a f).ch=s.ch\/(b s a f).ch.length<=160)/\((b s a f).err=s.err\/(b s a f).err=12))->
   ∀{s:cm} {a:Int} {f:List Int},dR p f->s.bp.length<=(ez p en bA b s a f).bp.length/\((ez p en bA b s a f).bp.length<=bA\/(ez p en bA b s a f).bp.length=s.bp.length)/\s.val<=(ez p en bA b s a f).val/\((ez p en bA b s a f).val=s.val\/(ez p en bA b s a f).val<=160000000)/\((ez p en bA b s a f).ch=s.ch\/(ez p en bA b s a f).ch.length<=160)/\((ez p en bA b s a f).err=s.err\/(ez p en bA b s a f).err=12):=by
  intro b c s a f h;obtain⟨v,j,E,l,r⟩:=@Ag p en s f;obtain⟨H,A,L⟩:=KT h;have w:(cF p en s f).ch=s.ch\/(cF p en s f).ch.length<=160:=r.imp id λh=>by simp_all
  have x:(cF p en s f).val=s.val\/(cF p en s f).val<=160000000:=l.imp id λh=>by omega
  unfold ez;split;·simp_all
  split;·simp_all
  split;·simp_all
  split;·simp_all
  rename_i k J;split;·simp_all
  rename_i o;have F:(fK (cF p en s f) a k).bp.length=s.bp.length+2:=by
   simp_all[fK]
  obtain⟨D,K,u,z,e,t⟩:=@c (fK (cF p en s f) a k) ((cF p en s f).bp.length+1) (f.set k.toNat 1) (h.set (by omega));obtain⟨B,C,G,I,g,M⟩:=@c (b (fK (cF p en s f) a k) ((cF p en s f).bp.length+1) (f.set k.toNat 1)) (cF p en s f).bp.length (f.set k.toNat (-1)) (h.set (by omega));have i:(fK (cF p en s f) a k).val=(cF p en s f).val:=rfl;have m:(fK (cF p en s f) a k).ch=(cF p en s f).ch:=rfl;have q:(fK (cF p en s f) a k).err=(cF p en s f).err:=rfl;rw[v] at o;rw[i] at u z;rw[m] at e;rw[q,j] at t;refine⟨by omega,.inl (by omega),by omega,by omega,?_,?_⟩
  ·rcases g with g|g
   ·rw[g];rcases e with e|e<;>simp_all
   omega
  omega
 intro n;induction n with
 |zero=>exact d λ{s a f} _=>⟨Nat.le_refl _,.inr rfl,εM _,.inl rfl,.inl rfl,.inl rfl⟩;|succ n y=>exact d λh=>y h
inductive g_ (p:cj) (v:Int) (t:List cz):Nat->List Int->Nat->Nat->Prop
 |ec {a:Nat} {f:List Int} {lo:Nat}:t[a]?=some (oX p f)->f_ p f=true->hJ p f<((v+1:Int):Rat)->g_ p v t a f lo lo
 |j7 {a:Nat} {f:List Int} {lo:Nat}:t[a]?=some ze->f_ p f=false->g_ p v t a f lo lo
 |bra {a:Nat} {f:List Int} {lo mid hi:Nat} {k:Int}:t[a]?=some (jf k lo)->a<lo->(0<=k/\k<f.length)->bN f k.toNat 0=0->g_ p v t (lo+1) (f.set k.toNat 1) (lo+2) mid->g_ p v t lo (f.set k.toNat (-1)) mid hi->g_ p v t a f lo hi
section
variable {p:cj} {v v':Int} {t t':List cz} {a lo hi:Nat} {f:List Int}
theorem g_.le (h:g_ p v t a f lo hi):lo<=hi:=by
 induction h with
 |ec _ _ _=>omega;|j7 _ _=>omega;|bra _ _ _ _ _ _ b c=>omega
theorem g_.mono (h:g_ p v t a f lo hi) (q:v<=v') (e:∀i,i=a\/(lo<=i/\i<hi)->t'[i]?=t[i]?):g_ p v' t' a f lo hi:=by
 induction h with
 |ec c b d=>
  refine .ec (by simp_all) b ?_;have:((v+1:Int):Rat)<=((v'+1:Int):Rat):=by exact_mod_cast (show v+1<=v'+1 by omega)
  grind;|j7 c b=>exact .j7 (by simp_all) b;|bra c b d l k g m j=>
  have o:=k.le;have n:=g.le;exact .bra (by simp_all) b d l (m λi hi=>e i (by omega)) (j λi hi=>e i (by omega))
def Af (f:List Int) (l:List Int):Prop:=(∀i∈l,bN f i.toNat 0≠ -1)/\∀i∈zi f 1,i∈l
theorem KS {l:List Int} {k d:Int} (g:0<=k/\k<f.length) (m:bN f k.toNat 0=0) (e:∀i∈l,0<=i) (h:Af f l) (j:(d=1/\k∈l)\/(d= -1/\k∉l)):Af (f.set k.toNat d) l:=by
 obtain⟨b,c⟩:=h;refine⟨λi a=>?_,λi a=>?_⟩<;>grind[gN,jP]
theorem SZ {l m:List Int} (e:nW p=0) (f:∀i∈l,0<=i/\i<p.bi.length) (q:m.Nodup) (j:∀i∈m,i∈l) (o:l.Nodup) (h:ir p (l.map (oI p))=true):ir p (m.map (oI p))=true:=by
 refine nj.2 λr b=>?_;have d:=nj.1 h r b;have a:l.Perm (m++l.filter λi=>decide (i∉m)):=by
  grind
 have g:b_ p (l.map (oI p)) r=b_ p (m.map (oI p)) r+b_ p ((l.filter λi=>decide (i∉m)).map (oI p)) r:=by
  rw[sC,sC,sC,LQ (a.map _),γb,θe]
 have n:=@qu p r ((l.filter λi=>decide (i∉m)).map (oI p)) λx c=>by
  obtain⟨i,k,rfl⟩:=Γ.1 c;simp_all[jt]
 omega
theorem g_.sound (h:g_ p v t a f lo hi) (e:dR p f) {l:List Int} (d:dn p.bi.length l) (b:ir p (l.map (oI p))=true) (g:Af f l):bG (l.map (oI p))<=v:=by
 induction h with
 |ec o n m=>
  have j:=Hx (e.ok n) e.r d b g.1 g.2;have s:((bG (l.map (oI p)):Int):Rat)<((v+1:Int):Rat):=by grind
  have u:bG (l.map (oI p))<v+1:=by exact_mod_cast s
  omega;|j7 o n=>
  exfalso;have:=SZ e.c d.2 (rX.imp λh=>by omega) g.2 (vG d) b;grind[f_];|@bra a f lo y hi k o n m j s u x w=>
  by_cases q:k∈l;·exact x (e.set (by omega)) (KS m j (λi hi=>(d.2 i hi).1) g (.inl ⟨rfl,q⟩))
  ·exact w (e.set (by omega)) (KS m j (λi hi=>(d.2 i hi).1) g (.inr ⟨rfl,q⟩))
end
theorem KR {p:cj} {en:Int->Bool} {bA:Int}:∀{n:Nat} {s:cm} {a:Int} {f:List Int},dR p f->nF f<=n->(0<=a/\a<s.bp.length)->(cR p en bA n s a f).err=0->(cR p en bA n s a f).bn=false->
  g_ p (cR p en bA n s a f).val (cR p en bA n s a f).bp a.toNat f s.bp.length (cR p en bA n s a f).bp.length/\(∀i:Nat,i<s.bp.length->i≠a.toNat->(cR p en bA n s a f).bp[i]?=s.bp[i]?)/\s.err=0/\s.bn=false:=by
 have y:∀{b:cm->Int->List Int->cm} {s:cm} {a:Int} {f:List Int},dR p f->(0<=a/\a<s.bp.length)->
   (∀{s:cm} {a:Int} {g:List Int},dR p g->nF f=nF g+1->(0<=a/\a<s.bp.length)->s.bp.length<=(b s a g).bp.length/\s.val<=(b s a g).val/\((b s a g).err=0->(b s a g).bn=false->g_ p (b s a g).val (b s a g).bp a.toNat g s.bp.length (b s a g).bp.length/\(∀i:Nat,i<s.bp.length->i≠a.toNat->(b s a g).bp[i]?=s.bp[i]?)/\s.err=0/\s.bn=false))->
   (ez p en bA b s a f).err=0->(ez p en bA b s a f).bn=false->g_ p (ez p en bA b s a f).val (ez p en bA b s a f).bp a.toNat f s.bp.length (ez p en bA b s a f).bp.length/\(∀i:Nat,i<s.bp.length->i≠a.toNat->(ez p en bA b s a f).bp[i]?=s.bp[i]?)/\s.err=0/\s.bn=false:=by
  intro b s a f t C q e c;obtain⟨D,e2,e3,e4,e5⟩:=@Ag p en s f;have B:a.toNat<s.bp.length:=by omega
  unfold ez at e c ⊢;split at e;·simp_all
  rename_i x;have G:s.err=0/\s.bn=false:=by simpa using x
  rw[if_neg x] at c ⊢;split at e
  ·rename_i m;rw[if_pos m];refine⟨?_,λi u j=>?_,G⟩
   ·rw[Ω];exact .j7 (by simp_all) m
   ·show(s.bp.set a.toNat ze)[i]?=_;rw[δs (λh=>j h.symm)]
  rename_i m;rw[if_neg m] at c ⊢;have O:f_ p f=true:=by simpa using m
  split at e
  ·rename_i w;rw[if_pos w];refine⟨?_,λi u j=>?_,G⟩
   ·rw[Ω,D];refine .ec ?_ O w;simp_all
   ·show((cF p en s f).bp.set a.toNat _)[i]?=_;rw[δs (λh=>j h.symm),D]
  rename_i w;rw[if_neg w] at c ⊢;cases A:iN (cP p f) with
  |none=>simp_all;|some k=>
  rw[A] at e c;simp only at e c ⊢;split at e;·simp at e
  rename_i Q;rw[if_neg Q] at c ⊢;obtain⟨l,K,L⟩:=qK A;rw[pA] at l;have v:bN f k.toNat 0=0:=qL (t.ok O) t.r (by omega) K L;have n1:=kN l v (d:=1) (by omega);have Y:=kN l v (d:= -1) (by omega);have T:dR p (f.set k.toNat 1):=t.set (by omega);have f2:dR p (f.set k.toNat (-1)):=t.set (by omega);have S:(fK (cF p en s f) a k).bp.length=s.bp.length+2:=by
   simp_all[fK]
  rw[D] at e c ⊢;obtain⟨l1,v1,t1⟩:=@q (fK (cF p en s f) a k) ((s.bp.length:Int)+1) (f.set k.toNat 1) T n1 (by omega);generalize R:b (fK (cF p en s f) a k) ((s.bp.length:Int)+1) (f.set k.toNat 1)=I at*;obtain⟨l2,V,Z⟩:=@q I (s.bp.length:Int) (f.set k.toNat (-1)) f2 Y (by omega);generalize X:b I (s.bp.length:Int) (f.set k.toNat (-1))=P at*;obtain⟨N,F,U,w2⟩:=Z e c;obtain⟨J,H,w3,w4⟩:=t1 U w2;have M:∀i:Nat,i<s.bp.length+2->(fK (cF p en s f) a k).bp[i]?=if i=a.toNat then some (jf k s.bp.length) else(s.bp++[zN,zN])[i]?:=λi u=>by
   unfold fK;simp only[D];rw[List.getElem?_set];by_cases h:a.toNat=i;·simp_all
   ·rw[if_neg h,if_neg (λm=>h m.symm)]
  have E:((s.bp.length:Int)).toNat=s.bp.length:=by omega
  have z:((s.bp.length:Int)+1).toNat=s.bp.length+1:=by omega
  rw[E] at N F;rw[z] at J H;rw[S] at J H;have o:∀i:Nat,i<s.bp.length->P.bp[i]?=(fK (cF p en s f) a k).bp[i]?:=λi u=>by rw[F i (by omega) (by omega),H i (by omega) (by omega)]
  refine⟨.bra (k:=k) (mid:=I.bp.length) ?_ B l v ?_ N,λi u j=>?_,G⟩;·rw[o _ B,M _ (by omega),if_pos rfl]
  ·exact J.mono V λi u=>F i (by omega) (by omega)
  ·rw[o i u,M i (by omega),if_neg j,List.getElem?_append_left u]
 intro n;induction n with
 |zero=>
  intro s a f t W C e c;exact y t C (λ{s a g} _ h _=>by omega) e c;|succ n ih=>
  intro s a f t W C e c;refine y t C (λ{s a g} x m w=>?_) e c;have A:=@pz p en bA n s a g x;exact⟨A.1,A.2.2.1,λe c=>ih x (by omega) w e c⟩
theorem KQ {p:cj} {en:Int->Bool} {bA:Int} {G:List Int->Int->Bool->Prop} (u:∀c w b q w',G c w b->bU p q=0->cC p q=w'->w<w'->G q w' (b||en w')):
  ∀{n:Nat} {s:cm} {a:Int} {f:List Int},dR p f->G s.ch s.val s.bn->G (cR p en bA n s a f).ch (cR p en bA n s a f).val (cR p en bA n s a f).bn:=by
 have k:∀{d:cm->Int->List Int->cm},(∀{s:cm} {a:Int} {f:List Int},dR p f->G s.ch s.val s.bn->G (d s a f).ch (d s a f).val (d s a f).bn)->
   ∀{s:cm} {a:Int} {f:List Int},dR p f->G s.ch s.val s.bn->G (ez p en bA d s a f).ch (ez p en bA d s a f).val (ez p en bA d s a f).bn:=by
  intro d e s a f i j;unfold ez;split;·exact j
  split;·exact j
  rename_i t;have y:f_ p f=true:=by simp_all
  have m:G (cF p en s f).ch (cF p en s f).val (cF p en s f).bn:=by
   unfold cF;split
   ·rename_i A;unfold dx;split
    ·rename_i o;obtain⟨z,B⟩:=KZ (i.ok y) i.r A.2;have g:dn p.bi.length (dP (cP p f)):=by
      have:=@K0 (cP p f);rw[pA,i.l] at this;exact this
     refine u _ _ _ _ _ j ?_ ?_ o;·exact(Dn i.c g).2 z
     ·exact uI i.c g
    ·exact j
   ·exact j
  split;·exact m
  split;·exact m
  split;·exact m
  ·exact e (i.set (by omega)) (e (i.set (by omega)) m)
 intro n;induction n with
 |zero=>exact k λ_ h=>h;|succ n x=>exact k λv t=>x v t
theorem two_pow_pos (n:Nat):1<=2^n:=ζ2
theorem KP {p:cj} {en:Int->Bool} {bA:Int}:∀{n:Nat} {s:cm} {a:Int} {f:List Int},dR p f->nF f<=n->s.err=0->((s.bp.length+2^(nF f+1):Nat):Int)<=bA+2->(cR p en bA n s a f).err=0/\(cR p en bA n s a f).bp.length+2<=s.bp.length+2^(nF f+1):=by
 have l:∀{c:cm->Int->List Int->cm} {s:cm} {a:Int} {f:List Int},dR p f->s.err=0->((s.bp.length+2^(nF f+1):Nat):Int)<=bA+2->
   (∀{s:cm} {a:Int} {g:List Int},dR p g->nF f=nF g+1->s.err=0->((s.bp.length+2^(nF g+1):Nat):Int)<=bA+2->(c s a g).err=0/\(c s a g).bp.length+2<=s.bp.length+2^(nF g+1))->
   (ez p en bA c s a f).err=0/\(ez p en bA c s a f).bp.length+2<=s.bp.length+2^(nF f+1):=by
  intro c s a f b t u C;obtain⟨L,J,T,X,e5⟩:=@Ag p en s f;have F:2<=2^(nF f+1):=by grind
  unfold ez;split;·omega
  split;·simp_all
  rename_i E N;have x:f_ p f=true:=by simp_all
  split;·simp_all
  rename_i v;cases A:iN (cP p f) with
  |none=>
   exfalso;apply v;have o:lB (cP p f)=true:=by
    unfold lB;rw[ψ];intro q H;obtain⟨i,B,rfl⟩:=γJ H;have w:=S2 A i B;obtain⟨M,I,_⟩:=Ak (b.ok x) b.r (show i<f.length by grind[pA]);rw[bW B] at w M I;rcases(show(cP p f)[i]=0\/(cP p f)[i]=1 by grind) with e|e<;>simp_all
   obtain⟨Y,K⟩:=KZ (b.ok x) b.r o;have P:((nC p f).value:Rat)=hJ p f:=K;by_cases D:((s.val+1:Int):Rat)<=hJ p f
   ·have O:s.val<(nC p f).value:=by
     rw[<-P] at D;have:s.val+1<=(nC p f).value:=by exact_mod_cast D
     omega
    have:(cF p en s f).val=(nC p f).value:=by
     simp_all[cF,dx]
    grind
   grind;|some k=>
   simp only;obtain⟨j,z,y⟩:=qK A;rw[pA] at j;have m:bN f k.toNat 0=0:=qL (b.ok x) b.r (by omega) z y;have n1:=kN j m (d:=1) (by omega);have n2:=kN j m (d:= -1) (by omega);have W:dR p (f.set k.toNat 1):=b.set (by omega);have Z:dR p (f.set k.toNat (-1)):=b.set (by omega);have V:(fK (cF p en s f) a k).bp.length=s.bp.length+2:=by
    grind[fK]
   have U:2^(nF f+1)=2^(nF (f.set k.toNat 1)+1)+2^(nF (f.set k.toNat 1)+1):=by
    grind
   have ne:nF (f.set k.toNat (-1))=nF (f.set k.toNat 1):=by omega
   have Q:2<=2^(nF (f.set k.toNat 1)+1):=by omega
   rw[if_neg (by rw[L];omega)];have S:(fK (cF p en s f) a k).err=0:=by show(cF p en s f).err=0;rw[J,t]
   grind
 intro n;induction n with
 |zero=>
  intro s a f b G t u;exact l b t u λ{s a g} _ h _ _=>by omega;|succ n R=>
  intro s a f b G t u;exact l b t u λ{s a g} E N v w=>R E (by omega) v w
def Ae (p:ik) (lo:Nat) (Λ:Nat->bK):IR->bF->(bF->Prop)->Prop
 | .skip,b,K=>K b
 | .seq x y,b,K=>wpS p lo x Λ b λc a=>match c with
  | .norm=>Ae p lo Λ y a K
  |_=>False
 |_,_,_=>False
def Ad (p:ik) (Λ:Nat->bK) (F:eu) (args:List SV) (o:TP) (Q:SV->TP->Prop):Prop:=
 match F.body with
 | .dfr g c d a b=>Ae p o.length Λ a ⟨lR 0 args,o⟩ λe=>wpS p e.o.length b Λ ⟨(d,.ud)::e.env,e.o⟩ λi j=>if pN i=true then
   (match p.it g with
    |some G=>if(c.map (iL e.env)).length=G.params/\G.res.isEmpty=true then wpS p j.o.length G.body (λn=>Λ (1000+n)) ⟨lR 0 (c.map (iL e.env)),j.o⟩ λf h=>if pN f=true then
      mE ⟨j.env,h.o⟩ F.res λr=>if r.VI o.length&&h.o.all (λx=>x.VI o.length)&&decide (o.length<=h.o.length) then Q r (h.o.take o.length) else False
     else False else False
    |none=>False) else False
 |_=>False
section
variable {P:Program} {T:jn} {p:ik} {Λ:Nat->bK}
theorem SY (i:nT T.K p.C) (j:∀f F,p.it f=some F->T.fn f=some F) {lo:Nat}:∀{a:IR} {st:bF} {K:bF->Prop},Ae p lo Λ a st K->∃s0:bF,(∃N,∀n,N<=n->pO (exec T .plain n lo) a st.g=some s0.g)/\K s0:=by
 intro a;induction a with
 |skip=>intro st K h;exact⟨st,⟨0,λ_ _=>rfl⟩,h⟩;|seq x y _ d=>
  intro st K h;simp only[Ae] at h;obtain⟨c,s,⟨N,e⟩,r,rfl,b⟩:=tN i j h;cases c with
  |norm=>
   obtain⟨s0,⟨M,m⟩,k⟩:=d b;refine⟨s0,⟨N+M,λn o=>?_⟩,k⟩;simp only[pO,e n n (by omega) (by omega)];grind;|exit q=>exact b.elim;|ret=>exact b.elim;|goto l=>exact b.elim
 |_=>intro st K h;exact h.elim
theorem SX (J:jY P T) (u:nT T.K p.C) (n:∀f F,p.it f=some F->T.fn f=some F) {f:FuncId} {F:eu} (S:T.fn f=some F) {args:List SV} {o:TP} {r:AV} {o':a_} (V:T.K f (gL args) (gO o) true=none) (B:args.length=F.params)
  {Q:SV->TP->Prop} (A:∀v s,Q v s->v.g=r/\gO s=o') (h:Ad p Λ F args o Q):fU P f=true/\jD P f (gL args) (gO o) r o':=by
 unfold Ad at h;split at h
 ·rename_i g a d ia ib Z;obtain⟨b,h1,h⟩:=SY u n h;obtain⟨O,U,h2,c,rfl,h⟩:=tN u n h;split at h
  ·rename_i k;split at h
   ·rename_i G hG;split at h
    ·rename_i Y;obtain⟨D,I,h3,i,rfl,h⟩:=tN u n h;split at h
     ·rename_i j;obtain⟨t,k1,m⟩:=vf h;split at m
      ·rename_i y;simp only[θ,decide_eq_true_eq,ψ] at y;obtain⟨⟨a2,L⟩,N⟩:=y;have R:(bF.mk (lR 0 args) o).g=⟨gp 0 (gL args),gO o⟩:=by simp[bF.g,tM]
       have w:(gO o).length=o.length:=mC o;have a1:b.g.o.length=b.o.length:=mC b.o;have a0:c.g.o.length=c.o.length:=mC c.o;have H:a.map (dQ b.g.env)=gL (a.map (iL b.env)):=by
        rw[ft,γP];refine γI λx _=>?_;show dQ (gE b.env) x=_;grind[xB]
       have z:(bF.mk ((d,.ud)::b.env) b.o).g=⟨(d,.ud)::b.g.env,b.g.o⟩:=by simp[bF.g,gE,SV.g]
       have E:(bF.mk (lR 0 (a.map (iL b.env))) c.o).g=⟨gp 0 (gL (a.map (iL b.env))),c.g.o⟩:=by simp[bF.g,tM]
       have W:(bF.mk c.env i.o).g=⟨c.g.env,i.g.o⟩:=rfl;have q:∀x∈gO i.o,x.VI o.length=true:=by
        grind[gO,An]
       have l:finish true (gO o).length t.g i.g.o=some (r,o'):=by
        simp only[finish,if_true,w];have e:kK o.length t.g i.g.o=some (t.g,(i.g.o).take o.length):=Ny (by grind[xA]) q (by show o.length<=(gO i.o).length;grind[mC]);rw[e,<-(A _ _ m).1,<-(A _ _ m).2];simp_all[bF.g,gO]
       obtain⟨X,M,_⟩:=XE J S Z (own:=true) V (by grind[jk]) (s0:=b.g) (s2:=c.g) (s3:=i.g) (by simp_all) (by simp_all) k (n g G hG) (by grind) Y.2 (by simp_all) j (by simp_all) l;exact⟨X,M⟩
      ·exact m.elim
     ·exact h.elim
    ·exact h.elim
   simp_all
  ·exact h.elim
 simp_all
end
theorem SU {P:Program} {d:FuncId->Option eu} {L:List NG} {W:List cW} (c:cW) {F:eu} {k:TypeId->Option ew} {e:List Nat×Bool->Option (ew×ew)} {Λ:c.α->Nat->bK}
  (n:jY P ⟨d,λ_ _ _ _=>none⟩) (i:∀c∈W,dD P c) (o:∀c∈L,Holds P c)
  (l:d c.f=some F) (b:∀a,(c.put a).length=F.params)
  (a:c.α) (m:mA c.f W=none)
  (h:Ad (kx L (fT W) k e d) (Λ a) F (c.put a) (c.st a) λv s=>v.as (c.res a)/\jX s (c.out a)):
  fU P c.f=true/\jD P c.f (gL (c.put a)) (gO (c.st a)) (c.res a).g (gO (c.out a)):=by
 refine SX (p:=kx L (fT W) k e d) (Λ:=Λ a) (Q:=λv s=>v.as (c.res a)/\jX s (c.out a)) (rL (ke i) o n) (rK (ke i)) (λ_ _ h=>h) l ?_ (b a) (λv s j=>⟨j.1,vg j.2⟩) h;simp_all[nS,pV,fT,rJ]
theorem SS {k:Nat} {r a:AV} {o mid o2:a_} (c:r.Q5 o (λi=>decide (k<=i))=some a) (g:iU o (λi=>decide (k<=i)) o=some mid) (e:e_ (λi=>decide (k<=i)) 0 mid=o2) (f:a.VI k=true) (d:∀x∈o2,x.VI k=true) (l:k<=o2.length):kK k r o=some (a,o2.take k):=by
 unfold kK;rw[c,g];simp only[e];have m:∀x∈o2.take k,x.VI k=true:=λx h=>d x (List.mem_of_mem_take h);rw[NC (by grind[dJ,G6])];have j:gV.aoF (List.range k)=true:=by rw[δH];exact nodup_range'
 rw[if_pos j,A6 f];have b:=G7 (k:=k) (o:=o2) m l (n:=k) (s:=0) (by omega);rw[<-δH,List.drop_zero] at b;rw[b]
def Ac (k:Nat) (r:SV) (o:TP) (K:SV->TP->Prop):Prop:=
 kd o k r λb=>nl o k 0 o λa=>if b.VI k&&a.all (λx=>x.VI k)&&decide (k<=a.length) then K b (a.take k) else False
theorem SR {k:Nat} {r:SV} {o:TP} {K:SV->TP->Prop} (h:Ac k r o K):∃r' o',kK k r.g (gO o)=some (r'.g,gO o')/\K r' o':=by
 unfold Ac at h;obtain⟨l,p,f⟩:=Fx h;obtain⟨c,i,n,m,a⟩:=uZ f;split at a
 ·rename_i b;simp only[θ,decide_eq_true_eq,ψ] at b;obtain⟨⟨d,j⟩,e⟩:=b;refine⟨l,c.take k,?_,a⟩;simp_all[SS,xA,gO,An]
 simp_all
def B2 (p:ik) (Λ:Nat->bK) (F:eu) (args:List SV) (o:TP) (Q:SV->TP->Prop):Prop:=
 wpS p o.length F.body Λ ⟨lR 0 args,o⟩ λa b=>match a with
  | .exit _=>False
  | .goto _=>False
  |_=>mE b F.res λr=>Ac o.length r b.o Q
theorem SQ {P:Program} {T:jn} {p:ik} {Λ:Nat->bK} (A:jY P T) (t:nT T.K p.C) (y:∀f F,p.it f=some F->T.fn f=some F) {f:FuncId} {F:eu} (n:T.fn f=some F) {args:List SV} {o:TP} {r:AV} {o':a_} (z:T.K f (gL args) (gO o) true=none) (j:args.length=F.params)
  {Q:SV->TP->Prop} (D:∀v s,Q v s->v.g=r/\gO s=o') (h:B2 p Λ F args o Q):fU P f=true/\jD P f (gL args) (gO o) r o':=by
 unfold B2 at h;have e:=tN t y h;have d:(bF.mk (lR 0 args) o).g=⟨gp 0 (gL args),gO o⟩:=by simp[bF.g,tM]
 rw[d] at e;have i:(gO o).length=o.length:=mC o;rw[<-i] at e;have x:∀(a:bF),(mE a F.res λv=>Ac (gO o).length v a.o Q)->(mL a.g F.res).bind (λc=>finish true (gO o).length c a.g.o)=some (r,o'):=by
  intro a m;obtain⟨c,k,l⟩:=vf m;obtain⟨u,q,w,E⟩:=SR l;rw[k];simp only[Option.bind_some,finish,if_true];have:kK (gO o).length c.g a.g.o=some (u.g,gO q):=w;grind
 obtain⟨k,l,_⟩:=AB A n (o:=gO o) (own:=true) z (by grind[jk]) (v:=r) (o':=o') (e.mono λb s B=>by
  obtain⟨a,rfl,m⟩:=B;cases b<;>simp_all);simp_all
theorem SP {P:Program} {d:FuncId->Option eu} {L:List NG} {W:List cW} (c:cW) {F:eu} {k:TypeId->Option ew} {e:List Nat×Bool->Option (ew×ew)} {Λ:c.α->Nat->bK}
  (n:jY P ⟨d,λ_ _ _ _=>none⟩) (i:∀c∈W,dD P c) (o:∀c∈L,Holds P c)
  (l:d c.f=some F) (b:∀a,(c.put a).length=F.params)
  (a:c.α) (m:mA c.f W=none)
  (h:B2 (kx L (fT W) k e d) (Λ a) F (c.put a) (c.st a) λv s=>v.as (c.res a)/\jX s (c.out a)):
  fU P c.f=true/\jD P c.f (gL (c.put a)) (gO (c.st a)) (c.res a).g (gO (c.out a)):=by
 refine SQ (p:=kx L (fT W) k e d) (Λ:=Λ a) (Q:=λv s=>v.as (c.res a)/\jX s (c.out a)) (rL (ke i) o n) (rK (ke i)) (λ_ _ h=>h) l ?_ (b a) (λv s j=>⟨j.1,vg j.2⟩) h;simp_all[nS,pV,fT,rJ]
structure cY where
 p:cj
 ch:List Int
 val:Int
 bn:Bool
 en:Option Int
 k1:Nat
 k2:Nat
 bA:Int
 err:Int
 bp:List cz
 fx:List Int
def cY.cs (x:cY) (e:SV) (i j:Nat):List SV:=[.row (.i .i64) x.ch,.si .i64 x.val,.sb x.bn,e,.ow i x.k1 5,.ow j x.k2 1,.si .i64 x.bA,.si .i64 x.err]
def cY.uH (x:cY):TP:=[.cells (x.p.ss++x.cs (.fn (.func 70) [] []) 1 2) 126 28 false,.row Ao x.bp 108 true,.row (.i .i64) x.fx 3 true]
def cY.uG (x:cY) (m:Int):TP:=[.cells (x.p.ss++x.cs (.fn (.func 116) [] [.ptr 1 0 1]) 2 3) 126 28 false,.cells [.si .i64 m] 2 1 false,.row Ao x.bp 108 true,.row (.i .i64) x.fx 3 true]
def cY.fO (x:cY):TP:=match x.en with
 |none=>x.uH
 |some m=>x.uG m
def Dm:TP->Option cY
 |[.cells cs 126 28 false,.row s1 l1 108 true,.row s2 l2 3 true]=>match cs.drop 20 with
  |[c,v,b,.fn (.func 70) [] [],.ow 1 k1 5,.ow 2 k2 1,mo,er]=>match tK (cs.take 20),iI (.i .i64) c,v.int .i64,b.pn,mo.int .i64,er.int .i64 with
   |some p,some c,some v,some b,some mo,some er=>match gG s1 Ao l1,gG s2 (.i .i64) l2 with
    |some l1,some l2=>some ⟨p,c,v,b,none,k1,k2,mo,er,l1,l2⟩
    |_,_=>none
   |_,_,_,_,_,_=>none
  |_=>none
 |[.cells cs 126 28 false,.cells [m] 2 1 false,.row s1 l1 108 true,.row s2 l2 3 true]=>match cs.drop 20 with
  |[c,v,b,.fn (.func 116) [] [.ptr 1 0 1],.ow 2 k1 5,.ow 3 k2 1,mo,er]=>match tK (cs.take 20),iI (.i .i64) c,v.int .i64,b.pn,mo.int .i64,er.int .i64 with
   |some p,some c,some v,some b,some mo,some er=>match gG s1 Ao l1,gG s2 (.i .i64) l2,m.int .i64 with
    |some l1,some l2,some m=>some ⟨p,c,v,b,some m,k1,k2,mo,er,l1,l2⟩
    |_,_,_=>none
   |_,_,_,_,_,_=>none
  |_=>none
 |_=>none
theorem SO {o:TP} {x:cY} (h:Dm o=some x):gO o=gO x.fO:=by
 unfold Dm at h;split at h
 ·rename_i cs s1 l1 s2 l2;split at h
  ·rename_i c v b k1 k2 mo er hd;split at h
   ·rename_i p c' v' b' mo' er' h1 h2 h3 h4 h5 h6;split at h
    ·rename_i l1' l2' g1 g2;simp only[γ] at h;subst h;obtain⟨rfl,e1⟩:=lq g1;obtain⟨rfl,e2⟩:=lq g2;cases e1;cases e2;have e3:gL cs=gL p.ss++gL [c,v,b,.fn (.func 70) [] [],.ow 1 k1 5,.ow 2 k2 1,mo,er]:=by
      rw[<-hd,<-xt h1,<-rN,γT]
     simp only[cY.fO,cY.uH,cY.cs,gO,ξ,γw,iZ.g,rN,e3];simp only[gL,nn h2,gU h3,tj h4,gU h5,gU h6,SV.g]
    ·cases h
   ·cases h
  ·cases h
 ·rename_i cs m s1 l1 s2 l2;split at h
  ·rename_i c v b k1 k2 mo er hd;split at h
   ·rename_i p c' v' b' mo' er' h1 h2 h3 h4 h5 h6;split at h
    ·rename_i l1' l2' m' g1 g2 g3;simp only[γ] at h;subst h;obtain⟨rfl,e1⟩:=lq g1;obtain⟨rfl,e2⟩:=lq g2;cases e1;cases e2;have e3:gL cs=gL p.ss++gL [c,v,b,.fn (.func 116) [] [.ptr 1 0 1],.ow 2 k1 5,.ow 3 k2 1,mo,er]:=by
      rw[<-hd,<-xt h1,<-rN,γT]
     simp only[cY.fO,cY.uG,cY.cs,gO,ξ,γw,iZ.g,rN,e3];simp only[gL,nn h2,gU h3,tj h4,gU h5,gU h6,gU g3,SV.g]
    ·cases h
   ·cases h
  ·cases h
 ·cases h
theorem SN {p q:cj} (h:gL p.ss=gL q.ss):p=q:=cX.inj p q (by grind[cX,SV.g])
theorem SM {x y:cY} (h:gO x.fO=gO y.fO):x=y:=by
 obtain⟨p,E,u,b,J,H,G,k,o,A,L⟩:=x;obtain⟨B,n,d,a,l,r,v,c,f,q,C⟩:=y;have w:∀{e I:SV} {i j:Nat},gL (p.ss++(cY.mk p E u b J H G k o A L).cs e i j)=gL (B.ss++(cY.mk B n d a l r v c f q C).cs I i j)->p=B/\E=n/\u=d/\b=a/\H=r/\G=v/\k=c/\o=f:=by
  intro e I i j h;rw[rN,rN] at h;obtain⟨z,t⟩:=List.append_inj h (by rw[jk,jk];rfl);simp only[cY.cs,gL,SV.g,Θ,δe,Value.int.injEq,Value.bool.injEq,AV.os.injEq,AV.sl.injEq,and_true,true_and] at t;grind[SN,mZ]
 cases J with
 |none=>
  cases l with
  |none=>
   simp only[cY.fO,cY.uH,gO,ξ,γw,iZ.g,Θ,OL.cells.injEq,and_true] at h;obtain⟨z,t,D⟩:=h;obtain⟨rfl,rfl,rfl,rfl,rfl,rfl,rfl,rfl⟩:=w z;rw[mZ (s:=Ao) t,mZ (s:=.i .i64) D];|some K=>
   have:=congrArg γd h;simp_all[cY.fO,cY.uH,cY.uG,gO]
 |some m=>
  cases l with
  |none=>
   have:=congrArg γd h;simp_all[cY.fO,cY.uH,cY.uG,gO];|some K=>
   simp only[cY.fO,cY.uG,gO,ξ,γw,iZ.g,Θ,OL.cells.injEq,and_true] at h;obtain⟨z,F,t,D⟩:=h;obtain⟨rfl,rfl,rfl,rfl,rfl,rfl,rfl,rfl⟩:=w z;simp only[gL,SV.g,Θ,δe,Value.int.injEq,and_true,true_and] at F;subst F;rw[mZ (s:=Ao) t,mZ (s:=.i .i64) D]
def B1 (f:FuncId) (c:Type) (A:oC c) (i:cY->c->Prop) (e:cY->c->SV) (out:cY->c->cY):cW where
 f:=f;α:=cY×c;put a:=.ptr 0 0 28::A.put a.2;st a:=a.1.fO;dec v o:=match v with
  | .ptr 0 0 28::r=>match Dm o,A.dec r with
   |some s,some b=>some (s,b)
   |_,_=>none
  |_=>none;ok v o a h:=by
  split at h
  ·split at h
   ·rename_i d g;simp only[γ] at h;subst h;exact⟨by simp only[gL,A.ok _ _ g],SO d⟩
   ·cases h
  ·cases h
 inj a b d g:=by
  simp only[gL,Θ,true_and] at d;exact Prod.ext (SM g) (A.inj _ _ d)
 dom a:=i a.1 a.2;res a:=e a.1 a.2;out a:=(out a.1 a.2).fO
def bI (e:Option Int) (v:Int):Bool:=match e with
 |none=>false
 |some m=>decide (m<=v)
def cY.s (x:cY):cm:=⟨x.ch,x.val,x.bn,x.bp,x.err⟩
def cY.ix (x:cY) (s:cm):cY:=⟨x.p,s.ch,s.val,s.bn,x.en,s.bp.length,x.k2,x.bA,s.err,s.bp,x.fx⟩
structure ek (x:cY):Prop where
 f:dR x.p x.fx
 k1:x.k1=x.bp.length
 k2:x.k2=x.fx.length
 v0:0<=x.val
 v1:x.val<=9223372036854775806
 m0:1<=x.bA
 m1:x.bA<=65536
 l:x.bp.length<=65536
 c:x.ch.length<=9223372036854775807
def Dl:cW where
 f:=70;α:=bC;put a:=[kr.put a];st _:=[];dec v o:=match v,o with
  |[a],[]=>kr.dec a
  |_,_=>none;ok v o a h:=by
  split at h;·exact⟨by simp only[gL,kr.ok _ _ h],rfl⟩
  ·cases h
 inj a b h1 _:=by
  simp only[gL,Θ,and_true] at h1;exact kr.inj _ _ h1
 dom _:=True;res _:=.sb false;out _:=[]
theorem H6:dD Tryz.prog Dl:=by
 refine kq (L:=[]) (W:=[]) Dl lk (by simp) (by simp) ?_;rintro(a:bC) -;refine NI ((SV.bl false).as (γB false)/\True) (by kernel_rfl) ?_;simp_all
def D7:cW where
 f:=116;α:=bC×Int;put a:=[kr.put a.1,.ptr 0 0 1];st a:=[.cells [.si .i64 a.2] 2 1 false];dec v o:=match v,o with
  |[a,.ptr 0 0 1],[.cells [m] 2 1 false]=>match kr.dec a,m.int .i64 with
   |some a,some m=>some (a,m)
   |_,_=>none
  |_,_=>none;ok v o a h:=by
  split at h
  ·split at h
   ·rename_i h1 h2;simp only[γ] at h;subst h;exact⟨by simp only[gL,kr.ok _ _ h1],by simp only[gO,ξ,γw,iZ.g,gL,gU h2,SV.g]⟩
   ·cases h
  ·cases h
 inj a b h1 h2:=by
  simp only[gL,Θ,and_true] at h1;simp only[gO,ξ,γw,iZ.g,gL,SV.g,Θ,OL.cells.injEq,δe,Value.int.injEq,and_true,true_and] at h2;exact Prod.ext (kr.inj _ _ h1) h2
 dom _:=True;res a:=.sb (decide (a.2<=a.1.value));out a:=[.cells [.si .i64 a.2] 2 1 false]
theorem H5:dD Tryz.prog D7:=by
 refine kq (L:=[]) (W:=[]) D7 lk (by simp) (by simp) ?_;rintro⟨a,m⟩ -;refine NI (let b:=iZ.cells [γj .i64 m] 2 1 false;(γB (decide (m<=a.value))).as (γB (decide (m<=a.value)))/\b.as b/\True) (by kernel_rfl) ?_;conv=>zeta
 exact⟨rfl,rfl,trivial⟩
def wN:cW:=B1 71 bC (.one kr) (λx _=>x.k1=x.bp.length) (λ_ _=> .Gz []) λx a=>x.ix (dx (bI x.en) x.s a)
theorem tY:dD Tryz.prog wN:=by
 refine kq (L:=[]) (W:=[Dl,D7]) wN lk (by simpa using⟨H6,H5⟩) (by simp) ?_;rintro⟨⟨p,ch,val,bn,en,k1,k2,bA,err,bp,fx⟩,a⟩ hk;have hk:k1=bp.length:=hk;subst hk;have e1:∀en:Int->Bool,val<a.value->dx en ⟨ch,val,bn,bp,err⟩ a=⟨a.bm,a.value,bn||en a.value,bp,err⟩:=λen h=>if_pos h;have e2:∀en:Int->Bool,¬val<a.value->dx en ⟨ch,val,bn,bp,err⟩ a=⟨ch,val,bn,bp,err⟩:=λen h=>if_neg h;cases en with
 |none=>
  refine NI (let b:=γj .i64;let c:=iZ.row;let d:=iZ.cells;let e:=γa;let f:=SV.Gz;let k:=b p.bk.a0;let l:=b p.bk.a1;let m:=b p.bk.a2;let n:=b p.bk.a3;let o:=b p.bk.a4;let q:=b p.bk.a5;let r:=b p.bq.a0;let s:=b p.bq.a1;let t:=b p.bq.a2;let v:=b p.bq.a3;let w:=b p.bq.a4;let x:=b p.bq.a5;let y:=b p.bs.a0;let z:=b p.bs.a1;let A:=b p.bs.a2;let B:=b p.bs.a3;let C:=b p.bs.a4;let D:=b p.bs.a5;let h:=ew.i .i64;let E:=e h p.bj;let F:=e ew.bt p.bi;let G:=SV.fn (Fn.func 70) [] [];let H:=γ1 2 k2 1;let I:=b bA;let J:=[G,γ1 1 bp.length 5,H,I,b err];let g:=dx (bI none) (cm.mk ch val bn bp err) a;let K:=d [k,l,m,n,o,q,r,s,t,v,w,x,y,z,A,B,C,D,E,F,e h g.ch,b g.val,γB g.bn,G,γ1 1 g.bp.length 5,H,I,b g.err] 126 28 false;let j:=c h fx 3 true;let L:=decide (val<a.value);let M:=λ(u u_1:Bool) (u_2:List Int) (u_3:Int) (u_4:SV) ↦u=u_1->(f []).as (f [])/\(d (k::l::m::n::o::q::r::s::t::v::w::x::y::z::A::B::C::D::E::F::e h u_2::b u_3::u_4::J) 126 28 false).as K/\(c Ao bp 108 true).as (c Ao g.bp 108 true)/\j.as j/\True;(L=true->M bn true a.bm a.value (SV.bl true)/\(bn=false->True/\(f []).as (f [])/\(d (k::l::m::n::o::q::r::s::t::v::w::x::y::z::A::B::C::D::E::F::e h a.bm::b a.value::γB false::J) 126 28 false).as K/\(c Ao bp 108 true).as (c Ao g.bp 108 true)/\j.as j/\True))/\M L false ch val (γB bn)) (by kernel_rfl) ?_;conv=>zeta
  refine⟨λh=>?_,λh=>?_⟩
  ·simp only[e1 _ (of_decide_eq_true h)];refine⟨λhf=>?_,λhf=>?_⟩
   ·subst hf;exact⟨rfl,rfl,rfl,rfl,trivial⟩
   ·subst hf;exact⟨trivial,rfl,rfl,rfl,rfl,trivial⟩
  ·simp only[e2 _ (of_decide_eq_false h)];exact⟨rfl,rfl,rfl,rfl,trivial⟩;|some m=>
  refine NI (let b:=γj .i64;let c:=ew.i .i64;let d:=iZ.cells;let e:=γa;let f:=iZ.row;let g:=γ1;let h:=γV;let j:=SV.Gz;let k:=γB;(decide (val<a.value)=true->(bn=true->(j []).as (j [])/\(d [b p.bk.a0,b p.bk.a1,b p.bk.a2,b p.bk.a3,b p.bk.a4,b p.bk.a5,b p.bq.a0,b p.bq.a1,b p.bq.a2,b p.bq.a3,b p.bq.a4,b p.bq.a5,b p.bs.a0,b p.bs.a1,b p.bs.a2,b p.bs.a3,b p.bs.a4,b p.bs.a5,e (c) p.bj,e ew.bt p.bi,e (c) a.bm,b a.value,SV.bl true,SV.fn (Fn.func 116) [] [h 1 0 1],g 2 bp.length 5,g 3 k2 1,b bA,b err] 126 28 false).as (d [b p.bk.a0,b p.bk.a1,b p.bk.a2,b p.bk.a3,b p.bk.a4,b p.bk.a5,b p.bq.a0,b p.bq.a1,b p.bq.a2,b p.bq.a3,b p.bq.a4,b p.bq.a5,b p.bs.a0,b p.bs.a1,b p.bs.a2,b p.bs.a3,b p.bs.a4,b p.bs.a5,e (c) p.bj,e ew.bt p.bi,e (c) (dx (bI (some m)) (cm.mk ch val bn bp err) a).ch,b (dx (bI (some m)) (cm.mk ch val bn bp err) a).val,k (dx (bI (some m)) (cm.mk ch val bn bp err) a).bn,SV.fn (Fn.func 116) [] [h 1 0 1],g 2 (dx (bI (some m)) (cm.mk ch val bn bp err) a).bp.length 5,g 3 k2 1,b bA,b (dx (bI (some m)) (cm.mk ch val bn bp err) a).err] 126 28 false)/\(d [b m] 2 1 false).as (d [b m] 2 1 false)/\(f Ao bp 108 true).as (f Ao (dx (bI (some m)) (cm.mk ch val bn bp err) a).bp 108 true)/\(f (c) fx 3 true).as (f (c) fx 3 true)/\True)/\(bn=false->True/\(j []).as (j [])/\(d [b p.bk.a0,b p.bk.a1,b p.bk.a2,b p.bk.a3,b p.bk.a4,b p.bk.a5,b p.bq.a0,b p.bq.a1,b p.bq.a2,b p.bq.a3,b p.bq.a4,b p.bq.a5,b p.bs.a0,b p.bs.a1,b p.bs.a2,b p.bs.a3,b p.bs.a4,b p.bs.a5,e (c) p.bj,e ew.bt p.bi,e (c) a.bm,b a.value,k (decide (m<=a.value)),SV.fn (Fn.func 116) [] [h 1 0 1],g 2 bp.length 5,g 3 k2 1,b bA,b err] 126 28 false).as (d [b p.bk.a0,b p.bk.a1,b p.bk.a2,b p.bk.a3,b p.bk.a4,b p.bk.a5,b p.bq.a0,b p.bq.a1,b p.bq.a2,b p.bq.a3,b p.bq.a4,b p.bq.a5,b p.bs.a0,b p.bs.a1,b p.bs.a2,b p.bs.a3,b p.bs.a4,b p.bs.a5,e (c) p.bj,e ew.bt p.bi,e (c) (dx (bI (some m)) (cm.mk ch val bn bp err) a).ch,b (dx (bI (some m)) (cm.mk ch val bn bp err) a).val,k (dx (bI (some m)) (cm.mk ch val bn bp err) a).bn,SV.fn (Fn.func 116) [] [h 1 0 1],g 2 (dx (bI (some m)) (cm.mk ch val bn bp err) a).bp.length 5,g 3 k2 1,b bA,b (dx (bI (some m)) (cm.mk ch val bn bp err) a).err] 126 28 false)/\(d [b m] 2 1 false).as (d [b m] 2 1 false)/\(f Ao bp 108 true).as (f Ao (dx (bI (some m)) (cm.mk ch val bn bp err) a).bp 108 true)/\(f (c) fx 3 true).as (f (c) fx 3 true)/\True))/\(decide (val<a.value)=false->(j []).as (j [])/\(d [b p.bk.a0,b p.bk.a1,b p.bk.a2,b p.bk.a3,b p.bk.a4,b p.bk.a5,b p.bq.a0,b p.bq.a1,b p.bq.a2,b p.bq.a3,b p.bq.a4,b p.bq.a5,b p.bs.a0,b p.bs.a1,b p.bs.a2,b p.bs.a3,b p.bs.a4,b p.bs.a5,e (c) p.bj,e ew.bt p.bi,e (c) ch,b val,k bn,SV.fn (Fn.func 116) [] [h 1 0 1],g 2 bp.length 5,g 3 k2 1,b bA,b err] 126 28 false).as (d [b p.bk.a0,b p.bk.a1,b p.bk.a2,b p.bk.a3,b p.bk.a4,b p.bk.a5,b p.bq.a0,b p.bq.a1,b p.bq.a2,b p.bq.a3,b p.bq.a4,b p.bq.a5,b p.bs.a0,b p.bs.a1,b p.bs.a2,b p.bs.a3,b p.bs.a4,b p.bs.a5,e (c) p.bj,e ew.bt p.bi,e (c) (dx (bI (some m)) (cm.mk ch val bn bp err) a).ch,b (dx (bI (some m)) (cm.mk ch val bn bp err) a).val,k (dx (bI (some m)) (cm.mk ch val bn bp err) a).bn,SV.fn (Fn.func 116) [] [h 1 0 1],g 2 (dx (bI (some m)) (cm.mk ch val bn bp err) a).bp.length 5,g 3 k2 1,b bA,b (dx (bI (some m)) (cm.mk ch val bn bp err) a).err] 126 28 false)/\(d [b m] 2 1 false).as (d [b m] 2 1 false)/\(f Ao bp 108 true).as (f Ao (dx (bI (some m)) (cm.mk ch val bn bp err) a).bp 108 true)/\(f (c) fx 3 true).as (f (c) fx 3 true)/\True)) (by kernel_rfl) ?_;refine⟨λh=>?_,λh=>?_⟩
  ·simp only[e1 _ (of_decide_eq_true h)];refine⟨λhf=>?_,λhf=>?_⟩
   ·subst hf;exact⟨rfl,rfl,rfl,rfl,rfl,trivial⟩
   ·subst hf;exact⟨trivial,rfl,rfl,rfl,rfl,rfl,trivial⟩
  ·simp only[e2 _ (of_decide_eq_false h)];exact⟨rfl,rfl,rfl,rfl,rfl,trivial⟩
theorem B0 {a b:oz} (h:∀k,k<6->a.at k<=b.at k):a.le b=true:=by
 have i:=h 0 (by omega);have c:=h 1 (by omega);have d:=h 2 (by omega);have f:=h 3 (by omega);have g:=h 4 (by omega);have e:=h 5 (by omega);simp_all[oz.at,bN,oz.le_iff]
theorem SL {p:cj} {L:List bD} (d:(L.map bD.TM).Nodup) (c:ir p L=true):fp p L:=by
 refine⟨d,B0 λk a=>?_,B0 λk a=>?_⟩
 ·have h:=nj.1 c (p.bj.length+k) (by grind[cr]);rw[show(((p.bj.length+k:Nat)):Int)=p.bj.length+k by omega,MB a] at h;rw[lP,γP];have:b_ p L (p.bj.length+k)=(L.map ((λb=>oz.at b k)∘bD.bw)).sum:=by
   unfold b_;congr 1;simp_all[MD]
  omega
 ·have h:=nj.1 c (p.bj.length+6+k) (by grind[cr]);rw[show(((p.bj.length+6+k:Nat)):Int)=p.bj.length+6+k by omega,MA a] at h;rw[lP,γP];have:b_ p L (p.bj.length+6+k)=(L.map ((λb=>oz.at b k)∘dV p)).sum:=by
   unfold b_;congr 1;simp_all[MC]
  omega
theorem KO {l:List bD}:∀{t:List Int} {a:Int} {r:List bD}, -1<=a->dC l a t=some r->t.Pairwise (·<·)/\∀j∈t,a<j/\j<l.length
 |[],_,_,_,_=>by simp;|i::t,a,r,g,h=>by
  simp only[dC] at h;split at h;·cases h
  ·rename_i k;obtain⟨f,d,rfl⟩:=ε.1 h;obtain⟨e,c⟩:=KO (by omega) d;refine⟨γr.2 ⟨λj b=>(c j b).1,e⟩,λj b=>?_⟩;grind
def oh (p:cj) (t:List Int):Prop:=kY 0 p.bi.length t/\fp p (VJ p t)
theorem oW {p:cj} (c:nW p=0) {t:List Int}:bU p t=0↔oh p t:=by
 refine⟨λh=>?_,λh=>Mw c h.1 h.2⟩;have e:=WO h;obtain⟨i,a,l,m,o⟩:=F1 h;obtain⟨r,d⟩:=Option.isSome_iff_exists.1 a;obtain⟨f,g⟩:=KO (by omega) d;have n:cM p t=VJ p t:=by grind[cM,Bc]
 have b:ir p (VJ p t)=true:=by
  simp_all[bU]
 exact⟨⟨f,λj k=>by simp_all⟩,SL e b⟩
theorem KN {p:cj} (a:Good p):oh p []:=⟨⟨by simp,by simp⟩,of_decide_eq_true (Oa a)⟩
theorem uF {p:cj} (a:nW p=0) {t:List Int} (h:oh p t):cC p t=bG (VJ p t):=by
 grind[oW,WQ,xX,Bd]
theorem SK {p:cj} (c:nW p=0) {L:List bD} (b:fp p L) (d:∀x∈L,x∈p.bi):bG L<=pH p (allM p):=by
 have a:=cN c;have f:=xY a.1;rw[Ms c (m:=allM p) (by grind[allM]) (by grind[allM])];refine Bh a ⟨b.1,λx e=>?_,b.2.1,b.2.2⟩;have:=a.2.2.2.2 x (d x e);grind[Xd]
theorem Tv {p:cj} (c:nW p=0):∃L,fp p L/\(∀x∈L,x∈p.bi)/\bG L=pH p (allM p):=by
 have a:=cN c;have f:=xY a.1;rw[Ms c (m:=allM p) (by grind[allM]) (by grind[allM])];have h:=oz.gT.1 a.2.2.1;have g:=oz.gT.1 a.2.2.2.1;obtain⟨L,b,e⟩:=Bg a (MG (allM p)) (l:=p.bk) (o:=p.bq) (by grind[oz.le_iff,oz.zero]) (by grind[oz.le_iff,oz.zero]);exact⟨L,⟨b.nd,b.w,b.o⟩,λx d=>(b.mem x d).1,e⟩
def gj (p:cj):List Int:=δ p.bi.length 0
theorem uE {n:Nat}:nF (δ n 0)=n:=by
 have e:zi (δ n 0) 0=cA n:=by
  simp_all[zi,ji,bW]
 grind[gR]
theorem mP {p:cj} (a:nW p=0):dR p (gj p) where
 c:=a;l:=γE;r:=by
  unfold iP;rw[ψ];intro x b;rw[List.eq_of_mem_replicate b];decide
def jO (p:cj) (c:List Int):cm:=dx (bI none) (dx (bI none) ⟨c,cC p c,false,[zN],0⟩ (fA p c)) (fA p (jh p))
noncomputable def gB (p:cj) (c:List Int) (a:Int):cm:=cR p (bI none) a p.bi.length (jO p c) 0 (gj p)
noncomputable def jI (p:cj) (c:List Int) (a:Int):Int:=if bU p c≠0 then bU p c else if a<1\/65536<a then 4 else(gB p c a).err
def jN (p:cj) (m:Int):cm:=dx (bI (some m)) ⟨[],m - 1,false,[zN],0⟩ (fA p (jh p))
noncomputable def fi (p:cj) (m a:Int):cm:=cR p (bI (some m)) a p.bi.length (jN p m) 0 (gj p)
noncomputable def iq (p:cj) (m a:Int):Int:=if nW p≠0 then nW p else if a<1\/65536<a then 4 else if m<=0 then 0 else if(fi p m a).bn=true then 0 else(fi p m a).err
noncomputable def je (p:cj) (m a:Int):Bool:=decide (iq p m a=0)&&(decide (m<=0)||(fi p m a).bn)
noncomputable def mO (p:cj) (m a:Int):bC:=if je p m a=true/\0<m then⟨(fi p m a).ch,(fi p m a).val⟩ else⟨[],0⟩
theorem KM {p:cj} (a:nW p=0) {t:List Int} (h:bU p t=0):cC p t<=(M9 p).value:=by
 have b:=(oW a).1 h;obtain⟨_,d⟩:=rA h;have c:=xT (cN a) b.1 (decide_eq_true b.2);rw[uI a d];exact c
theorem KL {p:cj} (a:nW p=0):∃t,bU p t=0/\cC p t=(M9 p).value:=by
 obtain⟨t,c,f,e⟩:=FW (cN a);have b:bU p t=0:=(oW a).2 ⟨c,of_decide_eq_true f⟩;obtain⟨_,d⟩:=rA b;refine⟨t,b,?_⟩;rw[uI a d,e];rfl
theorem Tu {p:cj} {l:List Int} (h:dn p.bi.length l):Af (gj p) l:=by
 have b:∀i:Int,0<=i/\i<p.bi.length->bN (gj p) i.toNat 0=0:=λi a=>by
  grind[gj,bW]
 refine⟨λi a=>by rw[b i (h.2 i a)];omega,λi a=>?_⟩;grind[jP,gj]
theorem KK {p:cj} {v:Int} {t:List cz} {a lo f:Nat} (b:nW p=0) (h:g_ p v t a (gj p) lo f):(M9 p).value<=v:=by
 obtain⟨l,d,e⟩:=KL b;obtain⟨_,c⟩:=rA d;rw[<-e,uI b c];exact h.sound (mP b) c ((Dn b c).1 d) (Tu c)
theorem uD {en:Int->Bool} {G:List Int->Int->Bool->Prop} {p:cj} (h:∀c w b d w',G c w b->bU p d=0->cC p d=w'->w<w'->G d w' (b||en w')) {s:cm} {a:bC} (e:G s.ch s.val s.bn) (f:bU p a.bm=0) (g:cC p a.bm=a.value):G (dx en s a).ch (dx en s a).val (dx en s a).bn:=by
 grind[dx]
theorem uC {p:cj} (a:nW p=0):bU p (fA p (jh p)).bm=0/\cC p (fA p (jh p)).bm=(fA p (jh p)).value:=by
 simp_all[EN,LO]
theorem D6 {p:cj} (d:nW p=0) {c:List Int} (h:bU p c=0) {bA:Int} {G:List Int->Int->Bool->Prop} (a:∀c w b e w',G c w b->bU p e=0->cC p e=w'->w<w'->G e w' (b||bI none w')) (i:G c (cC p c) false):G (gB p c bA).ch (gB p c bA).val (gB p c bA).bn:=by
 have f:=EN d h;have g:=uC d;exact KQ a (mP d) (uD a (uD a i f.2.1 f.2.2.1) g.1 g.2)
theorem D5 {p:cj} {c:List Int}:(jO p c).bp=[zN]/\(jO p c).err=0/\cC p c<=(jO p c).val:=by
 grind[jO,dx]
theorem D4 {p:cj} (d:nW p=0) {c:List Int} (i:bU p c=0) {bA:Int} (C:1<=bA):
  ((gB p c bA).err=0\/(gB p c bA).err=12)/\((gB p c bA).err=0->(bU p (gB p c bA).ch=0/\cC p (gB p c bA).ch=(gB p c bA).val)/\(gB p c bA).val=(M9 p).value/\(gB p c bA).bp.length<=bA/\g_ p (M9 p).value (gB p c bA).bp 0 (gj p) 1 (gB p c bA).bp.length/\(cC p c=(M9 p).value->(gB p c bA).ch=c))/\
   (((1+2^(p.bi.length+1):Nat):Int)<=bA+2->(gB p c bA).err=0):=by
 obtain⟨y,l,A⟩:=@D5 p c;have t:(jO p c).bp.length=1:=by rw[y];rfl
 have q:=@pz p (bI none) bA p.bi.length (jO p c) 0 (gj p) (mP d);have j:(gB p c bA).bn=false:=by
  refine(D6 d i (bA:=bA) (G:=λ_ _ b=>b=false) (λc w b g o h _ _ _=>?_) rfl);rw[h];rfl
 refine⟨?_,λx=>?_,λB=>?_⟩
 ·have:=q.2.2.2.2.2;rw[l] at this;exact this
 ·have v:=D6 d i (bA:=bA) (G:=λc w _=>bU p c=0/\cC p c=w) (λc w b g o _ k m _=>⟨k,m⟩) ⟨i,rfl⟩;have u:=D6 d i (bA:=bA) (G:=λg w _=>cC p c<=w/\(w=cC p c->g=c)) (λD w b g o h _ _ r=>⟨by omega,λe=>by omega⟩) ⟨εM _,λ_=>rfl⟩;have z:=KR (p:=p) (en:=bI none) (bA:=bA) (n:=p.bi.length) (s:=jO p c) (a:=0) (mP d) (by show nF (δ _ 0)<=_;grind[uE]) (by rw[t];omega) x j;have k:=KK d z.1;have m:=KM d v.1;grind[gB]
 ·refine(KP (p:=p) (en:=bI none) (bA:=bA) (n:=p.bi.length) (s:=jO p c) (a:=0) (f:=gj p) (mP d) ?_ l ?_).1;all_goals simp_all[uE,gj]
theorem Tt {p:cj} (i:nW p=0) {m bA:Int}:((fi p m bA).bn=false->(fi p m bA).ch=[]/\(fi p m bA).val=m - 1)/\((fi p m bA).bn=true->bU p (fi p m bA).ch=0/\cC p (fi p m bA).ch=(fi p m bA).val/\m<=(fi p m bA).val):=by
 have j:=uC i;have g:∀(c:List Int) (w:Int) (b:Bool) (e:List Int) (d:Int),((m - 1<=w)/\(b=false->c=[]/\w=m - 1)/\(b=true->bU p c=0/\cC p c=w/\m<=w))->bU p e=0->cC p e=d->w<d->((m - 1<=d)/\((b||bI (some m) d)=false->e=[]/\d=m - 1)/\((b||bI (some m) d)=true->bU p e=0/\cC p e=d/\m<=d)):=by
  intro c w b e d h l q k;have o:bI (some m) d=true:=by
   show decide (m<=d)=true;grind
  grind
 have:=KQ (p:=p) (en:=bI (some m)) (bA:=bA) g (n:=p.bi.length) (s:=jN p m) (a:=0) (f:=gj p) (mP i) (uD g (s:=⟨[],m - 1,false,[zN],0⟩) ⟨εM _,λ_=>⟨rfl,rfl⟩,(λh=>by cases h)⟩ j.1 j.2);exact this.2
theorem D3 {p:cj} {m:Int}:(jN p m).bp=[zN]/\(jN p m).err=0:=by
 grind[jN,Ah]
theorem KJ {p:cj} (b:nW p=0) {m bA:Int}:
  ((fi p m bA).err=0\/(fi p m bA).err=12)/\((fi p m bA).bn=true->m<=(M9 p).value)/\((fi p m bA).bn=false->(fi p m bA).err=0->(M9 p).value<m)/\
   (((1+2^(p.bi.length+1):Nat):Int)<=bA+2->(fi p m bA).err=0):=by
 obtain⟨i,d⟩:=@D3 p m;have h:(jN p m).bp.length=1:=by rw[i];rfl
 have g:=@pz p (bI (some m)) bA p.bi.length (jN p m) 0 (gj p) (mP b);obtain⟨r,l⟩:=@Tt p b m bA;refine⟨?_,λc=>?_,λc k=>?_,λo=>?_⟩
 ·have:=g.2.2.2.2.2;rw[d] at this;exact this
 ·obtain⟨e,q,t⟩:=l c;have:=KM b e;omega
 ·have j:=KR (p:=p) (en:=bI (some m)) (bA:=bA) (n:=p.bi.length) (s:=jN p m) (a:=0) (mP b) (by show nF (δ _ 0)<=_;grind[uE]) (by rw[h];omega) k c;have e:(M9 p).value<=(fi p m bA).val:=KK b j.1;grind
 ·refine(KP (p:=p) (en:=bI (some m)) (bA:=bA) (n:=p.bi.length) (s:=jN p m) (a:=0) (f:=gj p) (mP b) ?_ d ?_).1;all_goals simp_all[uE,gj]
theorem Ts {p:cj} {c:List Int} {m:Int} (b:bU p c=0) (a:1<=m/\m<=65536):jI p c m=(gB p c m).err:=by
 simp_all[jI,if_neg]
theorem Tq {p:cj} (d:nW p=0) {c:List Int} {m:Int} (b:bU p c=0) (e:m<=65536) (f:((1+2^(p.bi.length+1):Nat):Int)<=m+2):jI p c m=0:=by
 have a:=ζ2 (n:=p.bi.length+1);grind[Ts,D4]
theorem D2 {p:cj} (a:nW p=0) {m k:Int} (d:k<=65536) (b:((1+2^(p.bi.length+1):Nat):Int)<=k+2):iq p m k=0:=by
 have c:2<=2^(p.bi.length+1):=by grind
 unfold iq;rw[if_neg (by simp[a]),if_neg (by omega)];grind[KJ]
theorem KI {p:cj} (a:nW p=0) {m k:Int} (b:iq p m k=0):je p m k=true↔m<=(M9 p).value:=by
 have j:0<=(M9 p).value:=by
  obtain⟨t,d,e⟩:=KL a;obtain⟨_,c⟩:=rA d;rw[<-e,uI a c];exact(oA (cN a) (l:=t.map (oI p)) λx g=>by
   obtain⟨i,f,rfl⟩:=Γ.1 g;have:=c.2 i f;exact cB (by omega)).1
 have h:=@KJ p a m k;unfold je;rw[b,decide_eq_true rfl,Bool.true_and,Bool.or_eq_true,decide_eq_true_eq];unfold iq at b;grind
theorem qJ {p q:Rat}:gM p q<0↔p<q:=by
 unfold gM;grind
end Go.Vi

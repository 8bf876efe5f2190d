import Derived.Test.YtbnhiekmnpikhaaGreatDE10
set_option maxRecDepth 100000
set_option maxHeartbeats 4000000
set_option linter.all false
open Bool renaming and_eq_true->θ
open Go.Vi.AV renaming sl->ζ5,sc->δg,os->θi
open Go.Vi.AV.sc renaming injEq->δe
open Go.Vi.SV renaming ow->γ1,si->γj,row->γa,il->γC,ptr->γV,sb->γB
open Int renaming toNat_natCast->γk,le_refl->εM
open IntCast renaming intCast->κ
open List renaming replicate->δ,length->γd,take->Δ,map->γc,length_replicate->γE,length_map->Ξ,length_take->γz,map_append->γb,take_length->φ,length_set->Ω,map_map->γP,map_congr_left->γI,flatMap->ζ8,elem->ζQ,getElem_of_mem->γJ,mem_map->Γ,mem_append_left->εp,mem_append->γi,all_eq_true->ψ,pairwise_cons->γr,mem_cons->γq,mem_cons_of_mem->γp,map_cons->ξ,sum_cons->εl,perm_ext_iff_of_nodup->γ7,nodup_append->γx,filter_sublist->γo,sum_append->θe,idxOf_lt_length_of_mem->γ6,getElem?_set_ne->δs,range_eq_range'->δH,take_append_drop->γT,map_nil->γw
open List.cons renaming injEq->Θ
open Nat renaming one_le_two_pow->ζ2
open Option renaming map_eq_some_iff->ε
open Option.some renaming injEq->γ
namespace Go.Vi
open Go.Proofs.YtbnhiekmnpikhaaGreat.Ir
open Go.Proofs
def wS (a:qO):l_:=⟨a.1.length,a.2.length,a.2.length,a.2.length,a.2.length,a.1.length,a.2.map (·.1),a.2.map (·.2),δ a.1.length (nf 0),nf 0,(cz a.2.length).map λi=>a.1.length+i,cz a.1.length⟩
def Dy:cU where
 f:=157;α:=qO;put a:=[uK.put a];st _:=[];dec v o:=match v,o with
  |[v],[]=>uK.dec v
  |_,_=>none;ok v o a h:=by
  split at h;·exact⟨by simp only[gL,uK.ok _ _ h],rfl⟩
  ·cases h
 inj a b h _:=uK.inj a b (by simpa[gL] using h);dom a:=a.1.length<=1000/\a.2.length<=1000/\∀r∈a.2,r.1.length<=1000;res a:=.ptr 0 0 10;out a:=(wS a).fO
def Kt (a:qO) (k0 k1 k2 k3 k4:Nat) (co:List (List NH)) (bo ct:List NH) (ba fr:List Int):TP:=
 [.cells [.row sF a.1,.row sR a.2] 217 2 false,.cells [.si .i64 a.1.length,.si .i64 a.2.length,.ow 2 k0 1,.ow 3 k1 3,.ow 4 k2 3,.sb (nf 0).1,.row (.i .u32) (nf 0).2.1,.row (.i .u32) (nf 0).2.2,.ow 5 k3 1,.ow 6 k4 1] 261 10 false,
  .row (.Ap sF) co 106 false,.row sF bo 177 false,.row sF ct 177 true,.row (.i .i64) ba 3 false,.row (.i .i64) fr 3 false]
def Ud (a:qO):Nat->bJ
 |3=> .inv Int (λj=>⟨[(1,.ptr 0 0 2),(3,.ptr 1 0 10),(18,.si .i64 a.1.length),(19,.si .i64 j)],Kt a 0 0 j.toNat 0 j.toNat [] [] (δ j.toNat (nf 0)) [] (cz j.toNat)⟩)
   (λs=>iS s 19) (λj=>0<=j/\j<=a.1.length) (λj=>(a.1.length - j).toNat) λ_ _=> .look
 |9=> .inv Int (λi=>⟨[(3,.ptr 1 0 10),(44,.row sR a.2),(45,.si .i64 a.2.length),(46,.si .i64 i)],Kt a i.toNat i.toNat a.1.length i.toNat a.1.length ((a.2.take i.toNat).map (·.1)) ((a.2.take i.toNat).map (·.2)) (δ a.1.length (nf 0)) ((cz i.toNat).map λi=>a.1.length+i) (cz a.1.length)⟩)
   (λs=>iS s 46) (λi=>0<=i/\i<=a.2.length) (λi=>(a.2.length - i).toNat) λ_ _=> .look
 |_=> .look
theorem Im:dB Tryz.prog Dy:=by
 refine Ft (L:=[mj]) (W:=[]) Dy (λ_=>none) Ud (by simp) (by simpa using nG) ?_;rintro⟨g,rs⟩ ⟨hg,hr,hrr⟩;simp only at hg hr hrr;refine NI (let a:=iZ.row;let c:=γ1;let d:=iZ.cells;let e:=(0:Int);let f:=γj .i64;let h:=(-9223372036854775808:Int);let j:=γa;let k:=(9223372036854775807:Int);let l:=γC .i64 0;let o:=VL .i64;let p:=γV;let V:=p 0 0 2;let w:=p 1 0 10;let a6:=f (↑g.length:Int);let r:=(↑g.length:Int);let s:=f r;let N:=j sR rs;let y:=d [j sF g,N] 217 2 false;let a7:=f (↑rs.length:Int);let G:=c 2 0 1;let H:=c 3 0 3;let a8:=c 4 0 3;let I:=nf (κ e);let z:=ew.i .u32;let O:=c 5 0 1;let a9:=[O,c 6 0 1];let A:=(↑rs.length:Int);let t:=f A;let J:=nf (0:Rat);let B:=γB J.1;let C:=j z J.2.1;let D:=j z J.2.2;let P:=ew.b.pair (z.Ap.pair z.Ap);let Q:=a sF.Ap [] 106 false;let R:=a sF [] 177 false;let u:=ew.i .i64;let F:=a u [] 3 false;let a1:=c 4 g.length 3;let a2:=[c 6 g.length 1];let a3:=δ g.length J;let a4:=a sF a3 177 true;let W:=a u (cz g.length) 3 false;let aa:=p 0 0 10;let q:=wS (g,rs);(h<=e/\e<=k)/\(((V.bi V/\w.bi w/\a6.bi s/\(l).bi (f 0)/\True)/\y.bi y/\(d (a6::a7::G::H::a8::γB I.1::j z I.2.1::j z I.2.2::a9) 261 10 false).bi (d (s::t::G::H::a8::B::C::D::a9) 261 10 false)/\(a P.Ap [] 106 false).bi Q/\(a P [] 177 false).bi R/\(a P [] 177 true).bi (a sF [] 177 true)/\F.bi F/\F.bi (a u (cz 0) 3 false)/\True)/\e<=e/\e<=r)/\∀(x:Int),let S:=cz x.toNat;let ab:=S.length+1;let X:=δ x.toNat J;let ac:=X.length+1;let K:=x+(1:Int);let ad:=f K;let ae:=X++[(I.1,I.2.1,I.2.2)];let Y:=K.toNat;e<=x/\x<=r->(decide (x<r)=true->1=1/\x.toNat=S.length/\ab*8<=140737488355328/\ab<=1000000000000/\(h<=e/\e<=k)/\1=1/\x.toNat=X.length/\ac*56<=140737488355328/\ac<=1000000000000/\o K/\((V.bi V/\w.bi w/\s.bi s/\ad.bi ad/\True)/\y.bi y/\(d [s,t,G,H,c 4 ae.length 3,B,C,D,O,c 6 (S++[x]).length 1] 261 10 false).bi (d [s,t,G,H,c 4 Y 3,B,C,D,O,c 6 Y 1] 261 10 false)/\Q.bi Q/\R.bi R/\(a P ae 177 true).bi (a sF (δ Y J) 177 true)/\F.bi F/\(a u (S++[x]) 3 false).bi (a u (cz Y) 3 false)/\True)/\(e<=K/\K<=r)/\(r - K).toNat<(r - x).toNat)/\(decide (x<r)=false->(((w.bi w/\N.bi N/\a7.bi t/\(l).bi (f 0)/\True)/\y.bi y/\(d [s,t,G,H,c 4 x.toNat 3,B,C,D,O,c 6 x.toNat 1] 261 10 false).bi (d (s::t::G::H::a1::B::C::D::O::a2) 261 10 false)/\Q.bi Q/\R.bi R/\(a sF X 177 true).bi a4/\F.bi F/\(a u S 3 false).bi W/\True)/\e<=e/\e<=A)/\∀(x:Int),let T:=bN rs x.toNat sR.bw;let E:=γd T.1;let af:=Δ x.toNat rs;let Z:=γc (λx ↦x.1) af;let a5:=Z.length+1;let a0:=γc (λx ↦x.2) af;let ag:=a0.length+1;let U:=γc (λi ↦(↑(g,rs).1.length:Int)+i) (cz x.toNat);let ah:=U.length+1;let L:=x+(1:Int);let ai:=f L;let aj:=a0++[(T.2.1,T.2.2.1,T.2.2.2)];let M:=L.toNat;e<=x/\x<=A->(decide (x<A)=true->e<=x/\x<(↑rs.length:Int)/\x.toNat<rs.length/\0=0/\(0+E)*56<=140737488355328/\0+E<=1000000000000/\x.toNat=Z.length/\a5*24<=140737488355328/\a5<=1000000000000/\E=E/\E=E/\E=E/\1=1/\x.toNat=a0.length/\ag*56<=140737488355328/\ag<=1000000000000/\o (r+x)/\1=1/\x.toNat=U.length/\ah*8<=140737488355328/\ah<=1000000000000/\o L/\((w.bi w/\N.bi N/\t.bi t/\ai.bi ai/\True)/\y.bi y/\(d (s::t::c 2 a5 1::c 3 aj.length 3::a1::B::C::D::c 5 (U++[r+x]).length 1::a2) 261 10 false).bi (d (s::t::c 2 M 1::c 3 M 3::a1::B::C::D::c 5 M 1::a2) 261 10 false)/\(a sF.Ap (Z++[T.1]) 106 false).bi (a sF.Ap (γc (λx ↦x.1) (Δ M rs)) 106 false)/\(a P aj 177 false).bi (a sF (γc (λx ↦x.2) (Δ M rs)) 177 false)/\a4.bi a4/\(a u (U++[r+x]) 3 false).bi (a u (γc (λi ↦(↑(g,rs).1.length:Int)+i) (cz M)) 3 false)/\W.bi W/\True)/\(e<=L/\L<=A)/\(A - L).toNat<(A - x).toNat)/\(decide (x<A)=false->g.length=a3.length/\aa.bi aa/\(d [s,t,c 1 x.toNat 1,c 2 x.toNat 3,j sF a3,B,C,D,c 3 x.toNat 1,c 4 g.length 1] 261 10 false).bi (d [f q.n,f q.m,c 1 q.k0 1,c 2 q.k1 3,j sF q.cost,γB q.v.1,j z q.v.2.1,j z q.v.2.2,c 3 q.k3 1,c 4 q.k4 1] 261 10 false)/\(a sF.Ap Z 106 false).bi (a sF.Ap q.VK 106 false)/\(a sF a0 177 false).bi (a sF q.bound 177 false)/\(a u U 3 false).bi (a u q.basic 3 false)/\W.bi (a u q.free 3 false)/\True))) (by kernel_rfl) ?_;simp only[vcs];have h0:(κ 0:Rat)=0:=rfl;simp only[h0,iO];have hcell:∀{a b a' b' c d e a2 b2 c2 d2 e2:Nat},a=a2->b=b2->c=c2->d=d2->e=e2->(iZ.cells [.si .i64 a',.si .i64 b',.ow 2 a 1,.ow 3 b 3,.ow 4 c 3,.sb (nf 0).1,.row (.i .u32) (nf 0).2.1,.row (.i .u32) (nf 0).2.2,.ow 5 d 1,.ow 6 e 1] 261 10 false).bi
   (iZ.cells [.si .i64 a',.si .i64 b',.ow 2 a2 1,.ow 3 b2 3,.ow 4 c2 3,.sb (nf 0).1,.row (.i .u32) (nf 0).2.1,.row (.i .u32) (nf 0).2.2,.ow 5 d2 1,.ow 6 e2 1] 261 10 false):=by
  rintro _ _ _ _ _ _ _ _ _ _ _ _ rfl rfl rfl rfl rfl;rfl
 have hrF:∀{x y:List NH},x=y->(iZ.row sF x 177 false).bi (iZ.row sF y 177 false):=by rintro _ _ rfl;rfl
 have hrT:∀{x y:List NH},x=y->(iZ.row sF x 177 true).bi (iZ.row sF y 177 true):=by rintro _ _ rfl;rfl
 have hrM:∀{x y:List (List NH)},x=y->(iZ.row (.Ap sF) x 106 false).bi (iZ.row (.Ap sF) y 106 false):=by rintro _ _ rfl;rfl
 have hrI:∀{x y:List Int},x=y->(iZ.row (.i .i64) x 3 false).bi (iZ.row (.i .i64) y 3 false):=by rintro _ _ rfl;rfl
 have hcast:∀k:Nat,((k:Nat):Int).toNat=k:=λk=>γk k;refine⟨by omega,⟨⟨rfl,hrI rfl⟩,by omega,by omega⟩,?_⟩;rintro j ⟨j0,j1⟩;have l1:=@gQ j.toNat;have l2:(δ j.toNat (nf 0)).length=j.toNat:=γE;refine⟨λhj=>?_,λhj=>?_⟩
 ·have e1:cz j.toNat++[j]=cz (j+1).toNat:=by
   rw[show(j+1).toNat=j.toNat+1 by omega,qm,show((j.toNat:Nat):Int)=j by omega]
  have e2:δ j.toNat (nf 0)++[nf 0]=δ (j+1).toNat (nf 0):=by
   rw[show(j+1).toNat=j.toNat+1 by omega,List.replicate_succ']
  rw[e1,e2,gQ,γE];rw[gQ,γE];refine⟨rfl,?_,?_,?_,rfl,?_,?_,?_,⟨hcell rfl rfl rfl rfl rfl,hrT rfl,hrI rfl⟩,?_,?_⟩<;>omega
 ·rw[show j.toNat=g.length by omega];refine⟨⟨⟨hcell rfl rfl rfl rfl rfl,hrT rfl,hrI rfl⟩,by omega,by omega⟩,?_⟩;rintro i ⟨i0,i1⟩;have l3:(γc (λx:List NH×NH=>x.1) (Δ i.toNat rs)).length=i.toNat:=by rw[Ξ,γz];omega
  have l4:(γc (λx:List NH×NH=>x.2) (Δ i.toNat rs)).length=i.toNat:=by rw[Ξ,γz];omega
  have l5:(γc (λi:Int=>(g.length:Int)+i) (cz i.toNat)).length=i.toNat:=by rw[Ξ,gQ]
  refine⟨λhi=>?_,λhi=>?_⟩
  ·have hm:=hrr _ (cA (d:=sR.bw) (show i.toNat<rs.length by omega));have et:=ji (d:=sR.bw) i0 hi;have e1:γc (λx:List NH×NH=>x.1) (Δ i.toNat rs)++[(bN rs i.toNat sR.bw).1]=γc (λx:List NH×NH=>x.1) (Δ (i+1).toNat rs):=by rw[et,γb];rfl
   have e2:γc (λx:List NH×NH=>x.2) (Δ i.toNat rs)++[(bN rs i.toNat sR.bw).2]=γc (λx:List NH×NH=>x.2) (Δ (i+1).toNat rs):=by rw[et,γb];rfl
   have e3:γc (λi:Int=>(g.length:Int)+i) (cz i.toNat)++[(g.length:Int)+i]=γc (λi:Int=>(g.length:Int)+i) (cz (i+1).toNat):=by
    rw[show(i+1).toNat=i.toNat+1 by omega,qm,γb,show((i.toNat:Nat):Int)=i by omega];rfl
   have l6:(γc (λx:List NH×NH=>x.2) (Δ (i+1).toNat rs)).length=(i+1).toNat:=by rw[Ξ,γz];omega
   have l7:(γc (λi:Int=>(g.length:Int)+i) (cz (i+1).toNat)).length=(i+1).toNat:=by rw[Ξ,gQ]
   refine⟨i0,hi,by omega,by omega,by omega,l3.symm,by omega,by omega,l4.symm,by omega,by omega,by omega,l5.symm,by omega,by omega,by omega,⟨hcell ?_ ?_ rfl ?_ rfl,hrM e1,hrF e2,hrI e3⟩,by omega,by omega⟩;·omega
   ·exact(congrArg γd e2).trans l6
   ·exact(congrArg γd e3).trans l7
  ·have e:i.toNat=rs.length:=by omega
   rw[e,φ];exact⟨γE.symm,rfl,rfl,rfl,rfl,rfl⟩
def r400:cU:=sd 158 Unit .nil (λ_ m t _=>jt m.toNat t) (λ_ _ _ _=> .Gz [.sc (.slice none 0 0),.sb true]) (λ_ _ t _=>t)
def Uc (n m:Int) (t:Tb):Nat->bJ
 |3=> .inv Int (λi=>⟨[(0,.ptr 0 0 10),(4,.si .i64 (-1)),(12,.ow 2 t.bound.length 3),(13,.si .i64 t.bound.length),(14,.si .i64 i)],(FV n m t).fO⟩)
   (λs=>iS s 14) (λi=>0<=i/\i<=m) (λi=>(m - i).toNat) λ_ _=> .look
 |_=> .look
theorem Il:dB Tryz.prog r400:=by
 refine ko (L:=[p_]) (W:=[]) r400 (λa=>Uc a.1.n a.1.m a.1.t) (by simp) (by simpa using sA) ?_;rintro⟨x,u⟩ ⟨n,m,t,hx,hok,hd⟩;simp only at hx hd;subst hx;refine NI (let a:=γj .i64;let b:=iZ.row;let c:=(0:Int);let d:=γ1;let e:=γa;let f:=(-1:Int);let w:=γV 0 0 10;let A:=a f;let E:=d 2 (FV n m t).k1 3;let k:=(FV n m t).t.bound.length;let B:=d 2 k 3;let C:=a (↑k:Int);let j:=(FV n m t).m;let y:=ew.i .u32;let g:=FV (FV n m t).n j (FV n m t).t;let l:=iZ.cells [a g.n,a g.m,d 1 g.k0 1,d 2 g.k1 3,e sF g.cost,γB g.v.1,e y g.v.2.1,e y g.v.2.2,d 3 g.k3 1,d 4 g.k4 1] 261 10 false;let o:=b sF.Ap g.VK 106 false;let p:=b sF g.bound 177 false;let z:=ew.i .i64;let q:=b z g.basic 3 false;let r:=b z g.free 3 false;let h:=g.bound.length;let F:=SV.sc (Value.slice none 0 0);(((w.bi w/\(γC .i64 f).bi A/\E.bi B/\(a (↑(FV n m t).k1:Int)).bi C/\(γC .i64 0).bi (a 0)/\True)/\(iZ.cells [a (FV n m t).n,a j,d 1 (FV n m t).k0 1,E,e sF (FV n m t).cost,γB (FV n m t).v.1,e y (FV n m t).v.2.1,e y (FV n m t).v.2.2,d 3 (FV n m t).k3 1,d 4 (FV n m t).k4 1] 261 10 false).bi l/\(b sF.Ap (FV n m t).VK 106 false).bi o/\(b sF (FV n m t).bound 177 false).bi p/\(b z (FV n m t).basic 3 false).bi q/\(b z (FV n m t).free 3 false).bi r/\True)/\c<=c/\c<=j)/\∀(x:Int),let D:=bN g.bound x.toNat sF.bw;let G:=(D.1,D.2.1,D.2.2);let s:=x+(1:Int);let H:=a s;let I:=decide (x<(↑k:Int));let J:=λ(u:Bool) ↦decide (iP (TL G)<c)=u;let K:=λ(u:SV) ↦VL .i64 s/\((w.bi w/\u.bi A/\B.bi B/\C.bi C/\H.bi H/\True)/\l.bi l/\o.bi o/\p.bi p/\q.bi q/\r.bi r/\True)/\(c<=s/\s<=j)/\(j - s).toNat<(j - x).toNat;c<=x/\x<=j->(I=true->k=h/\c<=x/\x<(↑h:Int)/\k=h/\x.toNat<h/\bL G/\(J true->(true=true->K (a x))/\(true=false->g.k1=h/\c<=f/\f<(↑h:Int)/\g.k1=h/\0<h/\False))/\(J false->K A))/\(I=false->(true=true->(SV.Gz [F,SV.bl true]).bi (SV.Gz [F,γB true])/\l.bi l/\o.bi o/\p.bi p/\q.bi q/\r.bi r/\True)/\(true=false->False))) (by kernel_rfl) ?_;simp only[qi];try simp only[FV]
 simp only[vcs];obtain⟨⟨⟨n0,n1⟩,m0,m1⟩,hw,hz⟩:=id hok;have hbl:=hw.bound;have hfb:=@ez t.bound;refine⟨⟨by omega,by omega⟩,?_⟩;rintro i ⟨i0,i1⟩;refine⟨λhi=>?_,λhi=>⟨λ_=>trivial,λh=>by cases h⟩⟩;have hB:bN (fL t.bound) i.toNat sF.bw=nf (t.bd i.toNat):=iD (by omega);have hpos:=hd i.toNat (by omega);have hneg:¬iP (t.bd i.toNat)<0:=λh=>by have:=wU.1 h;grind
 simp only[hB,iO,dJ];exact⟨by omega,i0,by omega,by omega,by omega,dc (hok.bd (by omega)) (by omega),λh=>absurd h hneg,λ_=>⟨by omega,by omega,by omega⟩⟩
def Dx:cU:=sd 159 (List NH) (.one (cO sF)) (λn m t a=>∃g:List Rat,a=fL g/\g.length=n.toNat/\t.free=cz n.toNat/\∀v∈t.basic,n<=v) (λ_ _ _ _=> .Gz []) (λ_ _ t a=>{t with cost:=vL a,value:=0})
def Ub (n m:Int) (t:Tb) (a:List NH):Nat->bJ
 |3=> .inv Int (λj=>⟨[(0,.ptr 0 0 10),(1,.row sF a),(4,.ow 5 n.toNat 3),(24,.ow 4 t.free.length 1),(25,.si .i64 t.free.length),(26,.si .i64 j)],(FV n m {t with value:=0}).fO++[.row sF (dU a j.toNat (false,([],[]))) 177 true]⟩)
   (λs=>iS s 26) (λi=>0<=i/\i<=n) (λi=>(n - i).toNat) λ_ _=> .look
 |10=> .inv Int (λi=>⟨[(0,.ptr 0 0 10),(1,.row sF a),(4,.ow 5 n.toNat 3),(52,.ow 3 t.basic.length 1),(53,.si .i64 t.basic.length),(54,.si .i64 i)],(FV n m {t with value:=0}).fO++[.row sF a 177 true]⟩)
   (λs=>iS s 54) (λi=>0<=i/\i<=m) (λi=>(m - i).toNat) λ_ _=> .look
 |_=> .look
theorem Ik:dB Tryz.prog Dx:=by
 refine ko (L:=[mj]) (W:=[]) Dx (λa=>Ub a.1.n a.1.m a.1.t a.2) (by simp) (by simpa using nG) ?_;rintro⟨x,a⟩ ⟨n,m,t,hx,hok,g,ha,hgl,hfr,hbs⟩;simp only at hx ha;subst hx ha;refine NI (let a:=(0:Int);let c:=γj .i64;let d:=iZ.row;let e:=γ1;let f:=(-9223372036854775808:Int);let h:=γa;let j:=(9223372036854775807:Int);let k:=iZ.cells;let l:=γC .i64 0;let w:=(↑(FV n m t).k4:Int);let y:=γV 0 0 10;let s:=h sF (fL g);let p:=(FV n m t).n;let F:=e 5 p.toNat 3;let a0:=e 4 (FV n m t).k4 1;let r:=(FV n m t).t;let N:=r.free.length;let U:=e 4 N 1;let V:=c (↑N:Int);let z:=(FV n m t).m;let H:=nf (κ a);let A:=ew.i .u32;let o:=FV p z (Tb.mk r.VK r.bound r.cost (0:Rat) r.basic r.free);let a1:=c o.n;let a2:=c o.m;let a3:=e 1 o.k0 1;let a4:=e 2 o.k1 3;let a5:=e 3 o.k3 1;let a6:=[γB o.v.1,h A o.v.2.1,h A o.v.2.2,a5,e 4 o.k4 1];let G:=k (a1::a2::a3::a4::h sF o.cost::a6) 261 10 false;let B:=d sF.Ap o.VK 106 false;let C:=d sF o.bound 177 false;let I:=ew.i .i64;let J:=o.basic;let D:=d I J 3 false;let E:=d I o.free 3 false;let R:=(false,[],[]);let S:=o.free.length;let z29:Nat:=(fL g).length;let O:=r.basic.length;let W:=e 3 O 1;let X:=c (↑O:Int);let Y:=d sF (fL g) 177 true;let q:=FV p z (Tb.mk r.VK r.bound (vL (fL g)) (0:Rat) r.basic r.free);(f<=a/\a<=j)/\a<=w/\w<=w/\w*(56:Int)<=(140737488355328:Int)/\w<=(1000000000000:Int)/\(((y.bi y/\s.bi s/\(e 5 w.toNat 3).bi F/\a0.bi U/\(c w).bi V/\(l).bi (c 0)/\True)/\(k [c p,c z,e 1 (FV n m t).k0 1,e 2 (FV n m t).k1 3,h sF (FV n m t).cost,γB H.1,h A H.2.1,h A H.2.2,e 3 (FV n m t).k3 1,a0] 261 10 false).bi G/\(d sF.Ap (FV n m t).VK 106 false).bi B/\(d sF (FV n m t).bound 177 false).bi C/\(d I (FV n m t).basic 3 false).bi D/\(d I (FV n m t).free 3 false).bi E/\(d (ew.b.pair (A.Ap.pair A.Ap)) (δ w.toNat R) 177 true).bi (d sF (dU (fL g) 0 R) 177 true)/\True)/\a<=a/\a<=p)/\∀(x:Int),let K:=x+(1:Int);let a7:=c K;let a8:=decide (x<(↑N:Int));let L:=dU (fL g) x.toNat R;let P:=bN o.free x.toNat a;let a9:=decide (P<o.n);let M:=L.set x.toNat (H.1,H.2.1,H.2.2);let Z:=bN (fL g) P.toNat sF.bw;let aa:=λ(u:List (Bool×List Int×List Int)) ↦VL .i64 K/\((y.bi y/\s.bi s/\F.bi F/\U.bi U/\V.bi V/\a7.bi a7/\True)/\G.bi G/\B.bi B/\C.bi C/\D.bi D/\E.bi E/\(d sF u 177 true).bi (d sF (dU (fL g) K.toNat R) 177 true)/\True)/\(a<=K/\K<=p)/\(p - K).toNat<(p - x).toNat;a<=x/\x<=p->(a8=true->N=S/\a<=x/\x<(↑S:Int)/\N=S/\x.toNat<S/\(f<=a/\a<=j)/\p.toNat=L.length/\a<=x/\x<(↑L.length:Int)/\p.toNat=L.length/\x.toNat<L.length/\(a9=true->a<=P/\P<(↑z29:Int)/\P.toNat<z29/\p.toNat=M.length/\a<=x/\x<(↑M.length:Int)/\p.toNat=M.length/\x.toNat<M.length/\aa (M.set x.toNat (Z.1,Z.2.1,Z.2.2)))/\(a9=false->aa M))/\(a8=false->(((y.bi y/\s.bi s/\F.bi F/\a5.bi W/\(c (↑o.k3:Int)).bi X/\(l).bi (c 0)/\True)/\G.bi G/\B.bi B/\C.bi C/\D.bi D/\E.bi E/\(d sF L 177 true).bi Y/\True)/\a<=a/\a<=z)/\∀(x:Int),let ab:=decide (x<(↑O:Int));let T:=bN J x.toNat a;let ac:=decide (o.n<=T);let Q:=x+(1:Int);let ad:=c Q;a<=x/\x<=z->(ab=true->O=J.length/\a<=x/\x<(↑J.length:Int)/\O=J.length/\x.toNat<J.length/\(ac=true->VL .i64 Q/\((y.bi y/\s.bi s/\F.bi F/\W.bi W/\X.bi X/\ad.bi ad/\True)/\G.bi G/\B.bi B/\C.bi C/\D.bi D/\E.bi E/\Y.bi Y/\True)/\(a<=Q/\Q<=z)/\(z - Q).toNat<(z - x).toNat)/\(ac=false->a<=T/\T<(↑z29:Int)/\T.toNat<z29/\False))/\(ab=false->p.toNat=z29/\(SV.Gz []).bi (SV.Gz [])/\(k (a1::a2::a3::a4::s::a6) 261 10 false).bi (k [c q.n,c q.m,e 1 q.k0 1,e 2 q.k1 3,h sF q.cost,γB q.v.1,h A q.v.2.1,h A q.v.2.2,e 3 q.k3 1,e 4 q.k4 1] 261 10 false)/\B.bi (d sF.Ap q.VK 106 false)/\C.bi (d sF q.bound 177 false)/\D.bi (d I q.basic 3 false)/\E.bi (d I q.free 3 false)/\True))) (by kernel_rfl) ?_;simp only[qi];try simp only[FV]
 simp only[vcs];obtain⟨⟨⟨n0,n1⟩,m0,m1⟩,hw,hz⟩:=id hok;have hbb:=hw.basic;have hfl:=hw.free;have hfg:=@ez g;have h0:(κ 0:Rat)=0:=rfl;have hrow:∀{x y:List NH},x=y->(iZ.row sF x 177 true).bi (iZ.row sF y 177 true):=by rintro _ _ rfl;rfl
 simp only[h0,iO];refine⟨by omega,by omega,by omega,by omega,by omega,⟨⟨?_,?_,?_⟩,by omega,by omega⟩,?_⟩;·rw[hfl];rfl
 ·rfl
 ·exact hrow (by rw[vS,hfg,hgl,hfl];rfl)
 rintro j ⟨j0,j1⟩;have hru:=@vT (fL g) j.toNat (false,([],[])) (by omega);refine⟨λhj=>?_,λhj=>?_⟩
 ·have hv:bN t.free j.toNat 0=j:=by rw[hfr,DE (by omega)];omega
  rw[hv];have hset:((dU (fL g) j.toNat (false,([],[]))).set j.toNat (nf 0)).set j.toNat (bN (fL g) j.toNat sF.bw)=dU (fL g) (j+1).toNat (false,([],[])):=by
   have e:=uM (d:=fL g) (j:=j.toNat) (z:=(false,([],[]))) (x:=bN (fL g) j.toNat sF.bw) (by omega) rfl;rw[List.set_set,show(j+1).toNat=j.toNat+1 by omega];exact e
  rw[Ω];exact⟨j0,by omega,by omega,by omega,by omega,j0,by omega,by omega,by omega,λ_=>⟨j0,by omega,by omega,by omega,j0,by omega,by omega,by omega,by omega,hrow hset,by omega,by omega⟩,λh=>(h (by omega)).elim⟩
 ·have e:j.toNat=(fL g).length:=by omega
  rw[e,vR];refine⟨⟨hrow rfl,by omega,by omega⟩,?_⟩;rintro i ⟨i0,i1⟩;refine⟨λhi=>⟨i0,hi,by omega,λ_=>⟨by omega,by omega,by omega⟩,λh=>absurd (hbs _ (cA (by omega))) h⟩,λhi=>⟨by omega,?_⟩⟩;rw[jP];rfl
abbrev Lp:=List Rat×List (List Rat×Rat)
def gB (a:Lp):qO:=(fL a.1,a.2.map λr=>(fL r.1,nf r.2))
def j8 (a:Lp):Tb:=⟨a.2.map (·.1),a.2.map (·.2),a.1,0,(cz a.2.length).map λi=>a.1.length+i,cz a.1.length⟩
def pC (a:Lp):Tb:={j8 a with cost:=δ a.1.length 0}
theorem Ua {a:Lp}:wS (gB a)=FV a.1.length a.2.length (pC a):=by
 unfold wS gB FV pC j8;simp_all[gQ,fM,fL]
structure wR (a:Lp):Prop where
 n:a.1.length<=160
 m:a.2.length<=40
 small:∃M G,Small a.1.length a.2.length M G (j8 a)
 vz:jt a.2.length (j8 a)
 dZ:∃B,∀x z,(j8 a).holds a.1.length a.2.length x z->(∀v∈(j8 a).basic++(j8 a).free,0<=x v)->z<=B
noncomputable def lG (a:Lp):Tb:=cr a.1.length a.2.length (j8 a)
theorem T_ {a:Lp} (h:wR a):qa a.1.length a.2.length (j8 a):=by
 obtain⟨M,G,b⟩:=h.small;exact⟨j8 a,M,G,b,dq.refl b.wf b.nd,h.vz⟩
theorem T9 {a:Lp} (h:wR a):dq a.1.length a.2.length (j8 a) (lG a)/\jt a.2.length (lG a)/\dI (lG a) a.1.length<0:=by
 obtain⟨M,G,c⟩:=h.small;obtain⟨B,d⟩:=h.dZ;have b:=dq.refl c.wf c.nd;have:=DG b h.vz;exact⟨this.1,this.2.1,L_ b h.vz d⟩
noncomputable def Dw:NG:=⟨133,qO,.one uK,λx=>∃a:Lp,x=gB a/\wR a,λx=>
 let a:Lp:=(vL x.1,x.2.map λr=>(vL r.1,TL r.2));.Gz [.agg [.si .i64 1,.sb (nf (lG a).value).1,.row (.i .u32) (nf (lG a).value).2.1,.row (.i .u32) (nf (lG a).value).2.2,.row sF (fL (fk (lG a) a.1.length a.2.length)),.row sF (fL (ix (lG a) a.1.length a.2.length a.1.length)),.row sF []],.si .i64 0]⟩
theorem T8 {a:Lp}:((vL (gB a).1,(gB a).2.map λr=>(vL r.1,TL r.2)):Lp)=a:=by
 obtain⟨g,b⟩:=a;unfold gB;simp only[jP,γP];congr 1;conv=>rhs;rw[<-List.map_id b]
 refine γI λr _=>?_;grind[jP,dJ]
theorem T7 {a:Lp}:((gB a).1,(gB a).2)=gB a:=rfl
theorem Ks {a:Lp}:vL (gB a).1=a.1:=jP _
theorem Kr {a:Lp}:(gB a).2.map (λr=>(vL r.1,TL r.2))=a.2:=congrArg Prod.snd (@T8 a)
theorem T6 {a:Lp}:({VK:=(pC a).VK,bound:=(pC a).bound,cost:=a.1,value:=0,basic:=(pC a).basic,free:=(pC a).free}:Tb)=j8 a:=rfl
theorem T5 {a:Lp}:(gB a).1.length=a.1.length:=ez
theorem T4 {a:Lp}:(gB a).2.length=a.2.length:=Ξ _
theorem Kq {q:Rat} (h:Sz 1000000 q):gI (nf q)/\okF (nf q)=true:=by
 obtain⟨g,⟨a,_,c⟩,⟨b,_,e⟩⟩:=kN q;obtain⟨d,f⟩:=mZ h;refine⟨⟨⟨a,b⟩,by omega,by omega⟩,?_⟩;grind[okF,dJ]
theorem T3 {o:a_} {d:Nat} {acc:List Nat} {l:List NH}:b_ o d (γc (λx:NH=>df ew.b x.1++df ((ew.i .u32).Ap.pair (ew.i .u32).Ap) x.2) l).flatten acc=acc:=xn λa c=>lQ (s:=sF) (l:=l) c
theorem T2 {o:a_} {d:Nat} {acc:List Nat} {l:List (List NH)}:b_ o d (γc (λx:List NH=>[ζ5 (γd x) (ζ8 (df sF) x)]) l).flatten acc=acc:=xn λa b=>lQ (s:=sF.Ap) (l:=l) b
theorem T1 {o:a_} {d:Nat} {acc:List Nat} {l:List Int}:b_ o d (γc (λx:Int=>γc δg (cI (ew.i .i64) x)) l).flatten acc=acc:=xn λa b=>lQ (s:=ew.i .i64) (l:=l) b
theorem Ip:Holds Tryz.prog Dw:=by
 refine X_ (L:=[Dz]) (W:=fT [Dy,r400,Dx,DB,zK,zJ]) Dw (λf=>Nat.beq f zK.f||Nat.beq f zJ.f) lk (kd (by simpa using⟨Im,Il,Ik,Ij,Ii,Ih⟩)) (by simpa using Io) ?_;rintro x ⟨a,hx,hok⟩;subst hx;refine NI (let c:=γa;let d:=iZ.row;let e:=γj .i64;let f:=γ1;let h:=iZ.cells;let j:=γC .i64;let k:=(0:Int);let l:=γB;let o:=SV.bl false;let p:=SV.agg;let q:=SV.Gz;let B:=(gB a).1;let C:=(gB a).2;let J:=h [c sF B,c sR C] 217 2 false;let Q:=j 0;let a1:=Value.slice none 0 0;let G:=SV.sc a1;let K:=h [Q,o,G,G,G,G,G] 221 7 false;let L:=wS (B,C);let D:=FV L.n L.m L.t;let E:=FV D.n D.m (Tb.mk D.t.VK D.t.bound (vL B) (0:Rat) D.t.basic D.t.free);let a2:=cr E.n.toNat E.m.toNat E.t;let s:=FV E.n E.m a2;let y:=ew.i .u32;let M:=s.v.2.1;let N:=s.v.2.2;let w:=FV s.n s.m s.t;let R:=w.v.2.1;let S:=w.v.2.2;let a3:=h [e w.n,e w.m,f 3 w.k0 1,f 4 w.k1 3,c sF w.cost,l w.v.1,c y R,c y S,f 5 w.k3 1,f 6 w.k4 1] 261 10 false;let a4:=d sF.Ap w.VK 106 false;let a5:=d sF w.bound 177 false;let z:=ew.i .i64;let a6:=d z w.basic 3 false;let a7:=d z w.free 3 false;let F:=c z [];let U:=γc (λ(r:List NH×NH) ↦(vL r.1,TL r.2)) C;let H:=lG (vL B,U);let z31:Nat:=(vL B).length;let a8:=e 0;let a9:=q [p [e 1,l (nf H.value).1,c y (nf H.value).2.1,c y (nf H.value).2.2,c sF (fL (fk H z31 U.length)),c sF (fL (ix H z31 U.length z31)),c sF []],a8];let A:=FV w.n w.m w.t;let aa:=OL.cells [ζ5 B.length (γc (λ(x:sF.T) ↦df ew.b x.1++df (y.Ap.pair y.Ap) x.2) B).flatten,ζ5 C.length (γc (λ(x:sR.T) ↦df sF.Ap x.1++df sF x.2) C).flatten] 217 2 false;let I:=δg a1;let ab:=OL.cells [δg (Value.int .i64 k),δg (Value.bool false),I,I,I,I,I] 221 7 false;let ac:=(γc (λ(x:sF.Ap.T) ↦[ζ5 (γd x) (ζ8 (df sF) x)]) s.VK).flatten;let ad:=(γc (λ(x:sF.T) ↦df ew.b x.1++df (y.Ap.pair y.Ap) x.2) s.bound).flatten;let ae:=(γc (λ(x:z.T) ↦γc δg (cI z x)) s.basic).flatten;let af:=(γc (λ(x:z.T) ↦γc δg (cI z x)) s.free).flatten;let O:=[aa,ab,OL.cells [δg (Value.int .i64 s.n),δg (Value.int .i64 s.m),θi 3 0 s.k0 (s.k0*1),θi 4 0 s.k1 (s.k1*3),ζ5 s.cost.length (γc (λ(x:sF.T) ↦df ew.b x.1++df (y.Ap.pair y.Ap) x.2) s.cost).flatten,δg (Value.bool s.v.1),ζ5 M.length (γc (λ(x:y.T) ↦γc δg (cI y x)) M).flatten,ζ5 N.length (γc (λ(x:y.T) ↦γc δg (cI y x)) N).flatten,θi 5 0 s.k3 (s.k3*1),θi 6 0 s.k4 (s.k4*1)] 261 10 false,OL.cells ac 106 1 false,OL.cells ad 177 3 false,OL.cells ae 3 1 false,OL.cells af 3 1 false];let ag:=[2,3];let V:=b_ O (nat_lit 396) ac ag;let W:=if ζQ 4 V=true then V else b_ O (nat_lit 395) ad (V++[4]);let X:=if ζQ 5 W=true then W else b_ O (nat_lit 390) ae (W++[5]);let ah:=(γc (λ(x:sF.Ap.T) ↦[ζ5 (γd x) (ζ8 (df sF) x)]) w.VK).flatten;let ai:=(γc (λ(x:sF.T) ↦df ew.b x.1++df (y.Ap.pair y.Ap) x.2) w.bound).flatten;let aj:=(γc (λ(x:z.T) ↦γc δg (cI z x)) w.basic).flatten;let ak:=(γc (λ(x:z.T) ↦γc δg (cI z x)) w.free).flatten;let P:=[aa,ab,OL.cells [δg (Value.int .i64 w.n),δg (Value.int .i64 w.m),θi 3 0 w.k0 (w.k0*1),θi 4 0 w.k1 (w.k1*3),ζ5 w.cost.length (γc (λ(x:sF.T) ↦df ew.b x.1++df (y.Ap.pair y.Ap) x.2) w.cost).flatten,δg (Value.bool w.v.1),ζ5 R.length (γc (λ(x:y.T) ↦γc δg (cI y x)) R).flatten,ζ5 S.length (γc (λ(x:y.T) ↦γc δg (cI y x)) S).flatten,θi 5 0 w.k3 (w.k3*1),θi 6 0 w.k4 (w.k4*1)] 261 10 false,OL.cells ah 106 1 false,OL.cells ai 177 3 false,OL.cells aj 3 1 false,OL.cells ak 3 1 false];let Y:=b_ P (nat_lit 396) ah ag;let Z:=if ζQ 4 Y=true then Y else b_ P (nat_lit 395) ai (Y++[4]);let a0:=if ζQ 5 Z=true then Z else b_ P (nat_lit 390) aj (Z++[5]);let al:=J.bi J/\K.bi K/\(h [e s.n,e s.m,f 3 s.k0 1,f 4 s.k1 3,c sF s.cost,l s.v.1,c y M,c y N,f 5 s.k3 1,f 6 s.k4 1] 261 10 false).bi a3/\(d sF.Ap s.VK 106 false).bi a4/\(d sF s.bound 177 false).bi a5/\(d z s.basic 3 false).bi a6/\(d z s.free 3 false).bi a7/\True;let am:=∃(n:Int),∃(m:Int),∃(t:Tb),s=FV n m t/\jJ n m t/\∀(v:Int),v∈t.basic->k<=v;let an:=λ(u:Bool) ↦(!decide (dI a2 E.n.toNat<k))=u;let ao:=λ(u:Int) (u_1:SV) ↦false=true->(q [p [j u,o,F,F,F,F,F],u_1]).bi a9;((B.length<=160/\C.length<=40)/\(∀(x:NH),x∈B->gI x/\okF x=true)/\∀(r:List NH×NH),r∈C->r.1.length=B.length/\(∀(x:NH),x∈r.1->gI x/\okF x=true)/\gI r.2/\okF r.2=true)/\ao k a8/\(false=false->(B.length<=1000/\C.length<=1000/\∀(r:List NH×NH),r∈C->r.1.length<=1000)/\(∃(n:Int),∃(m:Int),∃(t:Tb),L=FV n m t/\jJ n m t/\jt m.toNat t)/\ao (2:Int) Q/\(false=false->(∃(n:Int),∃(m:Int),∃(t:Tb),D=FV n m t/\jJ n m t/\∃(g:List Rat),B=fL g/\g.length=n.toNat/\t.free=cz n.toNat/\∀(v:Int),v∈t.basic->n<=v)/\(∃(n:Int),∃(m:Int),∃(t:Tb),E=FV n m t/\jJ n m t/\qa n.toNat m.toNat t)/\(an true->am/\al/\False)/\(an false->am/\al/\(∃(n:Int),∃(m:Int),∃(t:Tb),w=FV n m t/\jJ n m t/\True)/\(J.bi J/\K.bi K/\a3.bi (h [e A.n,e A.m,f 3 A.k0 1,f 4 A.k1 3,c sF A.cost,l A.v.1,c y A.v.2.1,c y A.v.2.2,f 5 A.k3 1,f 6 A.k4 1] 261 10 false)/\a4.bi (d sF.Ap A.VK 106 false)/\a5.bi (d sF A.bound 177 false)/\a6.bi (d z A.basic 3 false)/\a7.bi (d z A.free 3 false)/\True)/\if(((if ζQ 6 X=true then X else b_ O (nat_lit 389) af (X++[6])).all λ(i:Nat) ↦decide (i<7))&&(((if ζQ 6 a0=true then a0 else b_ P (nat_lit 389) ak (a0++[6])).all λ(i:Nat) ↦decide (i<7))&&true))=true then(q [p [j 1,l s.v.1,c y M,c y N,c sF (fL (fk s.t s.n.toNat s.m.toNat)),c sF (fL (ix w.t w.n.toNat w.m.toNat w.n.toNat)),F],Q]).bi a9 else False)))) (by kernel_rfl) ?_;simp only[T7,Ua,qi,LD,LC,Ks,Kr,T6,T5,T4,γk];try simp only[vcs]
 obtain⟨M,G,hs⟩:=hok.small;obtain⟨r1,r2,r3⟩:=T9 hok;have hw:=hs.wf;have hz:=hs.sw (dq.refl hs.wf hs.nd);have hn:=hok.n;have hm:=hok.m;have hO:=T_ hok;have k1:jJ a.1.length a.2.length (j8 a):=⟨⟨by omega,by omega⟩,by simpa using hw,hz⟩;have k0:jJ a.1.length a.2.length (pC a):=by
  refine⟨⟨by omega,by omega⟩,⟨hw.VK,hw.row,hw.bound,by simp[pC],hw.basic,hw.free⟩,hz.1,hz.2.1,λq hq=>?_,hz.2.2.2⟩;rw[(List.mem_replicate.1 hq).2];exact hz.2.2.2
 have k2:jJ a.1.length a.2.length (lG a):=Mg hs (by simpa using r1) (by omega) (by omega);have hl:cr a.1.length a.2.length (j8 a)=lG a:=rfl;have aEm:((a.1,a.2):Lp)=a:=rfl;simp only[hl,aEm,T3,T2,T1];have mem2:∀i,i<a.2.length->bN a.2 i ([],0)∈a.2:=λi hi=>cA hi;have hrow:∀r∈a.2,r.1.length=a.1.length/\(∀q∈r.1,Sz 1000000 q)/\Sz 1000000 r.2:=λr hr=>by
  obtain⟨i,hi,rfl⟩:=γJ hr;have h1:=hw.row i hi;have e:bN (j8 a).VK i []=a.2[i].1:=by
   show bN (a.2.map (·.1)) i []=_;rw[bV (by rw[Ξ];exact hi),List.getElem_map]
  rw[e] at h1;refine⟨h1,hz.1 _ (Γ.2 ⟨a.2[i],hr,rfl⟩),hz.2.1 _ (Γ.2 ⟨a.2[i],hr,rfl⟩)⟩
 have hg:∀q∈a.1,Sz 1000000 q:=hz.2.2.1;have hF:∀{l:List Rat},(∀q∈l,Sz 1000000 q)->∀x∈fL l,gI x/\okF x=true:=λh x hx=>by
  obtain⟨q,hq,rfl⟩:=Γ.1 hx;exact Kq (h q hq)
 have hdg:(∀x∈(gB a).1,gI x/\okF x=true)/\∀r∈(gB a).2,r.1.length=a.1.length/\(∀x∈r.1,gI x/\okF x=true)/\gI r.2/\okF r.2=true:=by
  refine⟨hF hg,λr hr=>?_⟩;obtain⟨r0,hr0,rfl⟩:=Γ.1 hr;obtain⟨h1,h2,h3⟩:=hrow r0 hr0;exact⟨by rw[<-h1];exact ez,hF h2,Kq h3⟩
 have hb0:∀v∈(lG a).basic,0<=v:=λv hv=>by
  have:=r1.perm.mem_iff.1 (εp _ hv);simp only[j8,γi,Γ,jh] at this;rcases this with⟨i,hi,rfl⟩|h;·omega
  ·exact h.1
 have hbn:∀v∈(pC a).basic,(a.1.length:Int)<=v:=λv hv=>by
  simp only[pC,j8,Γ,jh] at hv;obtain⟨i,hi,rfl⟩:=hv;omega
 refine⟨⟨⟨hn,hm⟩,hdg.1,hdg.2⟩,λh=>(by cases h),λ_=>⟨⟨by omega,by omega,λr hr=>by have:=(hdg.2 r hr).1;omega⟩,⟨_,_,_,rfl,k0,by rw[γk];exact hok.vz⟩,λh=>(by cases h),λ_=>⟨⟨_,_,_,rfl,k0,a.1,rfl,by simp,rfl,hbn⟩,⟨_,_,_,rfl,k1,by simpa using hO⟩,λh=>absurd r3 h,λ_=>⟨⟨_,_,_,rfl,k2,hb0⟩,⟨_,_,_,rfl,k2⟩,?_⟩⟩⟩⟩;rw[if_pos (by decide)];rfl
theorem wQ {f:List Int} {d:Int} {i:Int} (h:0<=i) (c:i<f.length):zi (f.take (i+1).toNat) d=zi (f.take i.toNat) d++if bN f i.toNat 0=d then[i] else[]:=by
 have a:(f.take (i+1).toNat).length=i.toNat+1:=by grind
 have b:(f.take i.toNat).length=i.toNat:=by grind
 unfold zi;rw[a,b,qm,List.filter_append];have e:∀{k:Nat} {m:Nat},k<m->m<=f.length->bN (f.take m) k 0=bN f k 0:=λ{k m} c j=>by
  grind[bV]
 congr 1
 ·refine List.filter_congr λx g=>?_;grind[jh]
 grind
def iN (f:List Int):Bool:=f.all λx=>decide (-1<=x)&&decide (x<=1)
def hJ (p:cj) (f:List Int):Int:=if nW p≠0 then nW p else if f.length≠p.bj.length then 3 else if iN f=true then 0 else 4
def zI:NG:=⟨131,cj×List Int,.cons cV (.one (cO (.i .i64))),λa=>a.2.length<=1000000000000,λa=> .si .i64 (hJ a.1 a.2)⟩
def T0 (p:cj) (f:List Int):Nat->bJ
 |7=> .inv Int (λi=>⟨[(19,.row (.i .i64) f),(20,.si .i64 f.length),(21,.si .i64 i)],[.cells p.ss 27 20 false]⟩)
   (λs=>iS s 21) (λi=>(0<=i/\i<=f.length)/\iN (f.take i.toNat)=true) (λi=>(f.length - i).toNat) λ_ _=> .look
 |_=> .look
theorem yO:Holds Tryz.prog zI:=by
 refine bM (L:=[mV]) zI (λa=>T0 a.1 a.2) (by grind[oi]) ?_;rintro⟨p,f⟩ (D:f.length<=1000000000000);refine NI (let a:=γj .i64;let d:=(0:Int);let g:=γC .i64;let v:=decide (nW p≠d);let e:=a (hJ p f);let q:=(↑f.length:Int);let r:=decide (q≠(↑p.bj.length:Int));let n:=γa (ew.i .i64) f;let c:=(↑f.length:Int);let o:=a c;let w:=g 0;let m:=iZ.cells (cj.ss p) 27 20 false;True/\(v=true->(a (nW p)).bi e)/\(v=false->(r=true->(g 3).bi e)/\(r=false->(((n.bi n/\(a q).bi o/\w.bi (a 0)/\True)/\m.bi m/\True)/\(d<=d/\d<=c)/\iN []=true)/\∀(x:Int),let s:=bN f x.toNat d;let l:=decide (s<(-1:Int));let j:=decide ((1:Int)<s);let b:=x+(1:Int);let k:=a b;(d<=x/\x<=c)/\iN (Δ x.toNat f)=true->(decide (x<c)=true->d<=x/\x<q/\x.toNat<f.length/\(l=true->(g 4).bi e)/\(l=false->(j=true->(g 4).bi e)/\(j=false->VL .i64 b/\((n.bi n/\o.bi o/\k.bi k/\True)/\m.bi m/\True)/\((d<=b/\b<=c)/\iN (Δ b.toNat f)=true)/\(c - b).toNat<(c - x).toNat)))/\(decide (x<c)=false->w.bi e)))) (by kernel_rfl) ?_;simp only[vcs];refine⟨λh=>by simp[hJ,h],λh=>?_⟩;have F:nW p=0:=Classical.not_not.1 h;refine⟨λy=>by
  grind[hJ],λy=>⟨⟨⟨by omega,by omega⟩,rfl⟩,?_⟩⟩;have u:f.length=p.bj.length:=by omega
 rintro i ⟨⟨A,G⟩,g⟩;refine⟨λt=>?_,λt=>?_⟩
 ·have B:=cA (d:=0) (show i.toNat<f.length by omega);have H:=ji (d:=0) A t;have z:¬(-1<=bN f i.toNat 0/\bN f i.toNat 0<=1)->(4:Int)=hJ p f:=λE=>by
   have:iN f=false:=by
    rw[Bool.eq_false_iff];intro C;have:=ψ.1 C _ B;grind
   grind[hJ]
  grind[iN]
 ·rw[show i.toNat=f.length by omega,φ] at g;grind[hJ]
def fN (p:cj) (f:List Int):Int:=bF ((zi f 1).map (oI p))
theorem wP {p:cj} (c:nW p=0) {f:List Int} {k:Nat} (g:f.length=p.bj.length):0<=fN p (f.take k)/\fN p (f.take k)<=160000000:=by
 have a:=cL c;have e:=@ri (f.take k) 1;have h:(f.take k).length<=f.length:=by grind
 have j:=@ot p a ((zi (f.take k) 1).map (oI p)) λx b=>by
  obtain⟨i,d,rfl⟩:=Γ.1 b;have:=(jO.1 d).1;exact cA (by omega)
 have l:=a.2.1;grind[fN]
theorem Kp {p:cj} {f:List Int} {i:Int} (b:0<=i) (a:i<f.length):fN p (f.take (i+1).toNat)=fN p (f.take i.toNat)+if bN f i.toNat 0=1 then(oI p i).value else 0:=by
 unfold fN;rw[wQ b a,γb,mv];grind[bF]
def iW (p:cj) (f:List Int):Lp:=((bQ p f).cost,(cz (mF p)).map λr=>((zi f 0).map λi=>((dz p r (oI p i):Int):Rat),((cC p r - bZ p ((zi f 1).map (oI p)) r:Int):Rat)))
theorem zH {p:cj} {f:List Int}:j8 (iW p f)=bQ p f:=by
 simp_all[j8,iW,bQ,cz]
def kM (p:cj) (f:List Int) (j:Nat):List NH:=fL (((zi f 0).take j).map λi=>(((oI p i).value:Int):Rat))
def l8 (p:cj) (f:List Int) (r:Int) (j:Nat):List NH:=fL (((zi f 0).take j).map λi=>((dz p r (oI p i):Int):Rat))
def lZ (p:cj) (f:List Int) (k:Nat):List (List NH×NH):=(cz k).map λr=>(l8 p f r (zi f 0).length,nf ((cC p r - bZ p ((zi f 1).map (oI p)) r:Int):Rat))
theorem Ko {p:cj} {f:List Int}:kM p f (zi f 0).length=(gB (iW p f)).1:=by
 unfold kM;rw[φ];rfl
theorem Kn {p:cj} {f:List Int}:lZ p f (mF p)=(gB (iW p f)).2:=by
 simp_all[lZ,gB,iW,l8]
theorem Dv {p:cj} {f:List Int} {j:Nat} (h:j<=(zi f 0).length):(kM p f j).length=j:=by
 grind[kM,ez]
theorem Km {p:cj} {f:List Int} {r:Int} {j:Nat} (h:j<=(zi f 0).length):(l8 p f r j).length=j:=by
 grind[l8,ez]
theorem Kl {p:cj} {f:List Int} {k:Nat}:(lZ p f k).length=k:=by
 grind[lZ,gQ]
theorem Kk {l m:List Rat}:fL (l++m)=fL l++fL m:=γb
theorem TZ {p:cj} {f:List Int} {j:Int} (a:0<=j) (h:j<(zi f 0).length):kM p f (j+1).toNat=kM p f j.toNat++[nf (((oI p (bN (zi f 0) j.toNat 0)).value:Int):Rat)]:=by
 unfold kM;rw[ji (d:=0) a h,γb,Kk];rfl
theorem TY {p:cj} {f:List Int} {r j:Int} (a:0<=j) (h:j<(zi f 0).length):l8 p f r (j+1).toNat=l8 p f r j.toNat++[nf ((dz p r (oI p (bN (zi f 0) j.toNat 0)):Int):Rat)]:=by
 unfold l8;rw[ji (d:=0) a h,γb,Kk];rfl
theorem Uu {p:cj} {f:List Int} {r:Int} (a:0<=r):lZ p f (r+1).toNat=lZ p f r.toNat++[(l8 p f r (zi f 0).length,nf ((cC p r - bZ p ((zi f 1).map (oI p)) r:Int):Rat))]:=by
 unfold lZ;rw[show(r+1).toNat=r.toNat+1 by omega,qm,γb,show((r.toNat:Nat):Int)=r by omega];rfl
def fZ (p:cj) (f:List Int):Bool:=fi p ((zi f 1).map (oI p))
def lA (p:cj) (f:List Int):List NH×(List (List NH×NH)×List Int):=if fZ p f=true then((gB (iW p f)).1,((gB (iW p f)).2,zi f 0)) else([],([],[]))
theorem Ut {p:cj} {f:List Int} (h:dW p f):wR (iW p f):=by
 have a:=cL h.1;have c:(iW p f).1.length=nF f:=by
  show((zi f 0).map _).length=_;simp_all
 have b:(iW p f).2.length=mF p:=by
  show((cz (mF p)).map _).length=_;grind[gQ]
 have g:=@ri f 0;have i:mF p=p.bk.length+12:=rfl;refine⟨?_,?_,?_,?_,?_⟩;·rw[c];have:=h.2.1;have:=a.2.1;grind
 ·rw[b];have:=a.1;omega
 ·grind[zH,zP]
 ·grind[zH,DC]
 ·rw[c,b,zH];exact⟨_,λx z d e=>KA h d e⟩
theorem Us {p:cj} {f:List Int}:lG (iW p f)=cE p f:=by
 have b:(iW p f).1.length=nF f:=by
  show((zi f 0).map _).length=_;simp_all
 have a:(iW p f).2.length=mF p:=by
  show((cz (mF p)).map _).length=_;grind[gQ]
 grind[lG,cE,zH]
noncomputable def jf (p:cj) (f:List Int) (k:Nat):List Rat:=(cz f.length).map λi=>if bN f i.toNat 0=1 then 1 else if i∈(zi f 0).take k then bN (fk (cE p f) (nF f) (mF p)) ((zi f 0).idxOf i) 0 else 0
noncomputable def g_ (p:cj) (f:List Int):Rat:=((fN p f:Int):Rat)+(cE p f).value
noncomputable def gv (p:cj) (f:List Int):List Rat:=ix (cE p f) (nF f) (mF p) (nF f)
theorem uJ {p:cj} {f:List Int} {k:Nat}:(jf p f k).length=f.length:=by
 grind[jf,gQ]
theorem zG {p:cj} {f:List Int} {k i:Nat} (h:i<f.length):bN (jf p f k) i 0=if bN f i 0=1 then 1 else if(i:Int)∈(zi f 0).take k then bN (fk (cE p f) (nF f) (mF p)) ((zi f 0).idxOf (i:Int)) 0 else 0:=by
 unfold jf;rw[DF (e:=0) (by grind[gQ]),DE h,γk]
theorem Ur {l m:List Rat} (a:l.length=m.length) (h:∀i,i<m.length->bN l i 0=bN m i 0):l=m:=List.ext_getElem a λi b c=>by
 grind[bV]
theorem Uq {p:cj} {f:List Int} {k:Nat} (b:k<nF f):(jf p f k).set (bN (zi f 0) k 0).toNat (bN (fk (cE p f) (nF f) (mF p)) k 0)=jf p f (k+1):=by
 have g:=jO.1 (cA (d:=0) b);refine Ur (by grind[uJ]) λi a=>?_;rw[uJ] at a;have c:(zi f 0).idxOf (bN (zi f 0) k 0)=k:=m_ (rY.imp λh=>by omega) b;have e:(zi f 0).take (k+1)=(zi f 0).take k++[bN (zi f 0) k 0]:=by simp_all[bV]
 rw[gM (by grind[uJ]),zG a,zG a,e];grind
theorem Up {p:cj} {f:List Int} {i:Nat} (h:i<f.length):bN (jf p f 0) i 0=if bN f i 0=1 then 1 else 0:=by
 grind[zG]
def i_ (p:cj) (f:List Int):Bool:=decide (hJ p f=0)&&fZ p f
noncomputable def jr (p:cj) (f:List Int):NH:=if i_ p f=true then nf (g_ p f) else(false,([],[]))
noncomputable def oW (p:cj) (f:List Int):List NH:=if i_ p f=true then fL (gv p f) else[]
noncomputable def jq (p:cj) (f:List Int):List NH:=if i_ p f=true then fL (jf p f (nF f)) else[]
noncomputable def Uo (p:cj) (f:List Int):SV:=.agg [.sb (i_ p f),.sb (jr p f).1,.row (.i .u32) (jr p f).2.1,.row (.i .u32) (jr p f).2.2,.row sF (oW p f),.row sF (jq p f)]
theorem wO:∀{l m:List Int},l.Pairwise (·<·)->m.Pairwise (·<·)->(∀x,x∈l↔x∈m)->l=m
 |[],[],_,_,_=>rfl
 |[],y::m,_,_,h=>by have:=(h y).2 (by simp);simp at this;|x::l,[],_,_,h=>by have:=(h x).1 (by simp);simp at this;|x::l,y::m,hl,hm,h=>by
  rw[γr] at hl hm;have e:x=y:=by
   rcases γq.1 ((h x).1 (by simp)) with h1|h1;·exact h1
   ·rcases γq.1 ((h y).2 (by simp)) with h2|h2;·exact h2.symm
    ·have:=hl.1 y h2;have:=hm.1 x h1;omega
  subst e;congr 1;refine wO hl.2 hm.2 λz=>?_;constructor
  ·intro hz;rcases γq.1 ((h z).1 (γp _ hz)) with h1|h1;·have:=hl.1 z hz;omega
   ·exact h1
  ·intro hz;rcases γq.1 ((h z).2 (γp _ hz)) with h1|h1;·have:=hm.1 z hz;omega
   ·exact h1
theorem Du {t:List Int} {g:Int->Int}:∀{l:List Int},((l.filter λx=>decide (x∈t)).map g).sum=(l.map λx=>if x∈t then g x else 0).sum
 |[]=>rfl
 |x::l=>by
  simp only[List.filter_cons,ξ,εl];by_cases h:x∈t;·rw[if_pos (decide_eq_true h),if_pos h,ξ,εl,Du]
  ·rw[if_neg (by simpa using h),if_neg h,Du];omega
theorem Dt {t:List Int} {g:Int->Int}:∀{l:List Int},kP (λx=>((g x:Int):Rat)*(if x∈t then 1 else 0)) l=(((l.map λx=>if x∈t then g x else 0).sum:Int):Rat)
 |[]=>rfl
 |x::l=>by
  have:=@Dt t g l;simp only[kP,this,ξ,εl,Rat.intCast_add];congr 1;split<;>simp_all
theorem zF {p:cj}:∀{l:List Int},bF (l.map (oI p))=(l.map λi=>(oI p i).value).sum
 |[]=>rfl
 |x::l=>by
  have:=@zF p l;grind[bF]
section
variable {p:cj} {f t:List Int}
theorem Kj (k:iN f=true) (u:f.length=p.bj.length) (e:dj p.bj.length t) (j:∀i∈t,bN f i.toNat 0≠ -1) (r:∀i∈zi f 1,i∈t) (g:Int->Int):
  (t.map g).sum=((zi f 1).map g).sum+((zi f 0).map λx=>if x∈t then g x else 0).sum:=by
 have l:t.Perm (zi f 1++(zi f 0).filter λx=>decide (x∈t)):=by
  refine(γ7 (vF e) ?_).2 λx=>?_
  ·rw[γx];refine⟨rY.imp λh=>by omega,(rY.sublist γo).imp λh=>by omega,λa s b o m=>?_⟩;grind[jO]
  ·rw[γi,List.mem_filter,decide_eq_true_eq];constructor
   ·intro c;have v:=e.2 x c;have q:=j x c;have n:=ψ.1 k _ (cA (d:=0) (show x.toNat<f.length by omega));simp only[θ,decide_eq_true_eq] at n;grind[jO]
   grind
 rw[LO (l.map g),γb,θe,Du]
theorem sC (l:List Int) (r:Int):bZ p (l.map (oI p)) r=(l.map λi=>dz p r (oI p i)).sum:=by
 unfold bZ;rw[γP];rfl
theorem Hv (h:dW p f) (s:iN f=true) (z:dj p.bj.length t) (a:fi p (t.map (oI p))=true) (u:∀i∈t,bN f i.toNat 0≠ -1) (A:∀i∈zi f 1,i∈t):((bF (t.map (oI p)):Int):Rat)<=g_ p f:=by
 obtain⟨l,E,r⟩:=mO h;have d:∀g:Int->Int,Ov (nF f) (λj=>((g (bN (zi f 0) j 0):Int):Rat)*(if bN (zi f 0) j 0∈t then(1:Rat) else 0))=(((t.map g).sum - ((zi f 1).map g).sum:Int):Rat):=λg=>by
  have e:=@oZ (λx=>((g x:Int):Rat)*(if x∈t then(1:Rat) else 0)) (zi f 0);rw[Dt] at e;rw[Kj s h.2.1 z u A g];grind
 have q:=asg_holds (n:=nF f) (m:=mF p) (t:=bQ p f) kj oX (y:=λj=>if bN (zi f 0) j 0∈t then(1:Rat) else 0);have B:(bQ p f).value+Ov (nF f) (λj=>(bQ p f).cs j*(if bN (zi f 0) j 0∈t then(1:Rat) else 0))=((bF (t.map (oI p)) - fN p f:Int):Rat):=by
  grind[bQ,cX,wT,fN,zF]
 rw[B] at q;have o:∀v∈(bQ p f).basic++(bQ p f).free,0<=iB (nF f) (bQ p f) (λj=>if bN (zi f 0) j 0∈t then(1:Rat) else 0) v:=λv b=>by
  rcases γi.1 b with b|b
  ·obtain⟨i,k,rfl⟩:=vy kj b;rw[mc kj oX k,vV k,cX (g:=λj=>((dz p i (oI p (bN (zi f 0) j 0)):Int):Rat)*(if bN (zi f 0) j 0∈t then(1:Rat) else 0)) λj c=>by rw[vW k c],d λx=>dz p i (oI p x),<-sC,<-sC];have C:=ni.1 a i (by grind[cq]);have w:0<=(cC p i - bZ p ((zi f 1).map (oI p)) i) - (bZ p (t.map (oI p)) i - bZ p ((zi f 1).map (oI p)) i):=by omega
   have D:=zO w;simp_all
  grind[sL,kj,lC,oX]
 have:=l.IT r q λj c=>o _ (l.perm.mem_iff.1 (List.mem_append_right _ (sM l.wf c)));grind[g_]
end
theorem Ki {t:Tb} {n j:Nat} (b:j<n):∀{k:Nat},(∀i,i<k->0<=t.bv i)->(∃i,i<k/\t.bv i=j/\bN (fk t n k) j 0=t.bd i)\/((∀i,i<k->t.bv i≠j)/\bN (fk t n k) j 0=0)
 |0,_=> .inr ⟨λi a=>by omega,by
   grind[fk,bV]⟩
 |k+1,h=>by
  have e:=h k (by omega);have d:=@Ki t n j b k λi a=>h i (by omega);unfold fk;by_cases c:t.bv k<n
  ·rw[if_pos c,gM (by grind[zM])];grind
  grind
theorem Kh {t:Tb} {n m r:Nat} (a:r<m):∀{k:Nat},(∃j,j<k/\t.fv j=((n+r:Nat):Int)/\bN (ix t n m k) r 0= -(t.cs j))\/((∀j,j<k->t.fv j≠((n+r:Nat):Int))/\bN (ix t n m k) r 0=0)
 |0=> .inr ⟨λi d=>by omega,by
   grind[ix,bV]⟩
 |k+1=>by
  have c:=@Kh t n m r a k;unfold ix;by_cases b:(n:Int)<=t.fv k/\t.fv k<n+m
  ·rw[if_pos b,gM (by grind[zL])];grind
  grind
theorem K0 {n m:Nat} {t:Tb} (h:t.WF n m) (c:(t.basic++t.free).Nodup) {j:Nat} (a:j<n):dF t (t.fv j)=t.cs j:=by
 have b:j<t.free.length:=by rw[h.free];exact a
 unfold dF;rw[if_pos (sM h a),show t.free.idxOf (t.fv j)=j from m_ (γx.1 c).2.1 b]
theorem Un {n m:Nat} {t:Tb} (h:t.WF n m) (b:(t.basic++t.free).Nodup) {j:Nat} (a:j<m):dF t (t.bv j)=0:=by
 unfold dF;rw[if_neg (EV h b a)]
section
variable {p:cj} {f:List Int}
noncomputable def nJ (p:cj) (f:List Int):Int->Rat:=iB (nF f) (cE p f) λ_=>0
theorem optX_holds (h:dW p f):(bQ p f).holds (nF f) (mF p) (nJ p f) (cE p f).value:=by
 obtain⟨a,_,_⟩:=mO h;have b:=asg_holds a.wf a.fm (y:=λ_=>0);rw[cX (g:=λ_=>0) λj _=>by grind,gN] at b;have c:=(a.sol _ _).1 b;rwa [show(cE p f).value+0=(cE p f).value by grind] at c
theorem Ds (h:dW p f) {i:Nat} (b:i<mF p):nJ p f ((cE p f).bv i)=(cE p f).bd i:=by
 obtain⟨a,_,_⟩:=mO h;unfold nJ;rw[mc a.wf a.fm b,cX (g:=λ_=>0) λj _=>by grind,gN];grind
theorem Dr (h:dW p f) {j:Nat} (b:j<nF f):nJ p f ((cE p f).fv j)=0:=by
 obtain⟨a,_,_⟩:=mO h;unfold nJ;rw[lC a.wf a.fm b]
theorem zE (h:dW p f) {v:Int} (a:v∈(bQ p f).basic++(bQ p f).free):(∃i,i<mF p/\(cE p f).bv i=v)\/∃j,j<nF f/\(cE p f).fv j=v:=by
 obtain⟨b,_,_⟩:=mO h;rw[<-b.perm.mem_iff,γi] at a;rcases a with a|a;·exact .inl (vy b.wf a)
 ·exact .inr (sL b.wf a)
theorem Dq (h:dW p f) {v:Int} (c:v∈(bQ p f).basic++(bQ p f).free):0<=nJ p f v:=by
 obtain⟨_,b,_⟩:=mO h;rcases zE h c with⟨i,a,rfl⟩|⟨j,d,rfl⟩
 ·rw[Ds h a];exact b i a
 grind[Dr]
theorem Dp {j:Nat} (a:j<nF f):(j:Int)∈(bQ p f).basic++(bQ p f).free:=by
 have:=sM (n:=nF f) (m:=mF p) (t:=bQ p f) kj a;grind[sE]
theorem Um (h:dW p f) {i:Nat} (b:i<mF p):0<=(cE p f).bv i:=by
 obtain⟨a,_,_⟩:=mO h;have c:=a.perm.mem_iff.1 (εp _ (w9 a.wf b));grind[vy,kj,zR,sL,sE]
theorem Ul (h:dW p f) {j:Nat} (c:j<nF f):bN (fk (cE p f) (nF f) (mF p)) j 0=nJ p f j:=by
 rcases @Ki (cE p f) (nF f) j c (mF p) λi b=>Um h b with⟨i,d,a,g⟩|⟨d,a⟩;·grind[Ds]
 ·rw[a];rcases zE h (Dp c) with⟨i,b,e⟩|⟨k,l,e⟩<;>grind[zE,Dp,Dr]
theorem S6 (h:dW p f) {j:Nat} (a:j<nF f):nJ p f j<=1:=by
 have:=KB h (optX_holds h) (λv b=>Dq h b) a;grind[sE]
theorem KZ (h:dW p f):(∀i,i<mF p->Sz 1000 ((cE p f).bd i))/\(∀j,j<nF f->Sz 1000 ((cE p f).cs j))/\Sz 1000 (cE p f).value:=have a:=(zP h).IU (mO h).1;⟨a.1,a.2.1,a.2.2.1⟩
theorem Do (q:Rat) (h:q=0\/q=1):Sz 1000 q:=by
 have a:Sz 1 q:=by rcases h with rfl|rfl<;>exact⟨by decide,by decide⟩
 exact a.mono (by omega)
theorem S5 (h:dW p f) {v:Int} (a:v∈(bQ p f).basic++(bQ p f).free):Sz 1000 (nJ p f v):=by
 grind[zE,Ds,KZ,Dr,Do]
noncomputable def cN (p:cj) (f:List Int):List Rat:=jf p f (nF f)
theorem pB:(cN p f).length=f.length:=uJ
theorem wN (h:dW p f) (c:iN f=true) {i:Nat} (b:i<f.length):(bN f i 0=1/\bN (cN p f) i 0=1)\/(bN f i 0= -1/\bN (cN p f) i 0=0)\/(bN f i 0=0/\(i:Int)∈zi f 0/\(zi f 0).idxOf (i:Int)<nF f/\bN (cN p f) i 0=nJ p f ((zi f 0).idxOf (i:Int))):=by
 have g:=ψ.1 c _ (cA (d:=0) b);simp only[θ,decide_eq_true_eq] at g;unfold cN;rw[zG b,φ];rcases(show bN f i 0=1\/bN f i 0= -1\/bN f i 0=0 by omega) with a|a|a;·simp_all
 ·simp_all[jO]
 ·have e:(i:Int)∈zi f 0:=jO.2 ⟨by omega,by simp_all⟩;have j:(zi f 0).idxOf (i:Int)<nF f:=γ6 e;simp_all[Ul]
theorem Ai (h:dW p f) (a:iN f=true) {i:Nat} (b:i<f.length):0<=bN (cN p f) i 0/\bN (cN p f) i 0<=1/\Sz 1000 (bN (cN p f) i 0):=by
 rcases wN h a b with⟨_,e⟩|⟨_,e⟩|⟨_,_,c,e⟩;all_goals grind[Do,Dq,Dp,S6,S5]
theorem qM (h:dW p f) (c:iN f=true) {i:Nat} (b:i<f.length) (d:0<bN (cN p f) i 0) (a:bN (cN p f) i 0<1):bN f i 0=0:=by
 grind[wN]
def dN (x:List Rat):List Int:=(cz x.length).filter λi=>decide (0<bN x i.toNat 0)
theorem uI {x:List Rat} {i:Int}:i∈dN x↔(0<=i/\i<x.length)/\0<bN x i.toNat 0:=by
 simp_all[dN,jh]
theorem KY {x:List Rat}:dj x.length (dN x):=⟨nL.sublist γo,λi a=>(uI.1 a).1⟩
def lz (x:List Rat):Bool:=x.all λq=>decide (q.den=1)
theorem S4 {q:Rat} (h:q.den=1):q=(q.num:Rat):=by
 grind[Rat.mkRat_self,Rat.mkRat_one]
theorem S3 {q:Rat} (c:q.den=1) (b:0<=q) (a:q<=1):q=0\/q=1:=by
 rw[S4 c] at b a ⊢;have f:0<=q.num:=by exact_mod_cast b
 have d:q.num<=1:=by exact_mod_cast a
 rcases(show q.num=0\/q.num=1 by omega) with e|e<;>simp_all
theorem S2 {t:List Int} (a:iN f=true) (c:f.length=p.bj.length) (h:dj p.bj.length t) (b:∀i∈t,bN f i.toNat 0≠ -1) (d:∀i∈zi f 1,i∈t) (g:Int->Int):Ov (nF f) (λj=>((g (bN (zi f 0) j 0):Int):Rat)*(if bN (zi f 0) j 0∈t then(1:Rat) else 0))=(((t.map g).sum - ((zi f 1).map g).sum:Int):Rat):=by
 have e:=@oZ (λx=>((g x:Int):Rat)*(if x∈t then(1:Rat) else 0)) (zi f 0);rw[Dt] at e;rw[Kj a c h b d g];grind
theorem KX (h:dW p f) (t:iN f=true) (F:lz (cN p f)=true):fi p ((dN (cN p f)).map (oI p))=true/\((bF ((dN (cN p f)).map (oI p)):Int):Rat)=g_ p f:=by
 have n:=h.2.1;have z:=@pB p f;have q:∀i:Nat,i<f.length->bN (cN p f) i 0=0\/bN (cN p f) i 0=1:=λi o=>by
  obtain⟨O,J,_⟩:=Ai h t o;have:=ψ.1 F _ (cA (d:=0) (show i<(cN p f).length by omega));simp_all[S3]
 have B:dj p.bj.length (dN (cN p f)):=by
  grind[KY]
 have A:∀i∈dN (cN p f),bN f i.toNat 0≠ -1:=λi x K=>by
  grind[uI,wN]
 have D:∀i∈zi f 1,i∈dN (cN p f):=λi x=>by
  grind[jO,uI,wN]
 have G:∀j,j<nF f->(if bN (zi f 0) j 0∈dN (cN p f) then(1:Rat) else 0)=nJ p f ((bQ p f).fv j):=λj c=>by
  obtain⟨C,L⟩:=vU h c;have E:(zi f 0).idxOf (bN (zi f 0) j 0)=j:=m_ (rY.imp λh=>by omega) c;have M:((((bN (zi f 0) j 0).toNat:Nat)):Int)=bN (zi f 0) j 0:=by omega
  have e:bN (cN p f) (bN (zi f 0) j 0).toNat 0=nJ p f j:=by
   grind[wN]
  rw[sE c,<-e];rcases q (bN (zi f 0) j 0).toNat (by omega) with l|l;·simp_all[uI]
  ·rw[l,if_pos];grind[uI]
 obtain⟨v,w⟩:=optX_holds h;have k:=S2 t n B A D;refine⟨ni.2 λy b=>?_,?_⟩
 ·obtain⟨r,m⟩:∃r:Int,r=(y:Int):=⟨_,rfl⟩;rw[<-m] at b ⊢;have I:0<=r:=by omega
  have a:r.toNat<mF p:=by unfold cq at b;grind
  have s:=v r.toNat a;rw[cX (g:=λj=>((dz p r (oI p (bN (zi f 0) j 0)):Int):Rat)*(if bN (zi f 0) j 0∈dN (cN p f) then(1:Rat) else 0)) λj c=>by grind[vW],k λi=>dz p r (oI p i),vV a,show((r.toNat:Nat):Int)=r by omega] at s;have N:=Dq h (εp _ (w9 kj a));rw[<-sC,<-sC] at s;have l:((bZ p ((dN (cN p f)).map (oI p)) r - bZ p ((zi f 1).map (oI p)) r:Int):Rat)<=((cC p r - bZ p ((zi f 1).map (oI p)) r:Int):Rat):=by grind
  have H:bZ p ((dN (cN p f)).map (oI p)) r - bZ p ((zi f 1).map (oI p)) r<=cC p r - bZ p ((zi f 1).map (oI p)) r:=by exact_mod_cast l
  omega
 ·have u:(bQ p f).value=0:=rfl;rw[u,cX (g:=λj=>(((oI p (bN (zi f 0) j 0)).value:Int):Rat)*(if bN (zi f 0) j 0∈dN (cN p f) then(1:Rat) else 0)) λj c=>by grind[wT],k λi=>(oI p i).value] at w;grind[g_,fN,zF]
theorem KW (h:dW p f) {x:Int->Rat} {z:Rat} (l:(bQ p f).holds (nF f) (mF p) x z):z=(cE p f).value+(Ov (mF p) (λk=>dF (cE p f) ((nF f+k:Nat):Int)*x ((nF f+k:Nat):Int))+Ov (nF f) λj=>dF (cE p f) (j:Int)*x (j:Int)):=by
 obtain⟨a,_,_⟩:=mO h;have i:=((a.sol _ _).2 l).2;have m:Ov (nF f) (λj=>(cE p f).cs j*x ((cE p f).fv j))=kP (λv=>dF (cE p f) v*x v) ((cE p f).basic++(cE p f).free):=by
  rw[x_,oZ,oZ,a.wf.basic,a.wf.free];rw[cX (n:=mF p) (g:=λ_=>0) λk b=>by
   show dF (cE p f) ((cE p f).bv k)*x ((cE p f).bv k)=0;rw[Un a.wf a.fm b];grind,gN];rw[cX (n:=nF f) (f:=λk=>dF (cE p f) (bN (cE p f).free k 0)*x (bN (cE p f).free k 0)) (g:=λj=>(cE p f).cs j*x ((cE p f).fv j)) λj e=>by
   show dF (cE p f) ((cE p f).fv j)*x ((cE p f).fv j)=_;rw[K0 a.wf a.fm e]];grind
 have d:kP (λv=>dF (cE p f) v*x v) ((bQ p f).basic++(bQ p f).free)=Ov (mF p) (λk=>dF (cE p f) ((nF f+k:Nat):Int)*x ((nF f+k:Nat):Int))+Ov (nF f) λj=>dF (cE p f) (j:Int)*x (j:Int):=by
  have c:=@kj p f;rw[x_,oZ,oZ,c.basic,c.free];congr 1
  ·refine cX λk b=>?_;show dF (cE p f) ((bQ p f).bv k)*x ((bQ p f).bv k)=_;rw[zR b]
  ·refine cX λk b=>?_;show dF (cE p f) ((bQ p f).fv k)*x ((bQ p f).fv k)=_;rw[sE b]
 rw[i,m,EW a.perm,d]
theorem KV (h:dW p f) {v:Int}:dF (cE p f) v<=0:=by
 obtain⟨d,_,e⟩:=mO h;unfold dF;split
 ·rename_i g;have k:(cE p f).free.idxOf v<nF f:=by rw[<-d.wf.free];grind
  rcases @sf (cE p f) (nF f) with⟨a,b⟩|⟨c,a,b,i,j⟩<;>grind
 ·decide
theorem Ah (h:dW p f) {r:Nat} (g:r<mF p):bN (gv p f) r 0= -(dF (cE p f) ((nF f+r:Nat):Int)):=by
 obtain⟨a,_,_⟩:=mO h;unfold gv;rcases @Kh (cE p f) (nF f) (mF p) r g (nF f) with⟨j,c,b,i⟩|⟨c,b⟩;·rw[i,<-b,K0 a.wf a.fm c]
 ·rw[b];unfold dF;rw[if_neg];·decide
  ·intro d;obtain⟨j,k,e⟩:=sL a.wf d;simp_all
theorem Ag:(gv p f).length=mF p:=zL
theorem Dn (h:dW p f) {r:Nat} (a:r<mF p):0<=bN (gv p f) r 0/\Sz 1000 (bN (gv p f) r 0):=by
 obtain⟨c,_,_⟩:=mO h;have d:=@KV p f h ((nF f+r:Nat):Int);refine⟨by grind[Ah],?_⟩;rw[Ah h a];refine wX ?_;unfold dF;split
 ·rename_i b;exact(KZ h).2.1 _ (by have:=γ6 b;rw[c.wf.free] at this;exact this)
 grind[Do]
theorem KU (h:dW p f):(cE p f).value=Ov (mF p) λr=>bN (gv p f) r 0*(bQ p f).bd r:=by
 have c:=asg_holds (n:=nF f) (m:=mF p) (t:=bQ p f) kj oX (y:=λ_=>0);have a:=KW h c;have d:(bQ p f).value=0:=rfl;rw[d,cX (n:=nF f) (f:=λj=>(bQ p f).cs j*(λ_=>(0:Rat)) j) (g:=λ_=>0) λj _=>by grind,gN] at a;rw[cX (n:=nF f) (f:=λj=>dF (cE p f) (j:Int)*iB (nF f) (bQ p f) (λ_=>0) (j:Int)) (g:=λ_=>0) λj b=>by
  have e:=lC (n:=nF f) (m:=mF p) (t:=bQ p f) kj oX (y:=λ_=>0) b;grind[sE],gN] at a;rw[cX (n:=mF p) (g:=λk=>(-1:Rat)*(bN (gv p f) k 0*(bQ p f).bd k)) λk i=>by
  have e:=mc (n:=nF f) (m:=mF p) (t:=bQ p f) kj oX (y:=λ_=>0) i;grind[zR,gN,Ah],sO] at a;grind
theorem S1 (h:dW p f) {j:Nat} (b:j<nF f):(bQ p f).cs j<=Ov (mF p) λr=>bN (gv p f) r 0*(bQ p f).cf r j:=by
 have l:=asg_holds (n:=nF f) (m:=mF p) (t:=bQ p f) kj oX (y:=λi=>if i=j then 1 else 0);have a:=KW h l;have o:(bQ p f).value=0:=rfl;rw[o,cX (n:=nF f) (f:=λi=>(bQ p f).cs i*(if i=j then(1:Rat) else 0)) (g:=λi=>if i=j then(bQ p f).cs j else 0) λi _=>by
  grind,r_ b] at a;rw[cX (n:=nF f) (f:=λi=>dF (cE p f) (i:Int)*iB (nF f) (bQ p f) (λi=>if i=j then 1 else 0) (i:Int)) (g:=λi=>if i=j then dF (cE p f) (j:Int) else 0) λi d=>by
  have e:=lC (n:=nF f) (m:=mF p) (t:=bQ p f) kj oX (y:=λi=>if i=j then(1:Rat) else 0) d;rw[sE d] at e;grind,r_ b] at a;rw[cX (n:=mF p) (g:=λk=>bN (gv p f) k 0*(bQ p f).cf k j - bN (gv p f) k 0*(bQ p f).bd k) λk c=>by
  have e:=mc (n:=nF f) (m:=mF p) (t:=bQ p f) kj oX (y:=λi=>if i=j then(1:Rat) else 0) c;rw[zR c,cX (g:=λi=>if i=j then(bQ p f).cf k j else 0) λi _=>by
   grind,r_ b] at e;grind[Ah],E7] at a;grind[KU,KV]
end
abbrev cy:=Int×(Int×(Int×(Int×List NH)))
@[reducible] def Ao:ew:=.pair (.i .i64) (.pair (.i .i64) (.pair (.i .i64) (.pair (.i .i64) (.Ap sF))))
def zN:cy:=(0,(0,(0,(0,[]))))
def zc:cy:=(3,(0,(0,(0,[]))))
noncomputable def oV (p:cj) (f:List Int):cy:=(1,(0,(0,(0,fL (gv p f)))))
def je (k o:Int):cy:=(2,(k,(o,(o+1,[]))))
structure cd where
 ch:List Int
 val:Int
 bp:Bool
 bq:List cy
 err:Int
def dv (b:Int->Bool) (s:cd) (a:bB):cd:=if s.val<a.value then⟨a.bn,a.value,s.bp||b a.value,s.bq,s.err⟩ else s
def lv (q:Rat):Rat:=if q<0 then -q else q
def iz (x:List Rat):Nat->Option (Int×Rat)
 |0=>none
 |k+1=>if 0<bN x k 0/\bN x k 0<1 then(match iz x k with
   |none=>some ((k:Int),lv (bN x k 0 - 1 / 2))
   |some (i,l)=>if lv (bN x k 0 - 1 / 2)<l then some ((k:Int),lv (bN x k 0 - 1 / 2)) else some (i,l)) else iz x k
def iL (x:List Rat):Option Int:=(iz x x.length).map (·.1)
theorem Dm {x:List Rat}:∀{k:Nat} {i:Int} {l:Rat},iz x k=some (i,l)->(0<=i/\i<k)/\(0<bN x i.toNat 0/\bN x i.toNat 0<1)/\l=lv (bN x i.toNat 0 - 1 / 2)
 |0,i,l,h=>by cases h;|k+1,i,l,h=>by
  unfold iz at h;have b:some ((k:Int),lv (bN x k 0 - 1 / 2))=some (i,l)->(0<bN x k 0/\bN x k 0<1)->(0<=i/\i<((k+1:Nat):Int))/\(0<bN x i.toNat 0/\bN x i.toNat 0<1)/\l=lv (bN x i.toNat 0 - 1 / 2):=λh f=>by
   grind
  have a:iz x k=some (i,l)->(0<=i/\i<((k+1:Nat):Int))/\(0<bN x i.toNat 0/\bN x i.toNat 0<1)/\l=lv (bN x i.toNat 0 - 1 / 2):=λh=>by
   obtain⟨c,d,e⟩:=Dm h;grind
  grind
theorem KT {x:List Rat}:∀{k:Nat},iz x k=none->∀i,i<k->¬(0<bN x i 0/\bN x i 0<1)
 |0,_,i,a=>by omega;|k+1,h,i,a=>by
  unfold iz at h;split at h;·grind
  ·rename_i b;by_cases e:i=k;·simp_all
   ·exact KT h i (by omega)
theorem qL {x:List Rat} {k:Int} (h:iL x=some k):(0<=k/\k<x.length)/\0<bN x k.toNat 0/\bN x k.toNat 0<1:=by
 unfold iL at h;obtain⟨⟨i,l⟩,b,a⟩:=ε.1 h;simp only at a;subst a;obtain⟨c,d,_⟩:=Dm b;simp_all
theorem S0 {x:List Rat} (h:iL x=none):∀i,i<x.length->¬(0<bN x i 0/\bN x i 0<1):=KT (Option.map_eq_none_iff.1 h)
noncomputable def nB (p:cj) (f:List Int):bB:=⟨dN (cN p f),bF ((dN (cN p f)).map (oI p))⟩
noncomputable def cD (p:cj) (a:Int->Bool) (s:cd) (f:List Int):cd:=if((s.val+1:Int):Rat)<=g_ p f/\lz (cN p f)=true then dv a s (nB p f) else s
def fK (s:cd) (a k:Int):cd:={s with bq:=(s.bq++[zN,zN]).set a.toNat (je k s.bq.length)}
noncomputable def eu (p:cj) (en:Int->Bool) (bz:Int) (b:cd->Int->List Int->cd) (s:cd) (a:Int) (f:List Int):cd:=
 if s.err≠0\/s.bp=true then s
 else if fZ p f=false then {s with bq:=s.bq.set a.toNat zc}
 else if g_ p f<(((cD p en s f).val+1:Int):Rat) then {cD p en s f with bq:=(cD p en s f).bq.set a.toNat (oV p f)}
 else match iL (cN p f) with
  |none=>{cD p en s f with err:=12}
  |some k=>if bz<(cD p en s f).bq.length+2 then {cD p en s f with err:=12}
   else b (b (fK (cD p en s f) a k) ((cD p en s f).bq.length+1) (f.set k.toNat 1)) (cD p en s f).bq.length (f.set k.toNat (-1))
noncomputable def cP (p:cj) (b:Int->Bool) (a:Int):Nat->cd->Int->List Int->cd
 |0=>eu p b a λs _ _=>s
 |n+1=>eu p b a (cP p b a n)
structure dP (p:cj) (f:List Int):Prop where
 c:nW p=0
 l:f.length=p.bj.length
 r:iN f=true
theorem dP.ok {p:cj} {f:List Int} (h:dP p f) (a:fZ p f=true):dW p f:=⟨h.c,h.l,a⟩
theorem dP.e {p:cj} {f:List Int} (h:dP p f):hJ p f=0:=by
 unfold hJ;rw[if_neg (by simp[h.c]),if_neg (by simp[h.l]),if_pos h.r]
theorem dP.i_ {p:cj} {f:List Int} (h:dP p f):i_ p f=fZ p f:=by
 unfold Go.Vi.i_;rw[h.e];simp
theorem KS {f:List Int} {k:Nat} {d:Int} (h:iN f=true) (a: -1<=d/\d<=1):iN (f.set k d)=true:=by
 grind[iN]
theorem dP.set {p:cj} {f:List Int} (h:dP p f) {k:Nat} {d:Int} (a: -1<=d/\d<=1):dP p (f.set k d):=⟨h.c,by rw[Ω];exact h.l,KS h.r a⟩
theorem kL {f:List Int} {k d:Int} (i:0<=k/\k<f.length) (l:bN f k.toNat 0=0) (g:d≠0):nF f=nF (f.set k.toNat d)+1:=by
 have c:(zi f 0).Perm (k::zi (f.set k.toNat d) 0):=by
  refine(γ7 (rY.imp λh=>by omega) ?_).2 λx=>?_
  ·rw[List.nodup_cons];refine⟨λj=>?_,rY.imp λh=>by omega⟩;simp_all[jO,gM]
  ·rw[γq,jO,jO,Ω];constructor
   ·rintro⟨a,b⟩;by_cases e:x=k;·exact .inl e
    ·exact .inr ⟨a,by rw[gM (by omega),if_neg (by omega)];exact b⟩
   grind[gM]
 have:=c.length_eq;omega
theorem Af {en:Int->Bool} {s:cd} {a:bB}:(dv en s a).bq=s.bq/\(dv en s a).err=s.err/\s.val<=(dv en s a).val/\((dv en s a).val=s.val\/(dv en s a).val=a.value)/\((dv en s a).ch=s.ch\/(dv en s a).ch=a.bn):=by
 grind[dv]
theorem Ae {p:cj} {en:Int->Bool} {s:cd} {f:List Int}:(cD p en s f).bq=s.bq/\(cD p en s f).err=s.err/\s.val<=(cD p en s f).val/\((cD p en s f).val=s.val\/(cD p en s f).val=(nB p f).value)/\((cD p en s f).ch=s.ch\/(cD p en s f).ch=(nB p f).bn):=by
 grind[cD,Af]
theorem SZ {x:List Rat}:(dN x).length<=x.length:=by
 have:=List.length_filter_le (λi:Int=>decide (0<bN x i.toNat 0)) (cz x.length);rw[gQ] at this;exact this
theorem SY {p:cj} {f:List Int} (b:f.length=p.bj.length):∀x∈(dN (cN p f)).map (oI p),x∈p.bj:=λx a=>by
 obtain⟨i,c,rfl⟩:=Γ.1 a;have:=(uI.1 c).1;rw[pB,b] at this;exact cA (by omega)
theorem KR {p:cj} {f:List Int} (h:dP p f):0<=(nB p f).value/\(nB p f).value<=160000000/\(nB p f).bn.length<=160:=by
 have a:=cL h.c;have b:=@ot p a ((dN (cN p f)).map (oI p)) (SY h.l);have d:=@SZ (cN p f);rw[pB,h.l] at d;have e:=a.2.1;rw[Ξ] at b;refine⟨b.1,?_,?_⟩
 ·show bF _<=_;omega
 ·show(dN (cN p f)).length<=160;omega
theorem Dl {p:cj} (a:nW p=0) {c:List Int} (h:dj p.bj.length c):bT p c=0↔fi p (c.map (oI p))=true:=by
 simp_all[zn,eG,cK,bT]
theorem uH {p:cj} (a:nW p=0) {c:List Int} (h:dj p.bj.length c):cB p c=bF (c.map (oI p)):=by
 simp_all[cK,zn,cB]
theorem pA {p:cj} {en:Int->Bool} {bz:Int}:∀{n:Nat} {s:cd} {a:Int} {f:List Int},dP p f->s.bq.length<=(cP p en bz n s a f).bq.length/\((cP p en bz n s a f).bq.length<=bz\/(cP p en bz n s a f).bq.length=s.bq.length)/\s.val<=(cP p en bz n s a f).val/\((cP p en bz n s a f).val=s.val\/(cP p en bz n s a f).val<=160000000)/\((cP p en bz n s a f).ch=s.ch\/(cP p en bz n s a f).ch.length<=160)/\((cP p en bz n s a f).err=s.err\/(cP p en bz n s a f).err=12):=by
 have d:∀{b:cd->Int->List Int->cd},(∀{s:cd} {a:Int} {f:List Int},dP p f->s.bq.length<=(b s a f).bq.length/\((b s a f).bq.length<=bz\/(b s a f).bq.length=s.bq.length)/\s.val<=(b s a f).val/\((b s a f).val=s.val\/(b s a f).val<=160000000)/\((b s a f).ch=s.ch\/(b s a f).ch.length<=160)/\((b s a f).err=s.err\/(b s a f).err=12))->
   ∀{s:cd} {a:Int} {f:List Int},dP p f->s.bq.length<=(eu p en bz b s a f).bq.length/\((eu p en bz b s a f).bq.length<=bz\/(eu p en bz b s a f).bq.length=s.bq.length)/\s.val<=(eu p en bz b s a f).val/\((eu p en bz b s a f).val=s.val\/(eu p en bz b s a f).val<=160000000)/\((eu p en bz b s a f).ch=s.ch\/(eu p en bz b s a f).ch.length<=160)/\((eu p en bz b s a f).err=s.err\/(eu p en bz b s a f).err=12):=by
  intro b c s a f h;obtain⟨v,j,E,l,r⟩:=@Ae p en s f;obtain⟨H,A,L⟩:=KR h;have w:(cD p en s f).ch=s.ch\/(cD p en s f).ch.length<=160:=r.imp id λh=>by simp_all
  have x:(cD p en s f).val=s.val\/(cD p en s f).val<=160000000:=l.imp id λh=>by omega
  unfold eu;split;·simp_all
  split;·simp_all
  split;·simp_all
  split;·simp_all
  rename_i k J;split;·simp_all
  rename_i o;have F:(fK (cD p en s f) a k).bq.length=s.bq.length+2:=by
   simp_all[fK]
  obtain⟨D,K,u,z,e,t⟩:=@c (fK (cD p en s f) a k) ((cD p en s f).bq.length+1) (f.set k.toNat 1) (h.set (by omega));obtain⟨B,C,G,I,g,M⟩:=@c (b (fK (cD p en s f) a k) ((cD p en s f).bq.length+1) (f.set k.toNat 1)) (cD p en s f).bq.length (f.set k.toNat (-1)) (h.set (by omega));have i:(fK (cD p en s f) a k).val=(cD p en s f).val:=rfl;have m:(fK (cD p en s f) a k).ch=(cD p en s f).ch:=rfl;have q:(fK (cD p en s f) a k).err=(cD p en s f).err:=rfl;rw[v] at o;rw[i] at u z;rw[m] at e;rw[q,j] at t;refine⟨by omega,.inl (by omega),by omega,by omega,?_,?_⟩
  ·rcases g with g|g
   ·rw[g];rcases e with e|e<;>simp_all
   omega
  omega
 intro n;induction n with
 |zero=>exact d λ{s a f} _=>⟨Nat.le_refl _,.inr rfl,εM _,.inl rfl,.inl rfl,.inl rfl⟩;|succ n y=>exact d λh=>y h
inductive gZ (p:cj) (v:Int) (t:List cy):Nat->List Int->Nat->Nat->Prop
 |dZ {a:Nat} {f:List Int} {lo:Nat}:t[a]?=some (oV p f)->fZ p f=true->g_ p f<((v+1:Int):Rat)->gZ p v t a f lo lo
 |j6 {a:Nat} {f:List Int} {lo:Nat}:t[a]?=some zc->fZ p f=false->gZ p v t a f lo lo
 |bra {a:Nat} {f:List Int} {lo mid hi:Nat} {k:Int}:t[a]?=some (je k lo)->a<lo->(0<=k/\k<f.length)->bN f k.toNat 0=0->gZ p v t (lo+1) (f.set k.toNat 1) (lo+2) mid->gZ p v t lo (f.set k.toNat (-1)) mid hi->gZ p v t a f lo hi
section
variable {p:cj} {v v':Int} {t t':List cy} {a lo hi:Nat} {f:List Int}
theorem gZ.le (h:gZ p v t a f lo hi):lo<=hi:=by
 induction h with
 |dZ _ _ _=>omega;|j6 _ _=>omega;|bra _ _ _ _ _ _ b c=>omega
theorem gZ.mono (h:gZ p v t a f lo hi) (q:v<=v') (e:∀i,i=a\/(lo<=i/\i<hi)->t'[i]?=t[i]?):gZ p v' t' a f lo hi:=by
 induction h with
 |dZ c b d=>
  refine .dZ (by simp_all) b ?_;have:((v+1:Int):Rat)<=((v'+1:Int):Rat):=by exact_mod_cast (show v+1<=v'+1 by omega)
  grind;|j6 c b=>exact .j6 (by simp_all) b;|bra c b d l k g m j=>
  have o:=k.le;have n:=g.le;exact .bra (by simp_all) b d l (m λi hi=>e i (by omega)) (j λi hi=>e i (by omega))
def Ad (f:List Int) (l:List Int):Prop:=(∀i∈l,bN f i.toNat 0≠ -1)/\∀i∈zi f 1,i∈l
theorem KQ {l:List Int} {k d:Int} (g:0<=k/\k<f.length) (m:bN f k.toNat 0=0) (e:∀i∈l,0<=i) (h:Ad f l) (j:(d=1/\k∈l)\/(d= -1/\k∉l)):Ad (f.set k.toNat d) l:=by
 obtain⟨b,c⟩:=h;refine⟨λi a=>?_,λi a=>?_⟩<;>grind[gM,jO]
theorem SX {l m:List Int} (e:nW p=0) (f:∀i∈l,0<=i/\i<p.bj.length) (q:m.Nodup) (j:∀i∈m,i∈l) (o:l.Nodup) (h:fi p (l.map (oI p))=true):fi p (m.map (oI p))=true:=by
 refine ni.2 λr b=>?_;have d:=ni.1 h r b;have a:l.Perm (m++l.filter λi=>decide (i∉m)):=by
  grind
 have g:bZ p (l.map (oI p)) r=bZ p (m.map (oI p)) r+bZ p ((l.filter λi=>decide (i∉m)).map (oI p)) r:=by
  rw[sC,sC,sC,LO (a.map _),γb,θe]
 have n:=@qv p r ((l.filter λi=>decide (i∉m)).map (oI p)) λx c=>by
  obtain⟨i,k,rfl⟩:=Γ.1 c;simp_all[js]
 omega
theorem gZ.sound (h:gZ p v t a f lo hi) (e:dP p f) {l:List Int} (d:dj p.bj.length l) (b:fi p (l.map (oI p))=true) (g:Ad f l):bF (l.map (oI p))<=v:=by
 induction h with
 |dZ o n m=>
  have j:=Hv (e.ok n) e.r d b g.1 g.2;have s:((bF (l.map (oI p)):Int):Rat)<((v+1:Int):Rat):=by grind
  have u:bF (l.map (oI p))<v+1:=by exact_mod_cast s
  omega;|j6 o n=>
  exfalso;have:=SX e.c d.2 (rY.imp λh=>by omega) g.2 (vF d) b;grind[fZ];|@bra a f lo y hi k o n m j s u x w=>
  by_cases q:k∈l;·exact x (e.set (by omega)) (KQ m j (λi hi=>(d.2 i hi).1) g (.inl ⟨rfl,q⟩))
  ·exact w (e.set (by omega)) (KQ m j (λi hi=>(d.2 i hi).1) g (.inr ⟨rfl,q⟩))
end
theorem KP {p:cj} {en:Int->Bool} {bz:Int}:∀{n:Nat} {s:cd} {a:Int} {f:List Int},dP p f->nF f<=n->(0<=a/\a<s.bq.length)->(cP p en bz n s a f).err=0->(cP p en bz n s a f).bp=false->
  gZ p (cP p en bz n s a f).val (cP p en bz n s a f).bq a.toNat f s.bq.length (cP p en bz n s a f).bq.length/\(∀i:Nat,i<s.bq.length->i≠a.toNat->(cP p en bz n s a f).bq[i]?=s.bq[i]?)/\s.err=0/\s.bp=false:=by
 have y:∀{b:cd->Int->List Int->cd} {s:cd} {a:Int} {f:List Int},dP p f->(0<=a/\a<s.bq.length)->
   (∀{s:cd} {a:Int} {g:List Int},dP p g->nF f=nF g+1->(0<=a/\a<s.bq.length)->s.bq.length<=(b s a g).bq.length/\s.val<=(b s a g).val/\((b s a g).err=0->(b s a g).bp=false->gZ p (b s a g).val (b s a g).bq a.toNat g s.bq.length (b s a g).bq.length/\(∀i:Nat,i<s.bq.length->i≠a.toNat->(b s a g).bq[i]?=s.bq[i]?)/\s.err=0/\s.bp=false))->
   (eu p en bz b s a f).err=0->(eu p en bz b s a f).bp=false->gZ p (eu p en bz b s a f).val (eu p en bz b s a f).bq a.toNat f s.bq.length (eu p en bz b s a f).bq.length/\(∀i:Nat,i<s.bq.length->i≠a.toNat->(eu p en bz b s a f).bq[i]?=s.bq[i]?)/\s.err=0/\s.bp=false:=by
  intro b s a f t C q e c;obtain⟨D,e2,e3,e4,e5⟩:=@Ae p en s f;have B:a.toNat<s.bq.length:=by omega
  unfold eu at e c ⊢;split at e;·simp_all
  rename_i x;have G:s.err=0/\s.bp=false:=by simpa using x
  rw[if_neg x] at c ⊢;split at e
  ·rename_i m;rw[if_pos m];refine⟨?_,λi u j=>?_,G⟩
   ·rw[Ω];exact .j6 (by simp_all) m
   ·show(s.bq.set a.toNat zc)[i]?=_;rw[δs (λh=>j h.symm)]
  rename_i m;rw[if_neg m] at c ⊢;have O:fZ p f=true:=by simpa using m
  split at e
  ·rename_i w;rw[if_pos w];refine⟨?_,λi u j=>?_,G⟩
   ·rw[Ω,D];refine .dZ ?_ O w;simp_all
   ·show((cD p en s f).bq.set a.toNat _)[i]?=_;rw[δs (λh=>j h.symm),D]
  rename_i w;rw[if_neg w] at c ⊢;cases A:iL (cN p f) with
  |none=>simp_all;|some k=>
  rw[A] at e c;simp only at e c ⊢;split at e;·simp at e
  rename_i Q;rw[if_neg Q] at c ⊢;obtain⟨l,K,L⟩:=qL A;rw[pB] at l;have v:bN f k.toNat 0=0:=qM (t.ok O) t.r (by omega) K L;have n1:=kL l v (d:=1) (by omega);have Y:=kL l v (d:= -1) (by omega);have T:dP p (f.set k.toNat 1):=t.set (by omega);have f2:dP p (f.set k.toNat (-1)):=t.set (by omega);have S:(fK (cD p en s f) a k).bq.length=s.bq.length+2:=by
   simp_all[fK]
  rw[D] at e c ⊢;obtain⟨l1,v1,t1⟩:=@q (fK (cD p en s f) a k) ((s.bq.length:Int)+1) (f.set k.toNat 1) T n1 (by omega);generalize R:b (fK (cD p en s f) a k) ((s.bq.length:Int)+1) (f.set k.toNat 1)=I at*;obtain⟨l2,V,Z⟩:=@q I (s.bq.length:Int) (f.set k.toNat (-1)) f2 Y (by omega);generalize X:b I (s.bq.length:Int) (f.set k.toNat (-1))=P at*;obtain⟨N,F,U,w2⟩:=Z e c;obtain⟨J,H,w3,w4⟩:=t1 U w2;have M:∀i:Nat,i<s.bq.length+2->(fK (cD p en s f) a k).bq[i]?=if i=a.toNat then some (je k s.bq.length) else(s.bq++[zN,zN])[i]?:=λi u=>by
   unfold fK;simp only[D];rw[List.getElem?_set];by_cases h:a.toNat=i;·simp_all
   ·rw[if_neg h,if_neg (λm=>h m.symm)]
  have E:((s.bq.length:Int)).toNat=s.bq.length:=by omega
  have z:((s.bq.length:Int)+1).toNat=s.bq.length+1:=by omega
  rw[E] at N F;rw[z] at J H;rw[S] at J H;have o:∀i:Nat,i<s.bq.length->P.bq[i]?=(fK (cD p en s f) a k).bq[i]?:=λi u=>by rw[F i (by omega) (by omega),H i (by omega) (by omega)]
  refine⟨.bra (k:=k) (mid:=I.bq.length) ?_ B l v ?_ N,λi u j=>?_,G⟩;·rw[o _ B,M _ (by omega),if_pos rfl]
  ·exact J.mono V λi u=>F i (by omega) (by omega)
  ·rw[o i u,M i (by omega),if_neg j,List.getElem?_append_left u]
 intro n;induction n with
 |zero=>
  intro s a f t W C e c;exact y t C (λ{s a g} _ h _=>by omega) e c;|succ n ih=>
  intro s a f t W C e c;refine y t C (λ{s a g} x m w=>?_) e c;have A:=@pA p en bz n s a g x;exact⟨A.1,A.2.2.1,λe c=>ih x (by omega) w e c⟩
theorem KO {p:cj} {en:Int->Bool} {bz:Int} {G:List Int->Int->Bool->Prop} (u:∀c w b q w',G c w b->bT p q=0->cB p q=w'->w<w'->G q w' (b||en w')):
  ∀{n:Nat} {s:cd} {a:Int} {f:List Int},dP p f->G s.ch s.val s.bp->G (cP p en bz n s a f).ch (cP p en bz n s a f).val (cP p en bz n s a f).bp:=by
 have k:∀{d:cd->Int->List Int->cd},(∀{s:cd} {a:Int} {f:List Int},dP p f->G s.ch s.val s.bp->G (d s a f).ch (d s a f).val (d s a f).bp)->
   ∀{s:cd} {a:Int} {f:List Int},dP p f->G s.ch s.val s.bp->G (eu p en bz d s a f).ch (eu p en bz d s a f).val (eu p en bz d s a f).bp:=by
  intro d e s a f i j;unfold eu;split;·exact j
  split;·exact j
  rename_i t;have y:fZ p f=true:=by simp_all
  have m:G (cD p en s f).ch (cD p en s f).val (cD p en s f).bp:=by
   unfold cD;split
   ·rename_i A;unfold dv;split
    ·rename_i o;obtain⟨z,B⟩:=KX (i.ok y) i.r A.2;have g:dj p.bj.length (dN (cN p f)):=by
      have:=@KY (cN p f);rw[pB,i.l] at this;exact this
     refine u _ _ _ _ _ j ?_ ?_ o;·exact(Dl i.c g).2 z
     ·exact uH i.c g
    ·exact j
   ·exact j
  split;·exact m
  split;·exact m
  split;·exact m
  ·exact e (i.set (by omega)) (e (i.set (by omega)) m)
 intro n;induction n with
 |zero=>exact k λ_ h=>h;|succ n x=>exact k λv t=>x v t
theorem two_pow_pos (n:Nat):1<=2^n:=ζ2
theorem KN {p:cj} {en:Int->Bool} {bz:Int}:∀{n:Nat} {s:cd} {a:Int} {f:List Int},dP p f->nF f<=n->s.err=0->((s.bq.length+2^(nF f+1):Nat):Int)<=bz+2->(cP p en bz n s a f).err=0/\(cP p en bz n s a f).bq.length+2<=s.bq.length+2^(nF f+1):=by
 have l:∀{c:cd->Int->List Int->cd} {s:cd} {a:Int} {f:List Int},dP p f->s.err=0->((s.bq.length+2^(nF f+1):Nat):Int)<=bz+2->
   (∀{s:cd} {a:Int} {g:List Int},dP p g->nF f=nF g+1->s.err=0->((s.bq.length+2^(nF g+1):Nat):Int)<=bz+2->(c s a g).err=0/\(c s a g).bq.length+2<=s.bq.length+2^(nF g+1))->
   (eu p en bz c s a f).err=0/\(eu p en bz c s a f).bq.length+2<=s.bq.length+2^(nF f+1):=by
  intro c s a f b t u C;obtain⟨L,J,T,X,e5⟩:=@Ae p en s f;have F:2<=2^(nF f+1):=by grind
  unfold eu;split;·omega
  split;·simp_all
  rename_i E N;have x:fZ p f=true:=by simp_all
  split;·simp_all
  rename_i v;cases A:iL (cN p f) with
  |none=>
   exfalso;apply v;have o:lz (cN p f)=true:=by
    unfold lz;rw[ψ];intro q H;obtain⟨i,B,rfl⟩:=γJ H;have w:=S0 A i B;obtain⟨M,I,_⟩:=Ai (b.ok x) b.r (show i<f.length by grind[pB]);rw[bV B] at w M I;rcases(show(cN p f)[i]=0\/(cN p f)[i]=1 by grind) with e|e<;>simp_all
   obtain⟨Y,K⟩:=KX (b.ok x) b.r o;have P:((nB p f).value:Rat)=g_ p f:=K;by_cases D:((s.val+1:Int):Rat)<=g_ p f
   ·have O:s.val<(nB p f).value:=by
     rw[<-P] at D;have:s.val+1<=(nB p f).value:=by exact_mod_cast D
     omega
    have:(cD p en s f).val=(nB p f).value:=by
     simp_all[cD,dv]
    grind
   grind;|some k=>
   simp only;obtain⟨j,z,y⟩:=qL A;rw[pB] at j;have m:bN f k.toNat 0=0:=qM (b.ok x) b.r (by omega) z y;have n1:=kL j m (d:=1) (by omega);have n2:=kL j m (d:= -1) (by omega);have W:dP p (f.set k.toNat 1):=b.set (by omega);have Z:dP p (f.set k.toNat (-1)):=b.set (by omega);have V:(fK (cD p en s f) a k).bq.length=s.bq.length+2:=by
    grind[fK]
   have U:2^(nF f+1)=2^(nF (f.set k.toNat 1)+1)+2^(nF (f.set k.toNat 1)+1):=by
    grind
   have ne:nF (f.set k.toNat (-1))=nF (f.set k.toNat 1):=by omega
   have Q:2<=2^(nF (f.set k.toNat 1)+1):=by omega
   rw[if_neg (by rw[L];omega)];have S:(fK (cD p en s f) a k).err=0:=by show(cD p en s f).err=0;rw[J,t]
   grind
 intro n;induction n with
 |zero=>
  intro s a f b G t u;exact l b t u λ{s a g} _ h _ _=>by omega;|succ n R=>
  intro s a f b G t u;exact l b t u λ{s a g} E N v w=>R E (by omega) v w
def Ac (p:ig) (lo:Nat) (Λ:Nat->bJ):IR->bE->(bE->Prop)->Prop
 | .skip,b,K=>K b
 | .seq x y,b,K=>wpS p lo x Λ b λc a=>match c with
  | .norm=>Ac p lo Λ y a K
  |_=>False
 |_,_,_=>False
def Ab (p:ig) (Λ:Nat->bJ) (F:el) (args:List SV) (o:TP) (Q:SV->TP->Prop):Prop:=
 match F.body with
 | .dfr g c d a b=>Ac p o.length Λ a ⟨lP 0 args,o⟩ λe=>wpS p e.o.length b Λ ⟨(d,.ud)::e.env,e.o⟩ λi j=>if pO i=true then
   (match p.it g with
    |some G=>if(c.map (iJ e.env)).length=G.params/\G.res.isEmpty=true then wpS p j.o.length G.body (λn=>Λ (1000+n)) ⟨lP 0 (c.map (iJ e.env)),j.o⟩ λf h=>if pO f=true then
      mC ⟨j.env,h.o⟩ F.res λr=>if r.VI o.length&&h.o.all (λx=>x.VI o.length)&&decide (o.length<=h.o.length) then Q r (h.o.take o.length) else False
     else False else False
    |none=>False) else False
 |_=>False
section
variable {P:Program} {T:jm} {p:ig} {Λ:Nat->bJ}
theorem SU (i:nS T.K p.C) (j:∀f F,p.it f=some F->T.fn f=some F) {lo:Nat}:∀{a:IR} {st:bE} {K:bE->Prop},Ac p lo Λ a st K->∃s0:bE,(∃N,∀n,N<=n->pP (exec T .plain n lo) a st.g=some s0.g)/\K s0:=by
 intro a;induction a with
 |skip=>intro st K h;exact⟨st,⟨0,λ_ _=>rfl⟩,h⟩;|seq x y _ d=>
  intro st K h;simp only[Ac] at h;obtain⟨c,s,⟨N,e⟩,r,rfl,b⟩:=tN i j h;cases c with
  |norm=>
   obtain⟨s0,⟨M,m⟩,k⟩:=d b;refine⟨s0,⟨N+M,λn o=>?_⟩,k⟩;simp only[pP,e n n (by omega) (by omega)];grind;|exit q=>exact b.elim;|ret=>exact b.elim;|goto l=>exact b.elim
 |_=>intro st K h;exact h.elim
theorem SS (J:jX P T) (u:nS T.K p.C) (n:∀f F,p.it f=some F->T.fn f=some F) {f:FuncId} {F:el} (S:T.fn f=some F) {args:List SV} {o:TP} {r:AV} {o':a_} (V:T.K f (gL args) (gO o) true=none) (B:args.length=F.params)
  {Q:SV->TP->Prop} (A:∀v s,Q v s->v.g=r/\gO s=o') (h:Ab p Λ F args o Q):fU P f=true/\jB P f (gL args) (gO o) r o':=by
 unfold Ab at h;split at h
 ·rename_i g a d ia ib Z;obtain⟨b,h1,h⟩:=SU u n h;obtain⟨O,U,h2,c,rfl,h⟩:=tN u n h;split at h
  ·rename_i k;split at h
   ·rename_i G hG;split at h
    ·rename_i Y;obtain⟨D,I,h3,i,rfl,h⟩:=tN u n h;split at h
     ·rename_i j;obtain⟨t,k1,m⟩:=ve h;split at m
      ·rename_i y;simp only[θ,decide_eq_true_eq,ψ] at y;obtain⟨⟨a2,L⟩,N⟩:=y;have R:(bE.mk (lP 0 args) o).g=⟨gn 0 (gL args),gO o⟩:=by simp[bE.g,tM]
       have w:(gO o).length=o.length:=mA o;have a1:b.g.o.length=b.o.length:=mA b.o;have a0:c.g.o.length=c.o.length:=mA c.o;have H:a.map (dO b.g.env)=gL (a.map (iJ b.env)):=by
        rw[ft,γP];refine γI λx _=>?_;show dO (gE b.env) x=_;grind[xA]
       have z:(bE.mk ((d,.ud)::b.env) b.o).g=⟨(d,.ud)::b.g.env,b.g.o⟩:=by simp[bE.g,gE,SV.g]
       have E:(bE.mk (lP 0 (a.map (iJ b.env))) c.o).g=⟨gn 0 (gL (a.map (iJ b.env))),c.g.o⟩:=by simp[bE.g,tM]
       have W:(bE.mk c.env i.o).g=⟨c.g.env,i.g.o⟩:=rfl;have q:∀x∈gO i.o,x.VI o.length=true:=by
        grind[gO,Al]
       have l:finish true (gO o).length t.g i.g.o=some (r,o'):=by
        simp only[finish,if_true,w];have e:kI o.length t.g i.g.o=some (t.g,(i.g.o).take o.length):=Nw (by grind[xz]) q (by show o.length<=(gO i.o).length;grind[mA]);rw[e,<-(A _ _ m).1,<-(A _ _ m).2];simp_all[bE.g,gO]
       obtain⟨X,M,_⟩:=XC J S Z (own:=true) V (by grind[jj]) (s0:=b.g) (s2:=c.g) (s3:=i.g) (by simp_all) (by simp_all) k (n g G hG) (by grind) Y.2 (by simp_all) j (by simp_all) l;exact⟨X,M⟩
      ·exact m.elim
     ·exact h.elim
    ·exact h.elim
   simp_all
  ·exact h.elim
 simp_all
end
theorem SR {P:Program} {d:FuncId->Option el} {L:List NG} {W:List cU} (c:cU) {F:el} {k:TypeId->Option ew} {e:List Nat×Bool->Option (ew×ew)} {Λ:c.α->Nat->bJ}
  (n:jX P ⟨d,λ_ _ _ _=>none⟩) (i:∀c∈W,dB P c) (o:∀c∈L,Holds P c)
  (l:d c.f=some F) (b:∀a,(c.put a).length=F.params)
  (a:c.α) (m:my c.f W=none)
  (h:Ab (kr L (fT W) k e d) (Λ a) F (c.put a) (c.st a) λv s=>v.bi (c.res a)/\jW s (c.out a)):
  fU P c.f=true/\jB P c.f (gL (c.put a)) (gO (c.st a)) (c.res a).g (gO (c.out a)):=by
 refine SS (p:=kr L (fT W) k e d) (Λ:=Λ a) (Q:=λv s=>v.bi (c.res a)/\jW s (c.out a)) (rM (kd i) o n) (rL (kd i)) (λ_ _ h=>h) l ?_ (b a) (λv s j=>⟨j.1,vf j.2⟩) h;simp_all[nQ,pW,fT,rK]
theorem SQ {k:Nat} {r a:AV} {o mid o2:a_} (c:r.Q5 o (λi=>decide (k<=i))=some a) (g:iR o (λi=>decide (k<=i)) o=some mid) (e:e6 (λi=>decide (k<=i)) 0 mid=o2) (f:a.VI k=true) (d:∀x∈o2,x.VI k=true) (l:k<=o2.length):kI k r o=some (a,o2.take k):=by
 unfold kI;rw[c,g];simp only[e];have m:∀x∈o2.take k,x.VI k=true:=λx h=>d x (List.mem_of_mem_take h);rw[NA (by grind[dH,G4])];have j:gU.aoF (List.range k)=true:=by rw[δH];exact nodup_range'
 rw[if_pos j,A4 f];have b:=G5 (k:=k) (o:=o2) m l (n:=k) (s:=0) (by omega);rw[<-δH,List.drop_zero] at b;rw[b]
def Aa (k:Nat) (r:SV) (o:TP) (K:SV->TP->Prop):Prop:=
 kc o k r λb=>nj o k 0 o λa=>if b.VI k&&a.all (λx=>x.VI k)&&decide (k<=a.length) then K b (a.take k) else False
theorem SP {k:Nat} {r:SV} {o:TP} {K:SV->TP->Prop} (h:Aa k r o K):∃r' o',kI k r.g (gO o)=some (r'.g,gO o')/\K r' o':=by
 unfold Aa at h;obtain⟨l,p,f⟩:=Fv h;obtain⟨c,i,n,m,a⟩:=uY f;split at a
 ·rename_i b;simp only[θ,decide_eq_true_eq,ψ] at b;obtain⟨⟨d,j⟩,e⟩:=b;refine⟨l,c.take k,?_,a⟩;simp_all[SQ,xz,gO,Al]
 simp_all
def B0 (p:ig) (Λ:Nat->bJ) (F:el) (args:List SV) (o:TP) (Q:SV->TP->Prop):Prop:=
 wpS p o.length F.body Λ ⟨lP 0 args,o⟩ λa b=>match a with
  | .exit _=>False
  | .goto _=>False
  |_=>mC b F.res λr=>Aa o.length r b.o Q
theorem SO {P:Program} {T:jm} {p:ig} {Λ:Nat->bJ} (A:jX P T) (t:nS T.K p.C) (y:∀f F,p.it f=some F->T.fn f=some F) {f:FuncId} {F:el} (n:T.fn f=some F) {args:List SV} {o:TP} {r:AV} {o':a_} (z:T.K f (gL args) (gO o) true=none) (j:args.length=F.params)
  {Q:SV->TP->Prop} (D:∀v s,Q v s->v.g=r/\gO s=o') (h:B0 p Λ F args o Q):fU P f=true/\jB P f (gL args) (gO o) r o':=by
 unfold B0 at h;have e:=tN t y h;have d:(bE.mk (lP 0 args) o).g=⟨gn 0 (gL args),gO o⟩:=by simp[bE.g,tM]
 rw[d] at e;have i:(gO o).length=o.length:=mA o;rw[<-i] at e;have x:∀(a:bE),(mC a F.res λv=>Aa (gO o).length v a.o Q)->(mJ a.g F.res).bind (λc=>finish true (gO o).length c a.g.o)=some (r,o'):=by
  intro a m;obtain⟨c,k,l⟩:=ve m;obtain⟨u,q,w,E⟩:=SP l;rw[k];simp only[Option.bind_some,finish,if_true];have:kI (gO o).length c.g a.g.o=some (u.g,gO q):=w;grind
 obtain⟨k,l,_⟩:=Az A n (o:=gO o) (own:=true) z (by grind[jj]) (v:=r) (o':=o') (e.mono λb s B=>by
  obtain⟨a,rfl,m⟩:=B;cases b<;>simp_all);simp_all
theorem SN {P:Program} {d:FuncId->Option el} {L:List NG} {W:List cU} (c:cU) {F:el} {k:TypeId->Option ew} {e:List Nat×Bool->Option (ew×ew)} {Λ:c.α->Nat->bJ}
  (n:jX P ⟨d,λ_ _ _ _=>none⟩) (i:∀c∈W,dB P c) (o:∀c∈L,Holds P c)
  (l:d c.f=some F) (b:∀a,(c.put a).length=F.params)
  (a:c.α) (m:my c.f W=none)
  (h:B0 (kr L (fT W) k e d) (Λ a) F (c.put a) (c.st a) λv s=>v.bi (c.res a)/\jW s (c.out a)):
  fU P c.f=true/\jB P c.f (gL (c.put a)) (gO (c.st a)) (c.res a).g (gO (c.out a)):=by
 refine SO (p:=kr L (fT W) k e d) (Λ:=Λ a) (Q:=λv s=>v.bi (c.res a)/\jW s (c.out a)) (rM (kd i) o n) (rL (kd i)) (λ_ _ h=>h) l ?_ (b a) (λv s j=>⟨j.1,vf j.2⟩) h;simp_all[nQ,pW,fT,rK]
structure cW where
 p:cj
 ch:List Int
 val:Int
 bp:Bool
 en:Option Int
 k1:Nat
 k2:Nat
 bz:Int
 err:Int
 bq:List cy
 fx:List Int
def cW.cs (x:cW) (e:SV) (i j:Nat):List SV:=[.row (.i .i64) x.ch,.si .i64 x.val,.sb x.bp,e,.ow i x.k1 5,.ow j x.k2 1,.si .i64 x.bz,.si .i64 x.err]
def cW.uG (x:cW):TP:=[.cells (x.p.ss++x.cs (.fn (.func 70) [] []) 1 2) 126 28 false,.row Ao x.bq 108 true,.row (.i .i64) x.fx 3 true]
def cW.uF (x:cW) (m:Int):TP:=[.cells (x.p.ss++x.cs (.fn (.func 116) [] [.ptr 1 0 1]) 2 3) 126 28 false,.cells [.si .i64 m] 2 1 false,.row Ao x.bq 108 true,.row (.i .i64) x.fx 3 true]
def cW.fO (x:cW):TP:=match x.en with
 |none=>x.uG
 |some m=>x.uF m
def Dk:TP->Option cW
 |[.cells cs 126 28 false,.row s1 l1 108 true,.row s2 l2 3 true]=>match cs.drop 20 with
  |[c,v,b,.fn (.func 70) [] [],.ow 1 k1 5,.ow 2 k2 1,mo,er]=>match tK (cs.take 20),iH (.i .i64) c,v.int .i64,b.pj,mo.int .i64,er.int .i64 with
   |some p,some c,some v,some b,some mo,some er=>match gF s1 Ao l1,gF s2 (.i .i64) l2 with
    |some l1,some l2=>some ⟨p,c,v,b,none,k1,k2,mo,er,l1,l2⟩
    |_,_=>none
   |_,_,_,_,_,_=>none
  |_=>none
 |[.cells cs 126 28 false,.cells [m] 2 1 false,.row s1 l1 108 true,.row s2 l2 3 true]=>match cs.drop 20 with
  |[c,v,b,.fn (.func 116) [] [.ptr 1 0 1],.ow 2 k1 5,.ow 3 k2 1,mo,er]=>match tK (cs.take 20),iH (.i .i64) c,v.int .i64,b.pj,mo.int .i64,er.int .i64 with
   |some p,some c,some v,some b,some mo,some er=>match gF s1 Ao l1,gF s2 (.i .i64) l2,m.int .i64 with
    |some l1,some l2,some m=>some ⟨p,c,v,b,some m,k1,k2,mo,er,l1,l2⟩
    |_,_,_=>none
   |_,_,_,_,_,_=>none
  |_=>none
 |_=>none
theorem SM {o:TP} {x:cW} (h:Dk o=some x):gO o=gO x.fO:=by
 unfold Dk at h;split at h
 ·rename_i cs s1 l1 s2 l2;split at h
  ·rename_i c v b k1 k2 mo er hd;split at h
   ·rename_i p c' v' b' mo' er' h1 h2 h3 h4 h5 h6;split at h
    ·rename_i l1' l2' g1 g2;simp only[γ] at h;subst h;obtain⟨rfl,e1⟩:=ln g1;obtain⟨rfl,e2⟩:=ln g2;cases e1;cases e2;have e3:gL cs=gL p.ss++gL [c,v,b,.fn (.func 70) [] [],.ow 1 k1 5,.ow 2 k2 1,mo,er]:=by
      rw[<-hd,<-xp h1,<-rO,γT]
     simp only[cW.fO,cW.uG,cW.cs,gO,ξ,γw,iZ.g,rO,e3];simp only[gL,nl h2,gT h3,tj h4,gT h5,gT h6,SV.g]
    ·cases h
   ·cases h
  ·cases h
 ·rename_i cs m s1 l1 s2 l2;split at h
  ·rename_i c v b k1 k2 mo er hd;split at h
   ·rename_i p c' v' b' mo' er' h1 h2 h3 h4 h5 h6;split at h
    ·rename_i l1' l2' m' g1 g2 g3;simp only[γ] at h;subst h;obtain⟨rfl,e1⟩:=ln g1;obtain⟨rfl,e2⟩:=ln g2;cases e1;cases e2;have e3:gL cs=gL p.ss++gL [c,v,b,.fn (.func 116) [] [.ptr 1 0 1],.ow 2 k1 5,.ow 3 k2 1,mo,er]:=by
      rw[<-hd,<-xp h1,<-rO,γT]
     simp only[cW.fO,cW.uF,cW.cs,gO,ξ,γw,iZ.g,rO,e3];simp only[gL,nl h2,gT h3,tj h4,gT h5,gT h6,gT g3,SV.g]
    ·cases h
   ·cases h
  ·cases h
 ·cases h
theorem SL {p q:cj} (h:gL p.ss=gL q.ss):p=q:=cV.inj p q (by grind[cV,SV.g])
theorem SK {x y:cW} (h:gO x.fO=gO y.fO):x=y:=by
 obtain⟨p,E,u,b,J,H,G,k,o,A,L⟩:=x;obtain⟨B,n,d,a,l,r,v,c,f,q,C⟩:=y;have w:∀{e I:SV} {i j:Nat},gL (p.ss++(cW.mk p E u b J H G k o A L).cs e i j)=gL (B.ss++(cW.mk B n d a l r v c f q C).cs I i j)->p=B/\E=n/\u=d/\b=a/\H=r/\G=v/\k=c/\o=f:=by
  intro e I i j h;rw[rO,rO] at h;obtain⟨z,t⟩:=List.append_inj h (by rw[jj,jj];rfl);simp only[cW.cs,gL,SV.g,Θ,δe,Value.int.injEq,Value.bool.injEq,AV.os.injEq,AV.sl.injEq,and_true,true_and] at t;grind[SL,mY]
 cases J with
 |none=>
  cases l with
  |none=>
   simp only[cW.fO,cW.uG,gO,ξ,γw,iZ.g,Θ,OL.cells.injEq,and_true] at h;obtain⟨z,t,D⟩:=h;obtain⟨rfl,rfl,rfl,rfl,rfl,rfl,rfl,rfl⟩:=w z;rw[mY (s:=Ao) t,mY (s:=.i .i64) D];|some K=>
   have:=congrArg γd h;simp_all[cW.fO,cW.uG,cW.uF,gO]
 |some m=>
  cases l with
  |none=>
   have:=congrArg γd h;simp_all[cW.fO,cW.uG,cW.uF,gO];|some K=>
   simp only[cW.fO,cW.uF,gO,ξ,γw,iZ.g,Θ,OL.cells.injEq,and_true] at h;obtain⟨z,F,t,D⟩:=h;obtain⟨rfl,rfl,rfl,rfl,rfl,rfl,rfl,rfl⟩:=w z;simp only[gL,SV.g,Θ,δe,Value.int.injEq,and_true,true_and] at F;subst F;rw[mY (s:=Ao) t,mY (s:=.i .i64) D]
def BZ (f:FuncId) (c:Type) (A:oA c) (i:cW->c->Prop) (e:cW->c->SV) (out:cW->c->cW):cU where
 f:=f;α:=cW×c;put a:=.ptr 0 0 28::A.put a.2;st a:=a.1.fO;dec v o:=match v with
  | .ptr 0 0 28::r=>match Dk o,A.dec r with
   |some s,some b=>some (s,b)
   |_,_=>none
  |_=>none;ok v o a h:=by
  split at h
  ·split at h
   ·rename_i d g;simp only[γ] at h;subst h;exact⟨by simp only[gL,A.ok _ _ g],SM d⟩
   ·cases h
  ·cases h
 inj a b d g:=by
  simp only[gL,Θ,true_and] at d;exact Prod.ext (SK g) (A.inj _ _ d)
 dom a:=i a.1 a.2;res a:=e a.1 a.2;out a:=(out a.1 a.2).fO
def bH (e:Option Int) (v:Int):Bool:=match e with
 |none=>false
 |some m=>decide (m<=v)
def cW.s (x:cW):cd:=⟨x.ch,x.val,x.bp,x.bq,x.err⟩
def cW.iw (x:cW) (s:cd):cW:=⟨x.p,s.ch,s.val,s.bp,x.en,s.bq.length,x.k2,x.bz,s.err,s.bq,x.fx⟩
structure eh (x:cW):Prop where
 f:dP x.p x.fx
 k1:x.k1=x.bq.length
 k2:x.k2=x.fx.length
 v0:0<=x.val
 v1:x.val<=9223372036854775806
 m0:1<=x.bz
 m1:x.bz<=65536
 l:x.bq.length<=65536
 c:x.ch.length<=9223372036854775807
def Dj:cU where
 f:=70;α:=bB;put a:=[kp.put a];st _:=[];dec v o:=match v,o with
  |[a],[]=>kp.dec a
  |_,_=>none;ok v o a h:=by
  split at h;·exact⟨by simp only[gL,kp.ok _ _ h],rfl⟩
  ·cases h
 inj a b h1 _:=by
  simp only[gL,Θ,and_true] at h1;exact kp.inj _ _ h1
 dom _:=True;res _:=.sb false;out _:=[]
theorem H4:dB Tryz.prog Dj:=by
 refine ko (L:=[]) (W:=[]) Dj lk (by simp) (by simp) ?_;rintro(a:bB) -;refine NI ((SV.bl false).bi (γB false)/\True) (by kernel_rfl) ?_;simp_all
def D5:cU where
 f:=116;α:=bB×Int;put a:=[kp.put a.1,.ptr 0 0 1];st a:=[.cells [.si .i64 a.2] 2 1 false];dec v o:=match v,o with
  |[a,.ptr 0 0 1],[.cells [m] 2 1 false]=>match kp.dec a,m.int .i64 with
   |some a,some m=>some (a,m)
   |_,_=>none
  |_,_=>none;ok v o a h:=by
  split at h
  ·split at h
   ·rename_i h1 h2;simp only[γ] at h;subst h;exact⟨by simp only[gL,kp.ok _ _ h1],by simp only[gO,ξ,γw,iZ.g,gL,gT h2,SV.g]⟩
   ·cases h
  ·cases h
 inj a b h1 h2:=by
  simp only[gL,Θ,and_true] at h1;simp only[gO,ξ,γw,iZ.g,gL,SV.g,Θ,OL.cells.injEq,δe,Value.int.injEq,and_true,true_and] at h2;exact Prod.ext (kp.inj _ _ h1) h2
 dom _:=True;res a:=.sb (decide (a.2<=a.1.value));out a:=[.cells [.si .i64 a.2] 2 1 false]
theorem H3:dB Tryz.prog D5:=by
 refine ko (L:=[]) (W:=[]) D5 lk (by simp) (by simp) ?_;rintro⟨a,m⟩ -;refine NI (let b:=iZ.cells [γj .i64 m] 2 1 false;(γB (decide (m<=a.value))).bi (γB (decide (m<=a.value)))/\b.bi b/\True) (by kernel_rfl) ?_;conv=>zeta
 exact⟨rfl,rfl,trivial⟩
def wM:cU:=BZ 71 bB (.one kp) (λx _=>x.k1=x.bq.length) (λ_ _=> .Gz []) λx a=>x.iw (dv (bH x.en) x.s a)
theorem tY:dB Tryz.prog wM:=by
 refine ko (L:=[]) (W:=[Dj,D5]) wM lk (by simpa using⟨H4,H3⟩) (by simp) ?_;rintro⟨⟨p,ch,val,bp,en,k1,k2,bz,err,bq,fx⟩,a⟩ hk;have hk:k1=bq.length:=hk;subst hk;have e1:∀en:Int->Bool,val<a.value->dv en ⟨ch,val,bp,bq,err⟩ a=⟨a.bn,a.value,bp||en a.value,bq,err⟩:=λen h=>if_pos h;have e2:∀en:Int->Bool,¬val<a.value->dv en ⟨ch,val,bp,bq,err⟩ a=⟨ch,val,bp,bq,err⟩:=λen h=>if_neg h;cases en with
 |none=>
  refine NI (let b:=γj .i64;let c:=iZ.row;let d:=iZ.cells;let e:=γa;let f:=SV.Gz;let k:=b p.bm.a0;let l:=b p.bm.a1;let m:=b p.bm.a2;let n:=b p.bm.a3;let o:=b p.bm.a4;let q:=b p.bm.a5;let r:=b p.bs.a0;let s:=b p.bs.a1;let t:=b p.bs.a2;let v:=b p.bs.a3;let w:=b p.bs.a4;let x:=b p.bs.a5;let y:=b p.bt.a0;let z:=b p.bt.a1;let A:=b p.bt.a2;let B:=b p.bt.a3;let C:=b p.bt.a4;let D:=b p.bt.a5;let h:=ew.i .i64;let E:=e h p.bk;let F:=e ew.bu p.bj;let G:=SV.fn (Fn.func 70) [] [];let H:=γ1 2 k2 1;let I:=b bz;let J:=[G,γ1 1 bq.length 5,H,I,b err];let g:=dv (bH none) (cd.mk ch val bp bq err) a;let K:=d [k,l,m,n,o,q,r,s,t,v,w,x,y,z,A,B,C,D,E,F,e h g.ch,b g.val,γB g.bp,G,γ1 1 g.bq.length 5,H,I,b g.err] 126 28 false;let j:=c h fx 3 true;let L:=decide (val<a.value);let M:=λ(u u_1:Bool) (u_2:List Int) (u_3:Int) (u_4:SV) ↦u=u_1->(f []).bi (f [])/\(d (k::l::m::n::o::q::r::s::t::v::w::x::y::z::A::B::C::D::E::F::e h u_2::b u_3::u_4::J) 126 28 false).bi K/\(c Ao bq 108 true).bi (c Ao g.bq 108 true)/\j.bi j/\True;(L=true->M bp true a.bn a.value (SV.bl true)/\(bp=false->True/\(f []).bi (f [])/\(d (k::l::m::n::o::q::r::s::t::v::w::x::y::z::A::B::C::D::E::F::e h a.bn::b a.value::γB false::J) 126 28 false).bi K/\(c Ao bq 108 true).bi (c Ao g.bq 108 true)/\j.bi j/\True))/\M L false ch val (γB bp)) (by kernel_rfl) ?_;conv=>zeta
  refine⟨λh=>?_,λh=>?_⟩
  ·simp only[e1 _ (of_decide_eq_true h)];refine⟨λhf=>?_,λhf=>?_⟩
   ·subst hf;exact⟨rfl,rfl,rfl,rfl,trivial⟩
   ·subst hf;exact⟨trivial,rfl,rfl,rfl,rfl,trivial⟩
  ·simp only[e2 _ (of_decide_eq_false h)];exact⟨rfl,rfl,rfl,rfl,trivial⟩;|some m=>
  refine NI (let b:=γj .i64;let c:=ew.i .i64;let d:=iZ.cells;let e:=γa;let f:=iZ.row;let g:=γ1;let h:=γV;let j:=SV.Gz;let k:=γB;(decide (val<a.value)=true->(bp=true->(j []).bi (j [])/\(d [b p.bm.a0,b p.bm.a1,b p.bm.a2,b p.bm.a3,b p.bm.a4,b p.bm.a5,b p.bs.a0,b p.bs.a1,b p.bs.a2,b p.bs.a3,b p.bs.a4,b p.bs.a5,b p.bt.a0,b p.bt.a1,b p.bt.a2,b p.bt.a3,b p.bt.a4,b p.bt.a5,e (c) p.bk,e ew.bu p.bj,e (c) a.bn,b a.value,SV.bl true,SV.fn (Fn.func 116) [] [h 1 0 1],g 2 bq.length 5,g 3 k2 1,b bz,b err] 126 28 false).bi (d [b p.bm.a0,b p.bm.a1,b p.bm.a2,b p.bm.a3,b p.bm.a4,b p.bm.a5,b p.bs.a0,b p.bs.a1,b p.bs.a2,b p.bs.a3,b p.bs.a4,b p.bs.a5,b p.bt.a0,b p.bt.a1,b p.bt.a2,b p.bt.a3,b p.bt.a4,b p.bt.a5,e (c) p.bk,e ew.bu p.bj,e (c) (dv (bH (some m)) (cd.mk ch val bp bq err) a).ch,b (dv (bH (some m)) (cd.mk ch val bp bq err) a).val,k (dv (bH (some m)) (cd.mk ch val bp bq err) a).bp,SV.fn (Fn.func 116) [] [h 1 0 1],g 2 (dv (bH (some m)) (cd.mk ch val bp bq err) a).bq.length 5,g 3 k2 1,b bz,b (dv (bH (some m)) (cd.mk ch val bp bq err) a).err] 126 28 false)/\(d [b m] 2 1 false).bi (d [b m] 2 1 false)/\(f Ao bq 108 true).bi (f Ao (dv (bH (some m)) (cd.mk ch val bp bq err) a).bq 108 true)/\(f (c) fx 3 true).bi (f (c) fx 3 true)/\True)/\(bp=false->True/\(j []).bi (j [])/\(d [b p.bm.a0,b p.bm.a1,b p.bm.a2,b p.bm.a3,b p.bm.a4,b p.bm.a5,b p.bs.a0,b p.bs.a1,b p.bs.a2,b p.bs.a3,b p.bs.a4,b p.bs.a5,b p.bt.a0,b p.bt.a1,b p.bt.a2,b p.bt.a3,b p.bt.a4,b p.bt.a5,e (c) p.bk,e ew.bu p.bj,e (c) a.bn,b a.value,k (decide (m<=a.value)),SV.fn (Fn.func 116) [] [h 1 0 1],g 2 bq.length 5,g 3 k2 1,b bz,b err] 126 28 false).bi (d [b p.bm.a0,b p.bm.a1,b p.bm.a2,b p.bm.a3,b p.bm.a4,b p.bm.a5,b p.bs.a0,b p.bs.a1,b p.bs.a2,b p.bs.a3,b p.bs.a4,b p.bs.a5,b p.bt.a0,b p.bt.a1,b p.bt.a2,b p.bt.a3,b p.bt.a4,b p.bt.a5,e (c) p.bk,e ew.bu p.bj,e (c) (dv (bH (some m)) (cd.mk ch val bp bq err) a).ch,b (dv (bH (some m)) (cd.mk ch val bp bq err) a).val,k (dv (bH (some m)) (cd.mk ch val bp bq err) a).bp,SV.fn (Fn.func 116) [] [h 1 0 1],g 2 (dv (bH (some m)) (cd.mk ch val bp bq err) a).bq.length 5,g 3 k2 1,b bz,b (dv (bH (some m)) (cd.mk ch val bp bq err) a).err] 126 28 false)/\(d [b m] 2 1 false).bi (d [b m] 2 1 false)/\(f Ao bq 108 true).bi (f Ao (dv (bH (some m)) (cd.mk ch val bp bq err) a).bq 108 true)/\(f (c) fx 3 true).bi (f (c) fx 3 true)/\True))/\(decide (val<a.value)=false->(j []).bi (j [])/\(d [b p.bm.a0,b p.bm.a1,b p.bm.a2,b p.bm.a3,b p.bm.a4,b p.bm.a5,b p.bs.a0,b p.bs.a1,b p.bs.a2,b p.bs.a3,b p.bs.a4,b p.bs.a5,b p.bt.a0,b p.bt.a1,b p.bt.a2,b p.bt.a3,b p.bt.a4,b p.bt.a5,e (c) p.bk,e ew.bu p.bj,e (c) ch,b val,k bp,SV.fn (Fn.func 116) [] [h 1 0 1],g 2 bq.length 5,g 3 k2 1,b bz,b err] 126 28 false).bi (d [b p.bm.a0,b p.bm.a1,b p.bm.a2,b p.bm.a3,b p.bm.a4,b p.bm.a5,b p.bs.a0,b p.bs.a1,b p.bs.a2,b p.bs.a3,b p.bs.a4,b p.bs.a5,b p.bt.a0,b p.bt.a1,b p.bt.a2,b p.bt.a3,b p.bt.a4,b p.bt.a5,e (c) p.bk,e ew.bu p.bj,e (c) (dv (bH (some m)) (cd.mk ch val bp bq err) a).ch,b (dv (bH (some m)) (cd.mk ch val bp bq err) a).val,k (dv (bH (some m)) (cd.mk ch val bp bq err) a).bp,SV.fn (Fn.func 116) [] [h 1 0 1],g 2 (dv (bH (some m)) (cd.mk ch val bp bq err) a).bq.length 5,g 3 k2 1,b bz,b (dv (bH (some m)) (cd.mk ch val bp bq err) a).err] 126 28 false)/\(d [b m] 2 1 false).bi (d [b m] 2 1 false)/\(f Ao bq 108 true).bi (f Ao (dv (bH (some m)) (cd.mk ch val bp bq err) a).bq 108 true)/\(f (c) fx 3 true).bi (f (c) fx 3 true)/\True)) (by kernel_rfl) ?_;refine⟨λh=>?_,λh=>?_⟩
  ·simp only[e1 _ (of_decide_eq_true h)];refine⟨λhf=>?_,λhf=>?_⟩
   ·subst hf;exact⟨rfl,rfl,rfl,rfl,rfl,trivial⟩
   ·subst hf;exact⟨trivial,rfl,rfl,rfl,rfl,rfl,trivial⟩
  ·simp only[e2 _ (of_decide_eq_false h)];exact⟨rfl,rfl,rfl,rfl,rfl,trivial⟩
theorem BY {a b:oz} (h:∀k,k<6->a.at k<=b.at k):a.le b=true:=by
 have i:=h 0 (by omega);have c:=h 1 (by omega);have d:=h 2 (by omega);have f:=h 3 (by omega);have g:=h 4 (by omega);have e:=h 5 (by omega);simp_all[oz.at,bN,oz.le_iff]
theorem SJ {p:cj} {L:List bC} (d:(L.map bC.TM).Nodup) (c:fi p L=true):fp p L:=by
 refine⟨d,BY λk a=>?_,BY λk a=>?_⟩
 ·have h:=ni.1 c (p.bk.length+k) (by grind[cq]);rw[show(((p.bk.length+k:Nat)):Int)=p.bk.length+k by omega,Mz a] at h;rw[lN,γP];have:bZ p L (p.bk.length+k)=(L.map ((λb=>oz.at b k)∘bC.bx)).sum:=by
   unfold bZ;congr 1;simp_all[MB]
  omega
 ·have h:=ni.1 c (p.bk.length+6+k) (by grind[cq]);rw[show(((p.bk.length+6+k:Nat)):Int)=p.bk.length+6+k by omega,My a] at h;rw[lN,γP];have:bZ p L (p.bk.length+6+k)=(L.map ((λb=>oz.at b k)∘dT p)).sum:=by
   unfold bZ;congr 1;simp_all[MA]
  omega
theorem KM {l:List bC}:∀{t:List Int} {a:Int} {r:List bC}, -1<=a->dA l a t=some r->t.Pairwise (·<·)/\∀j∈t,a<j/\j<l.length
 |[],_,_,_,_=>by simp;|i::t,a,r,g,h=>by
  simp only[dA] at h;split at h;·cases h
  ·rename_i k;obtain⟨f,d,rfl⟩:=ε.1 h;obtain⟨e,c⟩:=KM (by omega) d;refine⟨γr.2 ⟨λj b=>(c j b).1,e⟩,λj b=>?_⟩;grind
def og (p:cj) (t:List Int):Prop:=kW 0 p.bj.length t/\fp p (VJ p t)
theorem oU {p:cj} (c:nW p=0) {t:List Int}:bT p t=0↔og p t:=by
 refine⟨λh=>?_,λh=>Mu c h.1 h.2⟩;have e:=WM h;obtain⟨i,a,l,m,o⟩:=FZ h;obtain⟨r,d⟩:=Option.isSome_iff_exists.1 a;obtain⟨f,g⟩:=KM (by omega) d;have n:cK p t=VJ p t:=by grind[cK,Ba]
 have b:fi p (VJ p t)=true:=by
  simp_all[bT]
 exact⟨⟨f,λj k=>by simp_all⟩,SJ e b⟩
theorem KL {p:cj} (a:Good p):og p []:=⟨⟨by simp,by simp⟩,of_decide_eq_true (N9 a)⟩
theorem uE {p:cj} (a:nW p=0) {t:List Int} (h:og p t):cB p t=bF (VJ p t):=by
 grind[oU,WN,xW,Bb]
theorem SI {p:cj} (c:nW p=0) {L:List bC} (b:fp p L) (d:∀x∈L,x∈p.bj):bF L<=pI p (allM p):=by
 have a:=cL c;have f:=xX a.1;rw[Mq c (m:=allM p) (by grind[allM]) (by grind[allM])];refine Bf a ⟨b.1,λx e=>?_,b.2.1,b.2.2⟩;have:=a.2.2.2.2 x (d x e);grind[Xb]
theorem Tt {p:cj} (c:nW p=0):∃L,fp p L/\(∀x∈L,x∈p.bj)/\bF L=pI p (allM p):=by
 have a:=cL c;have f:=xX a.1;rw[Mq c (m:=allM p) (by grind[allM]) (by grind[allM])];have h:=oz.gS.1 a.2.2.1;have g:=oz.gS.1 a.2.2.2.1;obtain⟨L,b,e⟩:=Be a (ME (allM p)) (l:=p.bm) (o:=p.bs) (by grind[oz.le_iff,oz.zero]) (by grind[oz.le_iff,oz.zero]);exact⟨L,⟨b.nd,b.w,b.o⟩,λx d=>(b.mem x d).1,e⟩
def gi (p:cj):List Int:=δ p.bj.length 0
theorem uD {n:Nat}:nF (δ n 0)=n:=by
 have e:zi (δ n 0) 0=cz n:=by
  simp_all[zi,jh,bV]
 grind[gQ]
theorem mN {p:cj} (a:nW p=0):dP p (gi p) where
 c:=a;l:=γE;r:=by
  unfold iN;rw[ψ];intro x b;rw[List.eq_of_mem_replicate b];decide
def jN (p:cj) (c:List Int):cd:=dv (bH none) (dv (bH none) ⟨c,cB p c,false,[zN],0⟩ (fA p c)) (fA p (jg p))
noncomputable def gA (p:cj) (c:List Int) (a:Int):cd:=cP p (bH none) a p.bj.length (jN p c) 0 (gi p)
noncomputable def jH (p:cj) (c:List Int) (a:Int):Int:=if bT p c≠0 then bT p c else if a<1\/65536<a then 4 else(gA p c a).err
def jM (p:cj) (m:Int):cd:=dv (bH (some m)) ⟨[],m - 1,false,[zN],0⟩ (fA p (jg p))
noncomputable def fh (p:cj) (m a:Int):cd:=cP p (bH (some m)) a p.bj.length (jM p m) 0 (gi p)
noncomputable def iq (p:cj) (m a:Int):Int:=if nW p≠0 then nW p else if a<1\/65536<a then 4 else if m<=0 then 0 else if(fh p m a).bp=true then 0 else(fh p m a).err
noncomputable def jd (p:cj) (m a:Int):Bool:=decide (iq p m a=0)&&(decide (m<=0)||(fh p m a).bp)
noncomputable def mM (p:cj) (m a:Int):bB:=if jd p m a=true/\0<m then⟨(fh p m a).ch,(fh p m a).val⟩ else⟨[],0⟩
theorem KK {p:cj} (a:nW p=0) {t:List Int} (h:bT p t=0):cB p t<=(M9 p).value:=by
 have b:=(oU a).1 h;obtain⟨_,d⟩:=rB h;have c:=xS (cL a) b.1 (decide_eq_true b.2);rw[uH a d];exact c
theorem KJ {p:cj} (a:nW p=0):∃t,bT p t=0/\cB p t=(M9 p).value:=by
 obtain⟨t,c,f,e⟩:=FT (cL a);have b:bT p t=0:=(oU a).2 ⟨c,of_decide_eq_true f⟩;obtain⟨_,d⟩:=rB b;refine⟨t,b,?_⟩;rw[uH a d,e];rfl
theorem Ts {p:cj} {l:List Int} (h:dj p.bj.length l):Ad (gi p) l:=by
 have b:∀i:Int,0<=i/\i<p.bj.length->bN (gi p) i.toNat 0=0:=λi a=>by
  grind[gi,bV]
 refine⟨λi a=>by rw[b i (h.2 i a)];omega,λi a=>?_⟩;grind[jO,gi]
theorem KI {p:cj} {v:Int} {t:List cy} {a lo f:Nat} (b:nW p=0) (h:gZ p v t a (gi p) lo f):(M9 p).value<=v:=by
 obtain⟨l,d,e⟩:=KJ b;obtain⟨_,c⟩:=rB d;rw[<-e,uH b c];exact h.sound (mN b) c ((Dl b c).1 d) (Ts c)
theorem uC {en:Int->Bool} {G:List Int->Int->Bool->Prop} {p:cj} (h:∀c w b d w',G c w b->bT p d=0->cB p d=w'->w<w'->G d w' (b||en w')) {s:cd} {a:bB} (e:G s.ch s.val s.bp) (f:bT p a.bn=0) (g:cB p a.bn=a.value):G (dv en s a).ch (dv en s a).val (dv en s a).bp:=by
 grind[dv]
theorem uB {p:cj} (a:nW p=0):bT p (fA p (jg p)).bn=0/\cB p (fA p (jg p)).bn=(fA p (jg p)).value:=by
 simp_all[EL,LM]
theorem D4 {p:cj} (d:nW p=0) {c:List Int} (h:bT p c=0) {bz:Int} {G:List Int->Int->Bool->Prop} (a:∀c w b e w',G c w b->bT p e=0->cB p e=w'->w<w'->G e w' (b||bH none w')) (i:G c (cB p c) false):G (gA p c bz).ch (gA p c bz).val (gA p c bz).bp:=by
 have f:=EL d h;have g:=uB d;exact KO a (mN d) (uC a (uC a i f.2.1 f.2.2.1) g.1 g.2)
theorem D3 {p:cj} {c:List Int}:(jN p c).bq=[zN]/\(jN p c).err=0/\cB p c<=(jN p c).val:=by
 grind[jN,dv]
theorem D2 {p:cj} (d:nW p=0) {c:List Int} (i:bT p c=0) {bz:Int} (C:1<=bz):
  ((gA p c bz).err=0\/(gA p c bz).err=12)/\((gA p c bz).err=0->(bT p (gA p c bz).ch=0/\cB p (gA p c bz).ch=(gA p c bz).val)/\(gA p c bz).val=(M9 p).value/\(gA p c bz).bq.length<=bz/\gZ p (M9 p).value (gA p c bz).bq 0 (gi p) 1 (gA p c bz).bq.length/\(cB p c=(M9 p).value->(gA p c bz).ch=c))/\
   (((1+2^(p.bj.length+1):Nat):Int)<=bz+2->(gA p c bz).err=0):=by
 obtain⟨y,l,A⟩:=@D3 p c;have t:(jN p c).bq.length=1:=by rw[y];rfl
 have q:=@pA p (bH none) bz p.bj.length (jN p c) 0 (gi p) (mN d);have j:(gA p c bz).bp=false:=by
  refine(D4 d i (bz:=bz) (G:=λ_ _ b=>b=false) (λc w b g o h _ _ _=>?_) rfl);rw[h];rfl
 refine⟨?_,λx=>?_,λB=>?_⟩
 ·have:=q.2.2.2.2.2;rw[l] at this;exact this
 ·have v:=D4 d i (bz:=bz) (G:=λc w _=>bT p c=0/\cB p c=w) (λc w b g o _ k m _=>⟨k,m⟩) ⟨i,rfl⟩;have u:=D4 d i (bz:=bz) (G:=λg w _=>cB p c<=w/\(w=cB p c->g=c)) (λD w b g o h _ _ r=>⟨by omega,λe=>by omega⟩) ⟨εM _,λ_=>rfl⟩;have z:=KP (p:=p) (en:=bH none) (bz:=bz) (n:=p.bj.length) (s:=jN p c) (a:=0) (mN d) (by show nF (δ _ 0)<=_;grind[uD]) (by rw[t];omega) x j;have k:=KI d z.1;have m:=KK d v.1;grind[gA]
 ·refine(KN (p:=p) (en:=bH none) (bz:=bz) (n:=p.bj.length) (s:=jN p c) (a:=0) (f:=gi p) (mN d) ?_ l ?_).1;all_goals simp_all[uD,gi]
theorem Tq {p:cj} (i:nW p=0) {m bz:Int}:((fh p m bz).bp=false->(fh p m bz).ch=[]/\(fh p m bz).val=m - 1)/\((fh p m bz).bp=true->bT p (fh p m bz).ch=0/\cB p (fh p m bz).ch=(fh p m bz).val/\m<=(fh p m bz).val):=by
 have j:=uB i;have g:∀(c:List Int) (w:Int) (b:Bool) (e:List Int) (d:Int),((m - 1<=w)/\(b=false->c=[]/\w=m - 1)/\(b=true->bT p c=0/\cB p c=w/\m<=w))->bT p e=0->cB p e=d->w<d->((m - 1<=d)/\((b||bH (some m) d)=false->e=[]/\d=m - 1)/\((b||bH (some m) d)=true->bT p e=0/\cB p e=d/\m<=d)):=by
  intro c w b e d h l q k;have o:bH (some m) d=true:=by
   show decide (m<=d)=true;grind
  grind
 have:=KO (p:=p) (en:=bH (some m)) (bz:=bz) g (n:=p.bj.length) (s:=jM p m) (a:=0) (f:=gi p) (mN i) (uC g (s:=⟨[],m - 1,false,[zN],0⟩) ⟨εM _,λ_=>⟨rfl,rfl⟩,(λh=>by cases h)⟩ j.1 j.2);exact this.2
theorem D1 {p:cj} {m:Int}:(jM p m).bq=[zN]/\(jM p m).err=0:=by
 grind[jM,Af]
theorem KH {p:cj} (b:nW p=0) {m bz:Int}:
  ((fh p m bz).err=0\/(fh p m bz).err=12)/\((fh p m bz).bp=true->m<=(M9 p).value)/\((fh p m bz).bp=false->(fh p m bz).err=0->(M9 p).value<m)/\
   (((1+2^(p.bj.length+1):Nat):Int)<=bz+2->(fh p m bz).err=0):=by
 obtain⟨i,d⟩:=@D1 p m;have h:(jM p m).bq.length=1:=by rw[i];rfl
 have g:=@pA p (bH (some m)) bz p.bj.length (jM p m) 0 (gi p) (mN b);obtain⟨r,l⟩:=@Tq p b m bz;refine⟨?_,λc=>?_,λc k=>?_,λo=>?_⟩
 ·have:=g.2.2.2.2.2;rw[d] at this;exact this
 ·obtain⟨e,q,t⟩:=l c;have:=KK b e;omega
 ·have j:=KP (p:=p) (en:=bH (some m)) (bz:=bz) (n:=p.bj.length) (s:=jM p m) (a:=0) (mN b) (by show nF (δ _ 0)<=_;grind[uD]) (by rw[h];omega) k c;have e:(M9 p).value<=(fh p m bz).val:=KI b j.1;grind
 ·refine(KN (p:=p) (en:=bH (some m)) (bz:=bz) (n:=p.bj.length) (s:=jM p m) (a:=0) (f:=gi p) (mN b) ?_ d ?_).1;all_goals simp_all[uD,gi]
theorem Tp {p:cj} {c:List Int} {m:Int} (b:bT p c=0) (a:1<=m/\m<=65536):jH p c m=(gA p c m).err:=by
 simp_all[jH,if_neg]
theorem To {p:cj} (d:nW p=0) {c:List Int} {m:Int} (b:bT p c=0) (e:m<=65536) (f:((1+2^(p.bj.length+1):Nat):Int)<=m+2):jH p c m=0:=by
 have a:=ζ2 (n:=p.bj.length+1);grind[Tp,D2]
theorem D0 {p:cj} (a:nW p=0) {m k:Int} (d:k<=65536) (b:((1+2^(p.bj.length+1):Nat):Int)<=k+2):iq p m k=0:=by
 have c:2<=2^(p.bj.length+1):=by grind
 unfold iq;rw[if_neg (by simp[a]),if_neg (by omega)];grind[KH]
theorem KG {p:cj} (a:nW p=0) {m k:Int} (b:iq p m k=0):jd p m k=true↔m<=(M9 p).value:=by
 have j:0<=(M9 p).value:=by
  obtain⟨t,d,e⟩:=KJ a;obtain⟨_,c⟩:=rB d;rw[<-e,uH a c];exact(ot (cL a) (l:=t.map (oI p)) λx g=>by
   obtain⟨i,f,rfl⟩:=Γ.1 g;have:=c.2 i f;exact cA (by omega)).1
 have h:=@KH p a m k;unfold jd;rw[b,decide_eq_true rfl,Bool.true_and,Bool.or_eq_true,decide_eq_true_eq];unfold iq at b;grind
theorem qK {p q:Rat}:gK p q<0↔p<q:=by
 unfold gK;grind
end Go.Vi

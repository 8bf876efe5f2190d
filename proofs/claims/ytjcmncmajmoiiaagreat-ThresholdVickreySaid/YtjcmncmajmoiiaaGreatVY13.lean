/-
  Contracts: newTableau, setGoal, start.
  Conditions: none.
-/
import Derived.Test.YtjcmncmajmoiiaaGreatVY06
import Derived.Test.YtjcmncmajmoiiaaGreatVY07
import Derived.Test.YtjcmncmajmoiiaaGreatVY09
import Derived.Test.YtjcmncmajmoiiaaGreatVY10
import Derived.Test.YtjcmncmajmoiiaaGreatVY11
import Derived.Test.YtjcmncmajmoiiaaGreatVY12
import Derived.Test.YtjcmncmajmoiiaaGreatVY08
set_option maxRecDepth 100000
set_option maxHeartbeats 4000000
set_option linter.all false
open Bool renaming eq_false_iff->εk,and_eq_true->ζ
open Classical renaming not_not->ω
open Go.Vi.AV renaming sl->ζU,sc->δg,os->ζY
open Go.Vi.AV.sc renaming injEq->γX
open Go.Vi.SV renaming ow->γ6,si->Θ,row->Φ,il->γp,ptr->γS,sb->γD,bl->δo
open Int renaming toNat_natCast->γk
open IntCast renaming intCast->Ω
open List renaming replicate->ε,length->γn,take->γa,map->γf,length_replicate->γR,length_map->γA,length_take->Ψ,map_append->γd,take_length->ψ,length_set->γb,map_map->δn,map_congr_left->γW,flatMap->ζO,elem->ζz,getElem_of_mem->δb,mem_map->γg,mem_append_left->εm,mem_append->γc,all_eq_true->Ξ,map_cons->ι,sum_cons->δh,perm_ext_iff_of_nodup->δv,filter_sublist->δl,sum_append->ζT,getElem?_set_ne->δJ,mem_of_mem_take->γl,range_eq_range'->δI,take_append_drop->Δ,map_nil->γt
open List.cons renaming injEq->ξ
open Option.some renaming injEq->γ
namespace Go.Vi
open Go.Proofs.YtjcmncmajmoiiaaGreat.Ir
open Go.Proofs
def Bj (a:td):nN:=⟨a.1.length,a.2.length,a.2.length,a.2.length,a.2.length,a.1.length,a.2.map (·.1),a.2.map (·.2),ε a.1.length (bu 0),bu 0,(dT a.2.length).map λi=>a.1.length+i,dT a.1.length⟩
def Ly:cZ where
 f:=184;α:=td;put a:=[yL.put a];st _:=[];dec v o:=match v,o with
  |[v],[]=>yL.dec v
  |_,_=>none;ok v o a h:=by
  split at h;·exact⟨by simp only[gL,yL.ok _ _ h],rfl⟩
  ·cases h
 inj a b h _:=yL.inj a b (by simpa[gL] using h);dom a:=a.1.length<=1000/\a.2.length<=1000/\∀r∈a.2,r.1.length<=1000;res a:=.ptr 0 0 10;out a:=(Bj a).gG
def U9 (a:td) (k0 k1 k2 k3 k4:Nat) (co:List (List bO)) (bo ct:List bO) (ba fr:List Int):bW:=
 [.cells [.row sF a.1,.row sR a.2] 220 2 false,.cells [.si .i64 a.1.length,.si .i64 a.2.length,.ow 2 k0 1,.ow 3 k1 3,.ow 4 k2 3,.sb (bu 0).1,.row (.i .u32) (bu 0).2.1,.row (.i .u32) (bu 0).2.2,.ow 5 k3 1,.ow 6 k4 1] 267 10 false,
  .row (.bJ sF) co 91 false,.row sF bo 157 false,.row sF ct 157 true,.row (.i .i64) ba 3 false,.row (.i .i64) fr 3 false]
def aeU (a:td):Nat->cB
 |3=> .inv Int (λj=>⟨[(1,.ptr 0 0 2),(3,.ptr 1 0 10),(18,.si .i64 a.1.length),(19,.si .i64 j)],U9 a 0 0 j.toNat 0 j.toNat [] [] (ε j.toNat (bu 0)) [] (dT j.toNat)⟩)
   (λs=>iS s 19) (λj=>0<=j/\j<=a.1.length) (λj=>(a.1.length - j).toNat) λ_ _=> .look
 |9=> .inv Int (λi=>⟨[(3,.ptr 1 0 10),(44,.row sR a.2),(45,.si .i64 a.2.length),(46,.si .i64 i)],U9 a i.toNat i.toNat a.1.length i.toNat a.1.length ((a.2.take i.toNat).map (·.1)) ((a.2.take i.toNat).map (·.2)) (ε a.1.length (bu 0)) ((dT i.toNat).map λi=>a.1.length+i) (dT a.1.length)⟩)
   (λs=>iS s 46) (λi=>0<=i/\i<=a.2.length) (λi=>(a.2.length - i).toNat) λ_ _=> .look
 |_=> .look
theorem h399:dK Tryz.prog Ly:=by
 refine zM (L:=[qV]) (W:=[]) Ly (λ_=>none) aeU (by simp) (by simpa using h94) ?_;rintro⟨g,rs⟩ ⟨hg,hr,hrr⟩;simp only at hg hr hrr;refine bN (let a:=bq.row;let c:=γ6;let d:=bq.cells;let e:=(0:Int);let f:=Θ .i64;let h:=(-9223372036854775808:Int);let j:=Φ;let k:=(9223372036854775807:Int);let l:=γp .i64 0;let o:=bV .i64;let p:=γS;let V:=p 0 0 2;let w:=p 1 0 10;let a6:=f (↑g.length:Int);let r:=(↑g.length:Int);let s:=f r;let N:=j sR rs;let y:=d [j sF g,N] 220 2 false;let a7:=f (↑rs.length:Int);let G:=c 2 0 1;let H:=c 3 0 3;let a8:=c 4 0 3;let I:=bu (Ω e);let z:=bk.i .u32;let O:=c 5 0 1;let a9:=[O,c 6 0 1];let A:=(↑rs.length:Int);let t:=f A;let J:=bu (0:Rat);let B:=γD J.fst;let C:=j z J.snd.fst;let D:=j z J.snd.snd;let P:=bk.b.pair (z.bJ.pair z.bJ);let Q:=a sF.bJ [] 91 false;let R:=a sF [] 157 false;let u:=bk.i .i64;let F:=a u [] 3 false;let a1:=c 4 g.length 3;let a2:=[c 6 g.length 1];let a3:=ε g.length J;let a4:=a sF a3 157 true;let W:=a u (dT g.length) 3 false;let aa:=p 0 0 10;let q:=Bj (g,rs);(h<=e/\e<=k)/\(((V.same V/\w.same w/\a6.same s/\(l).same (f 0)/\True)/\y.same y/\(d (a6::a7::G::H::a8::γD I.fst::j z I.snd.fst::j z I.snd.snd::a9) 267 10 false).same (d (s::t::G::H::a8::B::C::D::a9) 267 10 false)/\(a P.bJ [] 91 false).same Q/\(a P [] 157 false).same R/\(a P [] 157 true).same (a sF [] 157 true)/\F.same F/\F.same (a u (dT 0) 3 false)/\True)/\e<=e/\e<=r)/\∀(x:Int),let S:=dT x.toNat;let ab:=S.length+1;let X:=ε x.toNat J;let ac:=X.length+1;let K:=x+(1:Int);let ad:=f K;let ae:=X++[(I.fst,I.snd.fst,I.snd.snd)];let Y:=K.toNat;e<=x/\x<=r->(decide (x<r)=true->1=1/\x.toNat=S.length/\ab*8<=140737488355328/\ab<=1000000000000/\(h<=e/\e<=k)/\1=1/\x.toNat=X.length/\ac*56<=140737488355328/\ac<=1000000000000/\o K/\((V.same V/\w.same w/\s.same s/\ad.same ad/\True)/\y.same y/\(d [s,t,G,H,c 4 ae.length 3,B,C,D,O,c 6 (S++[x]).length 1] 267 10 false).same (d [s,t,G,H,c 4 Y 3,B,C,D,O,c 6 Y 1] 267 10 false)/\Q.same Q/\R.same R/\(a P ae 157 true).same (a sF (ε Y J) 157 true)/\F.same F/\(a u (S++[x]) 3 false).same (a u (dT Y) 3 false)/\True)/\(e<=K/\K<=r)/\(r - K).toNat<(r - x).toNat)/\(decide (x<r)=false->(((w.same w/\N.same N/\a7.same t/\(l).same (f 0)/\True)/\y.same y/\(d [s,t,G,H,c 4 x.toNat 3,B,C,D,O,c 6 x.toNat 1] 267 10 false).same (d (s::t::G::H::a1::B::C::D::O::a2) 267 10 false)/\Q.same Q/\R.same R/\(a sF X 157 true).same a4/\F.same F/\(a u S 3 false).same W/\True)/\e<=e/\e<=A)/\∀(x:Int),let T:=bj rs x.toNat sR.dflt;let E:=γn T.fst;let af:=γa x.toNat rs;let Z:=γf (λx ↦x.fst) af;let a5:=Z.length+1;let a0:=γf (λx ↦x.snd) af;let ag:=a0.length+1;let U:=γf (λi ↦(↑(g,rs).fst.length:Int)+i) (dT x.toNat);let ah:=U.length+1;let L:=x+(1:Int);let ai:=f L;let aj:=a0++[(T.snd.fst,T.snd.snd.fst,T.snd.snd.snd)];let M:=L.toNat;e<=x/\x<=A->(decide (x<A)=true->e<=x/\x<(↑rs.length:Int)/\x.toNat<rs.length/\0=0/\(0+E)*56<=140737488355328/\0+E<=1000000000000/\x.toNat=Z.length/\a5*24<=140737488355328/\a5<=1000000000000/\E=E/\E=E/\E=E/\1=1/\x.toNat=a0.length/\ag*56<=140737488355328/\ag<=1000000000000/\o (r+x)/\1=1/\x.toNat=U.length/\ah*8<=140737488355328/\ah<=1000000000000/\o L/\((w.same w/\N.same N/\t.same t/\ai.same ai/\True)/\y.same y/\(d (s::t::c 2 a5 1::c 3 aj.length 3::a1::B::C::D::c 5 (U++[r+x]).length 1::a2) 267 10 false).same (d (s::t::c 2 M 1::c 3 M 3::a1::B::C::D::c 5 M 1::a2) 267 10 false)/\(a sF.bJ (Z++[T.fst]) 91 false).same (a sF.bJ (γf (λx ↦x.fst) (γa M rs)) 91 false)/\(a P aj 157 false).same (a sF (γf (λx ↦x.snd) (γa M rs)) 157 false)/\a4.same a4/\(a u (U++[r+x]) 3 false).same (a u (γf (λi ↦(↑(g,rs).fst.length:Int)+i) (dT M)) 3 false)/\W.same W/\True)/\(e<=L/\L<=A)/\(A - L).toNat<(A - x).toNat)/\(decide (x<A)=false->g.length=a3.length/\aa.same aa/\(d [s,t,c 1 x.toNat 1,c 2 x.toNat 3,j sF a3,B,C,D,c 3 x.toNat 1,c 4 g.length 1] 267 10 false).same (d [f q.n,f q.m,c 1 q.k0 1,c 2 q.k1 3,j sF q.cost,γD q.v.fst,j z q.v.snd.fst,j z q.v.snd.snd,c 3 q.k3 1,c 4 q.k4 1] 267 10 false)/\(a sF.bJ Z 91 false).same (a sF.bJ q.ca 91 false)/\(a sF a0 157 false).same (a sF q.bound 157 false)/\(a u U 3 false).same (a u q.basic 3 false)/\W.same (a u q.free 3 false)/\True))) (by kernel_rfl) ?_;simp only[vcs];have h0:(Ω 0:Rat)=0:=rfl;simp only[h0,kQ];have hcell:∀{a b a' b' c d e a2 b2 c2 d2 e2:Nat},a=a2->b=b2->c=c2->d=d2->e=e2->(bq.cells [.si .i64 a',.si .i64 b',.ow 2 a 1,.ow 3 b 3,.ow 4 c 3,.sb (bu 0).1,.row (.i .u32) (bu 0).2.1,.row (.i .u32) (bu 0).2.2,.ow 5 d 1,.ow 6 e 1] 267 10 false).same
   (bq.cells [.si .i64 a',.si .i64 b',.ow 2 a2 1,.ow 3 b2 3,.ow 4 c2 3,.sb (bu 0).1,.row (.i .u32) (bu 0).2.1,.row (.i .u32) (bu 0).2.2,.ow 5 d2 1,.ow 6 e2 1] 267 10 false):=by
  rintro _ _ _ _ _ _ _ _ _ _ _ _ rfl rfl rfl rfl rfl;rfl
 have hrF:∀{x y:List bO},x=y->(bq.row sF x 157 false).same (bq.row sF y 157 false):=by rintro _ _ rfl;rfl
 have uN:∀{x y:List bO},x=y->(bq.row sF x 157 true).same (bq.row sF y 157 true):=by rintro _ _ rfl;rfl
 have hrM:∀{x y:List (List bO)},x=y->(bq.row (.bJ sF) x 91 false).same (bq.row (.bJ sF) y 91 false):=by rintro _ _ rfl;rfl
 have lM:∀{x y:List Int},x=y->(bq.row (.i .i64) x 3 false).same (bq.row (.i .i64) y 3 false):=by rintro _ _ rfl;rfl
 have hcast:∀k:Nat,((k:Nat):Int).toNat=k:=λk=>γk k;refine⟨by omega,⟨⟨rfl,lM rfl⟩,by omega,by omega⟩,?_⟩;rintro j ⟨j0,j1⟩;have l1:=@jA j.toNat;have l2:(ε j.toNat (bu 0)).length=j.toNat:=γR;refine⟨λhj=>?_,λhj=>?_⟩
 ·have e1:dT j.toNat++[j]=dT (j+1).toNat:=by
   rw[show(j+1).toNat=j.toNat+1 by omega,yD,show((j.toNat:Nat):Int)=j by omega]
  have e2:ε j.toNat (bu 0)++[bu 0]=ε (j+1).toNat (bu 0):=by
   rw[show(j+1).toNat=j.toNat+1 by omega,List.replicate_succ']
  rw[e1,e2,jA,γR];rw[jA,γR];refine⟨rfl,?_,?_,?_,rfl,?_,?_,?_,⟨hcell rfl rfl rfl rfl rfl,uN rfl,lM rfl⟩,?_,?_⟩<;>omega
 ·rw[show j.toNat=g.length by omega];refine⟨⟨⟨hcell rfl rfl rfl rfl rfl,uN rfl,lM rfl⟩,by omega,by omega⟩,?_⟩;rintro i ⟨i0,i1⟩;have l3:(γf (λx:List bO×bO=>x.1) (γa i.toNat rs)).length=i.toNat:=by rw[γA,Ψ];omega
  have l4:(γf (λx:List bO×bO=>x.2) (γa i.toNat rs)).length=i.toNat:=by rw[γA,Ψ];omega
  have l5:(γf (λi:Int=>(g.length:Int)+i) (dT i.toNat)).length=i.toNat:=by rw[γA,jA]
  refine⟨λhi=>?_,λhi=>?_⟩
  ·have hm:=hrr _ (cK (d:=sR.dflt) (show i.toNat<rs.length by omega));have et:=jo (d:=sR.dflt) i0 hi;have e1:γf (λx:List bO×bO=>x.1) (γa i.toNat rs)++[(bj rs i.toNat sR.dflt).1]=γf (λx:List bO×bO=>x.1) (γa (i+1).toNat rs):=by rw[et,γd];rfl
   have e2:γf (λx:List bO×bO=>x.2) (γa i.toNat rs)++[(bj rs i.toNat sR.dflt).2]=γf (λx:List bO×bO=>x.2) (γa (i+1).toNat rs):=by rw[et,γd];rfl
   have e3:γf (λi:Int=>(g.length:Int)+i) (dT i.toNat)++[(g.length:Int)+i]=γf (λi:Int=>(g.length:Int)+i) (dT (i+1).toNat):=by
    rw[show(i+1).toNat=i.toNat+1 by omega,yD,γd,show((i.toNat:Nat):Int)=i by omega];rfl
   have l6:(γf (λx:List bO×bO=>x.2) (γa (i+1).toNat rs)).length=(i+1).toNat:=by rw[γA,Ψ];omega
   have l7:(γf (λi:Int=>(g.length:Int)+i) (dT (i+1).toNat)).length=(i+1).toNat:=by rw[γA,jA]
   refine⟨i0,hi,by omega,by omega,by omega,l3.symm,by omega,by omega,l4.symm,by omega,by omega,by omega,l5.symm,by omega,by omega,by omega,⟨hcell ?_ ?_ rfl ?_ rfl,hrM e1,hrF e2,lM e3⟩,by omega,by omega⟩;·omega
   ·exact(congrArg γn e2).trans l6
   ·exact(congrArg γn e3).trans l7
  ·have e:i.toNat=rs.length:=by omega
   rw[e,ψ];exact⟨γR.symm,rfl,rfl,rfl,rfl,rfl⟩
def r400:cZ:=uG 185 Unit .nil (λ_ m t _=>km m.toNat t) (λ_ _ _ _=> .bH [.sc (.slice none 0 0),.sb true]) (λ_ _ t _=>t)
def aeX (n m:Int) (t:Tb):Nat->cB
 |3=> .inv Int (λi=>⟨[(0,.ptr 0 0 10),(4,.si .i64 (-1)),(12,.ow 2 t.bound.length 3),(13,.si .i64 t.bound.length),(14,.si .i64 i)],(bG n m t).gG⟩)
   (λs=>iS s 14) (λi=>0<=i/\i<=m) (λi=>(m - i).toNat) λ_ _=> .look
 |_=> .look
theorem h400:dK Tryz.prog r400:=by
 refine jm (L:=[uE]) (W:=[]) r400 (λa=>aeX a.1.n a.1.m a.1.t) (by simp) (by simpa using h99) ?_;rintro⟨x,u⟩ ⟨n,m,t,hx,hok,hd⟩;simp only at hx hd;subst hx;refine bN (let a:=Θ .i64;let b:=bq.row;let c:=(0:Int);let d:=γ6;let e:=Φ;let f:=(-1:Int);let w:=γS 0 0 10;let A:=a f;let E:=d 2 (bG n m t).k1 3;let k:=(bG n m t).t.bound.length;let B:=d 2 k 3;let C:=a (↑k:Int);let j:=(bG n m t).m;let y:=bk.i .u32;let g:=bG (bG n m t).n j (bG n m t).t;let l:=bq.cells [a g.n,a g.m,d 1 g.k0 1,d 2 g.k1 3,e sF g.cost,γD g.v.fst,e y g.v.snd.fst,e y g.v.snd.snd,d 3 g.k3 1,d 4 g.k4 1] 267 10 false;let o:=b sF.bJ g.ca 91 false;let p:=b sF g.bound 157 false;let z:=bk.i .i64;let q:=b z g.basic 3 false;let r:=b z g.free 3 false;let h:=g.bound.length;let F:=SV.sc (Value.slice none 0 0);(((w.same w/\(γp .i64 f).same A/\E.same B/\(a (↑(bG n m t).k1:Int)).same C/\(γp .i64 0).same (a 0)/\True)/\(bq.cells [a (bG n m t).n,a j,d 1 (bG n m t).k0 1,E,e sF (bG n m t).cost,γD (bG n m t).v.fst,e y (bG n m t).v.snd.fst,e y (bG n m t).v.snd.snd,d 3 (bG n m t).k3 1,d 4 (bG n m t).k4 1] 267 10 false).same l/\(b sF.bJ (bG n m t).ca 91 false).same o/\(b sF (bG n m t).bound 157 false).same p/\(b z (bG n m t).basic 3 false).same q/\(b z (bG n m t).free 3 false).same r/\True)/\c<=c/\c<=j)/\∀(x:Int),let D:=bj g.bound x.toNat sF.dflt;let G:=(D.fst,D.snd.fst,D.snd.snd);let s:=x+(1:Int);let H:=a s;let I:=decide (x<(↑k:Int));let J:=λ(u:Bool) ↦decide (kN (ck G)<c)=u;let K:=λ(u:SV) ↦bV .i64 s/\((w.same w/\u.same A/\B.same B/\C.same C/\H.same H/\True)/\l.same l/\o.same o/\p.same p/\q.same q/\r.same r/\True)/\(c<=s/\s<=j)/\(j - s).toNat<(j - x).toNat;c<=x/\x<=j->(I=true->k=h/\c<=x/\x<(↑h:Int)/\k=h/\x.toNat<h/\de G/\(J true->(true=true->K (a x))/\(true=false->g.k1=h/\c<=f/\f<(↑h:Int)/\g.k1=h/\0<h/\False))/\(J false->K A))/\(I=false->(true=true->(SV.bH [F,δo true]).same (SV.bH [F,γD true])/\l.same l/\o.same o/\p.same p/\q.same q/\r.same r/\True)/\(true=false->False))) (by kernel_rfl) ?_;simp only[s6];try simp only[bG]
 simp only[vcs];obtain⟨⟨⟨n0,n1⟩,m0,m1⟩,hw,hz⟩:=id hok;have hbl:=hw.bound;have Kx:=@fQ t.bound;refine⟨⟨by omega,by omega⟩,?_⟩;rintro i ⟨i0,i1⟩;refine⟨λhi=>?_,λhi=>⟨λ_=>trivial,λh=>by cases h⟩⟩;have hB:bj (fL t.bound) i.toNat sF.dflt=bu (t.bd i.toNat):=jv (by omega);have hpos:=hd i.toNat (by omega);have hneg:¬kN (t.bd i.toNat)<0:=λh=>by have:=Ku.1 h;grind
 simp only[hB,kQ,fb];exact⟨by omega,i0,by omega,by omega,by omega,ei (hok.bd (by omega)) (by omega),λh=>absurd h hneg,λ_=>⟨by omega,by omega,by omega⟩⟩
def LA:cZ:=uG 186 (List bO) (.one (dW sF)) (λn m t a=>∃g:List Rat,a=fL g/\g.length=n.toNat/\t.free=dT n.toNat/\∀v∈t.basic,n<=v) (λ_ _ _ _=> .bH []) (λ_ _ t a=>{t with cost:=vL a,value:=0})
def aeY (n m:Int) (t:Tb) (a:List bO):Nat->cB
 |3=> .inv Int (λj=>⟨[(0,.ptr 0 0 10),(1,.row sF a),(4,.ow 5 n.toNat 3),(24,.ow 4 t.free.length 1),(25,.si .i64 t.free.length),(26,.si .i64 j)],(bG n m {t with value:=0}).gG++[.row sF (fw a j.toNat (false,([],[]))) 157 true]⟩)
   (λs=>iS s 26) (λi=>0<=i/\i<=n) (λi=>(n - i).toNat) λ_ _=> .look
 |10=> .inv Int (λi=>⟨[(0,.ptr 0 0 10),(1,.row sF a),(4,.ow 5 n.toNat 3),(52,.ow 3 t.basic.length 1),(53,.si .i64 t.basic.length),(54,.si .i64 i)],(bG n m {t with value:=0}).gG++[.row sF a 157 true]⟩)
   (λs=>iS s 54) (λi=>0<=i/\i<=m) (λi=>(m - i).toNat) λ_ _=> .look
 |_=> .look
theorem h401:dK Tryz.prog LA:=by
 refine jm (L:=[qV]) (W:=[]) LA (λa=>aeY a.1.n a.1.m a.1.t a.2) (by simp) (by simpa using h94) ?_;rintro⟨x,a⟩ ⟨n,m,t,hx,hok,g,ha,hgl,hfr,hbs⟩;simp only at hx ha;subst hx ha;refine bN (let a:=(0:Int);let c:=Θ .i64;let d:=bq.row;let e:=γ6;let f:=(-9223372036854775808:Int);let h:=Φ;let j:=(9223372036854775807:Int);let k:=bq.cells;let l:=γp .i64 0;let w:=(↑(bG n m t).k4:Int);let y:=γS 0 0 10;let s:=h sF (fL g);let p:=(bG n m t).n;let F:=e 5 p.toNat 3;let a0:=e 4 (bG n m t).k4 1;let r:=(bG n m t).t;let N:=r.free.length;let U:=e 4 N 1;let V:=c (↑N:Int);let z:=(bG n m t).m;let H:=bu (Ω a);let A:=bk.i .u32;let o:=bG p z (Tb.mk r.ca r.bound r.cost (0:Rat) r.basic r.free);let a1:=c o.n;let a2:=c o.m;let a3:=e 1 o.k0 1;let a4:=e 2 o.k1 3;let a5:=e 3 o.k3 1;let a6:=[γD o.v.fst,h A o.v.snd.fst,h A o.v.snd.snd,a5,e 4 o.k4 1];let G:=k (a1::a2::a3::a4::h sF o.cost::a6) 267 10 false;let B:=d sF.bJ o.ca 91 false;let C:=d sF o.bound 157 false;let I:=bk.i .i64;let J:=o.basic;let D:=d I J 3 false;let E:=d I o.free 3 false;let R:=(false,[],[]);let S:=o.free.length;let z29:Nat:=(fL g).length;let O:=r.basic.length;let W:=e 3 O 1;let X:=c (↑O:Int);let Y:=d sF (fL g) 157 true;let q:=bG p z (Tb.mk r.ca r.bound (vL (fL g)) (0:Rat) r.basic r.free);(f<=a/\a<=j)/\a<=w/\w<=w/\w*(56:Int)<=(140737488355328:Int)/\w<=(1000000000000:Int)/\(((y.same y/\s.same s/\(e 5 w.toNat 3).same F/\a0.same U/\(c w).same V/\(l).same (c 0)/\True)/\(k [c p,c z,e 1 (bG n m t).k0 1,e 2 (bG n m t).k1 3,h sF (bG n m t).cost,γD H.fst,h A H.snd.fst,h A H.snd.snd,e 3 (bG n m t).k3 1,a0] 267 10 false).same G/\(d sF.bJ (bG n m t).ca 91 false).same B/\(d sF (bG n m t).bound 157 false).same C/\(d I (bG n m t).basic 3 false).same D/\(d I (bG n m t).free 3 false).same E/\(d (bk.b.pair (A.bJ.pair A.bJ)) (ε w.toNat R) 157 true).same (d sF (fw (fL g) 0 R) 157 true)/\True)/\a<=a/\a<=p)/\∀(x:Int),let K:=x+(1:Int);let a7:=c K;let a8:=decide (x<(↑N:Int));let L:=fw (fL g) x.toNat R;let P:=bj o.free x.toNat a;let a9:=decide (P<o.n);let M:=L.set x.toNat (H.fst,H.snd.fst,H.snd.snd);let Z:=bj (fL g) P.toNat sF.dflt;let aa:=λ(u:List (Bool×List Int×List Int)) ↦bV .i64 K/\((y.same y/\s.same s/\F.same F/\U.same U/\V.same V/\a7.same a7/\True)/\G.same G/\B.same B/\C.same C/\D.same D/\E.same E/\(d sF u 157 true).same (d sF (fw (fL g) K.toNat R) 157 true)/\True)/\(a<=K/\K<=p)/\(p - K).toNat<(p - x).toNat;a<=x/\x<=p->(a8=true->N=S/\a<=x/\x<(↑S:Int)/\N=S/\x.toNat<S/\(f<=a/\a<=j)/\p.toNat=L.length/\a<=x/\x<(↑L.length:Int)/\p.toNat=L.length/\x.toNat<L.length/\(a9=true->a<=P/\P<(↑z29:Int)/\P.toNat<z29/\p.toNat=M.length/\a<=x/\x<(↑M.length:Int)/\p.toNat=M.length/\x.toNat<M.length/\aa (M.set x.toNat (Z.fst,Z.snd.fst,Z.snd.snd)))/\(a9=false->aa M))/\(a8=false->(((y.same y/\s.same s/\F.same F/\a5.same W/\(c (↑o.k3:Int)).same X/\(l).same (c 0)/\True)/\G.same G/\B.same B/\C.same C/\D.same D/\E.same E/\(d sF L 157 true).same Y/\True)/\a<=a/\a<=z)/\∀(x:Int),let ab:=decide (x<(↑O:Int));let T:=bj J x.toNat a;let ac:=decide (o.n<=T);let Q:=x+(1:Int);let ad:=c Q;a<=x/\x<=z->(ab=true->O=J.length/\a<=x/\x<(↑J.length:Int)/\O=J.length/\x.toNat<J.length/\(ac=true->bV .i64 Q/\((y.same y/\s.same s/\F.same F/\W.same W/\X.same X/\ad.same ad/\True)/\G.same G/\B.same B/\C.same C/\D.same D/\E.same E/\Y.same Y/\True)/\(a<=Q/\Q<=z)/\(z - Q).toNat<(z - x).toNat)/\(ac=false->a<=T/\T<(↑z29:Int)/\T.toNat<z29/\False))/\(ab=false->p.toNat=z29/\(SV.bH []).same (SV.bH [])/\(k (a1::a2::a3::a4::s::a6) 267 10 false).same (k [c q.n,c q.m,e 1 q.k0 1,e 2 q.k1 3,h sF q.cost,γD q.v.fst,h A q.v.snd.fst,h A q.v.snd.snd,e 3 q.k3 1,e 4 q.k4 1] 267 10 false)/\B.same (d sF.bJ q.ca 91 false)/\C.same (d sF q.bound 157 false)/\D.same (d I q.basic 3 false)/\E.same (d I q.free 3 false)/\True))) (by kernel_rfl) ?_;simp only[s6];try simp only[bG]
 simp only[vcs];obtain⟨⟨⟨n0,n1⟩,m0,m1⟩,hw,hz⟩:=id hok;have hbb:=hw.basic;have hfl:=hw.free;have hfg:=@fQ g;have h0:(Ω 0:Rat)=0:=rfl;have hrow:∀{x y:List bO},x=y->(bq.row sF x 157 true).same (bq.row sF y 157 true):=by rintro _ _ rfl;rfl
 simp only[h0,kQ];refine⟨by omega,by omega,by omega,by omega,by omega,⟨⟨?_,?_,?_⟩,by omega,by omega⟩,?_⟩;·rw[hfl];rfl
 ·rfl
 ·exact hrow (by rw[Bg,hfg,hgl,hfl];rfl)
 rintro j ⟨j0,j1⟩;have qC:=@Bf (fL g) j.toNat (false,([],[])) (by omega);refine⟨λhj=>?_,λhj=>?_⟩
 ·have hv:bj t.free j.toNat 0=j:=by rw[hfr,Lq (by omega)];omega
  rw[hv];have hset:((fw (fL g) j.toNat (false,([],[]))).set j.toNat (bu 0)).set j.toNat (bj (fL g) j.toNat sF.dflt)=fw (fL g) (j+1).toNat (false,([],[])):=by
   have e:=Bi (d:=fL g) (j:=j.toNat) (z:=(false,([],[]))) (x:=bj (fL g) j.toNat sF.dflt) (by omega) rfl;rw[List.set_set,show(j+1).toNat=j.toNat+1 by omega];exact e
  rw[γb];exact⟨j0,by omega,by omega,by omega,by omega,j0,by omega,by omega,by omega,λ_=>⟨j0,by omega,by omega,by omega,j0,by omega,by omega,by omega,by omega,hrow hset,by omega,by omega⟩,λh=>(h (by omega)).elim⟩
 ·have e:j.toNat=(fL g).length:=by omega
  rw[e,Bh];refine⟨⟨hrow rfl,by omega,by omega⟩,?_⟩;rintro i ⟨i0,i1⟩;refine⟨λhi=>⟨i0,hi,by omega,λ_=>⟨by omega,by omega,by omega⟩,λh=>absurd (hbs _ (cK (by omega))) h⟩,λhi=>⟨by omega,?_⟩⟩;rw[mA];rfl
abbrev Lp:=List Rat×List (List Rat×Rat)
def iC (a:Lp):td:=(fL a.1,a.2.map λr=>(fL r.1,bu r.2))
def lu (a:Lp):Tb:=⟨a.2.map (·.1),a.2.map (·.2),a.1,0,(dT a.2.length).map λi=>a.1.length+i,dT a.1.length⟩
def rZ (a:Lp):Tb:={lu a with cost:=ε a.1.length 0}
theorem aeZ {a:Lp}:Bj (iC a)=bG a.1.length a.2.length (rZ a):=by
 unfold Bj iC bG rZ lu;simp_all[jA,fM,fL]
structure Bl (a:Lp):Prop where
 n:a.1.length<=160
 m:a.2.length<=40
 small:∃M G,Small a.1.length a.2.length M G (lu a)
 yp:km a.2.length (lu a)
 bnd:∃B,∀x z,(lu a).holds a.1.length a.2.length x z->(∀v∈(lu a).basic++(lu a).free,0<=x v)->z<=B
noncomputable def nS (a:Lp):Tb:=lastT a.1.length a.2.length (lu a)
theorem ae0 {a:Lp} (h:Bl a):okO a.1.length a.2.length (lu a):=by
 obtain⟨M,G,b⟩:=h.small;exact⟨lu a,M,G,b,Run.refl b.wf b.nd,h.yp⟩
theorem ae1 {a:Lp} (h:Bl a):Run a.1.length a.2.length (lu a) (nS a)/\km a.2.length (nS a)/\eh (nS a) a.1.length<0:=by
 obtain⟨M,G,c⟩:=h.small;obtain⟨B,d⟩:=h.bnd;have b:=Run.refl c.wf c.nd;have:=Lm b h.yp;exact⟨this.1,this.2.1,UQ b h.yp d⟩
noncomputable def LH:bL:=⟨152,td,.one yL,λx=>∃a:Lp,x=iC a/\Bl a,λx=>
 let a:Lp:=(vL x.1,x.2.map λr=>(vL r.1,ck r.2));.bH [.agg [.si .i64 1,.sb (bu (nS a).value).1,.row (.i .u32) (bu (nS a).value).2.1,.row (.i .u32) (bu (nS a).value).2.2,.row sF (fL (gn (nS a) a.1.length a.2.length)),.row sF (fL (kU (nS a) a.1.length a.2.length a.1.length)),.row sF []],.si .i64 0]⟩
theorem ae2 {a:Lp}:((vL (iC a).1,(iC a).2.map λr=>(vL r.1,ck r.2)):Lp)=a:=by
 obtain⟨g,b⟩:=a;unfold iC;simp only[mA,δn];congr 1;conv=>rhs;rw[<-List.map_id b]
 refine γW λr _=>?_;grind[mA,fb]
theorem ae3 {a:Lp}:((iC a).1,(iC a).2)=iC a:=rfl
theorem Va {a:Lp}:vL (iC a).1=a.1:=mA _
theorem Vb {a:Lp}:(iC a).2.map (λr=>(vL r.1,ck r.2))=a.2:=congrArg Prod.snd (@ae2 a)
theorem ae4 {a:Lp}:({ca:=(rZ a).ca,bound:=(rZ a).bound,cost:=a.1,value:=0,basic:=(rZ a).basic,free:=(rZ a).free}:Tb)=lu a:=rfl
theorem ae5 {a:Lp}:(iC a).1.length=a.1.length:=fQ
theorem ae6 {a:Lp}:(iC a).2.length=a.2.length:=γA _
theorem Vd {q:Rat} (h:Sz 1000000 q):nc (bu q)/\okF (bu q)=true:=by
 obtain⟨g,⟨c,_,e⟩,⟨b,_,f⟩⟩:=nJ q;obtain⟨a,d⟩:=qW h;refine⟨⟨⟨c,b⟩,a,d⟩,?_⟩;grind[okF,fb]
theorem ae7 {o:Store} {d:Nat} {acc:List Nat} {l:List bO}:cJ o d (γf (λx:bO=>dN bk.b x.1++dN ((bk.i .u32).bJ.pair (bk.i .u32).bJ) x.2) l).flatten acc=acc:=zL λa c=>ny (s:=sF) (l:=l) c
theorem ae8 {o:Store} {d:Nat} {acc:List Nat} {l:List (List bO)}:cJ o d (γf (λx:List bO=>[ζU (γn x) (ζO (dN sF) x)]) l).flatten acc=acc:=zL λa b=>ny (s:=sF.bJ) (l:=l) b
theorem ae9 {o:Store} {d:Nat} {acc:List Nat} {l:List Int}:cJ o d (γf (λx:Int=>γf δg (dJ (bk.i .i64) x)) l).flatten acc=acc:=zL λa b=>ny (s:=bk.i .i64) (l:=l) b
theorem h395:Holds Tryz.prog LH:=by
 refine ZU (L:=[Lx]) (W:=fU [Ly,r400,LA,Lt,Fo,Fp]) LH (λf=>Nat.beq f Fo.f||Nat.beq f Fp.f) lk (lg (by simpa using⟨h399,h400,h401,h402,h403,h405⟩)) (by simpa using h398) ?_;rintro x ⟨a,hx,hok⟩;subst hx;refine bN (let c:=Φ;let d:=bq.row;let e:=Θ .i64;let f:=γ6;let h:=bq.cells;let j:=γp .i64;let k:=(0:Int);let l:=γD;let o:=δo false;let p:=SV.agg;let q:=SV.bH;let B:=(iC a).fst;let C:=(iC a).snd;let J:=h [c sF B,c sR C] 220 2 false;let Q:=j 0;let a1:=Value.slice none 0 0;let G:=SV.sc a1;let K:=h [Q,o,G,G,G,G,G] 224 7 false;let L:=Bj (B,C);let D:=bG L.n L.m L.t;let E:=bG D.n D.m (Tb.mk D.t.ca D.t.bound (vL B) (0:Rat) D.t.basic D.t.free);let a2:=lastT E.n.toNat E.m.toNat E.t;let s:=bG E.n E.m a2;let y:=bk.i .u32;let M:=s.v.snd.fst;let N:=s.v.snd.snd;let w:=bG s.n s.m s.t;let R:=w.v.snd.fst;let S:=w.v.snd.snd;let a3:=h [e w.n,e w.m,f 3 w.k0 1,f 4 w.k1 3,c sF w.cost,l w.v.fst,c y R,c y S,f 5 w.k3 1,f 6 w.k4 1] 267 10 false;let a4:=d sF.bJ w.ca 91 false;let a5:=d sF w.bound 157 false;let z:=bk.i .i64;let a6:=d z w.basic 3 false;let a7:=d z w.free 3 false;let F:=c z [];let U:=γf (λ(r:List bO×bO) ↦(vL r.fst,ck r.snd)) C;let H:=nS (vL B,U);let z31:Nat:=(vL B).length;let a8:=e 0;let a9:=q [p [e 1,l (bu H.value).fst,c y (bu H.value).snd.fst,c y (bu H.value).snd.snd,c sF (fL (gn H z31 U.length)),c sF (fL (kU H z31 U.length z31)),c sF []],a8];let A:=bG w.n w.m w.t;let aa:=bP.cells [ζU B.length (γf (λ(x:sF.T) ↦dN bk.b x.fst++dN (y.bJ.pair y.bJ) x.snd) B).flatten,ζU C.length (γf (λ(x:sR.T) ↦dN sF.bJ x.fst++dN sF x.snd) C).flatten] 220 2 false;let I:=δg a1;let ab:=bP.cells [δg (Value.int .i64 k),δg (Value.bool false),I,I,I,I,I] 224 7 false;let ac:=(γf (λ(x:sF.bJ.T) ↦[ζU (γn x) (ζO (dN sF) x)]) s.ca).flatten;let ad:=(γf (λ(x:sF.T) ↦dN bk.b x.fst++dN (y.bJ.pair y.bJ) x.snd) s.bound).flatten;let ae:=(γf (λ(x:z.T) ↦γf δg (dJ z x)) s.basic).flatten;let af:=(γf (λ(x:z.T) ↦γf δg (dJ z x)) s.free).flatten;let O:=[aa,ab,bP.cells [δg (Value.int .i64 s.n),δg (Value.int .i64 s.m),ζY 3 0 s.k0 (s.k0*1),ζY 4 0 s.k1 (s.k1*3),ζU s.cost.length (γf (λ(x:sF.T) ↦dN bk.b x.fst++dN (y.bJ.pair y.bJ) x.snd) s.cost).flatten,δg (Value.bool s.v.fst),ζU M.length (γf (λ(x:y.T) ↦γf δg (dJ y x)) M).flatten,ζU N.length (γf (λ(x:y.T) ↦γf δg (dJ y x)) N).flatten,ζY 5 0 s.k3 (s.k3*1),ζY 6 0 s.k4 (s.k4*1)] 267 10 false,bP.cells ac 91 1 false,bP.cells ad 157 3 false,bP.cells ae 3 1 false,bP.cells af 3 1 false];let ag:=[2,3];let V:=cJ O (nat_lit 396) ac ag;let W:=if ζz 4 V=true then V else cJ O (nat_lit 395) ad (V++[4]);let X:=if ζz 5 W=true then W else cJ O (nat_lit 390) ae (W++[5]);let ah:=(γf (λ(x:sF.bJ.T) ↦[ζU (γn x) (ζO (dN sF) x)]) w.ca).flatten;let ai:=(γf (λ(x:sF.T) ↦dN bk.b x.fst++dN (y.bJ.pair y.bJ) x.snd) w.bound).flatten;let aj:=(γf (λ(x:z.T) ↦γf δg (dJ z x)) w.basic).flatten;let ak:=(γf (λ(x:z.T) ↦γf δg (dJ z x)) w.free).flatten;let P:=[aa,ab,bP.cells [δg (Value.int .i64 w.n),δg (Value.int .i64 w.m),ζY 3 0 w.k0 (w.k0*1),ζY 4 0 w.k1 (w.k1*3),ζU w.cost.length (γf (λ(x:sF.T) ↦dN bk.b x.fst++dN (y.bJ.pair y.bJ) x.snd) w.cost).flatten,δg (Value.bool w.v.fst),ζU R.length (γf (λ(x:y.T) ↦γf δg (dJ y x)) R).flatten,ζU S.length (γf (λ(x:y.T) ↦γf δg (dJ y x)) S).flatten,ζY 5 0 w.k3 (w.k3*1),ζY 6 0 w.k4 (w.k4*1)] 267 10 false,bP.cells ah 91 1 false,bP.cells ai 157 3 false,bP.cells aj 3 1 false,bP.cells ak 3 1 false];let Y:=cJ P (nat_lit 396) ah ag;let Z:=if ζz 4 Y=true then Y else cJ P (nat_lit 395) ai (Y++[4]);let a0:=if ζz 5 Z=true then Z else cJ P (nat_lit 390) aj (Z++[5]);let al:=J.same J/\K.same K/\(h [e s.n,e s.m,f 3 s.k0 1,f 4 s.k1 3,c sF s.cost,l s.v.fst,c y M,c y N,f 5 s.k3 1,f 6 s.k4 1] 267 10 false).same a3/\(d sF.bJ s.ca 91 false).same a4/\(d sF s.bound 157 false).same a5/\(d z s.basic 3 false).same a6/\(d z s.free 3 false).same a7/\True;let am:=∃(n:Int),∃(m:Int),∃(t:Tb),s=bG n m t/\kR n m t/\∀(v:Int),v∈t.basic->k<=v;let an:=λ(u:Bool) ↦(!decide (eh a2 E.n.toNat<k))=u;let ao:=λ(u:Int) (u_1:SV) ↦false=true->(q [p [j u,o,F,F,F,F,F],u_1]).same a9;((B.length<=160/\C.length<=40)/\(∀(x:bO),x∈B->nc x/\okF x=true)/\∀(r:List bO×bO),r∈C->r.fst.length=B.length/\(∀(x:bO),x∈r.fst->nc x/\okF x=true)/\nc r.snd/\okF r.snd=true)/\ao k a8/\(false=false->(B.length<=1000/\C.length<=1000/\∀(r:List bO×bO),r∈C->r.fst.length<=1000)/\(∃(n:Int),∃(m:Int),∃(t:Tb),L=bG n m t/\kR n m t/\km m.toNat t)/\ao (2:Int) Q/\(false=false->(∃(n:Int),∃(m:Int),∃(t:Tb),D=bG n m t/\kR n m t/\∃(g:List Rat),B=fL g/\g.length=n.toNat/\t.free=dT n.toNat/\∀(v:Int),v∈t.basic->n<=v)/\(∃(n:Int),∃(m:Int),∃(t:Tb),E=bG n m t/\kR n m t/\okO n.toNat m.toNat t)/\(an true->am/\al/\False)/\(an false->am/\al/\(∃(n:Int),∃(m:Int),∃(t:Tb),w=bG n m t/\kR n m t/\True)/\(J.same J/\K.same K/\a3.same (h [e A.n,e A.m,f 3 A.k0 1,f 4 A.k1 3,c sF A.cost,l A.v.fst,c y A.v.snd.fst,c y A.v.snd.snd,f 5 A.k3 1,f 6 A.k4 1] 267 10 false)/\a4.same (d sF.bJ A.ca 91 false)/\a5.same (d sF A.bound 157 false)/\a6.same (d z A.basic 3 false)/\a7.same (d z A.free 3 false)/\True)/\if(((if ζz 6 X=true then X else cJ O (nat_lit 389) af (X++[6])).all λ(i:Nat) ↦decide (i<7))&&(((if ζz 6 a0=true then a0 else cJ P (nat_lit 389) ak (a0++[6])).all λ(i:Nat) ↦decide (i<7))&&true))=true then(q [p [j 1,l s.v.fst,c y M,c y N,c sF (fL (gn s.t s.n.toNat s.m.toNat)),c sF (fL (kU w.t w.n.toNat w.m.toNat w.n.toNat)),F],Q]).same a9 else False)))) (by kernel_rfl) ?_;simp only[ae3,aeZ,s6,TG,TI,Va,Vb,ae4,ae5,ae6,γk];try simp only[vcs]
 obtain⟨M,G,hs⟩:=hok.small;obtain⟨r1,r2,r3⟩:=ae1 hok;have hw:=hs.wf;have hz:=hs.wa (Run.refl hs.wf hs.nd);have hn:=hok.n;have hm:=hok.m;have hO:=ae0 hok;have k1:kR a.1.length a.2.length (lu a):=⟨⟨by omega,by omega⟩,by simpa using hw,hz⟩;have k0:kR a.1.length a.2.length (rZ a):=by
  refine⟨⟨by omega,by omega⟩,⟨hw.ca,hw.row,hw.bound,by simp[rZ],hw.basic,hw.free⟩,hz.1,hz.2.1,λq hq=>?_,hz.2.2.2⟩;rw[(List.mem_replicate.1 hq).2];exact hz.2.2.2
 have k2:kR a.1.length a.2.length (nS a):=UK hs (by simpa using r1) (by omega) (by omega);have hl:lastT a.1.length a.2.length (lu a)=nS a:=rfl;have LI:((a.1,a.2):Lp)=a:=rfl;simp only[hl,LI,ae7,ae8,ae9];have mem2:∀i,i<a.2.length->bj a.2 i ([],0)∈a.2:=λi hi=>cK hi;have hrow:∀r∈a.2,r.1.length=a.1.length/\(∀q∈r.1,Sz 1000000 q)/\Sz 1000000 r.2:=λr hr=>by
  obtain⟨i,hi,rfl⟩:=δb hr;have h1:=hw.row i hi;have e:bj (lu a).ca i []=a.2[i].1:=by
   show bj (a.2.map (·.1)) i []=_;rw[cM (by rw[γA];exact hi),List.getElem_map]
  rw[e] at h1;refine⟨h1,hz.1 _ (γg.2 ⟨a.2[i],hr,rfl⟩),hz.2.1 _ (γg.2 ⟨a.2[i],hr,rfl⟩)⟩
 have hg:∀q∈a.1,Sz 1000000 q:=hz.2.2.1;have hF:∀{l:List Rat},(∀q∈l,Sz 1000000 q)->∀x∈fL l,nc x/\okF x=true:=λh x hx=>by
  obtain⟨q,hq,rfl⟩:=γg.1 hx;exact Vd (h q hq)
 have hdg:(∀x∈(iC a).1,nc x/\okF x=true)/\∀r∈(iC a).2,r.1.length=a.1.length/\(∀x∈r.1,nc x/\okF x=true)/\nc r.2/\okF r.2=true:=by
  refine⟨hF hg,λr hr=>?_⟩;obtain⟨r0,hr0,rfl⟩:=γg.1 hr;obtain⟨h1,h2,h3⟩:=hrow r0 hr0;exact⟨by rw[<-h1];exact fQ,hF h2,Vd h3⟩
 have hb0:∀v∈(nS a).basic,0<=v:=λv hv=>by
  have:=r1.perm.mem_iff.1 (εm _ hv);simp only[lu,γc,γg,rV] at this;rcases this with⟨i,hi,rfl⟩|h;·omega
  ·exact h.1
 have hbn:∀v∈(rZ a).basic,(a.1.length:Int)<=v:=λv hv=>by
  simp only[rZ,lu,γg,rV] at hv;obtain⟨i,hi,rfl⟩:=hv;omega
 refine⟨⟨⟨hn,hm⟩,hdg.1,hdg.2⟩,λh=>(by cases h),λ_=>⟨⟨by omega,by omega,λr hr=>by have:=(hdg.2 r hr).1;omega⟩,⟨_,_,_,rfl,k0,by rw[γk];exact hok.yp⟩,λh=>(by cases h),λ_=>⟨⟨_,_,_,rfl,k0,a.1,rfl,by simp,rfl,hbn⟩,⟨_,_,_,rfl,k1,by simpa using hO⟩,λh=>absurd r3 h,λ_=>⟨⟨_,_,_,rfl,k2,hb0⟩,⟨_,_,_,rfl,k2⟩,?_⟩⟩⟩⟩;rw[if_pos (by decide)];rfl
theorem LK {f:List Int} {d:Int} {i:Int} (h:0<=i) (c:i<f.length):bF (f.take (i+1).toNat) d=bF (f.take i.toNat) d++if bj f i.toNat 0=d then[i] else[]:=by
 have a:(f.take (i+1).toNat).length=i.toNat+1:=by grind
 have b:(f.take i.toNat).length=i.toNat:=by grind
 unfold bF;rw[a,b,yD,List.filter_append];have e:∀{k:Nat} {m:Nat},k<m->m<=f.length->bj (f.take m) k 0=bj f k 0:=λ{k m} c j=>by
  grind[cM]
 congr 1
 ·refine List.filter_congr λx g=>?_;grind[rV]
 grind
def jQ (f:List Int):Bool:=f.all λx=>decide (-1<=x)&&decide (x<=1)
def kV (p:bp) (f:List Int):Int:=if bC p≠0 then bC p else if f.length≠p.offers.length then 3 else if jQ f=true then 0 else 4
def LL:bL:=⟨150,bp×List Int,.cons cY (.one (dW (.i .i64))),λa=>a.2.length<=1000000000000,λa=> .si .i64 (kV a.1 a.2)⟩
def afa (p:bp) (f:List Int):Nat->cB
 |7=> .inv Int (λi=>⟨[(19,.row (.i .i64) f),(20,.si .i64 f.length),(21,.si .i64 i)],[.cells p.ss 27 20 false]⟩)
   (λs=>iS s 21) (λi=>(0<=i/\i<=f.length)/\jQ (f.take i.toNat)=true) (λi=>(f.length - i).toNat) λ_ _=> .look
 |_=> .look
theorem h393:Holds Tryz.prog LL:=by
 refine cF (L:=[pU]) LL (λa=>afa a.1 a.2) (by grind[h79]) ?_;rintro⟨p,f⟩ (D:f.length<=1000000000000);refine bN (let a:=Θ .i64;let d:=(0:Int);let g:=γp .i64;let v:=decide (bC p≠d);let e:=a (kV p f);let q:=(↑f.length:Int);let r:=decide (q≠(↑p.offers.length:Int));let n:=Φ (bk.i .i64) f;let c:=(↑f.length:Int);let o:=a c;let w:=g 0;let m:=bq.cells (bp.ss p) 27 20 false;True/\(v=true->(a (bC p)).same e)/\(v=false->(r=true->(g 3).same e)/\(r=false->(((n.same n/\(a q).same o/\w.same (a 0)/\True)/\m.same m/\True)/\(d<=d/\d<=c)/\jQ []=true)/\∀(x:Int),let s:=bj f x.toNat d;let l:=decide (s<(-1:Int));let j:=decide ((1:Int)<s);let b:=x+(1:Int);let k:=a b;(d<=x/\x<=c)/\jQ (γa x.toNat f)=true->(decide (x<c)=true->d<=x/\x<q/\x.toNat<f.length/\(l=true->(g 4).same e)/\(l=false->(j=true->(g 4).same e)/\(j=false->bV .i64 b/\((n.same n/\o.same o/\k.same k/\True)/\m.same m/\True)/\((d<=b/\b<=c)/\jQ (γa b.toNat f)=true)/\(c - b).toNat<(c - x).toNat)))/\(decide (x<c)=false->w.same e)))) (by kernel_rfl) ?_;simp only[vcs];refine⟨λh=>by simp[kV,h],λh=>?_⟩;have F:bC p=0:=ω.1 h;refine⟨λy=>by
  grind[kV],λy=>⟨⟨⟨by omega,by omega⟩,rfl⟩,?_⟩⟩;have u:f.length=p.offers.length:=by omega
 rintro i ⟨⟨A,G⟩,g⟩;refine⟨λt=>?_,λt=>?_⟩
 ·have B:=cK (d:=0) (show i.toNat<f.length by omega);have H:=jo (d:=0) A t;have z:¬(-1<=bj f i.toNat 0/\bj f i.toNat 0<=1)->(4:Int)=kV p f:=λE=>by
   have:jQ f=false:=by
    rw[εk];intro C;have:=Ξ.1 C _ B;grind
   grind[kV]
  grind[jQ]
 ·rw[show i.toNat=f.length by omega,ψ] at g;grind[kV]
def kW (p:bp) (f:List Int):Int:=bZ ((bF f 1).map (oI p))
theorem LM {p:bp} (c:bC p=0) {f:List Int} {k:Nat} (g:f.length=p.offers.length):0<=kW p (f.take k)/\kW p (f.take k)<=160000000:=by
 have a:=dm c;have e:=@yI (f.take k) 1;have h:(f.take k).length<=f.length:=by grind
 have j:=@sO p a ((bF (f.take k) 1).map (oI p)) λx b=>by
  obtain⟨i,d,rfl⟩:=γg.1 b;have:=(mG.1 d).1;exact cK (by omega)
 have l:=a.2.1;grind[kW]
theorem afb {p:bp} {f:List Int} {i:Int} (b:0<=i) (a:i<f.length):kW p (f.take (i+1).toNat)=kW p (f.take i.toNat)+if bj f i.toNat 0=1 then(oI p i).value else 0:=by
 unfold kW;rw[LK b a,γd,o8];grind[bZ]
def jB (p:bp) (f:List Int):Lp:=((dx p f).cost,(dT (mF p)).map λr=>((bF f 0).map λi=>((eT p r (oI p i):Int):Rat),((dC p r - cT p ((bF f 1).map (oI p)) r:Int):Rat)))
theorem Fq {p:bp} {f:List Int}:lu (jB p f)=dx p f:=by
 simp_all[lu,jB,dx,dT]
def mH (p:bp) (f:List Int) (j:Nat):List bO:=fL (((bF f 0).take j).map λi=>(((oI p i).value:Int):Rat))
def nT (p:bp) (f:List Int) (r:Int) (j:Nat):List bO:=fL (((bF f 0).take j).map λi=>((eT p r (oI p i):Int):Rat))
def nU (p:bp) (f:List Int) (k:Nat):List (List bO×bO):=(dT k).map λr=>(nT p f r (bF f 0).length,bu ((dC p r - cT p ((bF f 1).map (oI p)) r:Int):Rat))
theorem Ve {p:bp} {f:List Int}:mH p f (bF f 0).length=(iC (jB p f)).1:=by
 unfold mH;rw[ψ];rfl
theorem Vf {p:bp} {f:List Int}:nU p f (mF p)=(iC (jB p f)).2:=by
 simp_all[nU,iC,jB,nT]
theorem LN {p:bp} {f:List Int} {j:Nat} (h:j<=(bF f 0).length):(mH p f j).length=j:=by
 grind[mH,fQ]
theorem Vg {p:bp} {f:List Int} {r:Int} {j:Nat} (h:j<=(bF f 0).length):(nT p f r j).length=j:=by
 grind[nT,fQ]
theorem Vh {p:bp} {f:List Int} {k:Nat}:(nU p f k).length=k:=by
 grind[nU,jA]
theorem Vj {l m:List Rat}:fL (l++m)=fL l++fL m:=γd
theorem afc {p:bp} {f:List Int} {j:Int} (a:0<=j) (h:j<(bF f 0).length):mH p f (j+1).toNat=mH p f j.toNat++[bu (((oI p (bj (bF f 0) j.toNat 0)).value:Int):Rat)]:=by
 unfold mH;rw[jo (d:=0) a h,γd,Vj];rfl
theorem afd {p:bp} {f:List Int} {r j:Int} (a:0<=j) (h:j<(bF f 0).length):nT p f r (j+1).toNat=nT p f r j.toNat++[bu ((eT p r (oI p (bj (bF f 0) j.toNat 0)):Int):Rat)]:=by
 unfold nT;rw[jo (d:=0) a h,γd,Vj];rfl
theorem afe {p:bp} {f:List Int} {r:Int} (a:0<=r):nU p f (r+1).toNat=nU p f r.toNat++[(nT p f r (bF f 0).length,bu ((dC p r - cT p ((bF f 1).map (oI p)) r:Int):Rat))]:=by
 unfold nU;rw[show(r+1).toNat=r.toNat+1 by omega,yD,γd,show((r.toNat:Nat):Int)=r by omega];rfl
def iD (p:bp) (f:List Int):Bool:=fV p ((bF f 1).map (oI p))
def nf (p:bp) (f:List Int):List bO×(List (List bO×bO)×List Int):=if iD p f=true then((iC (jB p f)).1,((iC (jB p f)).2,bF f 0)) else([],([],[]))
theorem aff {p:bp} {f:List Int} (h:iw p f):Bl (jB p f):=by
 have a:=dm h.1;have c:(jB p f).1.length=nF f:=by
  show((bF f 0).map _).length=_;simp_all
 have b:(jB p f).2.length=mF p:=by
  show((dT (mF p)).map _).length=_;grind[jA]
 have g:=@yI f 0;have i:mF p=p.classes.length+12:=rfl;refine⟨?_,?_,?_,?_,?_⟩;·rw[c];have:=h.2.1;have:=a.2.1;grind
 ·rw[b];have:=a.1;omega
 ·grind[Fq,Fe]
 ·grind[Fq,Ls]
 ·rw[c,b,Fq];exact⟨_,λx z d e=>UW h d e⟩
theorem afg {p:bp} {f:List Int}:nS (jB p f)=fe p f:=by
 have b:(jB p f).1.length=nF f:=by
  show((bF f 0).map _).length=_;simp_all
 have a:(jB p f).2.length=mF p:=by
  show((dT (mF p)).map _).length=_;grind[jA]
 grind[nS,fe,Fq]
noncomputable def jR (p:bp) (f:List Int) (k:Nat):List Rat:=(dT f.length).map λi=>if bj f i.toNat 0=1 then 1 else if i∈(bF f 0).take k then bj (gn (fe p f) (nF f) (mF p)) ((bF f 0).idxOf i) 0 else 0
noncomputable def jS (p:bp) (f:List Int):Rat:=((kW p f:Int):Rat)+(fe p f).value
noncomputable def yM (p:bp) (f:List Int):List Rat:=kU (fe p f) (nF f) (mF p) (nF f)
theorem yN {p:bp} {f:List Int} {k:Nat}:(jR p f k).length=f.length:=by
 grind[jR,jA]
theorem Ft {p:bp} {f:List Int} {k i:Nat} (h:i<f.length):bj (jR p f k) i 0=if bj f i 0=1 then 1 else if(i:Int)∈(bF f 0).take k then bj (gn (fe p f) (nF f) (mF p)) ((bF f 0).idxOf (i:Int)) 0 else 0:=by
 unfold jR;rw[Ln (e:=0) (by grind[jA]),Lq h,γk]
theorem afh {l m:List Rat} (a:l.length=m.length) (h:∀i,i<m.length->bj l i 0=bj m i 0):l=m:=List.ext_getElem a λi b c=>by
 grind[cM]
theorem afi {p:bp} {f:List Int} {k:Nat} (b:k<nF f):(jR p f k).set (bj (bF f 0) k 0).toNat (bj (gn (fe p f) (nF f) (mF p)) k 0)=jR p f (k+1):=by
 have g:=mG.1 (cK (d:=0) b);refine afh (by grind[yN]) λi a=>?_;rw[yN] at a;have c:(bF f 0).idxOf (bj (bF f 0) k 0)=k:=qb (wt.imp λh=>by omega) b;have e:(bF f 0).take (k+1)=(bF f 0).take k++[bj (bF f 0) k 0]:=by simp_all[cM]
 rw[sZ (by grind[yN]),Ft a,Ft a,e];grind
theorem afj {p:bp} {f:List Int} {i:Nat} (h:i<f.length):bj (jR p f 0) i 0=if bj f i 0=1 then 1 else 0:=by
 grind[Ft]
def jT (p:bp) (f:List Int):Bool:=decide (kV p f=0)&&iD p f
noncomputable def ko (p:bp) (f:List Int):bO:=if jT p f=true then bu (jS p f) else(false,([],[]))
noncomputable def q9 (p:bp) (f:List Int):List bO:=if jT p f=true then fL (yM p f) else[]
noncomputable def kp (p:bp) (f:List Int):List bO:=if jT p f=true then fL (jR p f (nF f)) else[]
noncomputable def afk (p:bp) (f:List Int):SV:=.agg [.sb (jT p f),.sb (ko p f).1,.row (.i .u32) (ko p f).2.1,.row (.i .u32) (ko p f).2.2,.row sF (q9 p f),.row sF (kp p f)]
theorem LO {t:List Int} {g:Int->Int}:∀{l:List Int},((l.filter λx=>decide (x∈t)).map g).sum=(l.map λx=>if x∈t then g x else 0).sum
 |[]=>rfl
 |x::l=>by
  simp only[List.filter_cons,ι,δh];by_cases h:x∈t;·rw[if_pos (decide_eq_true h),if_pos h,ι,δh,LO]
  ·rw[if_neg (by simpa using h),if_neg h,LO];omega
theorem LP {t:List Int} {g:Int->Int}:∀{l:List Int},nL (λx=>((g x:Int):Rat)*(if x∈t then 1 else 0)) l=(((l.map λx=>if x∈t then g x else 0).sum:Int):Rat)
 |[]=>rfl
 |x::l=>by
  have:=@LP t g l;simp only[nL,this,ι,δh,Rat.intCast_add];congr 1;split<;>simp_all
theorem LQ {p:bp}:∀{l:List Int},bZ (l.map (oI p))=(l.map λi=>(oI p i).value).sum
 |[]=>rfl
 |x::l=>by
  have:=@LQ p l;grind[bZ]
section
variable {p:bp} {f t:List Int}
theorem Vk (k:jQ f=true) (u:f.length=p.offers.length) (e:fu p.offers.length t) (j:∀i∈t,bj f i.toNat 0≠ -1) (r:∀i∈bF f 1,i∈t) (g:Int->Int):
  (t.map g).sum=((bF f 1).map g).sum+((bF f 0).map λx=>if x∈t then g x else 0).sum:=by
 have l:t.Perm (bF f 1++(bF f 0).filter λx=>decide (x∈t)):=by
  refine(δv (E6 e) ?_).2 λx=>?_
  ·rw[List.nodup_append];refine⟨wt.imp λh=>by omega,(wt.sublist δl).imp λh=>by omega,λa s b o m=>?_⟩;grind[mG]
  ·rw[γc,List.mem_filter,decide_eq_true_eq];constructor
   ·intro c;have v:=e.2 x c;have q:=j x c;have n:=Ξ.1 k _ (cK (d:=0) (show x.toNat<f.length by omega));simp only[ζ,decide_eq_true_eq] at n;grind[mG]
   grind
 rw[UD (l.map g),γd,ζT,LO]
theorem wy (l:List Int) (r:Int):cT p (l.map (oI p)) r=(l.map λi=>eT p r (oI p i)).sum:=by
 unfold cT;rw[δn];rfl
theorem weak (h:iw p f) (s:jQ f=true) (z:fu p.offers.length t) (a:fV p (t.map (oI p))=true) (u:∀i∈t,bj f i.toNat 0≠ -1) (A:∀i∈bF f 1,i∈t):((bZ (t.map (oI p)):Int):Rat)<=jS p f:=by
 obtain⟨l,E,r⟩:=rY h;have d:∀g:Int->Int,cy (nF f) (λj=>((g (bj (bF f 0) j 0):Int):Rat)*(if bj (bF f 0) j 0∈t then(1:Rat) else 0))=(((t.map g).sum - ((bF f 1).map g).sum:Int):Rat):=λg=>by
  have e:=@vZ (λx=>((g x:Int):Rat)*(if x∈t then(1:Rat) else 0)) (bF f 0);rw[LP] at e;rw[Vk s h.2.1 z u A g];grind
 have q:=asg_holds (n:=nF f) (m:=mF p) (t:=dx p f) q8 Be (y:=λj=>if bj (bF f 0) j 0∈t then(1:Rat) else 0);have B:(dx p f).value+cy (nF f) (λj=>(dx p f).cs j*(if bj (bF f 0) j 0∈t then(1:Rat) else 0))=((bZ (t.map (oI p)) - kW p f:Int):Rat):=by
  grind[dx,dY,E9,kW,LQ]
 rw[B] at q;have o:∀v∈(dx p f).basic++(dx p f).free,0<=jN (nF f) (dx p f) (λj=>if bj (bF f 0) j 0∈t then(1:Rat) else 0) v:=λv b=>by
  rcases γc.1 b with b|b
  ·obtain⟨i,k,rfl⟩:=yt q8 b;rw[pq q8 Be k,Bd k,dY (g:=λj=>((eT p i (oI p (bj (bF f 0) j 0)):Int):Rat)*(if bj (bF f 0) j 0∈t then(1:Rat) else 0)) λj c=>by rw[Bc k c],d λx=>eT p i (oI p x),<-wy,<-wy];have C:=o7.1 a i (by grind[dn]);have w:0<=(dC p i - cT p ((bF f 1).map (oI p)) i) - (cT p (t.map (oI p)) i - cT p ((bF f 1).map (oI p)) i):=by omega
   have D:=Ff w;simp_all
  grind[yr,q8,ov,Be]
 have:=l.best r q λj c=>o _ (l.perm.mem_iff.1 (List.mem_append_right _ (yq l.wf c)));grind[jS]
end
theorem Vl {t:Tb} {n j:Nat} (b:j<n):∀{k:Nat},(∀i,i<k->0<=t.bv i)->(∃i,i<k/\t.bv i=j/\bj (gn t n k) j 0=t.bd i)\/((∀i,i<k->t.bv i≠j)/\bj (gn t n k) j 0=0)
 |0,_=> .inr ⟨λi a=>by omega,by
   grind[gn,cM]⟩
 |k+1,h=>by
  have e:=h k (by omega);have d:=@Vl t n j b k λi a=>h i (by omega);unfold gn;by_cases c:t.bv k<n
  ·rw[if_pos c,sZ (by grind[Fj])];grind
  grind
section
variable {p:bp} {f:List Int}
noncomputable def qg (p:bp) (f:List Int):Int->Rat:=jN (nF f) (fe p f) λ_=>0
theorem optX_holds (h:iw p f):(dx p f).holds (nF f) (mF p) (qg p f) (fe p f).value:=by
 obtain⟨a,_,_⟩:=rY h;have b:=asg_holds a.wf a.gY (y:=λ_=>0);rw[dY (g:=λ_=>0) λj _=>by grind,kO] at b;have c:=(a.nM _ _).1 b;rwa [show(fe p f).value+0=(fe p f).value by grind] at c
theorem LR (h:iw p f) {i:Nat} (b:i<mF p):qg p f ((fe p f).bv i)=(fe p f).bd i:=by
 obtain⟨a,_,_⟩:=rY h;unfold qg;rw[pq a.wf a.gY b,dY (g:=λ_=>0) λj _=>by grind,kO];grind
theorem LS (h:iw p f) {j:Nat} (b:j<nF f):qg p f ((fe p f).fv j)=0:=by
 obtain⟨a,_,_⟩:=rY h;unfold qg;rw[ov a.wf a.gY b]
theorem Fv (h:iw p f) {v:Int} (a:v∈(dx p f).basic++(dx p f).free):(∃i,i<mF p/\(fe p f).bv i=v)\/∃j,j<nF f/\(fe p f).fv j=v:=by
 obtain⟨b,_,_⟩:=rY h;rw[<-b.perm.mem_iff,γc] at a;rcases a with a|a;·exact .inl (yt b.wf a)
 ·exact .inr (yr b.wf a)
theorem LU (h:iw p f) {v:Int} (c:v∈(dx p f).basic++(dx p f).free):0<=qg p f v:=by
 obtain⟨_,b,_⟩:=rY h;rcases Fv h c with⟨i,a,rfl⟩|⟨j,d,rfl⟩
 ·rw[LR h a];exact b i a
 grind[LS]
theorem LV {j:Nat} (a:j<nF f):(j:Int)∈(dx p f).basic++(dx p f).free:=by
 have:=yq (n:=nF f) (m:=mF p) (t:=dx p f) q8 a;grind[Fa]
theorem afl (h:iw p f) {i:Nat} (b:i<mF p):0<=(fe p f).bv i:=by
 obtain⟨a,_,_⟩:=rY h;have c:=a.perm.mem_iff.1 (εm _ (AO a.wf b));grind[yt,q8,aey,yr,Fa]
theorem afm (h:iw p f) {j:Nat} (c:j<nF f):bj (gn (fe p f) (nF f) (mF p)) j 0=qg p f j:=by
 rcases @Vl (fe p f) (nF f) j c (mF p) λi b=>afl h b with⟨i,d,a,g⟩|⟨d,a⟩;·grind[LR]
 ·rw[a];rcases Fv h (LV c) with⟨i,b,e⟩|⟨k,l,e⟩<;>grind[Fv,LV,LS]
theorem afn (h:iw p f) {j:Nat} (a:j<nF f):qg p f j<=1:=by
 have:=UU h (optX_holds h) (λv b=>LU h b) a;grind[Fa]
theorem afo (h:iw p f):(∀i,i<mF p->Sz 1000 ((fe p f).bd i))/\(∀j,j<nF f->Sz 1000 ((fe p f).cs j))/\Sz 1000 (fe p f).value:=have a:=(Fe h).UJ (rY h).1;⟨a.1,a.2.1,a.2.2.1⟩
theorem Vm (q:Rat) (h:q=0\/q=1):Sz 1000 q:=by
 have a:Sz 1 q:=by rcases h with rfl|rfl<;>exact⟨by decide,by decide⟩
 exact a.mono (by omega)
theorem afp (h:iw p f) {v:Int} (a:v∈(dx p f).basic++(dx p f).free):Sz 1000 (qg p f v):=by
 grind[Fv,LR,afo,LS,Vm]
noncomputable def dy (p:bp) (f:List Int):List Rat:=jR p f (nF f)
theorem r7:(dy p f).length=f.length:=yN
theorem Bm (h:iw p f) (c:jQ f=true) {i:Nat} (b:i<f.length):(bj f i 0=1/\bj (dy p f) i 0=1)\/(bj f i 0= -1/\bj (dy p f) i 0=0)\/(bj f i 0=0/\(i:Int)∈bF f 0/\(bF f 0).idxOf (i:Int)<nF f/\bj (dy p f) i 0=qg p f ((bF f 0).idxOf (i:Int))):=by
 have g:=Ξ.1 c _ (cK (d:=0) b);simp only[ζ,decide_eq_true_eq] at g;unfold dy;rw[Ft b,ψ];rcases(show bj f i 0=1\/bj f i 0= -1\/bj f i 0=0 by omega) with a|a|a;·simp_all
 ·simp_all[mG]
 ·have e:(i:Int)∈bF f 0:=mG.2 ⟨by omega,by simp_all⟩;have j:(bF f 0).idxOf (i:Int)<nF f:=List.idxOf_lt_length_of_mem e;simp_all[afm]
theorem Fz (h:iw p f) (a:jQ f=true) {i:Nat} (b:i<f.length):0<=bj (dy p f) i 0/\bj (dy p f) i 0<=1/\Sz 1000 (bj (dy p f) i 0):=by
 rcases Bm h a b with⟨_,e⟩|⟨_,e⟩|⟨_,_,c,e⟩;all_goals grind[Vm,LU,LV,afn,afp]
theorem tf (h:iw p f) (c:jQ f=true) {i:Nat} (b:i<f.length) (d:0<bj (dy p f) i 0) (a:bj (dy p f) i 0<1):bj f i 0=0:=by
 grind[Bm]
def eA (x:List Rat):List Int:=(dT x.length).filter λi=>decide (0<bj x i.toNat 0)
theorem yO {x:List Rat} {i:Int}:i∈eA x↔(0<=i/\i<x.length)/\0<bj x i.toNat 0:=by
 simp_all[eA,rV]
theorem Vn {x:List Rat}:fu x.length (eA x):=⟨A4.sublist δl,λi a=>(yO.1 a).1⟩
def ng (x:List Rat):Bool:=x.all λq=>decide (q.den=1)
theorem afq {q:Rat} (h:q.den=1):q=(q.num:Rat):=by
 grind[Rat.mkRat_self,Rat.mkRat_one]
theorem afr {q:Rat} (c:q.den=1) (b:0<=q) (a:q<=1):q=0\/q=1:=by
 rw[afq c] at b a ⊢;have f:0<=q.num:=by exact_mod_cast b
 have d:q.num<=1:=by exact_mod_cast a
 rcases(show q.num=0\/q.num=1 by omega) with e|e<;>simp_all
theorem afs {t:List Int} (a:jQ f=true) (c:f.length=p.offers.length) (h:fu p.offers.length t) (b:∀i∈t,bj f i.toNat 0≠ -1) (d:∀i∈bF f 1,i∈t) (g:Int->Int):cy (nF f) (λj=>((g (bj (bF f 0) j 0):Int):Rat)*(if bj (bF f 0) j 0∈t then(1:Rat) else 0))=(((t.map g).sum - ((bF f 1).map g).sum:Int):Rat):=by
 have e:=@vZ (λx=>((g x:Int):Rat)*(if x∈t then(1:Rat) else 0)) (bF f 0);rw[LP] at e;rw[Vk a c h b d g];grind
theorem Vo (h:iw p f) (t:jQ f=true) (F:ng (dy p f)=true):fV p ((eA (dy p f)).map (oI p))=true/\((bZ ((eA (dy p f)).map (oI p)):Int):Rat)=jS p f:=by
 have n:=h.2.1;have z:=@r7 p f;have q:∀i:Nat,i<f.length->bj (dy p f) i 0=0\/bj (dy p f) i 0=1:=λi o=>by
  obtain⟨O,J,_⟩:=Fz h t o;have:=Ξ.1 F _ (cK (d:=0) (show i<(dy p f).length by omega));simp_all[afr]
 have B:fu p.offers.length (eA (dy p f)):=by
  grind[Vn]
 have A:∀i∈eA (dy p f),bj f i.toNat 0≠ -1:=λi x K=>by
  grind[yO,Bm]
 have D:∀i∈bF f 1,i∈eA (dy p f):=λi x=>by
  grind[mG,yO,Bm]
 have G:∀j,j<nF f->(if bj (bF f 0) j 0∈eA (dy p f) then(1:Rat) else 0)=qg p f ((dx p f).fv j):=λj c=>by
  obtain⟨C,L⟩:=yJ h c;have E:(bF f 0).idxOf (bj (bF f 0) j 0)=j:=qb (wt.imp λh=>by omega) c;have M:((((bj (bF f 0) j 0).toNat:Nat)):Int)=bj (bF f 0) j 0:=by omega
  have e:bj (dy p f) (bj (bF f 0) j 0).toNat 0=qg p f j:=by
   grind[Bm]
  rw[Fa c,<-e];rcases q (bj (bF f 0) j 0).toNat (by omega) with l|l;·simp_all[yO]
  ·rw[l,if_pos];grind[yO]
 obtain⟨v,w⟩:=optX_holds h;have k:=afs t n B A D;refine⟨o7.2 λy b=>?_,?_⟩
 ·obtain⟨r,m⟩:∃r:Int,r=(y:Int):=⟨_,rfl⟩;rw[<-m] at b ⊢;have I:0<=r:=by omega
  have a:r.toNat<mF p:=by unfold dn at b;grind
  have s:=v r.toNat a;rw[dY (g:=λj=>((eT p r (oI p (bj (bF f 0) j 0)):Int):Rat)*(if bj (bF f 0) j 0∈eA (dy p f) then(1:Rat) else 0)) λj c=>by grind[Bc],k λi=>eT p r (oI p i),Bd a,show((r.toNat:Nat):Int)=r by omega] at s;have N:=LU h (εm _ (AO q8 a));rw[<-wy,<-wy] at s;have l:((cT p ((eA (dy p f)).map (oI p)) r - cT p ((bF f 1).map (oI p)) r:Int):Rat)<=((dC p r - cT p ((bF f 1).map (oI p)) r:Int):Rat):=by grind
  have H:cT p ((eA (dy p f)).map (oI p)) r - cT p ((bF f 1).map (oI p)) r<=dC p r - cT p ((bF f 1).map (oI p)) r:=by exact_mod_cast l
  omega
 ·have u:(dx p f).value=0:=rfl;rw[u,dY (g:=λj=>(((oI p (bj (bF f 0) j 0)).value:Int):Rat)*(if bj (bF f 0) j 0∈eA (dy p f) then(1:Rat) else 0)) λj c=>by grind[E9],k λi=>(oI p i).value] at w;grind[jS,kW,LQ]
end
abbrev ra:=Int×(Int×(Int×(Int×List bO)))
@[reducible] def ek:bk:=.pair (.i .i64) (.pair (.i .i64) (.pair (.i .i64) (.pair (.i .i64) (.bJ sF))))
def zN:ra:=(0,(0,(0,(0,[]))))
def FA:ra:=(3,(0,(0,(0,[]))))
noncomputable def LW (p:bp) (f:List Int):ra:=(1,(0,(0,(0,fL (yM p f)))))
def kq (k o:Int):ra:=(2,(k,(o,(o+1,[]))))
structure cO where
 ch:List Int
 val:Int
 found:Bool
 prf:List ra
 err:Int
def dU (en:Int->Bool) (s:cO) (a:Alloc):cO:=if s.val<a.value then⟨a.chosen,a.value,s.found||en a.value,s.prf,s.err⟩ else s
def nh (q:Rat):Rat:=if q<0 then -q else q
def je (x:List Rat):Nat->Option (Int×Rat)
 |0=>none
 |k+1=>if 0<bj x k 0/\bj x k 0<1 then(match je x k with
   |none=>some ((k:Int),nh (bj x k 0 - 1 / 2))
   |some (i,l)=>if nh (bj x k 0 - 1 / 2)<l then some ((k:Int),nh (bj x k 0 - 1 / 2)) else some (i,l)) else je x k
def jC (x:List Rat):Option Int:=(je x x.length).map (·.1)
theorem LX {x:List Rat}:∀{k:Nat} {i:Int} {l:Rat},je x k=some (i,l)->(0<=i/\i<k)/\(0<bj x i.toNat 0/\bj x i.toNat 0<1)/\l=nh (bj x i.toNat 0 - 1 / 2)
 |0,i,l,h=>by cases h;|k+1,i,l,h=>by
  unfold je at h;have b:some ((k:Int),nh (bj x k 0 - 1 / 2))=some (i,l)->(0<bj x k 0/\bj x k 0<1)->(0<=i/\i<((k+1:Nat):Int))/\(0<bj x i.toNat 0/\bj x i.toNat 0<1)/\l=nh (bj x i.toNat 0 - 1 / 2):=λh f=>by
   grind
  have a:je x k=some (i,l)->(0<=i/\i<((k+1:Nat):Int))/\(0<bj x i.toNat 0/\bj x i.toNat 0<1)/\l=nh (bj x i.toNat 0 - 1 / 2):=λh=>by
   obtain⟨c,d,e⟩:=LX h;grind
  grind
theorem Vp {x:List Rat}:∀{k:Nat},je x k=none->∀i,i<k->¬(0<bj x i 0/\bj x i 0<1)
 |0,_,i,a=>by omega;|k+1,h,i,a=>by
  unfold je at h;split at h;·grind
  ·rename_i b;by_cases e:i=k;·simp_all
   ·exact Vp h i (by omega)
theorem tg {x:List Rat} {k:Int} (h:jC x=some k):(0<=k/\k<x.length)/\0<bj x k.toNat 0/\bj x k.toNat 0<1:=by
 unfold jC at h;obtain⟨⟨i,l⟩,b,a⟩:=Option.map_eq_some_iff.1 h;simp only at a;subst a;obtain⟨c,d,_⟩:=LX b;simp_all
theorem aft {x:List Rat} (h:jC x=none):∀i,i<x.length->¬(0<bj x i 0/\bj x i 0<1):=Vp (Option.map_eq_none_iff.1 h)
noncomputable def pA (p:bp) (f:List Int):Alloc:=⟨eA (dy p f),bZ ((eA (dy p f)).map (oI p))⟩
noncomputable def dj (p:bp) (en:Int->Bool) (s:cO) (f:List Int):cO:=if((s.val+1:Int):Rat)<=jS p f/\ng (dy p f)=true then dU en s (pA p f) else s
def gy (s:cO) (a k:Int):cO:={s with prf:=(s.prf++[zN,zN]).set a.toNat (kq k s.prf.length)}
noncomputable def fy (p:bp) (en:Int->Bool) (most:Int) (b:cO->Int->List Int->cO) (s:cO) (a:Int) (f:List Int):cO:=
 if s.err≠0\/s.found=true then s
 else if iD p f=false then {s with prf:=s.prf.set a.toNat FA}
 else if jS p f<(((dj p en s f).val+1:Int):Rat) then {dj p en s f with prf:=(dj p en s f).prf.set a.toNat (LW p f)}
 else match jC (dy p f) with
  |none=>{dj p en s f with err:=12}
  |some k=>if most<(dj p en s f).prf.length+2 then {dj p en s f with err:=12}
   else b (b (gy (dj p en s f) a k) ((dj p en s f).prf.length+1) (f.set k.toNat 1)) (dj p en s f).prf.length (f.set k.toNat (-1))
noncomputable def dD (p:bp) (en:Int->Bool) (most:Int):Nat->cO->Int->List Int->cO
 |0=>fy p en most λs _ _=>s
 |n+1=>fy p en most (dD p en most n)
structure eX (p:bp) (f:List Int):Prop where
 c:bC p=0
 l:f.length=p.offers.length
 r:jQ f=true
theorem eX.ok {p:bp} {f:List Int} (h:eX p f) (a:iD p f=true):iw p f:=⟨h.c,h.l,a⟩
theorem eX.e {p:bp} {f:List Int} (h:eX p f):kV p f=0:=by
 unfold kV;rw[if_neg (by simp[h.c]),if_neg (by simp[h.l]),if_pos h.r]
theorem eX.jT {p:bp} {f:List Int} (h:eX p f):jT p f=iD p f:=by
 unfold Go.Vi.jT;rw[h.e];simp
theorem Vq {f:List Int} {k:Nat} {d:Int} (h:jQ f=true) (a: -1<=d/\d<=1):jQ (f.set k d)=true:=by
 grind[jQ]
theorem eX.set {p:bp} {f:List Int} (h:eX p f) {k:Nat} {d:Int} (a: -1<=d/\d<=1):eX p (f.set k d):=⟨h.c,by rw[γb];exact h.l,Vq h.r a⟩
theorem mI {f:List Int} {k d:Int} (i:0<=k/\k<f.length) (l:bj f k.toNat 0=0) (g:d≠0):nF f=nF (f.set k.toNat d)+1:=by
 have c:(bF f 0).Perm (k::bF (f.set k.toNat d) 0):=by
  refine(δv (wt.imp λh=>by omega) ?_).2 λx=>?_
  ·rw[List.nodup_cons];refine⟨λj=>?_,wt.imp λh=>by omega⟩;simp_all[mG,sZ]
  ·rw[List.mem_cons,mG,mG,γb];constructor
   ·rintro⟨a,b⟩;by_cases e:x=k;·exact .inl e
    ·exact .inr ⟨a,by rw[sZ (by omega),if_neg (by omega)];exact b⟩
   grind[sZ]
 have:=c.length_eq;omega
theorem FB {en:Int->Bool} {s:cO} {a:Alloc}:(dU en s a).prf=s.prf/\(dU en s a).err=s.err/\s.val<=(dU en s a).val/\((dU en s a).val=s.val\/(dU en s a).val=a.value)/\((dU en s a).ch=s.ch\/(dU en s a).ch=a.chosen):=by
 grind[dU]
theorem FC {p:bp} {en:Int->Bool} {s:cO} {f:List Int}:(dj p en s f).prf=s.prf/\(dj p en s f).err=s.err/\s.val<=(dj p en s f).val/\((dj p en s f).val=s.val\/(dj p en s f).val=(pA p f).value)/\((dj p en s f).ch=s.ch\/(dj p en s f).ch=(pA p f).chosen):=by
 grind[dj,FB]
theorem afu {x:List Rat}:(eA x).length<=x.length:=by
 have:=List.length_filter_le (λi:Int=>decide (0<bj x i.toNat 0)) (dT x.length);rw[jA] at this;exact this
theorem afv {p:bp} {f:List Int} (b:f.length=p.offers.length):∀x∈(eA (dy p f)).map (oI p),x∈p.offers:=λx a=>by
 obtain⟨i,c,rfl⟩:=γg.1 a;have:=(yO.1 c).1;rw[r7,b] at this;exact cK (by omega)
theorem Vr {p:bp} {f:List Int} (h:eX p f):0<=(pA p f).value/\(pA p f).value<=160000000/\(pA p f).chosen.length<=160:=by
 have a:=dm h.c;have b:=@sO p a ((eA (dy p f)).map (oI p)) (afv h.l);have d:=@afu (dy p f);rw[r7,h.l] at d;have e:=a.2.1;rw[γA] at b;refine⟨b.1,?_,?_⟩
 ·show bZ _<=_;omega
 ·show(eA (dy p f)).length<=160;omega
theorem Vs {p:bp} (a:bC p=0) {c:List Int} (h:fu p.offers.length c):dc p c=0↔fV p (c.map (oI p))=true:=by
 simp_all[E7,jq,eE,dc]
theorem yP {p:bp} (a:bC p=0) {c:List Int} (h:fu p.offers.length c):dH p c=bZ (c.map (oI p)):=by
 simp_all[eE,E7,dH]
theorem sa {p:bp} {en:Int->Bool} {most:Int}:∀{n:Nat} {s:cO} {a:Int} {f:List Int},eX p f->s.prf.length<=(dD p en most n s a f).prf.length/\((dD p en most n s a f).prf.length<=most\/(dD p en most n s a f).prf.length=s.prf.length)/\s.val<=(dD p en most n s a f).val/\((dD p en most n s a f).val=s.val\/(dD p en most n s a f).val<=160000000)/\((dD p en most n s a f).ch=s.ch\/(dD p en most n s a f).ch.length<=160)/\((dD p en most n s a f).err=s.err\/(dD p en most n s a f).err=12):=by
 have d:∀{b:cO->Int->List Int->cO},(∀{s:cO} {a:Int} {f:List Int},eX p f->s.prf.length<=(b s a f).prf.length/\((b s a f).prf.length<=most\/(b s a f).prf.length=s.prf.length)/\s.val<=(b s a f).val/\((b s a f).val=s.val\/(b s a f).val<=160000000)/\((b s a f).ch=s.ch\/(b s a f).ch.length<=160)/\((b s a f).err=s.err\/(b s a f).err=12))->
   ∀{s:cO} {a:Int} {f:List Int},eX p f->s.prf.length<=(fy p en most b s a f).prf.length/\((fy p en most b s a f).prf.length<=most\/(fy p en most b s a f).prf.length=s.prf.length)/\s.val<=(fy p en most b s a f).val/\((fy p en most b s a f).val=s.val\/(fy p en most b s a f).val<=160000000)/\((fy p en most b s a f).ch=s.ch\/(fy p en most b s a f).ch.length<=160)/\((fy p en most b s a f).err=s.err\/(fy p en most b s a f).err=12):=by
  intro b c s a f h;obtain⟨v,j,E,l,r⟩:=@FC p en s f;obtain⟨H,A,L⟩:=Vr h;have w:(dj p en s f).ch=s.ch\/(dj p en s f).ch.length<=160:=r.imp id λh=>by simp_all
  have x:(dj p en s f).val=s.val\/(dj p en s f).val<=160000000:=l.imp id λh=>by omega
  unfold fy;split;·simp_all
  split;·simp_all
  split;·simp_all
  split;·simp_all
  rename_i k J;split;·simp_all
  rename_i o;have F:(gy (dj p en s f) a k).prf.length=s.prf.length+2:=by
   simp_all[gy]
  obtain⟨D,K,u,z,e,t⟩:=@c (gy (dj p en s f) a k) ((dj p en s f).prf.length+1) (f.set k.toNat 1) (h.set (by omega));obtain⟨B,C,G,I,g,M⟩:=@c (b (gy (dj p en s f) a k) ((dj p en s f).prf.length+1) (f.set k.toNat 1)) (dj p en s f).prf.length (f.set k.toNat (-1)) (h.set (by omega));have i:(gy (dj p en s f) a k).val=(dj p en s f).val:=rfl;have m:(gy (dj p en s f) a k).ch=(dj p en s f).ch:=rfl;have q:(gy (dj p en s f) a k).err=(dj p en s f).err:=rfl;rw[v] at o;rw[i] at u z;rw[m] at e;rw[q,j] at t;refine⟨by omega,.inl (by omega),by omega,by omega,?_,?_⟩
  ·rcases g with g|g
   ·rw[g];rcases e with e|e<;>simp_all
   omega
  omega
 intro n;induction n with
 |zero=>exact d λ{s a f} _=>⟨Nat.le_refl _,.inr rfl,Int.le_refl _,.inl rfl,.inl rfl,.inl rfl⟩;|succ n y=>exact d λh=>y h
inductive mJ (p:bp) (v:Int) (t:List ra):Nat->List Int->Nat->Nat->Prop
 |bnd {a:Nat} {f:List Int} {lo:Nat}:t[a]?=some (LW p f)->iD p f=true->jS p f<((v+1:Int):Rat)->mJ p v t a f lo lo
 |con {a:Nat} {f:List Int} {lo:Nat}:t[a]?=some FA->iD p f=false->mJ p v t a f lo lo
 |Bn {a:Nat} {f:List Int} {lo mid hi:Nat} {k:Int}:t[a]?=some (kq k lo)->a<lo->(0<=k/\k<f.length)->bj f k.toNat 0=0->mJ p v t (lo+1) (f.set k.toNat 1) (lo+2) mid->mJ p v t lo (f.set k.toNat (-1)) mid hi->mJ p v t a f lo hi
section
variable {p:bp} {v v':Int} {t t':List ra} {a lo hi:Nat} {f:List Int}
theorem mJ.le (h:mJ p v t a f lo hi):lo<=hi:=by
 induction h with
 |bnd _ _ _=>omega;|con _ _=>omega;|Bn _ _ _ _ _ _ b c=>omega
theorem mJ.mono (h:mJ p v t a f lo hi) (q:v<=v') (e:∀i,i=a\/(lo<=i/\i<hi)->t'[i]?=t[i]?):mJ p v' t' a f lo hi:=by
 induction h with
 |bnd c b d=>
  refine .bnd (by simp_all) b ?_;have:((v+1:Int):Rat)<=((v'+1:Int):Rat):=by exact_mod_cast (show v+1<=v'+1 by omega)
  grind;|con c b=>exact .con (by simp_all) b;|Bn c b d l k g m j=>
  have o:=k.le;have n:=g.le;exact .Bn (by simp_all) b d l (m λi hi=>e i (by omega)) (j λi hi=>e i (by omega))
def FD (f:List Int) (l:List Int):Prop:=(∀i∈l,bj f i.toNat 0≠ -1)/\∀i∈bF f 1,i∈l
theorem Vt {l:List Int} {k d:Int} (g:0<=k/\k<f.length) (m:bj f k.toNat 0=0) (e:∀i∈l,0<=i) (h:FD f l) (j:(d=1/\k∈l)\/(d= -1/\k∉l)):FD (f.set k.toNat d) l:=by
 obtain⟨b,c⟩:=h;refine⟨λi a=>?_,λi a=>?_⟩<;>grind[sZ,mG]
theorem afw {l m:List Int} (e:bC p=0) (f:∀i∈l,0<=i/\i<p.offers.length) (q:m.Nodup) (j:∀i∈m,i∈l) (o:l.Nodup) (h:fV p (l.map (oI p))=true):fV p (m.map (oI p))=true:=by
 refine o7.2 λr b=>?_;have d:=o7.1 h r b;have a:l.Perm (m++l.filter λi=>decide (i∉m)):=by
  grind
 have g:cT p (l.map (oI p)) r=cT p (m.map (oI p)) r+cT p ((l.filter λi=>decide (i∉m)).map (oI p)) r:=by
  rw[wy,wy,wy,UD (a.map _),γd,ζT]
 have n:=@ug p r ((l.filter λi=>decide (i∉m)).map (oI p)) λx c=>by
  obtain⟨i,k,rfl⟩:=γg.1 c;simp_all[py]
 omega
theorem mJ.sound (h:mJ p v t a f lo hi) (e:eX p f) {l:List Int} (d:fu p.offers.length l) (b:fV p (l.map (oI p))=true) (g:FD f l):bZ (l.map (oI p))<=v:=by
 induction h with
 |bnd o n m=>
  have j:=weak (e.ok n) e.r d b g.1 g.2;have s:((bZ (l.map (oI p)):Int):Rat)<((v+1:Int):Rat):=by grind
  have u:bZ (l.map (oI p))<v+1:=by exact_mod_cast s
  omega;|con o n=>
  exfalso;have:=afw e.c d.2 (wt.imp λh=>by omega) g.2 (E6 d) b;grind[iD];|@Bn a f lo y hi k o n m j s u x w=>
  by_cases q:k∈l;·exact x (e.set (by omega)) (Vt m j (λi hi=>(d.2 i hi).1) g (.inl ⟨rfl,q⟩))
  ·exact w (e.set (by omega)) (Vt m j (λi hi=>(d.2 i hi).1) g (.inr ⟨rfl,q⟩))
end
theorem Vu {p:bp} {en:Int->Bool} {most:Int}:∀{n:Nat} {s:cO} {a:Int} {f:List Int},eX p f->nF f<=n->(0<=a/\a<s.prf.length)->(dD p en most n s a f).err=0->(dD p en most n s a f).found=false->
  mJ p (dD p en most n s a f).val (dD p en most n s a f).prf a.toNat f s.prf.length (dD p en most n s a f).prf.length/\(∀i:Nat,i<s.prf.length->i≠a.toNat->(dD p en most n s a f).prf[i]?=s.prf[i]?)/\s.err=0/\s.found=false:=by
 have y:∀{b:cO->Int->List Int->cO} {s:cO} {a:Int} {f:List Int},eX p f->(0<=a/\a<s.prf.length)->
   (∀{s:cO} {a:Int} {g:List Int},eX p g->nF f=nF g+1->(0<=a/\a<s.prf.length)->s.prf.length<=(b s a g).prf.length/\s.val<=(b s a g).val/\((b s a g).err=0->(b s a g).found=false->mJ p (b s a g).val (b s a g).prf a.toNat g s.prf.length (b s a g).prf.length/\(∀i:Nat,i<s.prf.length->i≠a.toNat->(b s a g).prf[i]?=s.prf[i]?)/\s.err=0/\s.found=false))->
   (fy p en most b s a f).err=0->(fy p en most b s a f).found=false->mJ p (fy p en most b s a f).val (fy p en most b s a f).prf a.toNat f s.prf.length (fy p en most b s a f).prf.length/\(∀i:Nat,i<s.prf.length->i≠a.toNat->(fy p en most b s a f).prf[i]?=s.prf[i]?)/\s.err=0/\s.found=false:=by
  intro b s a f t C q e c;obtain⟨D,e2,e3,e4,e5⟩:=@FC p en s f;have B:a.toNat<s.prf.length:=by omega
  unfold fy at e c ⊢;split at e;·simp_all
  rename_i x;have G:s.err=0/\s.found=false:=by simpa using x
  rw[if_neg x] at c ⊢;split at e
  ·rename_i m;rw[if_pos m];refine⟨?_,λi u j=>?_,G⟩
   ·rw[γb];exact .con (by simp_all) m
   ·show(s.prf.set a.toNat FA)[i]?=_;rw[δJ (λh=>j h.symm)]
  rename_i m;rw[if_neg m] at c ⊢;have O:iD p f=true:=by simpa using m
  split at e
  ·rename_i w;rw[if_pos w];refine⟨?_,λi u j=>?_,G⟩
   ·rw[γb,D];refine .bnd ?_ O w;simp_all
   ·show((dj p en s f).prf.set a.toNat _)[i]?=_;rw[δJ (λh=>j h.symm),D]
  rename_i w;rw[if_neg w] at c ⊢;cases A:jC (dy p f) with
  |none=>simp_all;|some k=>
  rw[A] at e c;simp only at e c ⊢;split at e;·simp at e
  rename_i Q;rw[if_neg Q] at c ⊢;obtain⟨l,K,L⟩:=tg A;rw[r7] at l;have v:bj f k.toNat 0=0:=tf (t.ok O) t.r (by omega) K L;have n1:=mI l v (d:=1) (by omega);have Y:=mI l v (d:= -1) (by omega);have T:eX p (f.set k.toNat 1):=t.set (by omega);have f2:eX p (f.set k.toNat (-1)):=t.set (by omega);have S:(gy (dj p en s f) a k).prf.length=s.prf.length+2:=by
   simp_all[gy]
  rw[D] at e c ⊢;obtain⟨l1,v1,t1⟩:=@q (gy (dj p en s f) a k) ((s.prf.length:Int)+1) (f.set k.toNat 1) T n1 (by omega);generalize R:b (gy (dj p en s f) a k) ((s.prf.length:Int)+1) (f.set k.toNat 1)=I at*;obtain⟨l2,V,Z⟩:=@q I (s.prf.length:Int) (f.set k.toNat (-1)) f2 Y (by omega);generalize X:b I (s.prf.length:Int) (f.set k.toNat (-1))=P at*;obtain⟨N,F,U,w2⟩:=Z e c;obtain⟨J,H,w3,w4⟩:=t1 U w2;have M:∀i:Nat,i<s.prf.length+2->(gy (dj p en s f) a k).prf[i]?=if i=a.toNat then some (kq k s.prf.length) else(s.prf++[zN,zN])[i]?:=λi u=>by
   unfold gy;simp only[D];rw[List.getElem?_set];by_cases h:a.toNat=i;·simp_all
   ·rw[if_neg h,if_neg (λm=>h m.symm)]
  have E:((s.prf.length:Int)).toNat=s.prf.length:=by omega
  have z:((s.prf.length:Int)+1).toNat=s.prf.length+1:=by omega
  rw[E] at N F;rw[z] at J H;rw[S] at J H;have o:∀i:Nat,i<s.prf.length->P.prf[i]?=(gy (dj p en s f) a k).prf[i]?:=λi u=>by rw[F i (by omega) (by omega),H i (by omega) (by omega)]
  refine⟨.Bn (k:=k) (mid:=I.prf.length) ?_ B l v ?_ N,λi u j=>?_,G⟩;·rw[o _ B,M _ (by omega),if_pos rfl]
  ·exact J.mono V λi u=>F i (by omega) (by omega)
  ·rw[o i u,M i (by omega),if_neg j,List.getElem?_append_left u]
 intro n;induction n with
 |zero=>
  intro s a f t W C e c;exact y t C (λ{s a g} _ h _=>by omega) e c;|succ n ih=>
  intro s a f t W C e c;refine y t C (λ{s a g} x m w=>?_) e c;have A:=@sa p en most n s a g x;exact⟨A.1,A.2.2.1,λe c=>ih x (by omega) w e c⟩
theorem Vv {p:bp} {en:Int->Bool} {most:Int} {G:List Int->Int->Bool->Prop} (u:∀c w b q w',G c w b->dc p q=0->dH p q=w'->w<w'->G q w' (b||en w')):
  ∀{n:Nat} {s:cO} {a:Int} {f:List Int},eX p f->G s.ch s.val s.found->G (dD p en most n s a f).ch (dD p en most n s a f).val (dD p en most n s a f).found:=by
 have k:∀{d:cO->Int->List Int->cO},(∀{s:cO} {a:Int} {f:List Int},eX p f->G s.ch s.val s.found->G (d s a f).ch (d s a f).val (d s a f).found)->
   ∀{s:cO} {a:Int} {f:List Int},eX p f->G s.ch s.val s.found->G (fy p en most d s a f).ch (fy p en most d s a f).val (fy p en most d s a f).found:=by
  intro d e s a f i j;unfold fy;split;·exact j
  split;·exact j
  rename_i t;have y:iD p f=true:=by simp_all
  have m:G (dj p en s f).ch (dj p en s f).val (dj p en s f).found:=by
   unfold dj;split
   ·rename_i A;unfold dU;split
    ·rename_i o;obtain⟨z,B⟩:=Vo (i.ok y) i.r A.2;have g:fu p.offers.length (eA (dy p f)):=by
      have:=@Vn (dy p f);rw[r7,i.l] at this;exact this
     refine u _ _ _ _ _ j ?_ ?_ o;·exact(Vs i.c g).2 z
     ·exact yP i.c g
    ·exact j
   ·exact j
  split;·exact m
  split;·exact m
  split;·exact m
  ·exact e (i.set (by omega)) (e (i.set (by omega)) m)
 intro n;induction n with
 |zero=>exact k λ_ h=>h;|succ n x=>exact k λv t=>x v t
theorem two_pow_pos (n:Nat):1<=2^n:=Nat.one_le_two_pow
theorem Vw {p:bp} {en:Int->Bool} {most:Int}:∀{n:Nat} {s:cO} {a:Int} {f:List Int},eX p f->nF f<=n->s.err=0->((s.prf.length+2^(nF f+1):Nat):Int)<=most+2->(dD p en most n s a f).err=0/\(dD p en most n s a f).prf.length+2<=s.prf.length+2^(nF f+1):=by
 have l:∀{c:cO->Int->List Int->cO} {s:cO} {a:Int} {f:List Int},eX p f->s.err=0->((s.prf.length+2^(nF f+1):Nat):Int)<=most+2->
   (∀{s:cO} {a:Int} {g:List Int},eX p g->nF f=nF g+1->s.err=0->((s.prf.length+2^(nF g+1):Nat):Int)<=most+2->(c s a g).err=0/\(c s a g).prf.length+2<=s.prf.length+2^(nF g+1))->
   (fy p en most c s a f).err=0/\(fy p en most c s a f).prf.length+2<=s.prf.length+2^(nF f+1):=by
  intro c s a f b t u C;obtain⟨L,J,T,X,e5⟩:=@FC p en s f;have F:2<=2^(nF f+1):=by grind
  unfold fy;split;·omega
  split;·simp_all
  rename_i E N;have x:iD p f=true:=by simp_all
  split;·simp_all
  rename_i v;cases A:jC (dy p f) with
  |none=>
   exfalso;apply v;have o:ng (dy p f)=true:=by
    unfold ng;rw[Ξ];intro q H;obtain⟨i,B,rfl⟩:=δb H;have w:=aft A i B;obtain⟨M,I,_⟩:=Fz (b.ok x) b.r (show i<f.length by grind[r7]);rw[cM B] at w M I;rcases(show(dy p f)[i]=0\/(dy p f)[i]=1 by grind) with e|e<;>simp_all
   obtain⟨Y,K⟩:=Vo (b.ok x) b.r o;have P:((pA p f).value:Rat)=jS p f:=K;by_cases D:((s.val+1:Int):Rat)<=jS p f
   ·have O:s.val<(pA p f).value:=by
     rw[<-P] at D;have:s.val+1<=(pA p f).value:=by exact_mod_cast D
     omega
    have:(dj p en s f).val=(pA p f).value:=by
     simp_all[dj,dU]
    grind
   grind;|some k=>
   simp only;obtain⟨j,z,y⟩:=tg A;rw[r7] at j;have m:bj f k.toNat 0=0:=tf (b.ok x) b.r (by omega) z y;have n1:=mI j m (d:=1) (by omega);have n2:=mI j m (d:= -1) (by omega);have W:eX p (f.set k.toNat 1):=b.set (by omega);have Z:eX p (f.set k.toNat (-1)):=b.set (by omega);have V:(gy (dj p en s f) a k).prf.length=s.prf.length+2:=by
    grind[gy]
   have U:2^(nF f+1)=2^(nF (f.set k.toNat 1)+1)+2^(nF (f.set k.toNat 1)+1):=by
    grind
   have ne:nF (f.set k.toNat (-1))=nF (f.set k.toNat 1):=by omega
   have Q:2<=2^(nF (f.set k.toNat 1)+1):=by omega
   rw[if_neg (by rw[L];omega)];have S:(gy (dj p en s f) a k).err=0:=by show(dj p en s f).err=0;rw[J,t]
   grind
 intro n;induction n with
 |zero=>
  intro s a f b G t u;exact l b t u λ{s a g} _ h _ _=>by omega;|succ n R=>
  intro s a f b G t u;exact l b t u λ{s a g} E N v w=>R E (by omega) v w
def FG (p:iM) (lo:Nat) (Λ:Nat->cB):IR->cq->(cq->Prop)->Prop
 | .skip,b,K=>K b
 | .seq x y,b,K=>wpS p lo x Λ b λc a=>match c with
  | .norm=>FG p lo Λ y a K
  |_=>False
 |_,_,_=>False
def Bo (p:iM) (Λ:Nat->cB) (F:fj) (args:List SV) (o:bW) (Q:SV->bW->Prop):Prop:=
 match F.body with
 | .tt g c d a b=>FG p o.length Λ a ⟨nA 0 args,o⟩ λe=>wpS p e.o.length b Λ ⟨(d,.ud)::e.env,e.o⟩ λi j=>if rk i=true then
   (match p.it g with
    |some G=>if(c.map (jj e.env)).length=G.params/\G.res.isEmpty=true then wpS p j.o.length G.body (λn=>Λ (1000+n)) ⟨nA 0 (c.map (jj e.env)),j.o⟩ λf h=>if rk f=true then
      od ⟨j.env,h.o⟩ F.res λr=>if r.bY o.length&&h.o.all (λx=>x.bY o.length)&&decide (o.length<=h.o.length) then Q r (h.o.take o.length) else False
     else False else False
    |none=>False) else False
 |_=>False
section
variable {P:Program} {T:Tab} {p:iM} {Λ:Nat->cB}
theorem afx (i:pQ T.K p.C) (j:∀f F,p.it f=some F->T.fn f=some F) {lo:Nat}:∀{a:IR} {st:cq} {K:cq->Prop},FG p lo Λ a st K->∃s0:cq,(∃N,∀n,N<=n->rj (exec T .plain n lo) a st.g=some s0.g)/\K s0:=by
 intro a;induction a with
 |skip=>intro st K h;exact⟨st,⟨0,λ_ _=>rfl⟩,h⟩;|seq x y _ d=>
  intro st K h;simp only[FG] at h;obtain⟨c,s,⟨N,e⟩,r,rfl,b⟩:=vE i j h;cases c with
  |norm=>
   obtain⟨s0,⟨M,m⟩,k⟩:=d b;refine⟨s0,⟨N+M,λn o=>?_⟩,k⟩;simp only[rj,e n n (by omega) (by omega)];grind;|exit q=>exact b.elim;|ret=>exact b.elim;|goto l=>exact b.elim
 |_=>intro st K h;exact h.elim
theorem afy (J:kC P T) (u:pQ T.K p.C) (n:∀f F,p.it f=some F->T.fn f=some F) {f:FuncId} {F:fj} (S:T.fn f=some F) {args:List SV} {o:bW} {r:AV} {o':Store} (V:T.K f (gL args) (gO o) true=none) (B:args.length=F.params)
  {Q:SV->bW->Prop} (A:∀v s,Q v s->v.g=r/\gO s=o') (h:Bo p Λ F args o Q):gQ P f=true/\lA P f (gL args) (gO o) r o':=by
 unfold Bo at h;split at h
 ·rename_i g a d ia ib Z;obtain⟨b,h1,h⟩:=afx u n h;obtain⟨O,U,h2,c,rfl,h⟩:=vE u n h;split at h
  ·rename_i k;split at h
   ·rename_i G hG;split at h
    ·rename_i Y;obtain⟨D,I,h3,i,rfl,h⟩:=vE u n h;split at h
     ·rename_i j;obtain⟨t,k1,m⟩:=xw h;split at m
      ·rename_i y;simp only[ζ,decide_eq_true_eq,Ξ] at y;obtain⟨⟨a2,L⟩,N⟩:=y;have R:(cq.mk (nA 0 args) o).g=⟨ic 0 (gL args),gO o⟩:=by simp[cq.g,vF]
       have w:(gO o).length=o.length:=oh o;have a1:b.g.o.length=b.o.length:=oh b.o;have a0:c.g.o.length=c.o.length:=oh c.o;have H:a.map (eC b.g.env)=gL (a.map (jj b.env)):=by
        rw[gi,δn];refine γW λx _=>?_;show eC (gE b.env) x=_;grind[zC]
       have z:(cq.mk ((d,.ud)::b.env) b.o).g=⟨(d,.ud)::b.g.env,b.g.o⟩:=by simp[cq.g,gE,SV.g]
       have E:(cq.mk (nA 0 (a.map (jj b.env))) c.o).g=⟨ic 0 (gL (a.map (jj b.env))),c.g.o⟩:=by simp[cq.g,vF]
       have W:(cq.mk c.env i.o).g=⟨c.g.env,i.g.o⟩:=rfl;have q:∀x∈gO i.o,x.bY o.length=true:=by
        grind[gO,CU]
       have l:finish true (gO o).length t.g i.g.o=some (r,o'):=by
        simp only[finish,if_true,w];have e:lQ o.length t.g i.g.o=some (t.g,(i.g.o).take o.length):=PL (by grind[zD]) q (by show o.length<=(gO i.o).length;grind[oh]);rw[e,<-(A _ _ m).1,<-(A _ _ m).2];simp_all[cq.g,gO]
       obtain⟨X,M,_⟩:=Y0 J S Z (own:=true) V (by grind[jJ]) (s0:=b.g) (s2:=c.g) (s3:=i.g) (by simp_all) (by simp_all) k (n g G hG) (by grind) Y.2 (by simp_all) j (by simp_all) l;exact⟨X,M⟩
      ·exact m.elim
     ·exact h.elim
    ·exact h.elim
   simp_all
  ·exact h.elim
 simp_all
end
theorem Vx {P:Program} {d:FuncId->Option fj} {L:List bL} {W:List cZ} (c:cZ) {F:fj} {k:TypeId->Option bk} {e:List Nat×Bool->Option (bk×bk)} {Λ:c.α->Nat->cB}
  (n:kC P ⟨d,λ_ _ _ _=>none⟩) (i:∀c∈W,dK P c) (o:∀c∈L,Holds P c)
  (l:d c.f=some F) (b:∀a,(c.put a).length=F.params)
  (a:c.α) (m:k9 c.f W=none)
  (h:Bo (lZ L (fU W) k e d) (Λ a) F (c.put a) (c.st a) λv s=>v.same (c.res a)/\jk s (c.out a)):
  gQ P c.f=true/\lA P c.f (gL (c.put a)) (gO (c.st a)) (c.res a).g (gO (c.out a)):=by
 refine afy (p:=lZ L (fU W) k e d) (Λ:=Λ a) (Q:=λv s=>v.same (c.res a)/\jk s (c.out a)) (ua (lg i) o n) (ub (lg i)) (λ_ _ h=>h) l ?_ (b a) (λv s j=>⟨j.1,xu j.2⟩) h;simp_all[qG,sJ,fU,uf]
theorem afz {k:Nat} {r a:AV} {o mid o2:Store} (c:r.bT o (λi=>decide (k<=i))=some a) (g:jh o (λi=>decide (k<=i)) o=some mid) (e:fE (λi=>decide (k<=i)) 0 mid=o2) (f:a.bY k=true) (d:∀x∈o2,x.bY k=true) (l:k<=o2.length):lQ k r o=some (a,o2.take k):=by
 unfold lQ;rw[c,g];simp only[e];have m:∀x∈o2.take k,x.bY k=true:=λx h=>d x (γl h);rw[PG (by grind[dZ,HF])];have j:iH.pF (List.range k)=true:=by rw[δI];exact nodup_range'
 rw[if_pos j,CZ f];have b:=HE (k:=k) (o:=o2) m l (n:=k) (s:=0) (by omega);rw[<-δI,List.drop_zero] at b;rw[b]
def FH (k:Nat) (r:SV) (o:bW) (K:SV->bW->Prop):Prop:=
 lh o k r λb=>o6 o k 0 o λa=>if b.bY k&&a.all (λx=>x.bY k)&&decide (k<=a.length) then K b (a.take k) else False
theorem afA {k:Nat} {r:SV} {o:bW} {K:SV->bW->Prop} (h:FH k r o K):∃r' o',lQ k r.g (gO o)=some (r'.g,gO o')/\K r' o':=by
 unfold FH at h;obtain⟨l,p,f⟩:=HV h;obtain⟨c,i,n,m,a⟩:=xE f;split at a
 ·rename_i b;simp only[ζ,decide_eq_true_eq,Ξ] at b;obtain⟨⟨d,j⟩,e⟩:=b;refine⟨l,c.take k,?_,a⟩;simp_all[afz,zD,gO,CU]
 simp_all
def FI (p:iM) (Λ:Nat->cB) (F:fj) (args:List SV) (o:bW) (Q:SV->bW->Prop):Prop:=
 wpS p o.length F.body Λ ⟨nA 0 args,o⟩ λa b=>match a with
  | .exit _=>False
  | .goto _=>False
  |_=>od b F.res λr=>FH o.length r b.o Q
theorem afB {P:Program} {T:Tab} {p:iM} {Λ:Nat->cB} (A:kC P T) (t:pQ T.K p.C) (y:∀f F,p.it f=some F->T.fn f=some F) {f:FuncId} {F:fj} (n:T.fn f=some F) {args:List SV} {o:bW} {r:AV} {o':Store} (z:T.K f (gL args) (gO o) true=none) (j:args.length=F.params)
  {Q:SV->bW->Prop} (D:∀v s,Q v s->v.g=r/\gO s=o') (h:FI p Λ F args o Q):gQ P f=true/\lA P f (gL args) (gO o) r o':=by
 unfold FI at h;have e:=vE t y h;have d:(cq.mk (nA 0 args) o).g=⟨ic 0 (gL args),gO o⟩:=by simp[cq.g,vF]
 rw[d] at e;have i:(gO o).length=o.length:=oh o;rw[<-i] at e;have x:∀(a:cq),(od a F.res λv=>FH (gO o).length v a.o Q)->(nW a.g F.res).bind (λc=>finish true (gO o).length c a.g.o)=some (r,o'):=by
  intro a m;obtain⟨c,k,l⟩:=xw m;obtain⟨u,q,w,E⟩:=afA l;rw[k];simp only[Option.bind_some,finish,if_true];have:lQ (gO o).length c.g a.g.o=some (u.g,gO q):=w;grind
 obtain⟨k,l,_⟩:=Cm A n (o:=gO o) (own:=true) z (by grind[jJ]) (v:=r) (o':=o') (e.mono λb s B=>by
  obtain⟨a,rfl,m⟩:=B;cases b<;>simp_all);simp_all
theorem afC {P:Program} {d:FuncId->Option fj} {L:List bL} {W:List cZ} (c:cZ) {F:fj} {k:TypeId->Option bk} {e:List Nat×Bool->Option (bk×bk)} {Λ:c.α->Nat->cB}
  (n:kC P ⟨d,λ_ _ _ _=>none⟩) (i:∀c∈W,dK P c) (o:∀c∈L,Holds P c)
  (l:d c.f=some F) (b:∀a,(c.put a).length=F.params)
  (a:c.α) (m:k9 c.f W=none)
  (h:FI (lZ L (fU W) k e d) (Λ a) F (c.put a) (c.st a) λv s=>v.same (c.res a)/\jk s (c.out a)):
  gQ P c.f=true/\lA P c.f (gL (c.put a)) (gO (c.st a)) (c.res a).g (gO (c.out a)):=by
 refine afB (p:=lZ L (fU W) k e d) (Λ:=Λ a) (Q:=λv s=>v.same (c.res a)/\jk s (c.out a)) (ua (lg i) o n) (ub (lg i)) (λ_ _ h=>h) l ?_ (b a) (λv s j=>⟨j.1,xu j.2⟩) h;simp_all[qG,sJ,fU,uf]
structure dG where
 p:bp
 ch:List Int
 val:Int
 found:Bool
 en:Option Int
 k1:Nat
 k2:Nat
 most:Int
 err:Int
 prf:List ra
 fx:List Int
def dG.cs (x:dG) (e:SV) (i j:Nat):List SV:=[.row (.i .i64) x.ch,.si .i64 x.val,.sb x.found,e,.ow i x.k1 5,.ow j x.k2 1,.si .i64 x.most,.si .i64 x.err]
def dG.yQ (x:dG):bW:=[.cells (x.p.ss++x.cs (.fn (.func 82) [] []) 1 2) 119 28 false,.row ek x.prf 93 true,.row (.i .i64) x.fx 3 true]
def dG.yR (x:dG) (m:Int):bW:=[.cells (x.p.ss++x.cs (.fn (.func 132) [] [.ptr 1 0 1]) 2 3) 119 28 false,.cells [.si .i64 m] 2 1 false,.row ek x.prf 93 true,.row (.i .i64) x.fx 3 true]
def dG.gG (x:dG):bW:=match x.en with
 |none=>x.yQ
 |some m=>x.yR m
def LY:bW->Option dG
 |[.cells cs 119 28 false,.row s1 l1 93 true,.row s2 l2 3 true]=>match cs.drop 20 with
  |[c,v,b,.fn (.func 82) [] [],.ow 1 k1 5,.ow 2 k2 1,mo,er]=>match sK (cs.take 20),gj (.i .i64) c,v.int .i64,b.boo,mo.int .i64,er.int .i64 with
   |some p,some c,some v,some b,some mo,some er=>match iI s1 ek l1,iI s2 (.i .i64) l2 with
    |some l1,some l2=>some ⟨p,c,v,b,none,k1,k2,mo,er,l1,l2⟩
    |_,_=>none
   |_,_,_,_,_,_=>none
  |_=>none
 |[.cells cs 119 28 false,.cells [m] 2 1 false,.row s1 l1 93 true,.row s2 l2 3 true]=>match cs.drop 20 with
  |[c,v,b,.fn (.func 132) [] [.ptr 1 0 1],.ow 2 k1 5,.ow 3 k2 1,mo,er]=>match sK (cs.take 20),gj (.i .i64) c,v.int .i64,b.boo,mo.int .i64,er.int .i64 with
   |some p,some c,some v,some b,some mo,some er=>match iI s1 ek l1,iI s2 (.i .i64) l2,m.int .i64 with
    |some l1,some l2,some m=>some ⟨p,c,v,b,some m,k1,k2,mo,er,l1,l2⟩
    |_,_,_=>none
   |_,_,_,_,_,_=>none
  |_=>none
 |_=>none
theorem afD {o:bW} {x:dG} (h:LY o=some x):gO o=gO x.gG:=by
 unfold LY at h;split at h
 ·rename_i cs s1 l1 s2 l2;split at h
  ·rename_i c v b k1 k2 mo er hd;split at h
   ·rename_i p c' v' b' mo' er' h1 h2 h3 h4 h5 h6;split at h
    ·rename_i l1' l2' g1 g2;simp only[γ] at h;subst h;obtain⟨rfl,e1⟩:=nu g1;obtain⟨rfl,e2⟩:=nu g2;cases e1;cases e2;have e3:gL cs=gL p.ss++gL [c,v,b,.fn (.func 82) [] [],.ow 1 k1 5,.ow 2 k2 1,mo,er]:=by
      rw[<-hd,<-vH h1,<-vz,Δ]
     simp only[dG.gG,dG.yQ,dG.cs,gO,ι,γt,bq.g,vz,e3];simp only[gL,jK h2,gU h3,xi h4,gU h5,gU h6,SV.g]
    ·cases h
   ·cases h
  ·cases h
 ·rename_i cs m s1 l1 s2 l2;split at h
  ·rename_i c v b k1 k2 mo er hd;split at h
   ·rename_i p c' v' b' mo' er' h1 h2 h3 h4 h5 h6;split at h
    ·rename_i l1' l2' m' g1 g2 g3;simp only[γ] at h;subst h;obtain⟨rfl,e1⟩:=nu g1;obtain⟨rfl,e2⟩:=nu g2;cases e1;cases e2;have e3:gL cs=gL p.ss++gL [c,v,b,.fn (.func 132) [] [.ptr 1 0 1],.ow 2 k1 5,.ow 3 k2 1,mo,er]:=by
      rw[<-hd,<-vH h1,<-vz,Δ]
     simp only[dG.gG,dG.yR,dG.cs,gO,ι,γt,bq.g,vz,e3];simp only[gL,jK h2,gU h3,xi h4,gU h5,gU h6,gU g3,SV.g]
    ·cases h
   ·cases h
  ·cases h
 ·cases h
theorem afI {p q:bp} (h:gL p.ss=gL q.ss):p=q:=cY.inj p q (by grind[cY,SV.g])
theorem afJ {x y:dG} (h:gO x.gG=gO y.gG):x=y:=by
 obtain⟨p,E,u,b,J,H,G,k,o,A,L⟩:=x;obtain⟨B,n,d,a,l,r,v,c,f,q,C⟩:=y;have w:∀{e I:SV} {i j:Nat},gL (p.ss++(dG.mk p E u b J H G k o A L).cs e i j)=gL (B.ss++(dG.mk B n d a l r v c f q C).cs I i j)->p=B/\E=n/\u=d/\b=a/\H=r/\G=v/\k=c/\o=f:=by
  intro e I i j h;rw[vz,vz] at h;obtain⟨z,t⟩:=List.append_inj h (by rw[jJ,jJ];rfl);simp only[dG.cs,gL,SV.g,ξ,γX,Value.int.injEq,Value.bool.injEq,AV.os.injEq,AV.sl.injEq,and_true,true_and] at t;grind[afI,pr]
 cases J with
 |none=>
  cases l with
  |none=>
   simp only[dG.gG,dG.yQ,gO,ι,γt,bq.g,ξ,bP.cells.injEq,and_true] at h;obtain⟨z,t,D⟩:=h;obtain⟨rfl,rfl,rfl,rfl,rfl,rfl,rfl,rfl⟩:=w z;rw[pr (s:=ek) t,pr (s:=.i .i64) D];|some K=>
   have:=congrArg γn h;simp_all[dG.gG,dG.yQ,dG.yR,gO]
 |some m=>
  cases l with
  |none=>
   have:=congrArg γn h;simp_all[dG.gG,dG.yQ,dG.yR,gO];|some K=>
   simp only[dG.gG,dG.yR,gO,ι,γt,bq.g,ξ,bP.cells.injEq,and_true] at h;obtain⟨z,F,t,D⟩:=h;obtain⟨rfl,rfl,rfl,rfl,rfl,rfl,rfl,rfl⟩:=w z;simp only[gL,SV.g,ξ,γX,Value.int.injEq,and_true,true_and] at F;subst F;rw[pr (s:=ek) t,pr (s:=.i .i64) D]
def FK (f:FuncId) (c:Type) (A:qF c) (i:dG->c->Prop) (e:dG->c->SV) (out:dG->c->dG):cZ where
 f:=f;α:=dG×c;put a:=.ptr 0 0 28::A.put a.2;st a:=a.1.gG;dec v o:=match v with
  | .ptr 0 0 28::r=>match LY o,A.dec r with
   |some s,some b=>some (s,b)
   |_,_=>none
  |_=>none;ok v o a h:=by
  split at h
  ·split at h
   ·rename_i d g;simp only[γ] at h;subst h;exact⟨by simp only[gL,A.ok _ _ g],afD d⟩
   ·cases h
  ·cases h
 inj a b d g:=by
  simp only[gL,ξ,true_and] at d;exact Prod.ext (afJ g) (A.inj _ _ d)
 dom a:=i a.1 a.2;res a:=e a.1 a.2;out a:=(out a.1 a.2).gG
def cu (e:Option Int) (v:Int):Bool:=match e with
 |none=>false
 |some m=>decide (m<=v)
def dG.s (x:dG):cO:=⟨x.ch,x.val,x.found,x.prf,x.err⟩
def dG.upd (x:dG) (s:cO):dG:=⟨x.p,s.ch,s.val,s.found,x.en,s.prf.length,x.k2,x.most,s.err,s.prf,x.fx⟩
structure ff (x:dG):Prop where
 f:eX x.p x.fx
 k1:x.k1=x.prf.length
 k2:x.k2=x.fx.length
 v0:0<=x.val
 v1:x.val<=9223372036854775806
 m0:1<=x.most
 m1:x.most<=65536
 l:x.prf.length<=65536
 c:x.ch.length<=9223372036854775807
def LZ:cZ where
 f:=82;α:=Alloc;put a:=[lC.put a];st _:=[];dec v o:=match v,o with
  |[a],[]=>lC.dec a
  |_,_=>none;ok v o a h:=by
  split at h;·exact⟨by simp only[gL,lC.ok _ _ h],rfl⟩
  ·cases h
 inj a b h1 _:=by
  simp only[gL,ξ,and_true] at h1;exact lC.inj _ _ h1
 dom _:=True;res _:=.sb false;out _:=[]
theorem h438:dK Tryz.prog LZ:=by
 refine jm (L:=[]) (W:=[]) LZ lk (by simp) (by simp) ?_;rintro(a:Alloc) -;refine bN ((δo false).same (γD false)/\True) (by kernel_rfl) ?_;simp_all
def L0:cZ where
 f:=132;α:=Alloc×Int;put a:=[lC.put a.1,.ptr 0 0 1];st a:=[.cells [.si .i64 a.2] 2 1 false];dec v o:=match v,o with
  |[a,.ptr 0 0 1],[.cells [m] 2 1 false]=>match lC.dec a,m.int .i64 with
   |some a,some m=>some (a,m)
   |_,_=>none
  |_,_=>none;ok v o a h:=by
  split at h
  ·split at h
   ·rename_i h1 h2;simp only[γ] at h;subst h;exact⟨by simp only[gL,lC.ok _ _ h1],by simp only[gO,ι,γt,bq.g,gL,gU h2,SV.g]⟩
   ·cases h
  ·cases h
 inj a b h1 h2:=by
  simp only[gL,ξ,and_true] at h1;simp only[gO,ι,γt,bq.g,gL,SV.g,ξ,bP.cells.injEq,γX,Value.int.injEq,and_true,true_and] at h2;exact Prod.ext (lC.inj _ _ h1) h2
 dom _:=True;res a:=.sb (decide (a.2<=a.1.value));out a:=[.cells [.si .i64 a.2] 2 1 false]
theorem h442:dK Tryz.prog L0:=by
 refine jm (L:=[]) (W:=[]) L0 lk (by simp) (by simp) ?_;rintro⟨a,m⟩ -;refine bN (let b:=bq.cells [Θ .i64 m] 2 1 false;(γD (decide (m<=a.value))).same (γD (decide (m<=a.value)))/\b.same b/\True) (by kernel_rfl) ?_;conv=>zeta
 exact⟨rfl,rfl,trivial⟩
def Bq:cZ:=FK 83 Alloc (.one lC) (λx _=>x.k1=x.prf.length) (λ_ _=> .bH []) λx a=>x.upd (dU (cu x.en) x.s a)
theorem h439:dK Tryz.prog Bq:=by
 refine jm (L:=[]) (W:=[LZ,L0]) Bq lk (by simpa using⟨h438,h442⟩) (by simp) ?_;rintro⟨⟨p,ch,val,found,en,k1,k2,most,err,prf,fx⟩,a⟩ hk;have hk:k1=prf.length:=hk;subst hk;have e1:∀en:Int->Bool,val<a.value->dU en ⟨ch,val,found,prf,err⟩ a=⟨a.chosen,a.value,found||en a.value,prf,err⟩:=λen h=>if_pos h;have e2:∀en:Int->Bool,¬val<a.value->dU en ⟨ch,val,found,prf,err⟩ a=⟨ch,val,found,prf,err⟩:=λen h=>if_neg h;cases en with
 |none=>
  refine bN (let b:=Θ .i64;let c:=bq.row;let d:=bq.cells;let e:=Φ;let f:=SV.bH;let k:=b p.supply.a0;let l:=b p.supply.a1;let m:=b p.supply.a2;let n:=b p.supply.a3;let o:=b p.supply.a4;let q:=b p.supply.a5;let r:=b p.opn.a0;let s:=b p.opn.a1;let t:=b p.opn.a2;let v:=b p.opn.a3;let w:=b p.opn.a4;let x:=b p.opn.a5;let y:=b p.cls.a0;let z:=b p.cls.a1;let A:=b p.cls.a2;let B:=b p.cls.a3;let C:=b p.cls.a4;let D:=b p.cls.a5;let h:=bk.i .i64;let E:=e h p.classes;let F:=e bk.off p.offers;let G:=SV.fn (Fn.func 82) [] [];let H:=γ6 2 k2 1;let I:=b most;let J:=[G,γ6 1 prf.length 5,H,I,b err];let g:=dU (cu none) (cO.mk ch val found prf err) a;let K:=d [k,l,m,n,o,q,r,s,t,v,w,x,y,z,A,B,C,D,E,F,e h g.ch,b g.val,γD g.found,G,γ6 1 g.prf.length 5,H,I,b g.err] 119 28 false;let j:=c h fx 3 true;let L:=decide (val<a.value);let M:=λ(u u_1:Bool) (u_2:List Int) (u_3:Int) (u_4:SV) ↦u=u_1->(f []).same (f [])/\(d (k::l::m::n::o::q::r::s::t::v::w::x::y::z::A::B::C::D::E::F::e h u_2::b u_3::u_4::J) 119 28 false).same K/\(c ek prf 93 true).same (c ek g.prf 93 true)/\j.same j/\True;(L=true->M found true a.chosen a.value (δo true)/\(found=false->True/\(f []).same (f [])/\(d (k::l::m::n::o::q::r::s::t::v::w::x::y::z::A::B::C::D::E::F::e h a.chosen::b a.value::γD false::J) 119 28 false).same K/\(c ek prf 93 true).same (c ek g.prf 93 true)/\j.same j/\True))/\M L false ch val (γD found)) (by kernel_rfl) ?_;conv=>zeta
  refine⟨λh=>?_,λh=>?_⟩
  ·simp only[e1 _ (of_decide_eq_true h)];refine⟨λhf=>?_,λhf=>?_⟩
   ·subst hf;exact⟨rfl,rfl,rfl,rfl,trivial⟩
   ·subst hf;exact⟨trivial,rfl,rfl,rfl,rfl,trivial⟩
  ·simp only[e2 _ (of_decide_eq_false h)];exact⟨rfl,rfl,rfl,rfl,trivial⟩;|some m=>
  refine bN (let b:=Θ .i64;let c:=bk.i .i64;let d:=bq.cells;let e:=Φ;let f:=bq.row;let g:=γ6;let h:=γS;let j:=SV.bH;let k:=γD;(decide (val<a.value)=true->(found=true->(j []).same (j [])/\(d [b p.supply.a0,b p.supply.a1,b p.supply.a2,b p.supply.a3,b p.supply.a4,b p.supply.a5,b p.opn.a0,b p.opn.a1,b p.opn.a2,b p.opn.a3,b p.opn.a4,b p.opn.a5,b p.cls.a0,b p.cls.a1,b p.cls.a2,b p.cls.a3,b p.cls.a4,b p.cls.a5,e (c) p.classes,e bk.off p.offers,e (c) a.chosen,b a.value,δo true,SV.fn (Fn.func 132) [] [h 1 0 1],g 2 prf.length 5,g 3 k2 1,b most,b err] 119 28 false).same (d [b p.supply.a0,b p.supply.a1,b p.supply.a2,b p.supply.a3,b p.supply.a4,b p.supply.a5,b p.opn.a0,b p.opn.a1,b p.opn.a2,b p.opn.a3,b p.opn.a4,b p.opn.a5,b p.cls.a0,b p.cls.a1,b p.cls.a2,b p.cls.a3,b p.cls.a4,b p.cls.a5,e (c) p.classes,e bk.off p.offers,e (c) (dU (cu (some m)) (cO.mk ch val found prf err) a).ch,b (dU (cu (some m)) (cO.mk ch val found prf err) a).val,k (dU (cu (some m)) (cO.mk ch val found prf err) a).found,SV.fn (Fn.func 132) [] [h 1 0 1],g 2 (dU (cu (some m)) (cO.mk ch val found prf err) a).prf.length 5,g 3 k2 1,b most,b (dU (cu (some m)) (cO.mk ch val found prf err) a).err] 119 28 false)/\(d [b m] 2 1 false).same (d [b m] 2 1 false)/\(f ek prf 93 true).same (f ek (dU (cu (some m)) (cO.mk ch val found prf err) a).prf 93 true)/\(f (c) fx 3 true).same (f (c) fx 3 true)/\True)/\(found=false->True/\(j []).same (j [])/\(d [b p.supply.a0,b p.supply.a1,b p.supply.a2,b p.supply.a3,b p.supply.a4,b p.supply.a5,b p.opn.a0,b p.opn.a1,b p.opn.a2,b p.opn.a3,b p.opn.a4,b p.opn.a5,b p.cls.a0,b p.cls.a1,b p.cls.a2,b p.cls.a3,b p.cls.a4,b p.cls.a5,e (c) p.classes,e bk.off p.offers,e (c) a.chosen,b a.value,k (decide (m<=a.value)),SV.fn (Fn.func 132) [] [h 1 0 1],g 2 prf.length 5,g 3 k2 1,b most,b err] 119 28 false).same (d [b p.supply.a0,b p.supply.a1,b p.supply.a2,b p.supply.a3,b p.supply.a4,b p.supply.a5,b p.opn.a0,b p.opn.a1,b p.opn.a2,b p.opn.a3,b p.opn.a4,b p.opn.a5,b p.cls.a0,b p.cls.a1,b p.cls.a2,b p.cls.a3,b p.cls.a4,b p.cls.a5,e (c) p.classes,e bk.off p.offers,e (c) (dU (cu (some m)) (cO.mk ch val found prf err) a).ch,b (dU (cu (some m)) (cO.mk ch val found prf err) a).val,k (dU (cu (some m)) (cO.mk ch val found prf err) a).found,SV.fn (Fn.func 132) [] [h 1 0 1],g 2 (dU (cu (some m)) (cO.mk ch val found prf err) a).prf.length 5,g 3 k2 1,b most,b (dU (cu (some m)) (cO.mk ch val found prf err) a).err] 119 28 false)/\(d [b m] 2 1 false).same (d [b m] 2 1 false)/\(f ek prf 93 true).same (f ek (dU (cu (some m)) (cO.mk ch val found prf err) a).prf 93 true)/\(f (c) fx 3 true).same (f (c) fx 3 true)/\True))/\(decide (val<a.value)=false->(j []).same (j [])/\(d [b p.supply.a0,b p.supply.a1,b p.supply.a2,b p.supply.a3,b p.supply.a4,b p.supply.a5,b p.opn.a0,b p.opn.a1,b p.opn.a2,b p.opn.a3,b p.opn.a4,b p.opn.a5,b p.cls.a0,b p.cls.a1,b p.cls.a2,b p.cls.a3,b p.cls.a4,b p.cls.a5,e (c) p.classes,e bk.off p.offers,e (c) ch,b val,k found,SV.fn (Fn.func 132) [] [h 1 0 1],g 2 prf.length 5,g 3 k2 1,b most,b err] 119 28 false).same (d [b p.supply.a0,b p.supply.a1,b p.supply.a2,b p.supply.a3,b p.supply.a4,b p.supply.a5,b p.opn.a0,b p.opn.a1,b p.opn.a2,b p.opn.a3,b p.opn.a4,b p.opn.a5,b p.cls.a0,b p.cls.a1,b p.cls.a2,b p.cls.a3,b p.cls.a4,b p.cls.a5,e (c) p.classes,e bk.off p.offers,e (c) (dU (cu (some m)) (cO.mk ch val found prf err) a).ch,b (dU (cu (some m)) (cO.mk ch val found prf err) a).val,k (dU (cu (some m)) (cO.mk ch val found prf err) a).found,SV.fn (Fn.func 132) [] [h 1 0 1],g 2 (dU (cu (some m)) (cO.mk ch val found prf err) a).prf.length 5,g 3 k2 1,b most,b (dU (cu (some m)) (cO.mk ch val found prf err) a).err] 119 28 false)/\(d [b m] 2 1 false).same (d [b m] 2 1 false)/\(f ek prf 93 true).same (f ek (dU (cu (some m)) (cO.mk ch val found prf err) a).prf 93 true)/\(f (c) fx 3 true).same (f (c) fx 3 true)/\True)) (by kernel_rfl) ?_;refine⟨λh=>?_,λh=>?_⟩
  ·simp only[e1 _ (of_decide_eq_true h)];refine⟨λhf=>?_,λhf=>?_⟩
   ·subst hf;exact⟨rfl,rfl,rfl,rfl,rfl,trivial⟩
   ·subst hf;exact⟨trivial,rfl,rfl,rfl,rfl,rfl,trivial⟩
  ·simp only[e2 _ (of_decide_eq_false h)];exact⟨rfl,rfl,rfl,rfl,rfl,trivial⟩
theorem uO {p q:Rat}:jc p q<0↔p<q:=by
 unfold jc;grind
def L1:bL:=⟨62,bp×List Int,.cons cY (.one (dW (.i .i64))),λa=>bC a.1=0/\a.2.length<=9223372036854775807,λa=> .si .i64 (dH a.1 a.2)⟩
def afK (p:bp) (c:List Int):Nat->cB
 |6=> .inv Int (λi=>⟨[(7,.si .i64 (bZ ((eE p c).take i.toNat))),(23,.row .off (eE p c)),(24,.si .i64 (eE p c).length),(25,.si .i64 i)],[.cells p.ss 27 20 false]⟩)
   (λs=>iS s 25) (λi=>0<=i/\i<=(eE p c).length) (λi=>((eE p c).length - i).toNat) λ_ _=> .look
 |_=> .look
theorem h437:Holds Tryz.prog L1:=by
 refine cF (L:=[Dp,pU]) L1 (λa=>afK a.1 a.2) (by grind[h133,h79]) ?_;rintro⟨p,c⟩ ⟨f,A⟩;simp only at f A;refine bN (let a:=Θ .i64;let f:=(0:Int);let k:=γp .i64 0;let m:=a (dH p c);let z:=decide (bC p≠f);let j:=Φ bk.off (eE p c);let B:=(↑(eE p c).length:Int);let d:=(↑(eE p c).length:Int);let r:=a d;let g:=bq.cells (bp.ss p) 27 20 false;(c.length<=9223372036854775807/\p.offers.length<=1000)/\((!jq p c)=true->k.same m)/\((!jq p c)=false->True/\(z=true->k.same m)/\(z=false->(((k.same (a (bZ []))/\j.same j/\(a B).same r/\k.same (a 0)/\True)/\g.same g/\True)/\f<=f/\f<=d)/\∀(x:Int),let w:=bZ (γa x.toNat (eE p c));let y:=w+(bj (eE p c) x.toNat bk.off.dflt).value;let b:=x+(1:Int);let e:=a b;f<=x/\x<=d->(decide (x<d)=true->f<=x/\x<B/\x.toNat<(eE p c).length/\bV .i64 y/\bV .i64 b/\(((a y).same (a (bZ (γa b.toNat (eE p c))))/\j.same j/\r.same r/\e.same e/\True)/\g.same g/\True)/\(f<=b/\b<=d)/\(d - b).toNat<(d - x).toNat)/\(decide (x<d)=false->(a w).same m)))) (by kernel_rfl) ?_;simp only[vcs];have t:=dm f;obtain⟨G,v⟩:=aa0 (c:=c) f;have u:=t.2.1;have q:jq p c=false->0=dH p c:=λh=>by
  unfold dH;rw[if_pos f];unfold eE;unfold jq at h;rw[Option.isSome_eq_false_iff,Option.isNone_iff_eq_none] at h;rw[h];rfl
 refine⟨⟨A,by omega⟩,q,λ_=>⟨λh=>absurd f h,λ_=>⟨⟨by simp[bZ],by omega,by omega⟩,?_⟩⟩⟩;rintro i ⟨n,D⟩;refine⟨λo=>?_,λE=>?_⟩
 ·have H:=aaZ n o;have F:=sO t (l:=(eE p c).take i.toNat) λx s=>v x (γl s);have C:=sO t (l:=(eE p c).take (i+1).toNat) λx s=>v x (γl s);grind
 ·rw[show i.toNat=(eE p c).length from by omega,ψ];grind[dH]
def L9:bL:=⟨162,Int×Int,.cons (dV .i64) (.one (dV .i64)),λa=>(-9223372036854775808<=a.1/\a.1<=9223372036854775807)/\0<a.2/\a.2<=9223372036854775807,λa=> .bH [qU (fK (decide (a.1<0)) (a.1.natAbs:Int) a.2),.si .i64 0]⟩
theorem h451:Holds Tryz.prog L9:=by
 refine cF (L:=[Es,Az]) L9 lk (by grind[h127,h151]) ?_;rintro⟨n,d⟩ ⟨⟨u,w⟩,q,r⟩;simp only at u w q r;refine bN (let e:=(-9223372036854775808:Int);let h:=(9223372036854775807:Int);let k:=(0:Int);let l:=Φ;let g:=cG (↑n.natAbs:Int);let b:=cG (↑d.natAbs:Int);let f:=bu (fK (!decide (n<k)==decide (d<k)) (bn g) (bn b));let a:=bk.i .u32;let j:=[Θ .i64 0];let c:=bu (fK (decide (n<k)) (↑n.natAbs:Int) d);(e<=n/\n<=h)/\(e<=d/\d<=h)/\((bA g/\bA b)/\(g.length<=1000000000/\b.length<=1000000000)/\k<bn b)/\(SV.bH (SV.agg [γD f.fst,l a f.snd.fst,l a f.snd.snd]::j)).same (SV.bH (SV.agg [γD c.fst,l a c.snd.fst,l a c.snd.snd]::j))) (by kernel_rfl) ?_;simp only[vcs];obtain⟨v,s,t⟩:=gm (show(0:Int)<=(n.natAbs:Int) by omega);obtain⟨o,l,h⟩:=gm (show(0:Int)<=(d.natAbs:Int) by omega);have x:=mX (k:=2) (show(0:Int)<=(n.natAbs:Int) by omega) (by omega);have p:=mX (k:=2) (show(0:Int)<=(d.natAbs:Int) by omega) (by omega);have e:(d.natAbs:Int)=d:=by omega
 have m:(!(decide (n<0)==decide (d<0)))=decide (n<0):=by
  grind
 rw[m,v,o,e];rw[e] at l h p;repeat' refine And.intro ?_ ?_
 all_goals first|omega|exact s|exact l|exact t|exact h|rfl
def pB (x:List bO):Prop:=∃l,x=fL l/\x.length<=1000000/\∀q∈l,Sz 1000 q
theorem afL (q:Rat):q.den=1↔(bu q).2.2=[1]:=by
 have c:cG 1=[1]:=by decide
 constructor
 ·intro h;show cG (q.den:Int)=[1];simp_all
 ·intro h;have a:=(gm (show(0:Int)<=(q.den:Int) by omega)).1;have b:cG (q.den:Int)=[1]:=h;grind[bn]
theorem Vy (q:Rat):okF (bu q)=true:=decide_eq_true (by rw[fb])
def Mc:bL:=⟨118,List bO,.one (dW sF),pB,λx=> .sb (ng (vL x))⟩
def afM (x:List bO):Nat->cB
 |2=> .inv Int (λi=>⟨[(5,.row sF x),(6,.si .i64 x.length),(7,.si .i64 i)],[]⟩)
   (λs=>iS s 7) (λi=>(0<=i/\i<=x.length)/\ng ((vL x).take i.toNat)=true) (λi=>(x.length - i).toNat) λ_ _=> .look
 |_=> .look
theorem h445:Holds Tryz.prog Mc:=by
 refine cF (L:=[yl]) Mc afM (by grind[h407]) ?_;rintro(x:List bO) ⟨l,v,G,H⟩;refine bN (let c:=(0:Int);let d:=Θ .i64;let f:=δo false;let h:=Φ;let i:=(1:Int);let b:=(↑x.length:Int);let w:=d b;((((h sF x).same (h sF x)/\(d (↑x.length:Int)).same w/\(γp .i64 0).same (d 0)/\True)/\True)/\(c<=c/\c<=b)/\ng []=true)/\∀(a:Int),let p:=bj x a.toNat sF.dflt;let e:=p.snd.snd;let C:=(↑(γn e):Int);let r:=γD (ng (vL x));let g:=a+i;let o:=d g;let A:=λ(u:Bool) ↦decide (bj e 0 c≠i)=u;let D:=λ(u:Bool) ↦decide (C≠i)=u;let E:=λ(u:Bool) ↦(!okF (p.fst,p.snd.fst,e))=u;(c<=a/\a<=b)/\ng (γa a.toNat (vL x))=true->(decide (a<b)=true->c<=a/\a<(↑x.length:Int)/\a.toNat<x.length/\((bA p.snd.fst/\bA e)/\γn p.snd.fst<=1000000/\γn e<=1000000)/\(E true->(f).same r)/\(E false->(D true->(f).same r)/\(D false->c<=c/\c<C/\0<γn e/\(A true->(f).same r)/\(A false->bV .i64 g/\(((h sF x).same (h sF x)/\w.same w/\o.same o/\True)/\True)/\((c<=g/\g<=b)/\ng (γa g.toNat (vL x))=true)/\(b - g).toNat<(b - a).toNat))))/\(decide (a<b)=false->(δo true).same r)) (by kernel_rfl) ?_;simp only[vcs];subst v;rw[fQ] at G ⊢;rw[mA];have s:∀k:Nat,((k:Nat):Int).toNat=k:=λk=>γk k;refine⟨⟨⟨by omega,by omega⟩,rfl⟩,?_⟩;rintro i ⟨⟨z,T⟩,c⟩;refine⟨λy=>?_,λy=>?_⟩
 ·have J:bj (fL l) i.toNat sF.dflt=bu (bj l i.toNat 0):=jv (by omega);have B:=cK (d:=0) (show i.toNat<l.length by omega);have N:=H _ B;have K:=jo (d:=0) z y;rw[J];generalize bj l i.toNat 0=q at*;obtain⟨_,⟨I,U,V⟩,⟨M,P,W⟩⟩:=nJ q;obtain⟨R,S⟩:=qW N;have m:=afL q;have j:q.den≠1->false=ng l:=λQ=>by
   refine(εk.2 λf=>?_).symm;have:=Ξ.1 f _ B;simp_all
  have t:=Vy q;refine⟨z,y,by omega,⟨⟨I,M⟩,by omega,by omega⟩,λh=>absurd t (by simp_all),λ_=>⟨λh=>j λf=>h ?_,λh=>⟨by omega,by omega,by omega,λf=>j λO=>f ?_,λf=>⟨by omega,⟨by omega,?_⟩,by omega⟩⟩⟩⟩;·simp_all
  ·rw[(m.1 O)];rfl
  ·rw[K];unfold ng at c ⊢;rw[List.all_append,c];have:q.den=1:=m.2 (by
    have n:(bu q).2.2.length=1:=by omega
    have F:bj (bu q).2.2 0 0=1:=ω.1 f;match v:(bu q).2.2,n with
    |[x],_=>
     rw[v] at F;have:x=1:=F;rw[this]);simp[this]
 grind
end Go.Vi

/-
  Contracts: pivot.
  Conditions: none.
-/
import Derived.Test.YtjcmncmajmoiiaaGreatTX06
import Derived.Test.YtjcmncmajmoiiaaGreatTX07
import Derived.Test.YtjcmncmajmoiiaaGreatTX09
import Derived.Test.YtjcmncmajmoiiaaGreatTX10
import Derived.Test.YtjcmncmajmoiiaaGreatTX11
import Derived.Test.YtjcmncmajmoiiaaGreatTX08
set_option maxRecDepth 100000
set_option maxHeartbeats 4000000
set_option linter.all false
open Bool renaming and_eq_true->θ
open Go.Vi.AV renaming sl->ζ2,sc->δj,os->ζ5
open Go.Vi.SV renaming si->γe,row->Φ,ow->γ8,sb->γI,il->γq,ptr->γW,bl->δs
open Int renaming toNat_natCast->γz
open IntCast renaming intCast->Ω
open List renaming range->τ,ext_getElem->δb,getElem_map->εy,replicate->ε,length_map->γx,mem_map->γf,take->γd,length->γo,take_length->χ,all_eq_true->Θ,map->γh,length_replicate->γS,length_take->Ξ,map_append->γa,length_set->γb,map_map->δo,flatMap->ζV,elem->ζJ,getElem_of_mem->δa,mem_append_left->δ7,mem_append->ω,map_cons->ι,sum_cons->δ0,perm_ext_iff_of_nodup->δU,filter_sublist->δn,sum_append->ζ1,getElem?_set_ne->δJ
namespace Go.Vi
open Go.Proofs.YtjcmncmajmoiiaaGreat.Ir
open Go.Proofs
def r408:cV:=ui 217 (Int×Int) (.cons (ez .i64) (.one (ez .i64))) (λn m t a=>(0<=a.1/\a.1<m)/\(0<=a.2/\a.2<n)/\t.cf a.1.toNat a.2.toNat≠0) (λ_ _ _ _=> .bH []) (λ_ _ t a=>fF t a.1.toNat a.2.toNat)
def o6 (l:List Rat) (q:Rat):List Rat:=l.map λx=>x*q
def fC (q:Rat):bq:=.cells [.sb (bu q).1,.row (.i .u32) (bu q).2.1,.row (.i .u32) (bu q).2.2] 157 3 false
def iO {a:Type} (f g:Nat->a) (n r i:Nat):List a:=(τ n).map λk=>if k<i/\k≠r then g k else f k
theorem vV {a:Type} {f g:Nat->a} {n r i:Nat}:(iO f g n r i).length=n:=by simp[iO]
theorem Ub {a:Type} {l:List a} {g:Nat->a} {r:Nat} {d:a}:iO (λk=>bj l k d) g l.length r 0=l:=by
 refine δb vV λi b c=>?_
 grind[iO,bj]
theorem Uc {a:Type} {f g:Nat->a} {n r i:Nat} {d:a} (h:i<n):bj (iO f g n r i) i d=f i:=by
 grind[iO,qE]
theorem Ud {a:Type} {f g:Nat->a} {n r i:Nat} (h:i<n) (d:i≠r):(iO f g n r i).set i (g i)=iO f g n r (i+1):=by
 refine δb (by simp[iO]) λk b c=>?_
 grind[iO]
theorem Ue {a:Type} {f g:Nat->a} {n r:Nat}:iO f g n r (r+1)=iO f g n r r:=by
 grind[iO]
theorem Uf {a:Type} {f g:Nat->a} {n r:Nat} {x:a} (h:r<n):(iO f g n r n).set r x=(τ n).map λk=>if k=r then x else g k:=by
 refine δb (by simp[iO]) λk b c=>?_
 grind[iO]
theorem Ug {l:List (List Rat)} {i:Nat} {x:List Rat}:(fM l).set i (fL x)=fM (l.set i x):=by
 simp_all[fM]
theorem adH {l:List Rat} {c:Nat} (h:c<l.length):(fL (o6 l (1 / bj l c 0))).set c (bu (1 / bj l c 0))=fL (kE l c):=by
 rw[yp]
 congr 1
 refine δb (by simp[o6,kE]) λk d e=>?_
 have b:k<l.length:=by grind[kE]
 rw[List.getElem_set];simp only[o6,kE,εy,List.getElem_range]
 by_cases a:c=k
 ·simp_all
 ·rw[if_neg a,if_neg λh=>a h.symm,cO (i:=k) b]
def kW (t:Tb) (r c i:Nat):Tb:={t with
 ca:=iO (λk=>bj t.ca k []) (λk=>j5 (bj t.ca k []) c (kE (bj t.ca r []) c)) t.ca.length r i
 bound:=iO t.bd (λk=>t.bd k - t.cf k c*(t.bd r*(1 / t.cf r c))) t.bound.length r i}
theorem adI {t:Tb} {r c:Nat}:kW t r c 0=t:=by
 unfold kW
 have b:=@Ub (List Rat) t.ca (λk=>j5 (bj t.ca k []) c (kE (bj t.ca r []) c)) r []
 have d:=@Ub Rat t.bound (λk=>t.bd k - t.cf k c*(t.bd r*(1 / t.cf r c))) r 0
 have a:iO t.bd (λk=>t.bd k - t.cf k c*(t.bd r*(1 / t.cf r c))) t.bound.length r 0=t.bound:=d
 rw[b,a]
def adJ (n m:Int) (t:Tb) (r c:Int):Nat->cB
 |3=> .inv Int (λj=>⟨[(0,.ptr 0 0 10),(1,.si .i64 r),(2,.si .i64 c),(6,.ptr 5 0 3),(8,.ow 6 n.toNat 3),(41,.row sF (fL (bj t.ca r.toNat []))),(42,.si .i64 n),(43,.si .i64 j)],
   (bG n m t).gA++[fC (1 / t.cf r.toNat c.toNat),.row sF (fj (fL (o6 (bj t.ca r.toNat []) (1 / t.cf r.toNat c.toNat))) j.toNat (false,([],[]))) 157 true]⟩)
   (λs=>iS s 43) (λj=>0<=j/\j<=n) (λj=>(n - j).toNat) λ_ _=> .look
 |10=> .inv Int (λi=>⟨[(0,.ptr 0 0 10),(1,.si .i64 r),(2,.si .i64 c),(8,.row sF (fL (kE (bj t.ca r.toNat []) c.toNat))),(11,.ptr 7 0 3),(72,.si .i64 m),(73,.si .i64 i)],
   (bG n m (kW t r.toNat c.toNat i.toNat)).gA++[fC (1 / t.cf r.toNat c.toNat),.dead,fC (t.bd r.toNat*(1 / t.cf r.toNat c.toNat))]⟩)
   (λs=>iS s 73) (λj=>0<=j/\j<=m) (λj=>(m - j).toNat) λ_ _=> .look
 |_=> .look
theorem h408:dK Tryz.prog r408:=by
 refine jk (L:=[qB,DZ,DY,r417,Ac]) (W:=[]) r408 (λa=>adJ a.1.n a.1.m a.1.t a.2.1 a.2.2) (by simp) (by simpa using⟨h94,h416,h410,h417,h129⟩) ?_
 rintro⟨x,r,c⟩ ⟨n,m,t,hx,hok,⟨r0,r1⟩,⟨c0,c1⟩,ha⟩
 simp only at hx r0 r1 c0 c1 ha
 subst hx
 refine bR (let a:=γe .i64;let d:=bq.row;let e:=(0:Int);let f:=Φ;let g:=γ8;let h:=bq.cells;let j:=γI;let k:=(1:Int);let o:=sF.dflt;let s:=γq .i64 0;let w:=γW;let K:=(bG n m t).ca;let a0:=bj K r.toNat sF.bK.dflt;let af:=bu (Ω k);let aB:=(af.fst,af.snd.fst,af.snd.snd);let ag:=bj a0 c.toNat o;let ah:=(ag.fst,ag.snd.fst,ag.snd.snd);let Q:=(↑(bG n m t).k4:Int);let L:=w 0 0 10;let a3:=w 5 0 3;let A:=(bG n m t).n;let ai:=g 6 A.toNat 3;let M:=(bG n m t).t;let S:=bj M.ca r.toNat [];let aj:=f sF (fL S);let a4:=a A;let G:=(bG n m t).m;let a5:=a G;let z:=bn.i .u32;let B:=bG A G M;let a6:=h [a B.n,a B.m,g 1 B.k0 1,g 2 B.k1 3,f sF B.cost,j B.v.fst,f z B.v.snd.fst,f z B.v.snd.snd,g 3 B.k3 1,g 4 B.k4 1] 267 10 false;let a7:=d sF.bK B.ca 91 false;let a8:=d sF B.bound 157 false;let C:=bn.i .i64;let a9:=d C B.basic 3 false;let aa:=d C B.free 3 false;let ak:=bu (cj aB / cj ah);let N:=(1:Rat) / M.cf r.toNat c.toNat;let R:=h [j (bu N).fst,f z (bu N).snd.fst,f z (bu N).snd.snd] 157 3 false;let ab:=(false,[],[]);let al:=fL (o6 S N);let T:=((bu N).fst,(bu N).snd.fst,(bu N).snd.snd);let ac:=B.bound.length;let am:=bj B.bound r.toNat o;let aC:=(am.fst,am.snd.fst,am.snd.snd);let U:=fL (kE S c.toNat);let an:=f sF U;let ad:=w 7 0 3;let D:=bG A G (kW M r.toNat c.toNat 0);let ao:=bu (cj aC*cj T);let V:=bu (M.bd r.toNat*N);let ap:=h [j V.fst,f z V.snd.fst,f z V.snd.snd] 157 3 false;let W:=(V.fst,V.snd.fst,V.snd.snd);let E:=bG A G (fF M r.toNat c.toNat);((-9223372036854775808:Int)<=k/\k<=(9223372036854775807:Int))/\(bG n m t).k0=K.length/\e<=r/\r<(↑K.length:Int)/\(bG n m t).k0=K.length/\r.toNat<K.length/\e<=c/\c<(↑a0.length:Int)/\c.toNat<a0.length/\((cY aB/\cY ah)/\cj ah≠(0:Rat))/\e<=Q/\Q<=Q/\Q*(56:Int)<=(140737488355328:Int)/\Q<=(1000000000000:Int)/\(bG n m t).k0=K.length/\e<=r/\r<(↑K.length:Int)/\(bG n m t).k0=K.length/\r.toNat<K.length/\(((L.same L/\(a r).same (a r)/\(a c).same (a c)/\a3.same a3/\(g 6 Q.toNat 3).same ai/\(f sF a0).same aj/\(a (↑a0.length:Int)).same a4/\(s).same (a 0)/\True)/\(h [a4,a5,g 1 (bG n m t).k0 1,g 2 (bG n m t).k1 3,f sF (bG n m t).cost,j (bG n m t).v.fst,f z (bG n m t).v.snd.fst,f z (bG n m t).v.snd.snd,g 3 (bG n m t).k3 1,g 4 (bG n m t).k4 1] 267 10 false).same a6/\(d sF.bK K 91 false).same a7/\(d sF (bG n m t).bound 157 false).same a8/\(d C (bG n m t).basic 3 false).same a9/\(d C (bG n m t).free 3 false).same aa/\(h [j ak.fst,f z ak.snd.fst,f z ak.snd.snd] 157 3 false).same R/\(d (bn.b.pair (z.bK.pair z.bK)) (ε Q.toNat ab) 157 true).same (d sF (fj al 0 ab) 157 true)/\True)/\e<=e/\e<=A)/\∀(x:Int),let aq:=bj (fL S) x.toNat o;let aD:=(aq.fst,aq.snd.fst,aq.snd.snd);let ae:=fj al x.toNat ab;let O:=ae.length;let X:=x+k;let aE:=a X;let ar:=bu (cj aD*cj T);e<=x/\x<=A->(decide (x<A)=true->e<=x/\x<(↑(fL S).length:Int)/\x.toNat<(fL S).length/\(cY aD/\cY T)/\A.toNat=O/\e<=x/\x<(↑O:Int)/\A.toNat=O/\x.toNat<O/\bX .i64 X/\((L.same L/\(a r).same (a r)/\(a c).same (a c)/\a3.same a3/\ai.same ai/\aj.same aj/\a4.same a4/\aE.same aE/\True)/\a6.same a6/\a7.same a7/\a8.same a8/\a9.same a9/\aa.same aa/\R.same R/\(d sF (ae.set x.toNat (ar.fst,ar.snd.fst,ar.snd.snd)) 157 true).same (d sF (fj al X.toNat ab) 157 true)/\True)/\(e<=X/\X<=A)/\(A - X).toNat<(A - x).toNat)/\(decide (x<A)=false->A.toNat=O/\e<=c/\c<(↑O:Int)/\A.toNat=O/\c.toNat<O/\B.k1=ac/\e<=r/\r<(↑ac:Int)/\B.k1=ac/\r.toNat<ac/\(cY aC/\cY T)/\A.toNat=(ae.set c.toNat T).length/\(((L.same L/\(a r).same (a r)/\(a c).same (a c)/\(f sF (ae.set c.toNat T)).same an/\ad.same ad/\(a (↑B.k0:Int)).same a5/\(s).same (a 0)/\True)/\a6.same (h [a D.n,a D.m,g 1 D.k0 1,g 2 D.k1 3,f sF D.cost,j D.v.fst,f z D.v.snd.fst,f z D.v.snd.snd,g 3 D.k3 1,g 4 D.k4 1] 267 10 false)/\a7.same (d sF.bK D.ca 91 false)/\a8.same (d sF D.bound 157 false)/\a9.same (d C D.basic 3 false)/\aa.same (d C D.free 3 false)/\R.same R/\bq.dead.same bq.dead/\(h [j ao.fst,f z ao.snd.fst,f z ao.snd.snd] 157 3 false).same ap/\True)/\e<=e/\e<=G)/\∀(x:Int),let y:=bG A G (kW M r.toNat c.toNat x.toNat);let aF:=a y.n;let aG:=a y.m;let aH:=g 1 y.k0 1;let aI:=g 2 y.k1 3;let Y:=y.cost;let aJ:=[g 3 y.k3 1,g 4 y.k4 1];let Z:=x+k;let F:=bG A G (kW M r.toNat c.toNat Z.toNat);let J:=y.basic;let aK:=a Z;let a1:=y.ca;let H:=a1.length;let a2:=y.bound;let I:=a2.length;let au:=bj a1 x.toNat sF.bK.dflt;let av:=bj a2 x.toNat o;let aL:=(av.fst,av.snd.fst,av.snd.snd);let aw:=bu (cj aL - bj (vL au) c.toNat (0:Rat)*cj W);let ax:=(y.v.fst,y.v.snd.fst,y.v.snd.snd);let ay:=bj Y c.toNat o;let aM:=(ay.fst,ay.snd.fst,ay.snd.snd);let az:=bu (cj aM*cj W);let aN:=(az.fst,az.snd.fst,az.snd.snd);let P:=y.free.length;let aA:=bu (cj ax+cj aN);let aP:=(h (aF::aG::aH::aI::f sF Y::j y.v.fst::f z y.v.snd.fst::f z y.v.snd.snd::aJ) 267 10 false).same (h [a F.n,a F.m,g 1 F.k0 1,g 2 F.k1 3,f sF F.cost,j F.v.fst,f z F.v.snd.fst,f z F.v.snd.snd,g 3 F.k3 1,g 4 F.k4 1] 267 10 false);let aQ:=(d C J 3 false).same (d C F.basic 3 false)/\(d C y.free 3 false).same (d C F.free 3 false)/\R.same R/\bq.dead.same bq.dead/\ap.same ap/\True;let aO:=λ(u u_1:bq) ↦bX .i64 Z/\((L.same L/\(a r).same (a r)/\(a c).same (a c)/\an.same an/\ad.same ad/\a5.same a5/\aK.same aK/\True)/\aP/\u.same (d sF.bK F.ca 91 false)/\u_1.same (d sF F.bound 157 false)/\aQ)/\(e<=Z/\Z<=G)/\(G - Z).toNat<(G - x).toNat;e<=x/\x<=G->(decide (x<G)=true->(decide (x≠r)=true->y.k0=H/\e<=x/\x<(↑H:Int)/\y.k0=H/\x.toNat<H/\y.k1=I/\e<=x/\x<(↑I:Int)/\y.k1=I/\x.toNat<I/\(∃(l:List Rat),∃(b:Rat),∃(p:List Rat),∃(pb:Rat),(au=fL l/\aL=bu b/\U=fL p/\W=bu pb)/\(l.length=p.length/\l.length<=1000)/\(e<=c/\c<(↑l.length:Int))/\(∀(q:Rat),q∈l->Sz 10000000 q)/\(∀(q:Rat),q∈p->Sz 10000000 q)/\Sz 10000000 b/\Sz 10000000 pb)/\y.k0=H/\e<=x/\x<(↑H:Int)/\y.k0=H/\x.toNat<H/\y.k1=I/\e<=x/\x<(↑I:Int)/\y.k1=I/\x.toNat<I/\aO (d sF.bK (a1.set x.toNat (fL (j5 (vL au) c.toNat (vL U)))) 91 false) (d sF (a2.set x.toNat (aw.fst,aw.snd.fst,aw.snd.snd)) 157 false))/\(decide (x≠r)=false->aO (d sF.bK a1 91 false) (d sF a2 157 false)))/\(decide (x<G)=false->e<=c/\c<(↑Y.length:Int)/\c.toNat<Y.length/\(∃(l:List Rat),∃(b:Rat),∃(p:List Rat),∃(pb:Rat),(Y=fL l/\ax=bu b/\U=fL p/\W=bu pb)/\(l.length=p.length/\l.length<=1000)/\(e<=c/\c<(↑l.length:Int))/\(∀(q:Rat),q∈l->Sz 10000000 q)/\(∀(q:Rat),q∈p->Sz 10000000 q)/\Sz 10000000 b/\Sz 10000000 pb)/\(cY aM/\cY W)/\(cY ax/\cY aN)/\y.k0=H/\e<=r/\r<(↑H:Int)/\y.k0=H/\r.toNat<H/\y.k1=I/\e<=r/\r<(↑I:Int)/\y.k1=I/\r.toNat<I/\y.k4=P/\e<=c/\c<(↑P:Int)/\y.k4=P/\c.toNat<P/\y.k3=J.length/\e<=r/\r<(↑J.length:Int)/\y.k3=J.length/\r.toNat<J.length/\y.k3=J.length/\e<=r/\r<(↑J.length:Int)/\y.k3=J.length/\r.toNat<J.length/\y.k4=P/\e<=c/\c<(↑P:Int)/\y.k4=P/\c.toNat<P/\(SV.bH []).same (SV.bH [])/\(h (aF::aG::aH::aI::f sF (fL (j5 (vL Y) c.toNat (vL U)))::j aA.fst::f z aA.snd.fst::f z aA.snd.snd::aJ) 267 10 false).same (h [a E.n,a E.m,g 1 E.k0 1,g 2 E.k1 3,f sF E.cost,j E.v.fst,f z E.v.snd.fst,f z E.v.snd.snd,g 3 E.k3 1,g 4 E.k4 1] 267 10 false)/\(d sF.bK (a1.set r.toNat U) 91 false).same (d sF.bK E.ca 91 false)/\(d sF (a2.set r.toNat W) 157 false).same (d sF E.bound 157 false)/\(d C (J.set r.toNat (bj y.free c.toNat e)) 3 false).same (d C E.basic 3 false)/\(d C (y.free.set c.toNat (bj J r.toNat e)) 3 false).same (d C E.free 3 false)/\True))) (by kernel_rfl) ?_
 conv=>zeta
 try simp only[sJ]
 try simp only[bG]
 try simp only[vcs]
 obtain⟨⟨⟨n0,n1⟩,m0,m1⟩,hw,hz⟩:=id hok
 have hkl:=hw.ca
 have hbl:=hw.bound
 have hbb:=hw.basic
 have hfl:=hw.free
 have hcl:=hw.cost
 have hfm:=@JA t.ca
 have yU:=@fJ t.bound
 have hrl:=hw.row r.toNat (by omega)
 have hcast:∀k:Nat,((k:Nat):Int).toNat=k:=λk=>γz k
 have h1:(Ω 1:Rat)=1:=rfl
 have hR:bj (fM t.ca) r.toNat sF.bK.dflt=fL (bj t.ca r.toNat []):=JB (by omega)
 have hA:bj (fL (bj t.ca r.toNat [])) c.toNat sF.dflt=bu (t.cf r.toNat c.toNat):=jm (by omega)
 have hB:bj (fL t.bound) r.toNat sF.dflt=bu (t.bd r.toNat):=jm (by omega)
 simp only[hR,hA,hB,kF,eW,hcast,h1]
 have hsA:=hok.cf (i:=r.toNat) (j:=c.toNat) (by omega) (by omega)
 have hsB:=hok.bd (i:=r.toNat) (by omega)
 have s1:Sz 1 (1:Rat):=by unfold Sz;decide
 have hsI:=Jn s1 hsA ha
 have hsP:=Ad hsB hsI
 have hfr:=@fJ (bj t.ca r.toNat [])
 have hsl:(o6 (bj t.ca r.toNat []) (1 / t.cf r.toNat c.toNat)).length=n.toNat:=by unfold o6;rw[γx];exact hrl
 have hfs:=@fJ (o6 (bj t.ca r.toNat []) (1 / t.cf r.toNat c.toNat))
 have hrow:∀{x y:List bO},x=y->(bq.row sF x 157 true).same (bq.row sF y 157 true):=by rintro _ _ rfl;rfl
 refine⟨by omega,by omega,r0,by omega,by omega,by omega,c0,by omega,by omega,⟨⟨ei s1 (by omega),ei hsA (by omega)⟩,ha⟩,by omega,by omega,by omega,by omega,by omega,r0,by omega,by omega,by omega,⟨⟨⟨by rw[hfl];rfl,trivial,by omega⟩,rfl,hrow (by rw[AL,hfs,hsl,hfl])⟩,by omega,by omega⟩,?_⟩
 rintro j ⟨j0,j1⟩
 have ox:=@AK (fL (o6 (bj t.ca r.toNat []) (1 / t.cf r.toNat c.toNat))) j.toNat (false,([],[])) (by omega)
 refine⟨λhj=>?_,λhj=>?_⟩
 ·have hL:bj (fL (bj t.ca r.toNat [])) j.toNat sF.dflt=bu (t.cf r.toNat j.toNat):=jm (by omega)
  have hS:bj (fL (o6 (bj t.ca r.toNat []) (1 / t.cf r.toNat c.toNat))) j.toNat (false,([],[]))=bu (t.cf r.toNat j.toNat*(1 / t.cf r.toNat c.toNat)):=by
   rw[jm (by omega),cO (by omega)]
   unfold o6 Tb.cf
   rw[εy,cO (l:=bj t.ca r.toNat []) (i:=j.toNat) (by omega)]
  simp only[hL,eW]
  refine⟨j0,by omega,by omega,⟨ei (hok.cf (by omega) (by omega)) (by omega),ei hsI (by omega)⟩,by omega,j0,by omega,by omega,by omega,by omega,hrow ?_,by omega,by omega⟩
  rw[AP (by omega) hS.symm,show(j+1).toNat=j.toNat+1 by omega]
 ·have hset:(fj (fL (o6 (bj t.ca r.toNat []) (1 / t.cf r.toNat c.toNat))) j.toNat (false,([],[]))).set c.toNat (bu (1 / t.cf r.toNat c.toNat))=fL (kE (bj t.ca r.toNat []) c.toNat):=by
   rw[show j.toNat=(fL (o6 (bj t.ca r.toNat []) (1 / t.cf r.toNat c.toNat))).length by omega,AO]
   exact adH (by omega)
  have hpl:(kE (bj t.ca r.toNat []) c.toNat).length=n.toNat:=by rw[RV];exact hrl
  have hfp:=@fJ (kE (bj t.ca r.toNat []) c.toNat)
  simp only[hset,adI]
  have Uh:∀q∈kE (bj t.ca r.toNat []) c.toNat,Sz 10000000 q:=λq hq=>by
   obtain⟨k,hk,rfl⟩:=γf.1 hq
   rw[List.mem_range] at hk;split
   ·exact hsI.mono (by omega)
   ·exact(Ad (hok.cf (i:=r.toNat) (j:=k) (by omega) (by omega)) hsI).mono (by omega)
  refine⟨by omega,c0,by omega,by omega,by omega,by omega,r0,by omega,by omega,by omega,⟨ei hsB (by omega),ei hsI (by omega)⟩,by omega,⟨⟨⟨trivial,by omega⟩,rfl,rfl,rfl,rfl,rfl,rfl⟩,by omega,by omega⟩,?_⟩
  rintro i ⟨i0,i1⟩
  have ekl:(kW t r.toNat c.toNat i.toNat).ca.length=m.toNat:=by show(iO _ _ _ _ _).length=_;rw[vV];exact hkl
  have ebl:(kW t r.toNat c.toNat i.toNat).bound.length=m.toNat:=by show(iO _ _ _ _ _).length=_;rw[vV];exact hbl
  have efm:=@JA (kW t r.toNat c.toNat i.toNat).ca
  have efb:=@fJ (kW t r.toNat c.toNat i.toNat).bound
  have hfc:=@fJ t.cost
  have adM:∀{a b:Tb},a.ca.length=b.ca.length->a.bound.length=b.bound.length->a.cost=b.cost->a.value=b.value->a.basic.length=b.basic.length->a.free.length=b.free.length->
    (bq.cells [.si .i64 n,.si .i64 m,.ow 1 a.ca.length 1,.ow 2 a.bound.length 3,.row sF (fL a.cost),.sb (bu a.value).1,.row (.i .u32) (bu a.value).2.1,.row (.i .u32) (bu a.value).2.2,.ow 3 a.basic.length 1,.ow 4 a.free.length 1] 267 10 false).same
    (bq.cells [.si .i64 n,.si .i64 m,.ow 1 b.ca.length 1,.ow 2 b.bound.length 3,.row sF (fL b.cost),.sb (bu b.value).1,.row (.i .u32) (bu b.value).2.1,.row (.i .u32) (bu b.value).2.2,.ow 3 b.basic.length 1,.ow 4 b.free.length 1] 267 10 false):=λh1 h2 h3 h4 h5 h6=>by
   rw[h1,h2,h3,h4,h5,h6];rfl
  have Ui:∀{x y:List (List bO)},x=y->(bq.row sF.bK x 91 false).same (bq.row sF.bK y 91 false):=by rintro _ _ rfl;rfl
  have Uj:∀{x y:List bO},x=y->(bq.row sF x 157 false).same (bq.row sF y 157 false):=by rintro _ _ rfl;rfl
  have Uk:∀{x y:List Int},x=y->(bq.row (.i .i64) x 3 false).same (bq.row (.i .i64) y 3 false):=by rintro _ _ rfl;rfl
  refine⟨λhi=>⟨λhir=>?_,λhir=>?_⟩,λhi=>?_⟩
  ·have hRi:bj (fM (kW t r.toNat c.toNat i.toNat).ca) i.toNat sF.bK.dflt=fL (bj t.ca i.toNat []):=by
    rw[JB (by omega)]
    congr 1
    exact Uc (by omega)
   have hBi:bj (fL (kW t r.toNat c.toNat i.toNat).bound) i.toNat sF.dflt=bu (t.bd i.toNat):=by
    rw[jm (by omega)]
    congr 1
    exact Uc (by omega)
   have hli:=hw.row i.toNat (by omega)
   simp only[hRi,hBi,lV,eW]
   refine⟨by omega,i0,by omega,by omega,by omega,by omega,i0,by omega,by omega,by omega,⟨bj t.ca i.toNat [],t.bd i.toNat,kE (bj t.ca r.toNat []) c.toNat,t.bd r.toNat*(1 / t.cf r.toNat c.toNat),⟨rfl,rfl,rfl,rfl⟩,⟨by omega,by omega⟩,⟨c0,by omega⟩,λq hq=>?_,Uh,(hok.bd (by omega)).mono (by omega),hsP.mono (by omega)⟩,by omega,i0,by omega,by omega,by omega,by omega,i0,by omega,by omega,by omega,by omega,⟨adM ?_ ?_ rfl rfl rfl rfl,Ui ?_,Uj ?_,rfl,rfl⟩,by omega,by omega⟩
   ·exact(hz.1 _ (de (d:=[]) (by omega)) q hq).mono (by omega)
   ·show(iO _ _ _ _ _).length=(iO _ _ _ _ _).length
    rw[vV,vV]
   ·show(iO _ _ _ _ _).length=(iO _ _ _ _ _).length
    rw[vV,vV]
   ·rw[Ug,show(i+1).toNat=i.toNat+1 by omega]
    congr 1
    exact Ud (by omega) (by omega)
   ·rw[yp,show(i+1).toNat=i.toNat+1 by omega]
    congr 1
    exact Ud (f:=t.bd) (g:=λk=>t.bd k - t.cf k c.toNat*(t.bd r.toNat*(1 / t.cf r.toNat c.toNat))) (by omega) (by omega)
  ·have e:kW t r.toNat c.toNat (i+1).toNat=kW t r.toNat c.toNat i.toNat:=by
    rw[show(i+1).toNat=r.toNat+1 by omega,show i.toNat=r.toNat by omega]
    unfold kW;rw[Ue,Ue]
   rw[e]
   refine⟨?_,⟨rfl,rfl,rfl,rfl,rfl⟩,?_,?_⟩<;>omega
  ·have Ul:=hok.cs (j:=c.toNat) (by omega)
   have hC:bj (fL t.cost) c.toNat sF.dflt=bu (t.cs c.toNat):=jm (by omega)
   have hcc:(kW t r.toNat c.toNat i.toNat).cost=t.cost:=rfl
   have hvv:(kW t r.toNat c.toNat i.toNat).value=t.value:=rfl
   have hff:(kW t r.toNat c.toNat i.toNat).free=t.free:=rfl
   have hbs:(kW t r.toNat c.toNat i.toNat).basic=t.basic:=rfl
   simp only[hC,hcc,hvv,hff,hbs,lV,eW]
   refine⟨c0,by omega,by omega,⟨t.cost,t.value,kE (bj t.ca r.toNat []) c.toNat,t.bd r.toNat*(1 / t.cf r.toNat c.toNat),⟨rfl,rfl,rfl,rfl⟩,⟨by omega,by omega⟩,⟨c0,by omega⟩,λq hq=>(hz.2.2.1 q hq).mono (by omega),Uh,hz.2.2.2.mono (by omega),hsP.mono (by omega)⟩,⟨ei Ul (by omega),ei hsP (by omega)⟩,⟨ei hz.2.2.2 (by omega),ei (Ad Ul hsP) (by omega)⟩,
    by omega,r0,by omega,by omega,by omega,by omega,r0,by omega,by omega,by omega,c0,by omega,by omega,r0,by omega,by omega,r0,by omega,by omega,c0,by omega,by omega,?_,Ui ?_,Uj ?_,Uk rfl,Uk rfl⟩
   ·have hpw:=RX (r:=r.toNat) (c:=c.toNat) hw
    rw[ekl,ebl,hbb,hfl,hpw.ca,hpw.bound,hpw.basic,hpw.free];rfl
   ·rw[Ug,show i.toNat=t.ca.length by omega]
    congr 1
    exact Uf (by omega)
   ·rw[yp,show i.toNat=t.bound.length by omega]
    congr 1
    exact Uf (by omega)
def okO (n m:Nat) (t:Tb):Prop:=∃a M G,Small n m M G a/\Run n m a t/\j6 m t
theorem adQ {n m:Nat} {t:Tb} (h:okO n m t):eX n m (uu n m t) t=true:=by
 obtain⟨e,M,G,c,b,a⟩:=h
 have d:=Jz b a
 unfold uu
 grind
noncomputable def KG:cV:=ui 187 Unit .nil (λn m t _=>okO n.toNat m.toNat t) (λn m t _=> .bH [.si .i64 (if eh (lastT n.toNat m.toNat t) n.toNat<0 then 0 else eh (lastT n.toNat m.toNat t) n.toNat),.sb (decide (eh (lastT n.toNat m.toNat t) n.toNat<0))]) (λn m t _=>lastT n.toNat m.toNat t)
def tS (t:Tb) (s:cn):Tb:=match D7 s.o with
 |some x=>x.t
 |none=>t
noncomputable def adS (n m:Int) (t:Tb):Nat->cB
 |1=> .inv Tb (λx=>⟨[(0,.ptr 0 0 10)],(bG n m x).gA⟩) (tS t) (λx=>okO n.toNat m.toNat x/\lastT n.toNat m.toNat x=lastT n.toNat m.toNat t/\eX n.toNat m.toNat (uu n.toNat m.toNat t) x=true) (λx=>x9 n.toNat m.toNat (uu n.toNat m.toNat t) x) λ_ _=> .look
 |_=> .look
theorem adT {n m:Int} {t:Tb} (h:okO n.toNat m.toNat t) (e:0<=n/\n<=1000) (f:0<=m/\m<=1000):kG n m t:=by
 obtain⟨c,M,G,a,b,d⟩:=h
 grind[TR]
theorem h402:dK Tryz.prog KG:=by
 refine jk (L:=[]) (W:=[JD,JE,r408]) KG (λa=>adS a.1.n a.1.m a.1.t) (by simpa using⟨h411,h412,h408⟩) (by simp) ?_
 rintro⟨x,u⟩ ⟨n,m,t,hx,hok,hd⟩
 simp only at hx hd
 subst hx
 refine bR (let a:=bq.row;let b:=γe .i64;let c:=γ8;let d:=Φ;let e:=bq.cells;let f:=(0:Int);let g:=γI;let h:=SV.bH;let I:=γW 0 0 10;let D:=(bG n m t).n;let E:=(bG n m t).m;let r:=bn.i .u32;let F:=(bG n m t).t;let l:=bG D E F;let o:=bn.i .i64;let k:=D.toNat;let s:=E.toNat;let B:=lastT k s F;let G:=uu k s F;let K:=h [b (if eh B k<f then f else eh B k),g (decide (eh B k<f))];let p:=bG D E B;let L:=e [b p.n,b p.m,c 1 p.k0 1,c 2 p.k1 3,d sF p.cost,g p.v.fst,d r p.v.snd.fst,d r p.v.snd.snd,c 3 p.k3 1,c 4 p.k4 1] 267 10 false;let M:=a sF.bK p.ca 91 false;let N:=a sF p.bound 157 false;let O:=a o p.basic 3 false;let P:=a o p.free 3 false;(((I.same I/\True)/\(e [b D,b E,c 1 (bG n m t).k0 1,c 2 (bG n m t).k1 3,d sF (bG n m t).cost,g (bG n m t).v.fst,d r (bG n m t).v.snd.fst,d r (bG n m t).v.snd.snd,c 3 (bG n m t).k3 1,c 4 (bG n m t).k4 1] 267 10 false).same (e [b l.n,b l.m,c 1 l.k0 1,c 2 l.k1 3,d sF l.cost,g l.v.fst,d r l.v.snd.fst,d r l.v.snd.snd,c 3 l.k3 1,c 4 l.k4 1] 267 10 false)/\(a sF.bK (bG n m t).ca 91 false).same (a sF.bK l.ca 91 false)/\(a sF (bG n m t).bound 157 false).same (a sF l.bound 157 false)/\(a o (bG n m t).basic 3 false).same (a o l.basic 3 false)/\(a o (bG n m t).free 3 false).same (a o l.free 3 false)/\True)/\okO k s F/\B=B/\eX k s G F=true)/\∀(x:Tb),let y:=bG D E x;let z:=eh y.t y.n.toNat;let Q:=decide (z<f);let j:=bG y.n y.m y.t;let H:=dP j.t z.toNat j.m.toNat;let R:=decide (H<f);let C:=bG j.n j.m j.t;let S:=fF C.t H.toNat z.toNat;let A:=bG C.n C.m S;let q:=bG D E A.t;let T:=λ(u u_1:Int) (u_2 u_3:Tb) (u_4:bq) ↦let J:=bG u u_1 u_2;let U:=bG J.n J.m J.t;let w:=bG U.n U.m u_3;(e [b w.n,b w.m,c 1 w.k0 1,c 2 w.k1 3,d sF w.cost,g w.v.fst,d r w.v.snd.fst,d r w.v.snd.snd,c 3 w.k3 1,c 4 w.k4 1] 267 10 false).same u_4;okO k s x/\lastT k s x=B/\eX k s G x=true->(∃(n:Int),∃(m:Int),∃(t:Tb),y=bG n m t/\kG n m t/\True)/\(Q=true->(h [γq .i64 0,δs true]).same K/\(e [b j.n,b j.m,c 1 j.k0 1,c 2 j.k1 3,d sF j.cost,g j.v.fst,d r j.v.snd.fst,d r j.v.snd.snd,c 3 j.k3 1,c 4 j.k4 1] 267 10 false).same L/\(a sF.bK j.ca 91 false).same M/\(a sF j.bound 157 false).same N/\(a o j.basic 3 false).same O/\(a o j.free 3 false).same P/\True)/\(Q=false->(∃(n:Int),∃(m:Int),∃(t:Tb),j=bG n m t/\kG n m t/\f<=z/\z<n)/\(R=true->(h [b z,δs false]).same K/\T D E x j.t L/\(a sF.bK C.ca 91 false).same M/\(a sF C.bound 157 false).same N/\(a o C.basic 3 false).same O/\(a o C.free 3 false).same P/\True)/\(R=false->(∃(n:Int),∃(m:Int),∃(t:Tb),C=bG n m t/\kG n m t/\(f<=H/\H<m)/\(f<=z/\z<n)/\t.cf H.toNat z.toNat≠(0:Rat))/\0=0/\((I.same I/\True)/\T y.n y.m y.t S (e [b q.n,b q.m,c 1 q.k0 1,c 2 q.k1 3,d sF q.cost,g q.v.fst,d r q.v.snd.fst,d r q.v.snd.snd,c 3 q.k3 1,c 4 q.k4 1] 267 10 false)/\(a sF.bK A.ca 91 false).same (a sF.bK q.ca 91 false)/\(a sF A.bound 157 false).same (a sF q.bound 157 false)/\(a o A.basic 3 false).same (a o q.basic 3 false)/\(a o A.free 3 false).same (a o q.free 3 false)/\True)/\(okO k s A.t/\lastT k s A.t=B/\eX k s G A.t=true)/\x9 k s G A.t<x9 k s G x))) (by kernel_rfl) ?_
 simp only[ab2,sJ,SB,SC]
 try simp only[vcs]
 obtain⟨⟨hn,hm⟩,hw,hz⟩:=id hok
 refine⟨⟨hd,adQ hd⟩,?_⟩
 rintro x ⟨hx,hl,he⟩
 have EJ:=adT hx hn hm
 have hs:stepT n.toNat m.toNat x=if eh x n.toNat<0 then none else if dP x (eh x n.toNat).toNat m.toNat<0 then none else some (fF x (dP x (eh x n.toNat).toNat m.toNat).toNat (eh x n.toNat).toNat):=rfl
 have hwx:=EJ.2.1
 have fin:∀{y:Tb},y=lastT n.toNat m.toNat t->bG n m y=bG n m (lastT n.toNat m.toNat t):=by rintro _ rfl;rfl
 refine⟨⟨n,m,x,rfl,EJ⟩,λh0=>?_,λh0=>?_⟩
 ·rw[if_pos h0] at hs
  have e:=TW hs
  rw[hl] at e;rw[<-e] at h0 ⊢;rw[if_pos h0,decide_eq_true h0]
  exact⟨⟨rfl,rfl⟩,rfl,rfl,rfl,rfl,rfl⟩
 ·have h0':¬eh x n.toNat<0:=h0
  rw[if_neg h0'] at hs
  rcases @vI x n.toNat with⟨e1,e2⟩|⟨c,e1,e2,e3,e4⟩
  ·omega
  ·refine⟨⟨n,m,x,rfl,EJ,by omega,by omega⟩,λh1=>?_,λh1=>?_⟩
   ·rw[if_pos h1] at hs
    have e:=TW hs
    rw[hl] at e;rw[e,if_neg h0',decide_eq_false h0']
    exact⟨⟨rfl,rfl⟩,rfl,rfl,rfl,rfl,rfl⟩
   ·have h1':¬dP x (eh x n.toNat).toNat m.toNat<0:=h1
    rw[if_neg h1'] at hs
    rcases @vJ x (eh x n.toNat).toNat m.toNat with⟨l1,l2⟩|⟨r,l1,l2,l3,l4⟩
    ·omega
    ·refine⟨⟨n,m,x,rfl,EJ,⟨by omega,by omega⟩,⟨by omega,by omega⟩,?_⟩,?_⟩
     ·rw[l1,γz];grind
     ·obtain⟨t0,M,G,g1,g2,g3⟩:=hx
      have hsr:=Jx g2 g3 hs
      have adU:=Jz g2 g3
      refine⟨⟨⟨t0,M,G,g1,hsr.1,hsr.2⟩,?_,SA he hs⟩,left_step he hs⟩
      rw[adz adU hs,hl]
def gh (t:Tb) (n:Nat):Nat->List Rat
 |0=>ε n 0
 |k+1=>if t.bv k<n then(gh t n k).set (t.bv k).toNat (t.bd k) else gh t n k
def kK (t:Tb) (n m:Nat):Nat->List Rat
 |0=>ε m 0
 |k+1=>if(n:Int)<=t.fv k/\t.fv k<n+m then(kK t n m k).set (t.fv k - n).toNat (-(t.cs k)) else kK t n m k
theorem EK {t:Tb} {n:Nat}:∀{k:Nat},(gh t n k).length=n
 |0=>by simp[gh]
 |k+1=>by
  have:=@EK t n k
  grind[gh]
theorem Um {t:Tb} {n m:Nat}:∀{k:Nat},(kK t n m k).length=m
 |0=>by simp[kK]
 |k+1=>by
  have:=@Um t n m k
  grind[kK]
def EL:cV:=ui 188 Unit .nil (λ_ _ t _=>∀v∈t.basic,0<=v) (λn m t _=> .row sF (fL (gh t n.toNat m.toNat))) (λ_ _ t _=>t)
def adV (n m:Int) (t:Tb):Nat->cB
 |3=> .inv Int (λi=>⟨[(0,.ptr 0 0 10),(3,.ow 5 n.toNat 3),(14,.ow 3 t.basic.length 1),(15,.si .i64 t.basic.length),(16,.si .i64 i)],(bG n m t).gA++[.row sF (fL (gh t n.toNat i.toNat)) 157 false]⟩)
   (λs=>iS s 16) (λi=>0<=i/\i<=m) (λi=>(m - i).toNat) λ_ _=> .look
 |_=> .look
theorem h403:dK Tryz.prog EL:=by
 refine jk (L:=[]) (W:=[r413]) EL (λa=>adV a.1.n a.1.m a.1.t) (by simpa using h413) (by simp) ?_
 rintro⟨x,u⟩ ⟨n,m,t,hx,hok,hd⟩
 simp only at hx hd
 subst hx
 refine bR (let a:=bq.row;let b:=γe .i64;let c:=(0:Int);let d:=Φ;let e:=γ8;let p:=(bG n m t).n;let B:=γW 0 0 10;let g:=p.toNat;let C:=e 5 g 3;let J:=e 3 (bG n m t).k3 1;let k:=(bG n m t).t;let q:=k.basic.length;let G:=e 3 q 1;let H:=b (↑q:Int);let h:=(bG n m t).m;let D:=bn.i .u32;let f:=bG p h k;let r:=bq.cells [b f.n,b f.m,e 1 f.k0 1,e 2 f.k1 3,d sF f.cost,γI f.v.fst,d D f.v.snd.fst,d D f.v.snd.snd,e 3 f.k3 1,e 4 f.k4 1] 267 10 false;let s:=a sF.bK f.ca 91 false;let w:=a sF f.bound 157 false;let E:=bn.i .i64;let l:=f.basic;let y:=a E l 3 false;let z:=a E f.free 3 false;let F:=f.bound.length;(c<=p/\p<=(1000:Int))/\(((B.same B/\C.same C/\J.same G/\(b (↑(bG n m t).k3:Int)).same H/\(γq .i64 0).same (b 0)/\True)/\(bq.cells [b p,b h,e 1 (bG n m t).k0 1,e 2 (bG n m t).k1 3,d sF (bG n m t).cost,γI (bG n m t).v.fst,d D (bG n m t).v.snd.fst,d D (bG n m t).v.snd.snd,J,e 4 (bG n m t).k4 1] 267 10 false).same r/\(a sF.bK (bG n m t).ca 91 false).same s/\(a sF (bG n m t).bound 157 false).same w/\(a E (bG n m t).basic 3 false).same y/\(a E (bG n m t).free 3 false).same z/\(a sF (fL (ε g (0:Rat))) 157 false).same (a sF (fL (gh k g 0)) 157 false)/\True)/\c<=c/\c<=h)/\∀(x:Int),let o:=x+(1:Int);let K:=b o;let L:=decide (x<(↑q:Int));let A:=bj l x.toNat c;let M:=decide (A<f.n);let j:=fL (gh k g x.toNat);let I:=bj f.bound x.toNat sF.dflt;let N:=λ(u:bq) ↦bX .i64 o/\((B.same B/\C.same C/\G.same G/\H.same H/\K.same K/\True)/\r.same r/\s.same s/\w.same w/\y.same y/\z.same z/\u.same (a sF (fL (gh k g o.toNat)) 157 false)/\True)/\(c<=o/\o<=h)/\(h - o).toNat<(h - x).toNat;c<=x/\x<=h->(L=true->q=l.length/\c<=x/\x<(↑l.length:Int)/\q=l.length/\x.toNat<l.length/\(M=true->f.k1=F/\c<=x/\x<(↑F:Int)/\f.k1=F/\x.toNat<F/\g=j.length/\c<=A/\A<(↑j.length:Int)/\g=j.length/\A.toNat<j.length/\N (a sF (j.set A.toNat (I.fst,I.snd.fst,I.snd.snd)) 157 false))/\(M=false->N (a sF j 157 false)))/\(L=false->g=j.length/\(d sF j).same (d sF (fL (gh k g h.toNat)))/\r.same r/\s.same s/\w.same w/\y.same y/\z.same z/\True)) (by kernel_rfl) ?_
 simp only[sJ]
 try simp only[bG]
 simp only[vcs]
 obtain⟨⟨⟨n0,n1⟩,m0,m1⟩,hw,hz⟩:=id hok
 have hbb:=hw.basic
 have hbl:=hw.bound
 have yU:=@fJ t.bound
 have hbv:∀k:Nat,bj t.basic k 0=t.bv k:=λk=>rfl
 have hrow:∀{x y:List bO},x=y->(bq.row sF x 157 false).same (bq.row sF y 157 false):=by rintro _ _ rfl;rfl
 refine⟨⟨n0,n1⟩,⟨hrow rfl,by omega,by omega⟩,?_⟩
 rintro i ⟨i0,i1⟩
 have hpl:=@EK t n.toNat i.toNat
 have hfp:=@fJ (gh t n.toNat i.toNat)
 refine⟨λhi=>?_,λhi=>⟨by omega,by rw[show i.toNat=m.toNat by omega]⟩⟩
 have hv:=hd _ (Aj hw (show i.toNat<m.toNat by omega))
 have hB:bj (fL t.bound) i.toNat sF.dflt=bu (t.bd i.toNat):=jm (by omega)
 have hs:gh t n.toNat (i+1).toNat=if t.bv i.toNat<n.toNat then(gh t n.toNat i.toNat).set (t.bv i.toNat).toNat (t.bd i.toNat) else gh t n.toNat i.toNat:=by
  rw[show(i+1).toNat=i.toNat+1 by omega]
  rfl
 simp only[hbv,hB,kF,hs]
 refine⟨i0,hi,by omega,λhlt=>⟨by omega,i0,by omega,by omega,by omega,by omega,hv,by omega,by omega,by omega,by omega,hrow ?_,by omega,by omega⟩,λhlt=>⟨by omega,hrow ?_,by omega,by omega⟩⟩
 ·rw[yp,if_pos (by omega)]
 ·rw[if_neg (by omega)]
def EM:cV:=ui 190 Unit .nil (λ_ _ t _=>True) (λn m t _=> .row sF (fL (kK t n.toNat m.toNat n.toNat))) (λ_ _ t _=>t)
def adW (n m:Int) (t:Tb):Nat->cB
 |3=> .inv Int (λi=>⟨[(0,.ptr 0 0 10),(3,.ow 5 m.toNat 3),(14,.ow 4 t.free.length 1),(15,.si .i64 t.free.length),(16,.si .i64 i)],(bG n m t).gA++[.row sF (fL (kK t n.toNat m.toNat i.toNat)) 157 false]⟩)
   (λs=>iS s 16) (λi=>0<=i/\i<=n) (λi=>(n - i).toNat) λ_ _=> .look
 |_=> .look
theorem h405:dK Tryz.prog EM:=by
 refine jk (L:=[xQ]) (W:=[r413]) EM (λa=>adW a.1.n a.1.m a.1.t) (by simpa using h413) (by simpa using h130) ?_
 rintro⟨x,u⟩ ⟨n,m,t,hx,hok,hd⟩
 simp only at hx hd
 subst hx
 refine bR (let a:=bq.row;let b:=γe .i64;let c:=(0:Int);let d:=Φ;let e:=γ8;let f:=bX .i64;let A:=(bG n m t).m;let u:=γW 0 0 10;let k:=A.toNat;let w:=e 5 k 3;let M:=e 4 (bG n m t).k4 1;let y:=(bG n m t).t;let B:=y.free.length;let C:=e 4 B 1;let D:=b (↑B:Int);let h:=(bG n m t).n;let G:=bn.i .u32;let g:=bG h A y;let o:=bq.cells [b g.n,b g.m,e 1 g.k0 1,e 2 g.k1 3,d sF g.cost,γI g.v.fst,d G g.v.snd.fst,d G g.v.snd.snd,e 3 g.k3 1,e 4 g.k4 1] 267 10 false;let p:=a sF.bK g.ca 91 false;let q:=a sF g.bound 157 false;let H:=bn.i .i64;let r:=a H g.basic 3 false;let z:=g.free;let s:=a H z 3 false;let E:=h.toNat;(c<=A/\A<=(1000:Int))/\(((u.same u/\w.same w/\M.same C/\(b (↑(bG n m t).k4:Int)).same D/\(γq .i64 0).same (b 0)/\True)/\(bq.cells [b h,b A,e 1 (bG n m t).k0 1,e 2 (bG n m t).k1 3,d sF (bG n m t).cost,γI (bG n m t).v.fst,d G (bG n m t).v.snd.fst,d G (bG n m t).v.snd.snd,e 3 (bG n m t).k3 1,M] 267 10 false).same o/\(a sF.bK (bG n m t).ca 91 false).same p/\(a sF (bG n m t).bound 157 false).same q/\(a H (bG n m t).basic 3 false).same r/\(a H (bG n m t).free 3 false).same s/\(a sF (fL (ε k (0:Rat))) 157 false).same (a sF (fL (kK y E k 0)) 157 false)/\True)/\c<=c/\c<=h)/\∀(x:Int),let j:=x+(1:Int);let I:=b j;let l:=fL (kK y E k x.toNat);let N:=a sF (fL (kK y E k j.toNat)) 157 false;let O:=decide (x<(↑B:Int));let J:=bj z x.toNat c;let P:=decide (g.n<=J);let Q:=decide (J<g.n+g.m);let F:=J - g.n;let K:=bj g.cost x.toNat sF.dflt;let L:=(K.fst,K.snd.fst,K.snd.snd);let R:=(bu (-cj L)).snd;let S:=f j/\((u.same u/\w.same w/\C.same C/\D.same D/\I.same I/\True)/\o.same o/\p.same p/\q.same q/\r.same r/\s.same s/\(a sF l 157 false).same N/\True)/\(c<=j/\j<=h)/\(h - j).toNat<(h - x).toNat;c<=x/\x<=h->(O=true->B=z.length/\c<=x/\x<(↑z.length:Int)/\B=z.length/\x.toNat<z.length/\(P=true->f (g.n+g.m)/\(Q=true->f F/\c<=x/\x<(↑g.cost.length:Int)/\x.toNat<g.cost.length/\cY L/\k=l.length/\c<=F/\F<(↑l.length:Int)/\k=l.length/\F.toNat<l.length/\f j/\((u.same u/\w.same w/\C.same C/\D.same D/\I.same I/\True)/\o.same o/\p.same p/\q.same q/\r.same r/\s.same s/\(a sF (l.set F.toNat ((bu (-cj L)).fst,R.fst,R.snd)) 157 false).same N/\True)/\(c<=j/\j<=h)/\(h - j).toNat<(h - x).toNat)/\(Q=false->S))/\(P=false->S))/\(O=false->k=l.length/\(d sF l).same (d sF (fL (kK y E k E)))/\o.same o/\p.same p/\q.same q/\r.same r/\s.same s/\True)) (by kernel_rfl) ?_
 simp only[sJ]
 try simp only[bG]
 simp only[vcs]
 obtain⟨⟨⟨n0,n1⟩,m0,m1⟩,hw,hz⟩:=id hok
 have hfl:=hw.free
 have hcl:=hw.cost
 have hfc:=@fJ t.cost
 have D8:∀k:Nat,bj t.free k 0=t.fv k:=λk=>rfl
 have hrow:∀{x y:List bO},x=y->(bq.row sF x 157 false).same (bq.row sF y 157 false):=by rintro _ _ rfl;rfl
 refine⟨⟨m0,m1⟩,⟨hrow rfl,by omega,by omega⟩,?_⟩
 rintro i ⟨i0,i1⟩
 have hpl:=@Um t n.toNat m.toNat i.toNat
 have hfp:=@fJ (kK t n.toNat m.toNat i.toNat)
 refine⟨λhi=>?_,λhi=>⟨by omega,by rw[show i.toNat=n.toNat by omega]⟩⟩
 have hC:bj (fL t.cost) i.toNat sF.dflt=bu (t.cs i.toNat):=jm (by omega)
 have hs:kK t n.toNat m.toNat (i+1).toNat=if(n.toNat:Int)<=t.fv i.toNat/\t.fv i.toNat<n.toNat+m.toNat then(kK t n.toNat m.toNat i.toNat).set (t.fv i.toNat - n.toNat).toNat (-(t.cs i.toNat)) else kK t n.toNat m.toNat i.toNat:=by
  rw[show(i+1).toNat=i.toNat+1 by omega]
  rfl
 simp only[D8,hC,kF,hs,eW]
 refine⟨i0,hi,by omega,λh1=>⟨by omega,λh2=>⟨by omega,i0,by omega,by omega,ei (hok.cs (by omega)) (by omega),by omega,by omega,by omega,by omega,by omega,by omega,hrow ?_,by omega,by omega⟩,λh2=>⟨by omega,hrow ?_,by omega,by omega⟩⟩,λh1=>⟨by omega,hrow ?_,by omega,by omega⟩⟩
 ·rw[yp,if_pos (by omega),show(n.toNat:Int)=n by omega]
 ·rw[if_neg (by omega)]
 ·rw[if_neg (by omega)]
@[reducible] def sR:bn:=.pair (.bK sF) sF
abbrev sO:=List bO×List (List bO×bO)
def yq:pA sO where
 put a:=.agg [.row sF a.1,.row sR a.2]
 dec
  | .agg [r,v]=>match fW sF r,fW sR v with
   |some c,some v=>some (c,v)
   |_,_=>none
  |_=>none
 ok v a h:=by
  grind[SV.g,gL,jE]
 inj a b h:=by
  obtain⟨c,v⟩:=a
  obtain⟨f,i⟩:=b
  simp only[SV.g,gL,AV.agg.injEq,List.cons.injEq,and_true,AV.sl.injEq] at h
  have e:=lK sF h.1.1 h.1.2
  have d:=lK sR h.2.1 h.2.2
  rw[e,d]
def mJ (x:bO):Prop:=(bA x.2.1/\bA x.2.2)/\x.2.1.length<=1000000/\x.2.2.length<=1000000
def KH:bM:=⟨216,List bO,.one (dN sF),λl=>(show List bO from l).length<=1000/\∀x∈(show List bO from l),mJ x,λl=> .sb ((show List bO from l).all okF)⟩
def adX (l:List bO):Nat->cB
 |2=> .inv Int (λi=>⟨[(5,.row sF l),(6,.si .i64 l.length),(7,.si .i64 i)],[]⟩)
   (λs=>iS s 7) (λi=>(0<=i/\i<=l.length)/\(l.take i.toNat).all okF=true) (λi=>(l.length - i).toNat) λ_ _=> .look
 |_=> .look
theorem h406:Holds Tryz.prog KH:=by
 refine cK (L:=[xR]) KH adX (by grind[h407]) ?_
 rintro(l:List bO) ⟨(q:l.length<=1000),(n:∀x∈l,mJ x)⟩
 refine bR (let d:=(0:Int);let e:=γe .i64;let g:=Φ;let a:=(↑l.length:Int);let f:=e a;((((g sF l).same (g sF l)/\(e (↑l.length:Int)).same f/\(γq .i64 0).same (e 0)/\True)/\True)/\(d<=d/\d<=a)/\true=true)/\∀(x:Int),let b:=bj l x.toNat sF.dflt;let c:=x+(1:Int);let k:=e c;let m:=λ(u:Bool) ↦(!okF (b.fst,b.snd.fst,b.snd.snd))=u;(d<=x/\x<=a)/\(γd x.toNat l).all okF=true->(decide (x<a)=true->d<=x/\x<(↑l.length:Int)/\x.toNat<l.length/\((bA b.snd.fst/\bA b.snd.snd)/\γo b.snd.fst<=1000000/\γo b.snd.snd<=1000000)/\(m true->(δs false).same (γI (l.all okF)))/\(m false->bX .i64 c/\(((g sF l).same (g sF l)/\f.same f/\k.same k/\True)/\True)/\((d<=c/\c<=a)/\(γd c.toNat l).all okF=true)/\(a - c).toNat<(a - x).toNat))/\(decide (x<a)=false->(δs true).same (γI (l.all okF)))) (by kernel_rfl) ?_
 simp only[vcs]
 refine⟨⟨by omega,by omega⟩,?_⟩
 rintro i ⟨⟨j,t⟩,e⟩
 refine⟨λh=>?_,λh=>?_⟩
 ·have p:=de (d:=sF.dflt) (show i.toNat<l.length by omega)
  have r:=jl (d:=sF.dflt) j h
  have g:=n _ p
  have o:okF ((bj l i.toNat sF.dflt).1,(bj l i.toNat sF.dflt).2.1,(bj l i.toNat sF.dflt).2.2)=okF (bj l i.toNat sF.dflt):=rfl
  rw[o]
  refine⟨j,h,by omega,⟨g.1,g.2.1,g.2.2⟩,λs=>?_,λv=>⟨by omega,⟨⟨by omega,by omega⟩,?_⟩,by omega⟩⟩
  all_goals grind
 ·rw[show i.toNat=l.length by omega,χ] at e
  simp_all
def KI:bM:=⟨183,sO,.one yq,λa=>(a.1.length<=160/\a.2.length<=40)/\(∀x∈a.1,mJ x/\okF x=true)/\∀r∈a.2,r.1.length=a.1.length/\(∀x∈r.1,mJ x/\okF x=true)/\mJ r.2/\okF r.2=true,λ_=> .si .i64 0⟩
def adY (a:sO):Nat->cB
 |6=> .inv Int (λi=>⟨[(1,.ptr 0 0 2),(20,.row sR a.2),(21,.si .i64 a.2.length),(22,.si .i64 i)],[.cells [.row sF a.1,.row sR a.2] 220 2 false]⟩)
   (λs=>iS s 22) (λi=>0<=i/\i<=a.2.length) (λi=>(a.2.length - i).toNat) λ_ _=> .look
 |_=> .look
theorem h398:Holds Tryz.prog KI:=by
 refine cK (L:=[KH,xR]) KI adY (by simpa using⟨h406,h407⟩) ?_
 rintro⟨g,rs⟩ ⟨⟨hl1,hl2⟩,hg,hr⟩
 simp only at hl1 hl2 hg hr
 refine bR (let a:=γq .i64;let b:=(0:Int);let c:=γe .i64;let d:=γq .i64 0;let q:=decide ((160:Int)<(↑g.length:Int));let e:=c 0;let m:=(↑rs.length:Int);let r:=decide ((40:Int)<m);let k:=γW 0 0 2;let i:=Φ sR rs;let f:=(↑rs.length:Int);let n:=c f;let l:=bq.cells [Φ sF g,i] 220 2 false;(q=true->(a 3).same e)/\(q=false->(r=true->(a 3).same e)/\(r=false->(g.length<=1000/\∀(x:bO),x∈g->mJ x)/\((!g.all okF)=true->(a 2).same e)/\((!g.all okF)=false->(((k.same k/\i.same i/\(c m).same n/\(a 0).same e/\True)/\l.same l/\True)/\b<=b/\b<=f)/\∀(x:Int),let h:=bj rs x.toNat sR.dflt;let o:=h.snd.snd.fst;let p:=h.snd.snd.snd;let s:=!List.all h.fst okF;let j:=x+(1:Int);let t:=c j;let v:=λ(u:Bool) ↦(!okF (h.snd.fst,o,p))=u;let w:=λ(u:Bool) ↦decide ((↑(γo h.fst):Int)≠(↑g.length:Int))=u;b<=x/\x<=f->(decide (x<f)=true->b<=x/\x<m/\x.toNat<rs.length/\(w true->(a 2).same e)/\(w false->(γo h.fst<=1000/\∀(x:bO),x∈h.fst->mJ x)/\(s=true->(a 2).same e)/\(s=false->((bA o/\bA p)/\γo o<=1000000/\γo p<=1000000)/\(v true->(a 2).same e)/\(v false->bX .i64 j/\((k.same k/\i.same i/\n.same n/\t.same t/\True)/\l.same l/\True)/\(b<=j/\j<=f)/\(f - j).toNat<(f - x).toNat))))/\(decide (x<f)=false->(a 0).same e))))) (by kernel_rfl) ?_
 simp only[vcs]
 have hall:∀{l:List bO},(∀x∈l,mJ x/\okF x=true)->l.all okF=true:=λh=>Θ.2 λx hx=>(h x hx).2
 refine⟨λh=>by omega,λ_=>⟨λh=>by omega,λ_=>⟨⟨by omega,λx hx=>(hg x hx).1⟩,λh=>(by rw[hall hg] at h;cases h),λ_=>⟨⟨by omega,by omega⟩,?_⟩⟩⟩⟩
 rintro i ⟨i0,i1⟩
 refine⟨λhi=>?_,λ_=>trivial⟩
 have hm:=hr _ (de (d:=sR.dflt) (show i.toNat<rs.length by omega))
 have h2:okF ((bj rs i.toNat sR.dflt).2.1,(bj rs i.toNat sR.dflt).2.2.1,(bj rs i.toNat sR.dflt).2.2.2)=okF (bj rs i.toNat sR.dflt).2:=rfl
 rw[h2]
 refine⟨i0,hi,by omega,λh=>absurd (by rw[hm.1]) h,λ_=>⟨⟨by have:=hm.1;omega,λx hx=>(hm.2.1 x hx).1⟩,λh=>?_,λ_=>⟨⟨hm.2.2.1.1,hm.2.2.1.2.1,hm.2.2.1.2.2⟩,λh=>?_,λ_=>⟨by omega,⟨by omega,by omega⟩,by omega⟩⟩⟩⟩
 ·have:=hall hm.2.1
  rw[show List.all (bj rs i.toNat sR.dflt).1 okF=true from this] at h;cases h
 ·rw[hm.2.2.2] at h
  cases h
def AQ (a:sO):nu:=⟨a.1.length,a.2.length,a.2.length,a.2.length,a.2.length,a.1.length,a.2.map (·.1),a.2.map (·.2),ε a.1.length (bu 0),bu 0,(dT a.2.length).map λi=>a.1.length+i,dT a.1.length⟩
def KJ:cV where
 f:=184
 α:=sO
 put a:=[yq.put a]
 st _:=[]
 dec v o:=match v,o with
  |[v],[]=>yq.dec v
  |_,_=>none
 ok v o a h:=by
  split at h
  ·exact⟨by simp only[gL,yq.ok _ _ h],rfl⟩
  ·cases h
 inj a b h _:=yq.inj a b (by simpa[gL] using h)
 dom a:=a.1.length<=1000/\a.2.length<=1000/\∀r∈a.2,r.1.length<=1000
 res a:=.ptr 0 0 10
 out a:=(AQ a).gA
def Un (a:sO) (k0 k1 k2 k3 k4:Nat) (co:List (List bO)) (bo ct:List bO) (ba fr:List Int):bV:=
 [.cells [.row sF a.1,.row sR a.2] 220 2 false,.cells [.si .i64 a.1.length,.si .i64 a.2.length,.ow 2 k0 1,.ow 3 k1 3,.ow 4 k2 3,.sb (bu 0).1,.row (.i .u32) (bu 0).2.1,.row (.i .u32) (bu 0).2.2,.ow 5 k3 1,.ow 6 k4 1] 267 10 false,
  .row (.bK sF) co 91 false,.row sF bo 157 false,.row sF ct 157 true,.row (.i .i64) ba 3 false,.row (.i .i64) fr 3 false]
def adZ (a:sO):Nat->cB
 |3=> .inv Int (λj=>⟨[(1,.ptr 0 0 2),(3,.ptr 1 0 10),(18,.si .i64 a.1.length),(19,.si .i64 j)],Un a 0 0 j.toNat 0 j.toNat [] [] (ε j.toNat (bu 0)) [] (dT j.toNat)⟩)
   (λs=>iS s 19) (λj=>0<=j/\j<=a.1.length) (λj=>(a.1.length - j).toNat) λ_ _=> .look
 |9=> .inv Int (λi=>⟨[(3,.ptr 1 0 10),(44,.row sR a.2),(45,.si .i64 a.2.length),(46,.si .i64 i)],Un a i.toNat i.toNat a.1.length i.toNat a.1.length ((a.2.take i.toNat).map (·.1)) ((a.2.take i.toNat).map (·.2)) (ε a.1.length (bu 0)) ((dT i.toNat).map λi=>a.1.length+i) (dT a.1.length)⟩)
   (λs=>iS s 46) (λi=>0<=i/\i<=a.2.length) (λi=>(a.2.length - i).toNat) λ_ _=> .look
 |_=> .look
theorem h399:dK Tryz.prog KJ:=by
 refine CN (L:=[qB]) (W:=[]) KJ (λ_=>none) adZ (by simp) (by simpa using h94) ?_
 rintro⟨g,rs⟩ ⟨hg,hr,hrr⟩
 simp only at hg hr hrr
 refine bR (let a:=bq.row;let c:=γ8;let d:=bq.cells;let e:=(0:Int);let f:=γe .i64;let h:=(-9223372036854775808:Int);let j:=Φ;let k:=(9223372036854775807:Int);let l:=γq .i64 0;let o:=bX .i64;let p:=γW;let V:=p 0 0 2;let w:=p 1 0 10;let a6:=f (↑g.length:Int);let r:=(↑g.length:Int);let s:=f r;let N:=j sR rs;let y:=d [j sF g,N] 220 2 false;let a7:=f (↑rs.length:Int);let G:=c 2 0 1;let H:=c 3 0 3;let a8:=c 4 0 3;let I:=bu (Ω e);let z:=bn.i .u32;let O:=c 5 0 1;let a9:=[O,c 6 0 1];let A:=(↑rs.length:Int);let t:=f A;let J:=bu (0:Rat);let B:=γI J.fst;let C:=j z J.snd.fst;let D:=j z J.snd.snd;let P:=bn.b.pair (z.bK.pair z.bK);let Q:=a sF.bK [] 91 false;let R:=a sF [] 157 false;let u:=bn.i .i64;let F:=a u [] 3 false;let a1:=c 4 g.length 3;let a2:=[c 6 g.length 1];let a3:=ε g.length J;let a4:=a sF a3 157 true;let W:=a u (dT g.length) 3 false;let aa:=p 0 0 10;let q:=AQ (g,rs);(h<=e/\e<=k)/\(((V.same V/\w.same w/\a6.same s/\(l).same (f 0)/\True)/\y.same y/\(d (a6::a7::G::H::a8::γI I.fst::j z I.snd.fst::j z I.snd.snd::a9) 267 10 false).same (d (s::t::G::H::a8::B::C::D::a9) 267 10 false)/\(a P.bK [] 91 false).same Q/\(a P [] 157 false).same R/\(a P [] 157 true).same (a sF [] 157 true)/\F.same F/\F.same (a u (dT 0) 3 false)/\True)/\e<=e/\e<=r)/\∀(x:Int),let S:=dT x.toNat;let ab:=S.length+1;let X:=ε x.toNat J;let ac:=X.length+1;let K:=x+(1:Int);let ad:=f K;let ae:=X++[(I.fst,I.snd.fst,I.snd.snd)];let Y:=K.toNat;e<=x/\x<=r->(decide (x<r)=true->1=1/\x.toNat=S.length/\ab*8<=140737488355328/\ab<=1000000000000/\(h<=e/\e<=k)/\1=1/\x.toNat=X.length/\ac*56<=140737488355328/\ac<=1000000000000/\o K/\((V.same V/\w.same w/\s.same s/\ad.same ad/\True)/\y.same y/\(d [s,t,G,H,c 4 ae.length 3,B,C,D,O,c 6 (S++[x]).length 1] 267 10 false).same (d [s,t,G,H,c 4 Y 3,B,C,D,O,c 6 Y 1] 267 10 false)/\Q.same Q/\R.same R/\(a P ae 157 true).same (a sF (ε Y J) 157 true)/\F.same F/\(a u (S++[x]) 3 false).same (a u (dT Y) 3 false)/\True)/\(e<=K/\K<=r)/\(r - K).toNat<(r - x).toNat)/\(decide (x<r)=false->(((w.same w/\N.same N/\a7.same t/\(l).same (f 0)/\True)/\y.same y/\(d [s,t,G,H,c 4 x.toNat 3,B,C,D,O,c 6 x.toNat 1] 267 10 false).same (d (s::t::G::H::a1::B::C::D::O::a2) 267 10 false)/\Q.same Q/\R.same R/\(a sF X 157 true).same a4/\F.same F/\(a u S 3 false).same W/\True)/\e<=e/\e<=A)/\∀(x:Int),let T:=bj rs x.toNat sR.dflt;let E:=γo T.fst;let af:=γd x.toNat rs;let Z:=γh (λx ↦x.fst) af;let a5:=Z.length+1;let a0:=γh (λx ↦x.snd) af;let ag:=a0.length+1;let U:=γh (λi ↦(↑(g,rs).fst.length:Int)+i) (dT x.toNat);let ah:=U.length+1;let L:=x+(1:Int);let ai:=f L;let aj:=a0++[(T.snd.fst,T.snd.snd.fst,T.snd.snd.snd)];let M:=L.toNat;e<=x/\x<=A->(decide (x<A)=true->e<=x/\x<(↑rs.length:Int)/\x.toNat<rs.length/\0=0/\(0+E)*56<=140737488355328/\0+E<=1000000000000/\x.toNat=Z.length/\a5*24<=140737488355328/\a5<=1000000000000/\E=E/\E=E/\E=E/\1=1/\x.toNat=a0.length/\ag*56<=140737488355328/\ag<=1000000000000/\o (r+x)/\1=1/\x.toNat=U.length/\ah*8<=140737488355328/\ah<=1000000000000/\o L/\((w.same w/\N.same N/\t.same t/\ai.same ai/\True)/\y.same y/\(d (s::t::c 2 a5 1::c 3 aj.length 3::a1::B::C::D::c 5 (U++[r+x]).length 1::a2) 267 10 false).same (d (s::t::c 2 M 1::c 3 M 3::a1::B::C::D::c 5 M 1::a2) 267 10 false)/\(a sF.bK (Z++[T.fst]) 91 false).same (a sF.bK (γh (λx ↦x.fst) (γd M rs)) 91 false)/\(a P aj 157 false).same (a sF (γh (λx ↦x.snd) (γd M rs)) 157 false)/\a4.same a4/\(a u (U++[r+x]) 3 false).same (a u (γh (λi ↦(↑(g,rs).fst.length:Int)+i) (dT M)) 3 false)/\W.same W/\True)/\(e<=L/\L<=A)/\(A - L).toNat<(A - x).toNat)/\(decide (x<A)=false->g.length=a3.length/\aa.same aa/\(d [s,t,c 1 x.toNat 1,c 2 x.toNat 3,j sF a3,B,C,D,c 3 x.toNat 1,c 4 g.length 1] 267 10 false).same (d [f q.n,f q.m,c 1 q.k0 1,c 2 q.k1 3,j sF q.cost,γI q.v.fst,j z q.v.snd.fst,j z q.v.snd.snd,c 3 q.k3 1,c 4 q.k4 1] 267 10 false)/\(a sF.bK Z 91 false).same (a sF.bK q.ca 91 false)/\(a sF a0 157 false).same (a sF q.bound 157 false)/\(a u U 3 false).same (a u q.basic 3 false)/\W.same (a u q.free 3 false)/\True))) (by kernel_rfl) ?_
 simp only[vcs]
 have h0:(Ω 0:Rat)=0:=rfl
 simp only[h0,kF]
 have hcell:∀{a b a' b' c d e a2 b2 c2 d2 e2:Nat},a=a2->b=b2->c=c2->d=d2->e=e2->(bq.cells [.si .i64 a',.si .i64 b',.ow 2 a 1,.ow 3 b 3,.ow 4 c 3,.sb (bu 0).1,.row (.i .u32) (bu 0).2.1,.row (.i .u32) (bu 0).2.2,.ow 5 d 1,.ow 6 e 1] 267 10 false).same
   (bq.cells [.si .i64 a',.si .i64 b',.ow 2 a2 1,.ow 3 b2 3,.ow 4 c2 3,.sb (bu 0).1,.row (.i .u32) (bu 0).2.1,.row (.i .u32) (bu 0).2.2,.ow 5 d2 1,.ow 6 e2 1] 267 10 false):=by
  rintro _ _ _ _ _ _ _ _ _ _ _ _ rfl rfl rfl rfl rfl
  rfl
 have hrF:∀{x y:List bO},x=y->(bq.row sF x 157 false).same (bq.row sF y 157 false):=by rintro _ _ rfl;rfl
 have uv:∀{x y:List bO},x=y->(bq.row sF x 157 true).same (bq.row sF y 157 true):=by rintro _ _ rfl;rfl
 have hrM:∀{x y:List (List bO)},x=y->(bq.row (.bK sF) x 91 false).same (bq.row (.bK sF) y 91 false):=by rintro _ _ rfl;rfl
 have lx:∀{x y:List Int},x=y->(bq.row (.i .i64) x 3 false).same (bq.row (.i .i64) y 3 false):=by rintro _ _ rfl;rfl
 have hcast:∀k:Nat,((k:Nat):Int).toNat=k:=λk=>γz k
 refine⟨by omega,⟨⟨rfl,lx rfl⟩,by omega,by omega⟩,?_⟩
 rintro j ⟨j0,j1⟩
 have l1:=@js j.toNat
 have l2:(ε j.toNat (bu 0)).length=j.toNat:=γS
 refine⟨λhj=>?_,λhj=>?_⟩
 ·have e1:dT j.toNat++[j]=dT (j+1).toNat:=by
   rw[show(j+1).toNat=j.toNat+1 by omega,yi,show((j.toNat:Nat):Int)=j by omega]
  have e2:ε j.toNat (bu 0)++[bu 0]=ε (j+1).toNat (bu 0):=by
   rw[show(j+1).toNat=j.toNat+1 by omega,List.replicate_succ']
  rw[e1,e2,js,γS];rw[js,γS]
  refine⟨rfl,?_,?_,?_,rfl,?_,?_,?_,⟨hcell rfl rfl rfl rfl rfl,uv rfl,lx rfl⟩,?_,?_⟩<;>omega
 ·rw[show j.toNat=g.length by omega]
  refine⟨⟨⟨hcell rfl rfl rfl rfl rfl,uv rfl,lx rfl⟩,by omega,by omega⟩,?_⟩
  rintro i ⟨i0,i1⟩
  have l3:(γh (λx:List bO×bO=>x.1) (γd i.toNat rs)).length=i.toNat:=by rw[γx,Ξ];omega
  have l4:(γh (λx:List bO×bO=>x.2) (γd i.toNat rs)).length=i.toNat:=by rw[γx,Ξ];omega
  have l5:(γh (λi:Int=>(g.length:Int)+i) (dT i.toNat)).length=i.toNat:=by rw[γx,js]
  refine⟨λhi=>?_,λhi=>?_⟩
  ·have hm:=hrr _ (de (d:=sR.dflt) (show i.toNat<rs.length by omega))
   have et:=jl (d:=sR.dflt) i0 hi
   have e1:γh (λx:List bO×bO=>x.1) (γd i.toNat rs)++[(bj rs i.toNat sR.dflt).1]=γh (λx:List bO×bO=>x.1) (γd (i+1).toNat rs):=by rw[et,γa];rfl
   have e2:γh (λx:List bO×bO=>x.2) (γd i.toNat rs)++[(bj rs i.toNat sR.dflt).2]=γh (λx:List bO×bO=>x.2) (γd (i+1).toNat rs):=by rw[et,γa];rfl
   have e3:γh (λi:Int=>(g.length:Int)+i) (dT i.toNat)++[(g.length:Int)+i]=γh (λi:Int=>(g.length:Int)+i) (dT (i+1).toNat):=by
    rw[show(i+1).toNat=i.toNat+1 by omega,yi,γa,show((i.toNat:Nat):Int)=i by omega];rfl
   have l6:(γh (λx:List bO×bO=>x.2) (γd (i+1).toNat rs)).length=(i+1).toNat:=by rw[γx,Ξ];omega
   have l7:(γh (λi:Int=>(g.length:Int)+i) (dT (i+1).toNat)).length=(i+1).toNat:=by rw[γx,js]
   refine⟨i0,hi,by omega,by omega,by omega,l3.symm,by omega,by omega,l4.symm,by omega,by omega,by omega,l5.symm,by omega,by omega,by omega,⟨hcell ?_ ?_ rfl ?_ rfl,hrM e1,hrF e2,lx e3⟩,by omega,by omega⟩
   ·omega
   ·exact(congrArg γo e2).trans l6
   ·exact(congrArg γo e3).trans l7
  ·have e:i.toNat=rs.length:=by omega
   rw[e,χ]
   exact⟨γS.symm,rfl,rfl,rfl,rfl,rfl⟩
def r400:cV:=ui 185 Unit .nil (λ_ m t _=>j6 m.toNat t) (λ_ _ _ _=> .bH [.sc (.slice none 0 0),.sb true]) (λ_ _ t _=>t)
def ad3 (n m:Int) (t:Tb):Nat->cB
 |3=> .inv Int (λi=>⟨[(0,.ptr 0 0 10),(4,.si .i64 (-1)),(12,.ow 2 t.bound.length 3),(13,.si .i64 t.bound.length),(14,.si .i64 i)],(bG n m t).gA⟩)
   (λs=>iS s 14) (λi=>0<=i/\i<=m) (λi=>(m - i).toNat) λ_ _=> .look
 |_=> .look
theorem h400:dK Tryz.prog r400:=by
 refine jk (L:=[ug]) (W:=[]) r400 (λa=>ad3 a.1.n a.1.m a.1.t) (by simp) (by simpa using h99) ?_
 rintro⟨x,u⟩ ⟨n,m,t,hx,hok,hd⟩
 simp only at hx hd
 subst hx
 refine bR (let a:=γe .i64;let b:=bq.row;let c:=(0:Int);let d:=γ8;let e:=Φ;let f:=(-1:Int);let w:=γW 0 0 10;let A:=a f;let E:=d 2 (bG n m t).k1 3;let k:=(bG n m t).t.bound.length;let B:=d 2 k 3;let C:=a (↑k:Int);let j:=(bG n m t).m;let y:=bn.i .u32;let g:=bG (bG n m t).n j (bG n m t).t;let l:=bq.cells [a g.n,a g.m,d 1 g.k0 1,d 2 g.k1 3,e sF g.cost,γI g.v.fst,e y g.v.snd.fst,e y g.v.snd.snd,d 3 g.k3 1,d 4 g.k4 1] 267 10 false;let o:=b sF.bK g.ca 91 false;let p:=b sF g.bound 157 false;let z:=bn.i .i64;let q:=b z g.basic 3 false;let r:=b z g.free 3 false;let h:=g.bound.length;let F:=SV.sc (Value.slice none 0 0);(((w.same w/\(γq .i64 f).same A/\E.same B/\(a (↑(bG n m t).k1:Int)).same C/\(γq .i64 0).same (a 0)/\True)/\(bq.cells [a (bG n m t).n,a j,d 1 (bG n m t).k0 1,E,e sF (bG n m t).cost,γI (bG n m t).v.fst,e y (bG n m t).v.snd.fst,e y (bG n m t).v.snd.snd,d 3 (bG n m t).k3 1,d 4 (bG n m t).k4 1] 267 10 false).same l/\(b sF.bK (bG n m t).ca 91 false).same o/\(b sF (bG n m t).bound 157 false).same p/\(b z (bG n m t).basic 3 false).same q/\(b z (bG n m t).free 3 false).same r/\True)/\c<=c/\c<=j)/\∀(x:Int),let D:=bj g.bound x.toNat sF.dflt;let G:=(D.fst,D.snd.fst,D.snd.snd);let s:=x+(1:Int);let H:=a s;let I:=decide (x<(↑k:Int));let J:=λ(u:Bool) ↦decide (kC (cj G)<c)=u;let K:=λ(u:SV) ↦bX .i64 s/\((w.same w/\u.same A/\B.same B/\C.same C/\H.same H/\True)/\l.same l/\o.same o/\p.same p/\q.same q/\r.same r/\True)/\(c<=s/\s<=j)/\(j - s).toNat<(j - x).toNat;c<=x/\x<=j->(I=true->k=h/\c<=x/\x<(↑h:Int)/\k=h/\x.toNat<h/\cY G/\(J true->(true=true->K (a x))/\(true=false->g.k1=h/\c<=f/\f<(↑h:Int)/\g.k1=h/\0<h/\False))/\(J false->K A))/\(I=false->(true=true->(SV.bH [F,δs true]).same (SV.bH [F,γI true])/\l.same l/\o.same o/\p.same p/\q.same q/\r.same r/\True)/\(true=false->False))) (by kernel_rfl) ?_
 simp only[sJ]
 try simp only[bG]
 simp only[vcs]
 obtain⟨⟨⟨n0,n1⟩,m0,m1⟩,hw,hz⟩:=id hok
 have hbl:=hw.bound
 have yU:=@fJ t.bound
 refine⟨⟨by omega,by omega⟩,?_⟩
 rintro i ⟨i0,i1⟩
 refine⟨λhi=>?_,λhi=>⟨λ_=>trivial,λh=>by cases h⟩⟩
 have hB:bj (fL t.bound) i.toNat sF.dflt=bu (t.bd i.toNat):=jm (by omega)
 have hpos:=hd i.toNat (by omega)
 have hneg:¬kC (t.bd i.toNat)<0:=λh=>by have:=JC.1 h;grind
 simp only[hB,kF,eW]
 exact⟨by omega,i0,by omega,by omega,by omega,ei (hok.bd (by omega)) (by omega),λh=>absurd h hneg,λ_=>⟨by omega,by omega,by omega⟩⟩
def KL:cV:=ui 186 (List bO) (.one (dN sF)) (λn m t a=>∃g:List Rat,a=fL g/\g.length=n.toNat/\t.free=dT n.toNat/\∀v∈t.basic,n<=v) (λ_ _ _ _=> .bH []) (λ_ _ t a=>{t with cost:=vL a,value:=0})
def ad4 (n m:Int) (t:Tb) (a:List bO):Nat->cB
 |3=> .inv Int (λj=>⟨[(0,.ptr 0 0 10),(1,.row sF a),(4,.ow 5 n.toNat 3),(24,.ow 4 t.free.length 1),(25,.si .i64 t.free.length),(26,.si .i64 j)],(bG n m {t with value:=0}).gA++[.row sF (fj a j.toNat (false,([],[]))) 157 true]⟩)
   (λs=>iS s 26) (λi=>0<=i/\i<=n) (λi=>(n - i).toNat) λ_ _=> .look
 |10=> .inv Int (λi=>⟨[(0,.ptr 0 0 10),(1,.row sF a),(4,.ow 5 n.toNat 3),(52,.ow 3 t.basic.length 1),(53,.si .i64 t.basic.length),(54,.si .i64 i)],(bG n m {t with value:=0}).gA++[.row sF a 157 true]⟩)
   (λs=>iS s 54) (λi=>0<=i/\i<=m) (λi=>(m - i).toNat) λ_ _=> .look
 |_=> .look
theorem h401:dK Tryz.prog KL:=by
 refine jk (L:=[qB]) (W:=[]) KL (λa=>ad4 a.1.n a.1.m a.1.t a.2) (by simp) (by simpa using h94) ?_
 rintro⟨x,a⟩ ⟨n,m,t,hx,hok,g,ha,hgl,hfr,hbs⟩
 simp only at hx ha
 subst hx ha
 refine bR (let a:=(0:Int);let c:=γe .i64;let d:=bq.row;let e:=γ8;let f:=(-9223372036854775808:Int);let h:=Φ;let j:=(9223372036854775807:Int);let k:=bq.cells;let l:=γq .i64 0;let w:=(↑(bG n m t).k4:Int);let y:=γW 0 0 10;let s:=h sF (fL g);let p:=(bG n m t).n;let F:=e 5 p.toNat 3;let a0:=e 4 (bG n m t).k4 1;let r:=(bG n m t).t;let N:=r.free.length;let U:=e 4 N 1;let V:=c (↑N:Int);let z:=(bG n m t).m;let H:=bu (Ω a);let A:=bn.i .u32;let o:=bG p z (Tb.mk r.ca r.bound r.cost (0:Rat) r.basic r.free);let a1:=c o.n;let a2:=c o.m;let a3:=e 1 o.k0 1;let a4:=e 2 o.k1 3;let a5:=e 3 o.k3 1;let a6:=[γI o.v.fst,h A o.v.snd.fst,h A o.v.snd.snd,a5,e 4 o.k4 1];let G:=k (a1::a2::a3::a4::h sF o.cost::a6) 267 10 false;let B:=d sF.bK o.ca 91 false;let C:=d sF o.bound 157 false;let I:=bn.i .i64;let J:=o.basic;let D:=d I J 3 false;let E:=d I o.free 3 false;let R:=(false,[],[]);let S:=o.free.length;let z29:Nat:=(fL g).length;let O:=r.basic.length;let W:=e 3 O 1;let X:=c (↑O:Int);let Y:=d sF (fL g) 157 true;let q:=bG p z (Tb.mk r.ca r.bound (vL (fL g)) (0:Rat) r.basic r.free);(f<=a/\a<=j)/\a<=w/\w<=w/\w*(56:Int)<=(140737488355328:Int)/\w<=(1000000000000:Int)/\(((y.same y/\s.same s/\(e 5 w.toNat 3).same F/\a0.same U/\(c w).same V/\(l).same (c 0)/\True)/\(k [c p,c z,e 1 (bG n m t).k0 1,e 2 (bG n m t).k1 3,h sF (bG n m t).cost,γI H.fst,h A H.snd.fst,h A H.snd.snd,e 3 (bG n m t).k3 1,a0] 267 10 false).same G/\(d sF.bK (bG n m t).ca 91 false).same B/\(d sF (bG n m t).bound 157 false).same C/\(d I (bG n m t).basic 3 false).same D/\(d I (bG n m t).free 3 false).same E/\(d (bn.b.pair (A.bK.pair A.bK)) (ε w.toNat R) 157 true).same (d sF (fj (fL g) 0 R) 157 true)/\True)/\a<=a/\a<=p)/\∀(x:Int),let K:=x+(1:Int);let a7:=c K;let a8:=decide (x<(↑N:Int));let L:=fj (fL g) x.toNat R;let P:=bj o.free x.toNat a;let a9:=decide (P<o.n);let M:=L.set x.toNat (H.fst,H.snd.fst,H.snd.snd);let Z:=bj (fL g) P.toNat sF.dflt;let aa:=λ(u:List (Bool×List Int×List Int)) ↦bX .i64 K/\((y.same y/\s.same s/\F.same F/\U.same U/\V.same V/\a7.same a7/\True)/\G.same G/\B.same B/\C.same C/\D.same D/\E.same E/\(d sF u 157 true).same (d sF (fj (fL g) K.toNat R) 157 true)/\True)/\(a<=K/\K<=p)/\(p - K).toNat<(p - x).toNat;a<=x/\x<=p->(a8=true->N=S/\a<=x/\x<(↑S:Int)/\N=S/\x.toNat<S/\(f<=a/\a<=j)/\p.toNat=L.length/\a<=x/\x<(↑L.length:Int)/\p.toNat=L.length/\x.toNat<L.length/\(a9=true->a<=P/\P<(↑z29:Int)/\P.toNat<z29/\p.toNat=M.length/\a<=x/\x<(↑M.length:Int)/\p.toNat=M.length/\x.toNat<M.length/\aa (M.set x.toNat (Z.fst,Z.snd.fst,Z.snd.snd)))/\(a9=false->aa M))/\(a8=false->(((y.same y/\s.same s/\F.same F/\a5.same W/\(c (↑o.k3:Int)).same X/\(l).same (c 0)/\True)/\G.same G/\B.same B/\C.same C/\D.same D/\E.same E/\(d sF L 157 true).same Y/\True)/\a<=a/\a<=z)/\∀(x:Int),let ab:=decide (x<(↑O:Int));let T:=bj J x.toNat a;let ac:=decide (o.n<=T);let Q:=x+(1:Int);let ad:=c Q;a<=x/\x<=z->(ab=true->O=J.length/\a<=x/\x<(↑J.length:Int)/\O=J.length/\x.toNat<J.length/\(ac=true->bX .i64 Q/\((y.same y/\s.same s/\F.same F/\W.same W/\X.same X/\ad.same ad/\True)/\G.same G/\B.same B/\C.same C/\D.same D/\E.same E/\Y.same Y/\True)/\(a<=Q/\Q<=z)/\(z - Q).toNat<(z - x).toNat)/\(ac=false->a<=T/\T<(↑z29:Int)/\T.toNat<z29/\False))/\(ab=false->p.toNat=z29/\(SV.bH []).same (SV.bH [])/\(k (a1::a2::a3::a4::s::a6) 267 10 false).same (k [c q.n,c q.m,e 1 q.k0 1,e 2 q.k1 3,h sF q.cost,γI q.v.fst,h A q.v.snd.fst,h A q.v.snd.snd,e 3 q.k3 1,e 4 q.k4 1] 267 10 false)/\B.same (d sF.bK q.ca 91 false)/\C.same (d sF q.bound 157 false)/\D.same (d I q.basic 3 false)/\E.same (d I q.free 3 false)/\True))) (by kernel_rfl) ?_
 simp only[sJ]
 try simp only[bG]
 simp only[vcs]
 obtain⟨⟨⟨n0,n1⟩,m0,m1⟩,hw,hz⟩:=id hok
 have hbb:=hw.basic
 have hfl:=hw.free
 have hfg:=@fJ g
 have h0:(Ω 0:Rat)=0:=rfl
 have hrow:∀{x y:List bO},x=y->(bq.row sF x 157 true).same (bq.row sF y 157 true):=by rintro _ _ rfl;rfl
 simp only[h0,kF]
 refine⟨by omega,by omega,by omega,by omega,by omega,⟨⟨?_,?_,?_⟩,by omega,by omega⟩,?_⟩
 ·rw[hfl];rfl
 ·rfl
 ·exact hrow (by rw[AL,hfg,hgl,hfl];rfl)
 rintro j ⟨j0,j1⟩
 have ox:=@AK (fL g) j.toNat (false,([],[])) (by omega)
 refine⟨λhj=>?_,λhj=>?_⟩
 ·have hv:bj t.free j.toNat 0=j:=by rw[hfr,KD (by omega)];omega
  rw[hv]
  have hset:((fj (fL g) j.toNat (false,([],[]))).set j.toNat (bu 0)).set j.toNat (bj (fL g) j.toNat sF.dflt)=fj (fL g) (j+1).toNat (false,([],[])):=by
   have e:=AP (d:=fL g) (j:=j.toNat) (z:=(false,([],[]))) (x:=bj (fL g) j.toNat sF.dflt) (by omega) rfl
   rw[List.set_set,show(j+1).toNat=j.toNat+1 by omega]
   exact e
  rw[γb]
  exact⟨j0,by omega,by omega,by omega,by omega,j0,by omega,by omega,by omega,λ_=>⟨j0,by omega,by omega,by omega,j0,by omega,by omega,by omega,by omega,hrow hset,by omega,by omega⟩,λh=>(h (by omega)).elim⟩
 ·have e:j.toNat=(fL g).length:=by omega
  rw[e,AO]
  refine⟨⟨hrow rfl,by omega,by omega⟩,?_⟩
  rintro i ⟨i0,i1⟩
  refine⟨λhi=>⟨i0,hi,by omega,λ_=>⟨by omega,by omega,by omega⟩,λh=>absurd (hbs _ (de (by omega))) h⟩,λhi=>⟨by omega,?_⟩⟩
  rw[lV];rfl
abbrev Lp:=List Rat×List (List Rat×Rat)
def iu (a:Lp):sO:=(fL a.1,a.2.map λr=>(fL r.1,bu r.2))
def kX (a:Lp):Tb:=⟨a.2.map (·.1),a.2.map (·.2),a.1,0,(dT a.2.length).map λi=>a.1.length+i,dT a.1.length⟩
def rH (a:Lp):Tb:={kX a with cost:=ε a.1.length 0}
theorem ad5 {a:Lp}:AQ (iu a)=bG a.1.length a.2.length (rH a):=by
 unfold AQ iu bG rH kX
 simp_all[js,fM,fL]
structure AS (a:Lp):Prop where
 n:a.1.length<=160
 m:a.2.length<=40
 small:∃M G,Small a.1.length a.2.length M G (kX a)
 xX:j6 a.2.length (kX a)
 bnd:∃B,∀x z,(kX a).holds a.1.length a.2.length x z->(∀v∈(kX a).basic++(kX a).free,0<=x v)->z<=B
noncomputable def nB (a:Lp):Tb:=lastT a.1.length a.2.length (kX a)
theorem ad6 {a:Lp} (h:AS a):okO a.1.length a.2.length (kX a):=by
 obtain⟨M,G,b⟩:=h.small
 exact⟨kX a,M,G,b,Run.refl b.wf b.nd,h.xX⟩
theorem ad7 {a:Lp} (h:AS a):Run a.1.length a.2.length (kX a) (nB a)/\j6 a.2.length (nB a)/\eh (nB a) a.1.length<0:=by
 obtain⟨M,G,c⟩:=h.small
 obtain⟨B,d⟩:=h.bnd
 have b:=Run.refl c.wf c.nd
 have:=KB b h.xX
 exact⟨this.1,this.2.1,TX b h.xX d⟩
noncomputable def KN:bM:=⟨152,sO,.one yq,λx=>∃a:Lp,x=iu a/\AS a,λx=>
 let a:Lp:=(vL x.1,x.2.map λr=>(vL r.1,cj r.2))
 .bH [.agg [.si .i64 1,.sb (bu (nB a).value).1,.row (.i .u32) (bu (nB a).value).2.1,.row (.i .u32) (bu (nB a).value).2.2,.row sF (fL (gh (nB a) a.1.length a.2.length)),.row sF (fL (kK (nB a) a.1.length a.2.length a.1.length)),.row sF []],.si .i64 0]⟩
theorem ad8 {a:Lp}:((vL (iu a).1,(iu a).2.map λr=>(vL r.1,cj r.2)):Lp)=a:=by
 obtain⟨g,b⟩:=a
 unfold iu;simp only[lV,δo]
 congr 1
 conv=>rhs;rw[<-List.map_id b]
 refine List.map_congr_left λr _=>?_
 grind[lV,eW]
theorem ad9 {a:Lp}:((iu a).1,(iu a).2)=iu a:=rfl
theorem Uo {a:Lp}:vL (iu a).1=a.1:=lV _
theorem Up {a:Lp}:(iu a).2.map (λr=>(vL r.1,cj r.2))=a.2:=congrArg Prod.snd (@ad8 a)
theorem aea {a:Lp}:({ca:=(rH a).ca,bound:=(rH a).bound,cost:=a.1,value:=0,basic:=(rH a).basic,free:=(rH a).free}:Tb)=kX a:=rfl
theorem aeb {a:Lp}:(iu a).1.length=a.1.length:=fJ
theorem aec {a:Lp}:(iu a).2.length=a.2.length:=γx _
theorem Ur {q:Rat} (h:Sz 1000000 q):mJ (bu q)/\okF (bu q)=true:=by
 obtain⟨g,⟨c,_,e⟩,⟨b,_,f⟩⟩:=nk q
 obtain⟨a,d⟩:=qC h
 refine⟨⟨⟨c,b⟩,a,d⟩,?_⟩
 grind[okF,eW]
theorem aed {o:Store} {d:Nat} {acc:List Nat} {l:List bO}:cG o d (γh (λx:bO=>dJ bn.b x.1++dJ ((bn.i .u32).bK.pair (bn.i .u32).bK) x.2) l).flatten acc=acc:=zw λa c=>mX (s:=sF) (l:=l) c
theorem aee {o:Store} {d:Nat} {acc:List Nat} {l:List (List bO)}:cG o d (γh (λx:List bO=>[ζ2 (γo x) (ζV (dJ sF) x)]) l).flatten acc=acc:=zw λa b=>mX (s:=sF.bK) (l:=l) b
theorem aef {o:Store} {d:Nat} {acc:List Nat} {l:List Int}:cG o d (γh (λx:Int=>γh δj (dE (bn.i .i64) x)) l).flatten acc=acc:=zw λa b=>mX (s:=bn.i .i64) (l:=l) b
theorem h395:Holds Tryz.prog KN:=by
 refine Zh (L:=[KI]) (W:=fY [KJ,r400,KL,KG,EL,EM]) KN (λf=>Nat.beq f EL.f||Nat.beq f EM.f) lk (ln (by simpa using⟨h399,h400,h401,h402,h403,h405⟩)) (by simpa using h398) ?_
 rintro x ⟨a,hx,hok⟩
 subst hx
 refine bR (let c:=Φ;let d:=bq.row;let e:=γe .i64;let f:=γ8;let h:=bq.cells;let j:=γq .i64;let k:=(0:Int);let l:=γI;let o:=δs false;let p:=SV.agg;let q:=SV.bH;let B:=(iu a).fst;let C:=(iu a).snd;let J:=h [c sF B,c sR C] 220 2 false;let Q:=j 0;let a1:=Value.slice none 0 0;let G:=SV.sc a1;let K:=h [Q,o,G,G,G,G,G] 224 7 false;let L:=AQ (B,C);let D:=bG L.n L.m L.t;let E:=bG D.n D.m (Tb.mk D.t.ca D.t.bound (vL B) (0:Rat) D.t.basic D.t.free);let a2:=lastT E.n.toNat E.m.toNat E.t;let s:=bG E.n E.m a2;let y:=bn.i .u32;let M:=s.v.snd.fst;let N:=s.v.snd.snd;let w:=bG s.n s.m s.t;let R:=w.v.snd.fst;let S:=w.v.snd.snd;let a3:=h [e w.n,e w.m,f 3 w.k0 1,f 4 w.k1 3,c sF w.cost,l w.v.fst,c y R,c y S,f 5 w.k3 1,f 6 w.k4 1] 267 10 false;let a4:=d sF.bK w.ca 91 false;let a5:=d sF w.bound 157 false;let z:=bn.i .i64;let a6:=d z w.basic 3 false;let a7:=d z w.free 3 false;let F:=c z [];let U:=γh (λ(r:List bO×bO) ↦(vL r.fst,cj r.snd)) C;let H:=nB (vL B,U);let z31:Nat:=(vL B).length;let a8:=e 0;let a9:=q [p [e 1,l (bu H.value).fst,c y (bu H.value).snd.fst,c y (bu H.value).snd.snd,c sF (fL (gh H z31 U.length)),c sF (fL (kK H z31 U.length z31)),c sF []],a8];let A:=bG w.n w.m w.t;let aa:=bP.cells [ζ2 B.length (γh (λ(x:sF.T) ↦dJ bn.b x.fst++dJ (y.bK.pair y.bK) x.snd) B).flatten,ζ2 C.length (γh (λ(x:sR.T) ↦dJ sF.bK x.fst++dJ sF x.snd) C).flatten] 220 2 false;let I:=δj a1;let ab:=bP.cells [δj (Value.int .i64 k),δj (Value.bool false),I,I,I,I,I] 224 7 false;let ac:=(γh (λ(x:sF.bK.T) ↦[ζ2 (γo x) (ζV (dJ sF) x)]) s.ca).flatten;let ad:=(γh (λ(x:sF.T) ↦dJ bn.b x.fst++dJ (y.bK.pair y.bK) x.snd) s.bound).flatten;let ae:=(γh (λ(x:z.T) ↦γh δj (dE z x)) s.basic).flatten;let af:=(γh (λ(x:z.T) ↦γh δj (dE z x)) s.free).flatten;let O:=[aa,ab,bP.cells [δj (Value.int .i64 s.n),δj (Value.int .i64 s.m),ζ5 3 0 s.k0 (s.k0*1),ζ5 4 0 s.k1 (s.k1*3),ζ2 s.cost.length (γh (λ(x:sF.T) ↦dJ bn.b x.fst++dJ (y.bK.pair y.bK) x.snd) s.cost).flatten,δj (Value.bool s.v.fst),ζ2 M.length (γh (λ(x:y.T) ↦γh δj (dE y x)) M).flatten,ζ2 N.length (γh (λ(x:y.T) ↦γh δj (dE y x)) N).flatten,ζ5 5 0 s.k3 (s.k3*1),ζ5 6 0 s.k4 (s.k4*1)] 267 10 false,bP.cells ac 91 1 false,bP.cells ad 157 3 false,bP.cells ae 3 1 false,bP.cells af 3 1 false];let ag:=[2,3];let V:=cG O (nat_lit 396) ac ag;let W:=if ζJ 4 V=true then V else cG O (nat_lit 395) ad (V++[4]);let X:=if ζJ 5 W=true then W else cG O (nat_lit 390) ae (W++[5]);let ah:=(γh (λ(x:sF.bK.T) ↦[ζ2 (γo x) (ζV (dJ sF) x)]) w.ca).flatten;let ai:=(γh (λ(x:sF.T) ↦dJ bn.b x.fst++dJ (y.bK.pair y.bK) x.snd) w.bound).flatten;let aj:=(γh (λ(x:z.T) ↦γh δj (dE z x)) w.basic).flatten;let ak:=(γh (λ(x:z.T) ↦γh δj (dE z x)) w.free).flatten;let P:=[aa,ab,bP.cells [δj (Value.int .i64 w.n),δj (Value.int .i64 w.m),ζ5 3 0 w.k0 (w.k0*1),ζ5 4 0 w.k1 (w.k1*3),ζ2 w.cost.length (γh (λ(x:sF.T) ↦dJ bn.b x.fst++dJ (y.bK.pair y.bK) x.snd) w.cost).flatten,δj (Value.bool w.v.fst),ζ2 R.length (γh (λ(x:y.T) ↦γh δj (dE y x)) R).flatten,ζ2 S.length (γh (λ(x:y.T) ↦γh δj (dE y x)) S).flatten,ζ5 5 0 w.k3 (w.k3*1),ζ5 6 0 w.k4 (w.k4*1)] 267 10 false,bP.cells ah 91 1 false,bP.cells ai 157 3 false,bP.cells aj 3 1 false,bP.cells ak 3 1 false];let Y:=cG P (nat_lit 396) ah ag;let Z:=if ζJ 4 Y=true then Y else cG P (nat_lit 395) ai (Y++[4]);let a0:=if ζJ 5 Z=true then Z else cG P (nat_lit 390) aj (Z++[5]);let al:=J.same J/\K.same K/\(h [e s.n,e s.m,f 3 s.k0 1,f 4 s.k1 3,c sF s.cost,l s.v.fst,c y M,c y N,f 5 s.k3 1,f 6 s.k4 1] 267 10 false).same a3/\(d sF.bK s.ca 91 false).same a4/\(d sF s.bound 157 false).same a5/\(d z s.basic 3 false).same a6/\(d z s.free 3 false).same a7/\True;let am:=∃(n:Int),∃(m:Int),∃(t:Tb),s=bG n m t/\kG n m t/\∀(v:Int),v∈t.basic->k<=v;let an:=λ(u:Bool) ↦(!decide (eh a2 E.n.toNat<k))=u;let ao:=λ(u:Int) (u_1:SV) ↦false=true->(q [p [j u,o,F,F,F,F,F],u_1]).same a9;((B.length<=160/\C.length<=40)/\(∀(x:bO),x∈B->mJ x/\okF x=true)/\∀(r:List bO×bO),r∈C->r.fst.length=B.length/\(∀(x:bO),x∈r.fst->mJ x/\okF x=true)/\mJ r.snd/\okF r.snd=true)/\ao k a8/\(false=false->(B.length<=1000/\C.length<=1000/\∀(r:List bO×bO),r∈C->r.fst.length<=1000)/\(∃(n:Int),∃(m:Int),∃(t:Tb),L=bG n m t/\kG n m t/\j6 m.toNat t)/\ao (2:Int) Q/\(false=false->(∃(n:Int),∃(m:Int),∃(t:Tb),D=bG n m t/\kG n m t/\∃(g:List Rat),B=fL g/\g.length=n.toNat/\t.free=dT n.toNat/\∀(v:Int),v∈t.basic->n<=v)/\(∃(n:Int),∃(m:Int),∃(t:Tb),E=bG n m t/\kG n m t/\okO n.toNat m.toNat t)/\(an true->am/\al/\False)/\(an false->am/\al/\(∃(n:Int),∃(m:Int),∃(t:Tb),w=bG n m t/\kG n m t/\True)/\(J.same J/\K.same K/\a3.same (h [e A.n,e A.m,f 3 A.k0 1,f 4 A.k1 3,c sF A.cost,l A.v.fst,c y A.v.snd.fst,c y A.v.snd.snd,f 5 A.k3 1,f 6 A.k4 1] 267 10 false)/\a4.same (d sF.bK A.ca 91 false)/\a5.same (d sF A.bound 157 false)/\a6.same (d z A.basic 3 false)/\a7.same (d z A.free 3 false)/\True)/\if(((if ζJ 6 X=true then X else cG O (nat_lit 389) af (X++[6])).all λ(i:Nat) ↦decide (i<7))&&(((if ζJ 6 a0=true then a0 else cG P (nat_lit 389) ak (a0++[6])).all λ(i:Nat) ↦decide (i<7))&&true))=true then(q [p [j 1,l s.v.fst,c y M,c y N,c sF (fL (gh s.t s.n.toNat s.m.toNat)),c sF (fL (kK w.t w.n.toNat w.m.toNat w.n.toNat)),F],Q]).same a9 else False)))) (by kernel_rfl) ?_
 simp only[ad9,ad5,sJ,SB,SC,Uo,Up,aea,aeb,aec,γz]
 try simp only[vcs]
 obtain⟨M,G,hs⟩:=hok.small
 obtain⟨r1,r2,r3⟩:=ad7 hok
 have hw:=hs.wf
 have hz:=hs.vK (Run.refl hs.wf hs.nd)
 have hn:=hok.n
 have hm:=hok.m
 have hO:=ad6 hok
 have k1:kG a.1.length a.2.length (kX a):=⟨⟨by omega,by omega⟩,by simpa using hw,hz⟩
 have k0:kG a.1.length a.2.length (rH a):=by
  refine⟨⟨by omega,by omega⟩,⟨hw.ca,hw.row,hw.bound,by simp[rH],hw.basic,hw.free⟩,hz.1,hz.2.1,λq hq=>?_,hz.2.2.2⟩
  rw[(List.mem_replicate.1 hq).2];exact hz.2.2.2
 have k2:kG a.1.length a.2.length (nB a):=TR hs (by simpa using r1) (by omega) (by omega)
 have hl:lastT a.1.length a.2.length (kX a)=nB a:=rfl
 have KO:((a.1,a.2):Lp)=a:=rfl
 simp only[hl,KO,aed,aee,aef]
 have mem2:∀i,i<a.2.length->bj a.2 i ([],0)∈a.2:=λi hi=>de hi
 have hrow:∀r∈a.2,r.1.length=a.1.length/\(∀q∈r.1,Sz 1000000 q)/\Sz 1000000 r.2:=λr hr=>by
  obtain⟨i,hi,rfl⟩:=δa hr
  have h1:=hw.row i hi
  have e:bj (kX a).ca i []=a.2[i].1:=by
   show bj (a.2.map (·.1)) i []=_
   rw[cO (by rw[γx];exact hi),εy]
  rw[e] at h1
  refine⟨h1,hz.1 _ (γf.2 ⟨a.2[i],hr,rfl⟩),hz.2.1 _ (γf.2 ⟨a.2[i],hr,rfl⟩)⟩
 have hg:∀q∈a.1,Sz 1000000 q:=hz.2.2.1
 have hF:∀{l:List Rat},(∀q∈l,Sz 1000000 q)->∀x∈fL l,mJ x/\okF x=true:=λh x hx=>by
  obtain⟨q,hq,rfl⟩:=γf.1 hx
  exact Ur (h q hq)
 have hdg:(∀x∈(iu a).1,mJ x/\okF x=true)/\∀r∈(iu a).2,r.1.length=a.1.length/\(∀x∈r.1,mJ x/\okF x=true)/\mJ r.2/\okF r.2=true:=by
  refine⟨hF hg,λr hr=>?_⟩
  obtain⟨r0,hr0,rfl⟩:=γf.1 hr
  obtain⟨h1,h2,h3⟩:=hrow r0 hr0
  exact⟨by rw[<-h1];exact fJ,hF h2,Ur h3⟩
 have hb0:∀v∈(nB a).basic,0<=v:=λv hv=>by
  have:=r1.perm.mem_iff.1 (δ7 _ hv)
  simp only[kX,ω,γf,rD] at this
  rcases this with⟨i,hi,rfl⟩|h
  ·omega
  ·exact h.1
 have hbn:∀v∈(rH a).basic,(a.1.length:Int)<=v:=λv hv=>by
  simp only[rH,kX,γf,rD] at hv
  obtain⟨i,hi,rfl⟩:=hv
  omega
 refine⟨⟨⟨hn,hm⟩,hdg.1,hdg.2⟩,λh=>(by cases h),λ_=>⟨⟨by omega,by omega,λr hr=>by have:=(hdg.2 r hr).1;omega⟩,⟨_,_,_,rfl,k0,by rw[γz];exact hok.xX⟩,λh=>(by cases h),λ_=>⟨⟨_,_,_,rfl,k0,a.1,rfl,by simp,rfl,hbn⟩,⟨_,_,_,rfl,k1,by simpa using hO⟩,λh=>absurd r3 h,λ_=>⟨⟨_,_,_,rfl,k2,hb0⟩,⟨_,_,_,rfl,k2⟩,?_⟩⟩⟩⟩
 rw[if_pos (by decide)]
 rfl
theorem KP {f:List Int} {d:Int} {i:Int} (h:0<=i) (c:i<f.length):bE (f.take (i+1).toNat) d=bE (f.take i.toNat) d++if bj f i.toNat 0=d then[i] else[]:=by
 have a:(f.take (i+1).toNat).length=i.toNat+1:=by grind
 have b:(f.take i.toNat).length=i.toNat:=by grind
 unfold bE;rw[a,b,yi,List.filter_append]
 have e:∀{k:Nat} {m:Nat},k<m->m<=f.length->bj (f.take m) k 0=bj f k 0:=λ{k m} c j=>by
  grind[cO]
 congr 1
 ·refine List.filter_congr λx g=>?_
  grind[rD]
 grind
def jL (f:List Int):Bool:=f.all λx=>decide (-1<=x)&&decide (x<=1)
def kL (p:bp) (f:List Int):Int:=if bC p≠0 then bC p else if f.length≠p.offers.length then 3 else if jL f=true then 0 else 4
def KQ:bM:=⟨150,bp×List Int,.cons dG (.one (dN (.i .i64))),λa=>a.2.length<=1000000000000,λa=> .si .i64 (kL a.1 a.2)⟩
def aeg (p:bp) (f:List Int):Nat->cB
 |7=> .inv Int (λi=>⟨[(19,.row (.i .i64) f),(20,.si .i64 f.length),(21,.si .i64 i)],[.cells p.ss 27 20 false]⟩)
   (λs=>iS s 21) (λi=>(0<=i/\i<=f.length)/\jL (f.take i.toNat)=true) (λi=>(f.length - i).toNat) λ_ _=> .look
 |_=> .look
theorem h393:Holds Tryz.prog KQ:=by
 refine cK (L:=[ri]) KQ (λa=>aeg a.1 a.2) (by grind[h79]) ?_
 rintro⟨p,f⟩ (D:f.length<=1000000000000)
 refine bR (let a:=γe .i64;let d:=(0:Int);let g:=γq .i64;let v:=decide (bC p≠d);let e:=a (kL p f);let q:=(↑f.length:Int);let r:=decide (q≠(↑p.offers.length:Int));let n:=Φ (bn.i .i64) f;let c:=(↑f.length:Int);let o:=a c;let w:=g 0;let m:=bq.cells (bp.ss p) 27 20 false;True/\(v=true->(a (bC p)).same e)/\(v=false->(r=true->(g 3).same e)/\(r=false->(((n.same n/\(a q).same o/\w.same (a 0)/\True)/\m.same m/\True)/\(d<=d/\d<=c)/\jL []=true)/\∀(x:Int),let s:=bj f x.toNat d;let l:=decide (s<(-1:Int));let j:=decide ((1:Int)<s);let b:=x+(1:Int);let k:=a b;(d<=x/\x<=c)/\jL (γd x.toNat f)=true->(decide (x<c)=true->d<=x/\x<q/\x.toNat<f.length/\(l=true->(g 4).same e)/\(l=false->(j=true->(g 4).same e)/\(j=false->bX .i64 b/\((n.same n/\o.same o/\k.same k/\True)/\m.same m/\True)/\((d<=b/\b<=c)/\jL (γd b.toNat f)=true)/\(c - b).toNat<(c - x).toNat)))/\(decide (x<c)=false->w.same e)))) (by kernel_rfl) ?_
 simp only[vcs]
 refine⟨λh=>by simp[kL,h],λh=>?_⟩
 have F:bC p=0:=Classical.not_not.1 h
 refine⟨λy=>by
  grind[kL],λy=>⟨⟨⟨by omega,by omega⟩,rfl⟩,?_⟩⟩
 have u:f.length=p.offers.length:=by omega
 rintro i ⟨⟨A,G⟩,g⟩
 refine⟨λt=>?_,λt=>?_⟩
 ·have B:=de (d:=0) (show i.toNat<f.length by omega)
  have H:=jl (d:=0) A t
  have z:¬(-1<=bj f i.toNat 0/\bj f i.toNat 0<=1)->(4:Int)=kL p f:=λE=>by
   have:jL f=false:=by
    rw[Bool.eq_false_iff];intro C
    have:=Θ.1 C _ B
    grind
   grind[kL]
  grind[jL]
 ·rw[show i.toNat=f.length by omega,χ] at g
  grind[kL]
def kM (p:bp) (f:List Int):Int:=ck ((bE f 1).map (oI p))
theorem KR {p:bp} (c:bC p=0) {f:List Int} {k:Nat} (g:f.length=p.offers.length):0<=kM p (f.take k)/\kM p (f.take k)<=160000000:=by
 have a:=dL c
 have e:=@yn (f.take k) 1
 have h:(f.take k).length<=f.length:=by grind
 have j:=@sA p a ((bE (f.take k) 1).map (oI p)) λx b=>by
  obtain⟨i,d,rfl⟩:=γf.1 b
  have:=(l8.1 d).1
  exact de (by omega)
 have l:=a.2.1
 grind[kM]
theorem aeh {p:bp} {f:List Int} {i:Int} (b:0<=i) (a:i<f.length):kM p (f.take (i+1).toNat)=kM p (f.take i.toNat)+if bj f i.toNat 0=1 then(oI p i).value else 0:=by
 unfold kM;rw[KP b a,γa,pG]
 grind[ck]
def ju (p:bp) (f:List Int):Lp:=((dq p f).cost,(dT (mF p)).map λr=>((bE f 0).map λi=>((eL p r (oI p i):Int):Rat),((dA p r - cQ p ((bE f 1).map (oI p)) r:Int):Rat)))
theorem EN {p:bp} {f:List Int}:kX (ju p f)=dq p f:=by
 simp_all[kX,ju,dq,dT]
def l9 (p:bp) (f:List Int) (j:Nat):List bO:=fL (((bE f 0).take j).map λi=>(((oI p i).value:Int):Rat))
def nC (p:bp) (f:List Int) (r:Int) (j:Nat):List bO:=fL (((bE f 0).take j).map λi=>((eL p r (oI p i):Int):Rat))
def nD (p:bp) (f:List Int) (k:Nat):List (List bO×bO):=(dT k).map λr=>(nC p f r (bE f 0).length,bu ((dA p r - cQ p ((bE f 1).map (oI p)) r:Int):Rat))
theorem Us {p:bp} {f:List Int}:l9 p f (bE f 0).length=(iu (ju p f)).1:=by
 unfold l9;rw[χ];rfl
theorem Ut {p:bp} {f:List Int}:nD p f (mF p)=(iu (ju p f)).2:=by
 simp_all[nD,iu,ju,nC]
theorem KT {p:bp} {f:List Int} {j:Nat} (h:j<=(bE f 0).length):(l9 p f j).length=j:=by
 grind[l9,fJ]
theorem Uu {p:bp} {f:List Int} {r:Int} {j:Nat} (h:j<=(bE f 0).length):(nC p f r j).length=j:=by
 grind[nC,fJ]
theorem Uw {p:bp} {f:List Int} {k:Nat}:(nD p f k).length=k:=by
 grind[nD,js]
theorem Ux {l m:List Rat}:fL (l++m)=fL l++fL m:=γa
theorem aei {p:bp} {f:List Int} {j:Int} (a:0<=j) (h:j<(bE f 0).length):l9 p f (j+1).toNat=l9 p f j.toNat++[bu (((oI p (bj (bE f 0) j.toNat 0)).value:Int):Rat)]:=by
 unfold l9;rw[jl (d:=0) a h,γa,Ux];rfl
theorem aej {p:bp} {f:List Int} {r j:Int} (a:0<=j) (h:j<(bE f 0).length):nC p f r (j+1).toNat=nC p f r j.toNat++[bu ((eL p r (oI p (bj (bE f 0) j.toNat 0)):Int):Rat)]:=by
 unfold nC;rw[jl (d:=0) a h,γa,Ux];rfl
theorem aek {p:bp} {f:List Int} {r:Int} (a:0<=r):nD p f (r+1).toNat=nD p f r.toNat++[(nC p f r (bE f 0).length,bu ((dA p r - cQ p ((bE f 1).map (oI p)) r:Int):Rat))]:=by
 unfold nD
 rw[show(r+1).toNat=r.toNat+1 by omega,yi,γa,show((r.toNat:Nat):Int)=r by omega]
 rfl
def iw (p:bp) (f:List Int):Bool:=fN p ((bE f 1).map (oI p))
def mK (p:bp) (f:List Int):List bO×(List (List bO×bO)×List Int):=if iw p f=true then((iu (ju p f)).1,((iu (ju p f)).2,bE f 0)) else([],([],[]))
theorem ael {p:bp} {f:List Int} (h:ic p f):AS (ju p f):=by
 have a:=dL h.1
 have c:(ju p f).1.length=nF f:=by
  show((bE f 0).map _).length=_
  simp_all
 have b:(ju p f).2.length=mF p:=by
  show((dT (mF p)).map _).length=_
  grind[js]
 have g:=@yn f 0
 have i:mF p=p.classes.length+12:=rfl
 refine⟨?_,?_,?_,?_,?_⟩
 ·rw[c];have:=h.2.1;have:=a.2.1;grind
 ·rw[b];have:=a.1;omega
 ·grind[EN,EG]
 ·grind[EN,KF]
 ·rw[c,b,EN];exact⟨_,λx z d e=>Ua h d e⟩
theorem aem {p:bp} {f:List Int}:nB (ju p f)=eY p f:=by
 have b:(ju p f).1.length=nF f:=by
  show((bE f 0).map _).length=_
  simp_all
 have a:(ju p f).2.length=mF p:=by
  show((dT (mF p)).map _).length=_
  grind[js]
 grind[nB,eY,EN]
noncomputable def jM (p:bp) (f:List Int) (k:Nat):List Rat:=(dT f.length).map λi=>if bj f i.toNat 0=1 then 1 else if i∈(bE f 0).take k then bj (gh (eY p f) (nF f) (mF p)) ((bE f 0).idxOf i) 0 else 0
noncomputable def jN (p:bp) (f:List Int):Rat:=((kM p f:Int):Rat)+(eY p f).value
noncomputable def yr (p:bp) (f:List Int):List Rat:=kK (eY p f) (nF f) (mF p) (nF f)
theorem yt {p:bp} {f:List Int} {k:Nat}:(jM p f k).length=f.length:=by
 grind[jM,js]
theorem EO {p:bp} {f:List Int} {k i:Nat} (h:i<f.length):bj (jM p f k) i 0=if bj f i 0=1 then 1 else if(i:Int)∈(bE f 0).take k then bj (gh (eY p f) (nF f) (mF p)) ((bE f 0).idxOf (i:Int)) 0 else 0:=by
 unfold jM
 rw[KC (e:=0) (by grind[js]),KD h,γz]
theorem aen {l m:List Rat} (a:l.length=m.length) (h:∀i,i<m.length->bj l i 0=bj m i 0):l=m:=δb a λi b c=>by
 grind[cO]
theorem aeo {p:bp} {f:List Int} {k:Nat} (b:k<nF f):(jM p f k).set (bj (bE f 0) k 0).toNat (bj (gh (eY p f) (nF f) (mF p)) k 0)=jM p f (k+1):=by
 have g:=l8.1 (de (d:=0) b)
 refine aen (by grind[yt]) λi a=>?_
 rw[yt] at a
 have c:(bE f 0).idxOf (bj (bE f 0) k 0)=k:=pI (vT.imp λh=>by omega) b
 have e:(bE f 0).take (k+1)=(bE f 0).take k++[bj (bE f 0) k 0]:=by simp_all[cO]
 rw[sH (by grind[yt]),EO a,EO a,e]
 grind
theorem aep {p:bp} {f:List Int} {i:Nat} (h:i<f.length):bj (jM p f 0) i 0=if bj f i 0=1 then 1 else 0:=by
 grind[EO]
def jO (p:bp) (f:List Int):Bool:=decide (kL p f=0)&&iw p f
noncomputable def j8 (p:bp) (f:List Int):bO:=if jO p f=true then bu (jN p f) else(false,([],[]))
noncomputable def qI (p:bp) (f:List Int):List bO:=if jO p f=true then fL (yr p f) else[]
noncomputable def j9 (p:bp) (f:List Int):List bO:=if jO p f=true then fL (jM p f (nF f)) else[]
noncomputable def aer (p:bp) (f:List Int):SV:=.agg [.sb (jO p f),.sb (j8 p f).1,.row (.i .u32) (j8 p f).2.1,.row (.i .u32) (j8 p f).2.2,.row sF (qI p f),.row sF (j9 p f)]
theorem KU {t:List Int} {g:Int->Int}:∀{l:List Int},((l.filter λx=>decide (x∈t)).map g).sum=(l.map λx=>if x∈t then g x else 0).sum
 |[]=>rfl
 |x::l=>by
  simp only[List.filter_cons,ι,δ0]
  by_cases h:x∈t
  ·rw[if_pos (decide_eq_true h),if_pos h,ι,δ0,KU]
  ·rw[if_neg (by simpa using h),if_neg h,KU]
   omega
theorem KV {t:List Int} {g:Int->Int}:∀{l:List Int},np (λx=>((g x:Int):Rat)*(if x∈t then 1 else 0)) l=(((l.map λx=>if x∈t then g x else 0).sum:Int):Rat)
 |[]=>rfl
 |x::l=>by
  have:=@KV t g l
  simp only[np,this,ι,δ0,Rat.intCast_add]
  congr 1
  split<;>simp_all
theorem KW {p:bp}:∀{l:List Int},ck (l.map (oI p))=(l.map λi=>(oI p i).value).sum
 |[]=>rfl
 |x::l=>by
  have:=@KW p l
  grind[ck]
section
variable {p:bp} {f t:List Int}
theorem Uy (k:jL f=true) (u:f.length=p.offers.length) (e:fi p.offers.length t) (j:∀i∈t,bj f i.toNat 0≠ -1) (r:∀i∈bE f 1,i∈t) (g:Int->Int):
  (t.map g).sum=((bE f 1).map g).sum+((bE f 0).map λx=>if x∈t then g x else 0).sum:=by
 have l:t.Perm (bE f 1++(bE f 0).filter λx=>decide (x∈t)):=by
  refine(δU (EA e) ?_).2 λx=>?_
  ·rw[List.nodup_append]
   refine⟨vT.imp λh=>by omega,(vT.sublist δn).imp λh=>by omega,λa s b o m=>?_⟩
   grind[l8]
  ·rw[ω,List.mem_filter,decide_eq_true_eq]
   constructor
   ·intro c
    have v:=e.2 x c
    have q:=j x c
    have n:=Θ.1 k _ (de (d:=0) (show x.toNat<f.length by omega))
    simp only[θ,decide_eq_true_eq] at n
    grind[l8]
   grind
 rw[TJ (l.map g),γa,ζ1,KU]
theorem vW (l:List Int) (r:Int):cQ p (l.map (oI p)) r=(l.map λi=>eL p r (oI p i)).sum:=by
 unfold cQ;rw[δo];rfl
theorem weak (h:ic p f) (s:jL f=true) (z:fi p.offers.length t) (a:fN p (t.map (oI p))=true) (u:∀i∈t,bj f i.toNat 0≠ -1) (A:∀i∈bE f 1,i∈t):((ck (t.map (oI p)):Int):Rat)<=jN p f:=by
 obtain⟨l,E,r⟩:=rG h
 have d:∀g:Int->Int,cu (nF f) (λj=>((g (bj (bE f 0) j 0):Int):Rat)*(if bj (bE f 0) j 0∈t then(1:Rat) else 0))=(((t.map g).sum - ((bE f 1).map g).sum:Int):Rat):=λg=>by
  have e:=@vH (λx=>((g x:Int):Rat)*(if x∈t then(1:Rat) else 0)) (bE f 0)
  rw[KV] at e;rw[Uy s h.2.1 z u A g]
  grind
 have q:=asg_holds (n:=nF f) (m:=mF p) (t:=dq p f) qH AI (y:=λj=>if bj (bE f 0) j 0∈t then(1:Rat) else 0)
 have B:(dq p f).value+cu (nF f) (λj=>(dq p f).cs j*(if bj (bE f 0) j 0∈t then(1:Rat) else 0))=((ck (t.map (oI p)) - kM p f:Int):Rat):=by
  grind[dq,dY,ED,kM,KW]
 rw[B] at q
 have o:∀v∈(dq p f).basic++(dq p f).free,0<=jI (nF f) (dq p f) (λj=>if bj (bE f 0) j 0∈t then(1:Rat) else 0) v:=λv b=>by
  rcases ω.1 b with b|b
  ·obtain⟨i,k,rfl⟩:=x8 qH b
   rw[oU qH AI k,AH k,dY (g:=λj=>((eL p i (oI p (bj (bE f 0) j 0)):Int):Rat)*(if bj (bE f 0) j 0∈t then(1:Rat) else 0)) λj c=>by rw[AG k c],d λx=>eL p i (oI p x),<-vW,<-vW]
   have C:=oM.1 a i (by grind[di])
   have w:0<=(dA p i - cQ p ((bE f 1).map (oI p)) i) - (cQ p (t.map (oI p)) i - cQ p ((bE f 1).map (oI p)) i):=by omega
   have D:=EH w
   simp_all
  grind[xZ,qH,nV,AI]
 have:=l.best r q λj c=>o _ (l.perm.mem_iff.1 (List.mem_append_right _ (xY l.wf c)))
 grind[jN]
end
theorem Uz {t:Tb} {n j:Nat} (b:j<n):∀{k:Nat},(∀i,i<k->0<=t.bv i)->(∃i,i<k/\t.bv i=j/\bj (gh t n k) j 0=t.bd i)\/((∀i,i<k->t.bv i≠j)/\bj (gh t n k) j 0=0)
 |0,_=> .inr ⟨λi a=>by omega,by
   grind[gh,cO]⟩
 |k+1,h=>by
  have e:=h k (by omega)
  have d:=@Uz t n j b k λi a=>h i (by omega)
  unfold gh
  by_cases c:t.bv k<n
  ·rw[if_pos c,sH (by grind[EK])]
   grind
  grind
section
variable {p:bp} {f:List Int}
noncomputable def pN (p:bp) (f:List Int):Int->Rat:=jI (nF f) (eY p f) λ_=>0
theorem optX_holds (h:ic p f):(dq p f).holds (nF f) (mF p) (pN p f) (eY p f).value:=by
 obtain⟨a,_,_⟩:=rG h
 have b:=asg_holds a.wf a.gQ (y:=λ_=>0)
 rw[dY (g:=λ_=>0) λj _=>by grind,kD] at b
 have c:=(a.nq _ _).1 b
 rwa [show(eY p f).value+0=(eY p f).value by grind] at c
theorem KX (h:ic p f) {i:Nat} (b:i<mF p):pN p f ((eY p f).bv i)=(eY p f).bd i:=by
 obtain⟨a,_,_⟩:=rG h
 unfold pN
 rw[oU a.wf a.gQ b,dY (g:=λ_=>0) λj _=>by grind,kD]
 grind
theorem KY (h:ic p f) {j:Nat} (b:j<nF f):pN p f ((eY p f).fv j)=0:=by
 obtain⟨a,_,_⟩:=rG h
 unfold pN;rw[nV a.wf a.gQ b]
theorem EP (h:ic p f) {v:Int} (a:v∈(dq p f).basic++(dq p f).free):(∃i,i<mF p/\(eY p f).bv i=v)\/∃j,j<nF f/\(eY p f).fv j=v:=by
 obtain⟨b,_,_⟩:=rG h
 rw[<-b.perm.mem_iff,ω] at a
 rcases a with a|a
 ·exact .inl (x8 b.wf a)
 ·exact .inr (xZ b.wf a)
theorem KZ (h:ic p f) {v:Int} (c:v∈(dq p f).basic++(dq p f).free):0<=pN p f v:=by
 obtain⟨_,b,_⟩:=rG h
 rcases EP h c with⟨i,a,rfl⟩|⟨j,d,rfl⟩
 ·rw[KX h a]
  exact b i a
 grind[KY]
theorem K0 {j:Nat} (a:j<nF f):(j:Int)∈(dq p f).basic++(dq p f).free:=by
 have:=xY (n:=nF f) (m:=mF p) (t:=dq p f) qH a
 grind[EE]
theorem aes (h:ic p f) {i:Nat} (b:i<mF p):0<=(eY p f).bv i:=by
 obtain⟨a,_,_⟩:=rG h
 have c:=a.perm.mem_iff.1 (δ7 _ (Aj a.wf b))
 grind[x8,qH,adA,xZ,EE]
theorem aeu (h:ic p f) {j:Nat} (c:j<nF f):bj (gh (eY p f) (nF f) (mF p)) j 0=pN p f j:=by
 rcases @Uz (eY p f) (nF f) j c (mF p) λi b=>aes h b with⟨i,d,a,g⟩|⟨d,a⟩
 ·grind[KX]
 ·rw[a]
  rcases EP h (K0 c) with⟨i,b,e⟩|⟨k,l,e⟩<;>grind[EP,K0,KY]
theorem aev (h:ic p f) {j:Nat} (a:j<nF f):pN p f j<=1:=by
 have:=T9 h (optX_holds h) (λv b=>KZ h b) a
 grind[EE]
theorem aew (h:ic p f):(∀i,i<mF p->Sz 1000 ((eY p f).bd i))/\(∀j,j<nF f->Sz 1000 ((eY p f).cs j))/\Sz 1000 (eY p f).value:=have a:=(EG h).TQ (rG h).1
 ⟨a.1,a.2.1,a.2.2.1⟩
theorem UA (q:Rat) (h:q=0\/q=1):Sz 1000 q:=by
 have a:Sz 1 q:=by rcases h with rfl|rfl<;>exact⟨by decide,by decide⟩
 exact a.mono (by omega)
theorem aex (h:ic p f) {v:Int} (a:v∈(dq p f).basic++(dq p f).free):Sz 1000 (pN p f v):=by
 grind[EP,KX,aew,KY,UA]
noncomputable def dr (p:bp) (f:List Int):List Rat:=jM p f (nF f)
theorem rI:(dr p f).length=f.length:=yt
theorem AW (h:ic p f) (c:jL f=true) {i:Nat} (b:i<f.length):(bj f i 0=1/\bj (dr p f) i 0=1)\/(bj f i 0= -1/\bj (dr p f) i 0=0)\/(bj f i 0=0/\(i:Int)∈bE f 0/\(bE f 0).idxOf (i:Int)<nF f/\bj (dr p f) i 0=pN p f ((bE f 0).idxOf (i:Int))):=by
 have g:=Θ.1 c _ (de (d:=0) b)
 simp only[θ,decide_eq_true_eq] at g;unfold dr;rw[EO b,χ]
 rcases(show bj f i 0=1\/bj f i 0= -1\/bj f i 0=0 by omega) with a|a|a
 ·simp_all
 ·simp_all[l8]
 ·have e:(i:Int)∈bE f 0:=l8.2 ⟨by omega,by simp_all⟩
  have j:(bE f 0).idxOf (i:Int)<nF f:=List.idxOf_lt_length_of_mem e
  simp_all[aeu]
theorem ER (h:ic p f) (a:jL f=true) {i:Nat} (b:i<f.length):0<=bj (dr p f) i 0/\bj (dr p f) i 0<=1/\Sz 1000 (bj (dr p f) i 0):=by
 rcases AW h a b with⟨_,e⟩|⟨_,e⟩|⟨_,_,c,e⟩
 all_goals grind[UA,KZ,K0,aev,aex]
theorem sP (h:ic p f) (c:jL f=true) {i:Nat} (b:i<f.length) (d:0<bj (dr p f) i 0) (a:bj (dr p f) i 0<1):bj f i 0=0:=by
 grind[AW]
def eD (x:List Rat):List Int:=(dT x.length).filter λi=>decide (0<bj x i.toNat 0)
theorem yu {x:List Rat} {i:Int}:i∈eD x↔(0<=i/\i<x.length)/\0<bj x i.toNat 0:=by
 simp_all[eD,rD]
theorem UB {x:List Rat}:fi x.length (eD x):=⟨Aw.sublist δn,λi a=>(yu.1 a).1⟩
def mL (x:List Rat):Bool:=x.all λq=>decide (q.den=1)
theorem aey {q:Rat} (h:q.den=1):q=(q.num:Rat):=by
 grind[Rat.mkRat_self,Rat.mkRat_one]
theorem aez {q:Rat} (c:q.den=1) (b:0<=q) (a:q<=1):q=0\/q=1:=by
 rw[aey c] at b a ⊢
 have f:0<=q.num:=by exact_mod_cast b
 have d:q.num<=1:=by exact_mod_cast a
 rcases(show q.num=0\/q.num=1 by omega) with e|e<;>simp_all
theorem aeA {t:List Int} (a:jL f=true) (c:f.length=p.offers.length) (h:fi p.offers.length t) (b:∀i∈t,bj f i.toNat 0≠ -1) (d:∀i∈bE f 1,i∈t) (g:Int->Int):cu (nF f) (λj=>((g (bj (bE f 0) j 0):Int):Rat)*(if bj (bE f 0) j 0∈t then(1:Rat) else 0))=(((t.map g).sum - ((bE f 1).map g).sum:Int):Rat):=by
 have e:=@vH (λx=>((g x:Int):Rat)*(if x∈t then(1:Rat) else 0)) (bE f 0)
 rw[KV] at e;rw[Uy a c h b d g]
 grind
theorem UC (h:ic p f) (t:jL f=true) (F:mL (dr p f)=true):fN p ((eD (dr p f)).map (oI p))=true/\((ck ((eD (dr p f)).map (oI p)):Int):Rat)=jN p f:=by
 have n:=h.2.1
 have z:=@rI p f
 have q:∀i:Nat,i<f.length->bj (dr p f) i 0=0\/bj (dr p f) i 0=1:=λi o=>by
  obtain⟨O,J,_⟩:=ER h t o
  have:=Θ.1 F _ (de (d:=0) (show i<(dr p f).length by omega))
  simp_all[aez]
 have B:fi p.offers.length (eD (dr p f)):=by
  grind[UB]
 have A:∀i∈eD (dr p f),bj f i.toNat 0≠ -1:=λi x K=>by
  grind[yu,AW]
 have D:∀i∈bE f 1,i∈eD (dr p f):=λi x=>by
  grind[l8,yu,AW]
 have G:∀j,j<nF f->(if bj (bE f 0) j 0∈eD (dr p f) then(1:Rat) else 0)=pN p f ((dq p f).fv j):=λj c=>by
  obtain⟨C,L⟩:=yo h c
  have E:(bE f 0).idxOf (bj (bE f 0) j 0)=j:=pI (vT.imp λh=>by omega) c
  have M:((((bj (bE f 0) j 0).toNat:Nat)):Int)=bj (bE f 0) j 0:=by omega
  have e:bj (dr p f) (bj (bE f 0) j 0).toNat 0=pN p f j:=by
   grind[AW]
  rw[EE c,<-e]
  rcases q (bj (bE f 0) j 0).toNat (by omega) with l|l
  ·simp_all[yu]
  ·rw[l,if_pos]
   grind[yu]
 obtain⟨v,w⟩:=optX_holds h
 have k:=aeA t n B A D
 refine⟨oM.2 λy b=>?_,?_⟩
 ·obtain⟨r,m⟩:∃r:Int,r=(y:Int):=⟨_,rfl⟩
  rw[<-m] at b ⊢
  have I:0<=r:=by omega
  have a:r.toNat<mF p:=by unfold di at b;grind
  have s:=v r.toNat a
  rw[dY (g:=λj=>((eL p r (oI p (bj (bE f 0) j 0)):Int):Rat)*(if bj (bE f 0) j 0∈eD (dr p f) then(1:Rat) else 0)) λj c=>by grind[AG],k λi=>eL p r (oI p i),AH a,show((r.toNat:Nat):Int)=r by omega] at s
  have N:=KZ h (δ7 _ (Aj qH a))
  rw[<-vW,<-vW] at s
  have l:((cQ p ((eD (dr p f)).map (oI p)) r - cQ p ((bE f 1).map (oI p)) r:Int):Rat)<=((dA p r - cQ p ((bE f 1).map (oI p)) r:Int):Rat):=by grind
  have H:cQ p ((eD (dr p f)).map (oI p)) r - cQ p ((bE f 1).map (oI p)) r<=dA p r - cQ p ((bE f 1).map (oI p)) r:=by exact_mod_cast l
  omega
 ·have u:(dq p f).value=0:=rfl
  rw[u,dY (g:=λj=>(((oI p (bj (bE f 0) j 0)).value:Int):Rat)*(if bj (bE f 0) j 0∈eD (dr p f) then(1:Rat) else 0)) λj c=>by grind[ED],k λi=>(oI p i).value] at w
  grind[jN,kM,KW]
end
abbrev qJ:=Int×(Int×(Int×(Int×List bO)))
@[reducible] def ek:bn:=.pair (.i .i64) (.pair (.i .i64) (.pair (.i .i64) (.pair (.i .i64) (.bK sF))))
def zN:qJ:=(0,(0,(0,(0,[]))))
def ES:qJ:=(3,(0,(0,(0,[]))))
noncomputable def K1 (p:bp) (f:List Int):qJ:=(1,(0,(0,(0,fL (yr p f)))))
def kg (k o:Int):qJ:=(2,(k,(o,(o+1,[]))))
structure cH where
 ch:List Int
 val:Int
 found:Bool
 prf:List qJ
 err:Int
def dU (en:Int->Bool) (s:cH) (a:Alloc):cH:=if s.val<a.value then⟨a.chosen,a.value,s.found||en a.value,s.prf,s.err⟩ else s
def mM (q:Rat):Rat:=if q<0 then -q else q
def jb (x:List Rat):Nat->Option (Int×Rat)
 |0=>none
 |k+1=>if 0<bj x k 0/\bj x k 0<1 then(match jb x k with
   |none=>some ((k:Int),mM (bj x k 0 - 1 / 2))
   |some (i,l)=>if mM (bj x k 0 - 1 / 2)<l then some ((k:Int),mM (bj x k 0 - 1 / 2)) else some (i,l)) else jb x k
def jv (x:List Rat):Option Int:=(jb x x.length).map (·.1)
theorem K2 {x:List Rat}:∀{k:Nat} {i:Int} {l:Rat},jb x k=some (i,l)->(0<=i/\i<k)/\(0<bj x i.toNat 0/\bj x i.toNat 0<1)/\l=mM (bj x i.toNat 0 - 1 / 2)
 |0,i,l,h=>by cases h
 |k+1,i,l,h=>by
  unfold jb at h
  have b:some ((k:Int),mM (bj x k 0 - 1 / 2))=some (i,l)->(0<bj x k 0/\bj x k 0<1)->(0<=i/\i<((k+1:Nat):Int))/\(0<bj x i.toNat 0/\bj x i.toNat 0<1)/\l=mM (bj x i.toNat 0 - 1 / 2):=λh f=>by
   grind
  have a:jb x k=some (i,l)->(0<=i/\i<((k+1:Nat):Int))/\(0<bj x i.toNat 0/\bj x i.toNat 0<1)/\l=mM (bj x i.toNat 0 - 1 / 2):=λh=>by
   obtain⟨c,d,e⟩:=K2 h
   grind
  grind
theorem UD {x:List Rat}:∀{k:Nat},jb x k=none->∀i,i<k->¬(0<bj x i 0/\bj x i 0<1)
 |0,_,i,a=>by omega
 |k+1,h,i,a=>by
  unfold jb at h;split at h
  ·grind
  ·rename_i b
   by_cases e:i=k
   ·simp_all
   ·exact UD h i (by omega)
theorem sQ {x:List Rat} {k:Int} (h:jv x=some k):(0<=k/\k<x.length)/\0<bj x k.toNat 0/\bj x k.toNat 0<1:=by
 unfold jv at h
 obtain⟨⟨i,l⟩,b,a⟩:=Option.map_eq_some_iff.1 h
 simp only at a
 subst a
 obtain⟨c,d,_⟩:=K2 b
 simp_all
theorem aeB {x:List Rat} (h:jv x=none):∀i,i<x.length->¬(0<bj x i 0/\bj x i 0<1):=UD (Option.map_eq_none_iff.1 h)
noncomputable def o7 (p:bp) (f:List Int):Alloc:=⟨eD (dr p f),ck ((eD (dr p f)).map (oI p))⟩
noncomputable def dh (p:bp) (en:Int->Bool) (s:cH) (f:List Int):cH:=if((s.val+1:Int):Rat)<=jN p f/\mL (dr p f)=true then dU en s (o7 p f) else s
def gp (s:cH) (a k:Int):cH:={s with prf:=(s.prf++[zN,zN]).set a.toNat (kg k s.prf.length)}
noncomputable def fp (p:bp) (en:Int->Bool) (most:Int) (b:cH->Int->List Int->cH) (s:cH) (a:Int) (f:List Int):cH:=
 if s.err≠0\/s.found=true then s
 else if iw p f=false then {s with prf:=s.prf.set a.toNat ES}
 else if jN p f<(((dh p en s f).val+1:Int):Rat) then {dh p en s f with prf:=(dh p en s f).prf.set a.toNat (K1 p f)}
 else match jv (dr p f) with
  |none=>{dh p en s f with err:=12}
  |some k=>if most<(dh p en s f).prf.length+2 then {dh p en s f with err:=12}
   else b (b (gp (dh p en s f) a k) ((dh p en s f).prf.length+1) (f.set k.toNat 1)) (dh p en s f).prf.length (f.set k.toNat (-1))
noncomputable def dB (p:bp) (en:Int->Bool) (most:Int):Nat->cH->Int->List Int->cH
 |0=>fp p en most λs _ _=>s
 |n+1=>fp p en most (dB p en most n)
structure eQ (p:bp) (f:List Int):Prop where
 c:bC p=0
 l:f.length=p.offers.length
 r:jL f=true
theorem eQ.ok {p:bp} {f:List Int} (h:eQ p f) (a:iw p f=true):ic p f:=⟨h.c,h.l,a⟩
theorem eQ.e {p:bp} {f:List Int} (h:eQ p f):kL p f=0:=by
 unfold kL
 rw[if_neg (by simp[h.c]),if_neg (by simp[h.l]),if_pos h.r]
theorem eQ.jO {p:bp} {f:List Int} (h:eQ p f):jO p f=iw p f:=by
 unfold Go.Vi.jO;rw[h.e]
 simp
theorem UE {f:List Int} {k:Nat} {d:Int} (h:jL f=true) (a: -1<=d/\d<=1):jL (f.set k d)=true:=by
 grind[jL]
theorem eQ.set {p:bp} {f:List Int} (h:eQ p f) {k:Nat} {d:Int} (a: -1<=d/\d<=1):eQ p (f.set k d):=⟨h.c,by rw[γb];exact h.l,UE h.r a⟩
theorem me {f:List Int} {k d:Int} (i:0<=k/\k<f.length) (l:bj f k.toNat 0=0) (g:d≠0):nF f=nF (f.set k.toNat d)+1:=by
 have c:(bE f 0).Perm (k::bE (f.set k.toNat d) 0):=by
  refine(δU (vT.imp λh=>by omega) ?_).2 λx=>?_
  ·rw[List.nodup_cons]
   refine⟨λj=>?_,vT.imp λh=>by omega⟩
   simp_all[l8,sH]
  ·rw[List.mem_cons,l8,l8,γb]
   constructor
   ·rintro⟨a,b⟩
    by_cases e:x=k
    ·exact .inl e
    ·exact .inr ⟨a,by rw[sH (by omega),if_neg (by omega)];exact b⟩
   grind[sH]
 have:=c.length_eq
 omega
theorem ET {en:Int->Bool} {s:cH} {a:Alloc}:(dU en s a).prf=s.prf/\(dU en s a).err=s.err/\s.val<=(dU en s a).val/\((dU en s a).val=s.val\/(dU en s a).val=a.value)/\((dU en s a).ch=s.ch\/(dU en s a).ch=a.chosen):=by
 grind[dU]
theorem EU {p:bp} {en:Int->Bool} {s:cH} {f:List Int}:(dh p en s f).prf=s.prf/\(dh p en s f).err=s.err/\s.val<=(dh p en s f).val/\((dh p en s f).val=s.val\/(dh p en s f).val=(o7 p f).value)/\((dh p en s f).ch=s.ch\/(dh p en s f).ch=(o7 p f).chosen):=by
 grind[dh,ET]
theorem aeC {x:List Rat}:(eD x).length<=x.length:=by
 have:=List.length_filter_le (λi:Int=>decide (0<bj x i.toNat 0)) (dT x.length)
 rw[js] at this;exact this
theorem aeD {p:bp} {f:List Int} (b:f.length=p.offers.length):∀x∈(eD (dr p f)).map (oI p),x∈p.offers:=λx a=>by
 obtain⟨i,c,rfl⟩:=γf.1 a
 have:=(yu.1 c).1
 rw[rI,b] at this
 exact de (by omega)
theorem UF {p:bp} {f:List Int} (h:eQ p f):0<=(o7 p f).value/\(o7 p f).value<=160000000/\(o7 p f).chosen.length<=160:=by
 have a:=dL h.c
 have b:=@sA p a ((eD (dr p f)).map (oI p)) (aeD h.l)
 have d:=@aeC (dr p f)
 rw[rI,h.l] at d
 have e:=a.2.1
 rw[γx] at b
 refine⟨b.1,?_,?_⟩
 ·show ck _<=_
  omega
 ·show(eD (dr p f)).length<=160
  omega
theorem UG {p:bp} (a:bC p=0) {c:List Int} (h:fi p.offers.length c):cM p c=0↔fN p (c.map (oI p))=true:=by
 simp_all[EB,fO,dQ,cM]
theorem yv {p:bp} (a:bC p=0) {c:List Int} (h:fi p.offers.length c):eC p c=ck (c.map (oI p)):=by
 simp_all[dQ,EB,eC]
theorem rJ {p:bp} {en:Int->Bool} {most:Int}:∀{n:Nat} {s:cH} {a:Int} {f:List Int},eQ p f->s.prf.length<=(dB p en most n s a f).prf.length/\((dB p en most n s a f).prf.length<=most\/(dB p en most n s a f).prf.length=s.prf.length)/\s.val<=(dB p en most n s a f).val/\((dB p en most n s a f).val=s.val\/(dB p en most n s a f).val<=160000000)/\((dB p en most n s a f).ch=s.ch\/(dB p en most n s a f).ch.length<=160)/\((dB p en most n s a f).err=s.err\/(dB p en most n s a f).err=12):=by
 have d:∀{b:cH->Int->List Int->cH},(∀{s:cH} {a:Int} {f:List Int},eQ p f->s.prf.length<=(b s a f).prf.length/\((b s a f).prf.length<=most\/(b s a f).prf.length=s.prf.length)/\s.val<=(b s a f).val/\((b s a f).val=s.val\/(b s a f).val<=160000000)/\((b s a f).ch=s.ch\/(b s a f).ch.length<=160)/\((b s a f).err=s.err\/(b s a f).err=12))->
   ∀{s:cH} {a:Int} {f:List Int},eQ p f->s.prf.length<=(fp p en most b s a f).prf.length/\((fp p en most b s a f).prf.length<=most\/(fp p en most b s a f).prf.length=s.prf.length)/\s.val<=(fp p en most b s a f).val/\((fp p en most b s a f).val=s.val\/(fp p en most b s a f).val<=160000000)/\((fp p en most b s a f).ch=s.ch\/(fp p en most b s a f).ch.length<=160)/\((fp p en most b s a f).err=s.err\/(fp p en most b s a f).err=12):=by
  intro b c s a f h
  obtain⟨v,j,E,l,r⟩:=@EU p en s f
  obtain⟨H,A,L⟩:=UF h
  have w:(dh p en s f).ch=s.ch\/(dh p en s f).ch.length<=160:=r.imp id λh=>by simp_all
  have x:(dh p en s f).val=s.val\/(dh p en s f).val<=160000000:=l.imp id λh=>by omega
  unfold fp;split
  ·simp_all
  split
  ·simp_all
  split
  ·simp_all
  split
  ·simp_all
  rename_i k J;split
  ·simp_all
  rename_i o
  have F:(gp (dh p en s f) a k).prf.length=s.prf.length+2:=by
   simp_all[gp]
  obtain⟨D,K,u,z,e,t⟩:=@c (gp (dh p en s f) a k) ((dh p en s f).prf.length+1) (f.set k.toNat 1) (h.set (by omega))
  obtain⟨B,C,G,I,g,M⟩:=@c (b (gp (dh p en s f) a k) ((dh p en s f).prf.length+1) (f.set k.toNat 1)) (dh p en s f).prf.length (f.set k.toNat (-1)) (h.set (by omega))
  have i:(gp (dh p en s f) a k).val=(dh p en s f).val:=rfl
  have m:(gp (dh p en s f) a k).ch=(dh p en s f).ch:=rfl
  have q:(gp (dh p en s f) a k).err=(dh p en s f).err:=rfl
  rw[v] at o;rw[i] at u z;rw[m] at e;rw[q,j] at t
  refine⟨by omega,.inl (by omega),by omega,by omega,?_,?_⟩
  ·rcases g with g|g
   ·rw[g]
    rcases e with e|e<;>simp_all
   omega
  omega
 intro n
 induction n with
 |zero=>exact d λ{s a f} _=>⟨Nat.le_refl _,.inr rfl,Int.le_refl _,.inl rfl,.inl rfl,.inl rfl⟩
 |succ n y=>exact d λh=>y h
inductive mf (p:bp) (v:Int) (t:List qJ):Nat->List Int->Nat->Nat->Prop
 |bnd {a:Nat} {f:List Int} {lo:Nat}:t[a]?=some (K1 p f)->iw p f=true->jN p f<((v+1:Int):Rat)->mf p v t a f lo lo
 |con {a:Nat} {f:List Int} {lo:Nat}:t[a]?=some ES->iw p f=false->mf p v t a f lo lo
 |AX {a:Nat} {f:List Int} {lo mid hi:Nat} {k:Int}:t[a]?=some (kg k lo)->a<lo->(0<=k/\k<f.length)->bj f k.toNat 0=0->mf p v t (lo+1) (f.set k.toNat 1) (lo+2) mid->mf p v t lo (f.set k.toNat (-1)) mid hi->mf p v t a f lo hi
section
variable {p:bp} {v v':Int} {t t':List qJ} {a lo hi:Nat} {f:List Int}
theorem mf.le (h:mf p v t a f lo hi):lo<=hi:=by
 induction h with
 |bnd _ _ _=>omega
 |con _ _=>omega
 |AX _ _ _ _ _ _ b c=>omega
theorem mf.mono (h:mf p v t a f lo hi) (q:v<=v') (e:∀i,i=a\/(lo<=i/\i<hi)->t'[i]?=t[i]?):mf p v' t' a f lo hi:=by
 induction h with
 |bnd c b d=>
  refine .bnd (by simp_all) b ?_
  have:((v+1:Int):Rat)<=((v'+1:Int):Rat):=by exact_mod_cast (show v+1<=v'+1 by omega)
  grind
 |con c b=>exact .con (by simp_all) b
 |AX c b d l k g m j=>
  have o:=k.le
  have n:=g.le
  exact .AX (by simp_all) b d l (m λi hi=>e i (by omega)) (j λi hi=>e i (by omega))
def EV (f:List Int) (l:List Int):Prop:=(∀i∈l,bj f i.toNat 0≠ -1)/\∀i∈bE f 1,i∈l
theorem UH {l:List Int} {k d:Int} (g:0<=k/\k<f.length) (m:bj f k.toNat 0=0) (e:∀i∈l,0<=i) (h:EV f l) (j:(d=1/\k∈l)\/(d= -1/\k∉l)):EV (f.set k.toNat d) l:=by
 obtain⟨b,c⟩:=h
 refine⟨λi a=>?_,λi a=>?_⟩<;>grind[sH,l8]
theorem aeE {l m:List Int} (e:bC p=0) (f:∀i∈l,0<=i/\i<p.offers.length) (q:m.Nodup) (j:∀i∈m,i∈l) (o:l.Nodup) (h:fN p (l.map (oI p))=true):fN p (m.map (oI p))=true:=by
 refine oM.2 λr b=>?_
 have d:=oM.1 h r b
 have a:l.Perm (m++l.filter λi=>decide (i∉m)):=by
  grind
 have g:cQ p (l.map (oI p)) r=cQ p (m.map (oI p)) r+cQ p ((l.filter λi=>decide (i∉m)).map (oI p)) r:=by
  rw[vW,vW,vW,TJ (a.map _),γa,ζ1]
 have n:=@tV p r ((l.filter λi=>decide (i∉m)).map (oI p)) λx c=>by
  obtain⟨i,k,rfl⟩:=γf.1 c
  simp_all[oZ]
 omega
theorem mf.sound (h:mf p v t a f lo hi) (e:eQ p f) {l:List Int} (d:fi p.offers.length l) (b:fN p (l.map (oI p))=true) (g:EV f l):ck (l.map (oI p))<=v:=by
 induction h with
 |bnd o n m=>
  have j:=weak (e.ok n) e.r d b g.1 g.2
  have s:((ck (l.map (oI p)):Int):Rat)<((v+1:Int):Rat):=by grind
  have u:ck (l.map (oI p))<v+1:=by exact_mod_cast s
  omega
 |con o n=>
  exfalso
  have:=aeE e.c d.2 (vT.imp λh=>by omega) g.2 (EA d) b
  grind[iw]
 |@AX a f lo y hi k o n m j s u x w=>
  by_cases q:k∈l
  ·exact x (e.set (by omega)) (UH m j (λi hi=>(d.2 i hi).1) g (.inl ⟨rfl,q⟩))
  ·exact w (e.set (by omega)) (UH m j (λi hi=>(d.2 i hi).1) g (.inr ⟨rfl,q⟩))
end
theorem UI {p:bp} {en:Int->Bool} {most:Int}:∀{n:Nat} {s:cH} {a:Int} {f:List Int},eQ p f->nF f<=n->(0<=a/\a<s.prf.length)->(dB p en most n s a f).err=0->(dB p en most n s a f).found=false->
  mf p (dB p en most n s a f).val (dB p en most n s a f).prf a.toNat f s.prf.length (dB p en most n s a f).prf.length/\(∀i:Nat,i<s.prf.length->i≠a.toNat->(dB p en most n s a f).prf[i]?=s.prf[i]?)/\s.err=0/\s.found=false:=by
 have y:∀{b:cH->Int->List Int->cH} {s:cH} {a:Int} {f:List Int},eQ p f->(0<=a/\a<s.prf.length)->
   (∀{s:cH} {a:Int} {g:List Int},eQ p g->nF f=nF g+1->(0<=a/\a<s.prf.length)->s.prf.length<=(b s a g).prf.length/\s.val<=(b s a g).val/\((b s a g).err=0->(b s a g).found=false->mf p (b s a g).val (b s a g).prf a.toNat g s.prf.length (b s a g).prf.length/\(∀i:Nat,i<s.prf.length->i≠a.toNat->(b s a g).prf[i]?=s.prf[i]?)/\s.err=0/\s.found=false))->
   (fp p en most b s a f).err=0->(fp p en most b s a f).found=false->mf p (fp p en most b s a f).val (fp p en most b s a f).prf a.toNat f s.prf.length (fp p en most b s a f).prf.length/\(∀i:Nat,i<s.prf.length->i≠a.toNat->(fp p en most b s a f).prf[i]?=s.prf[i]?)/\s.err=0/\s.found=false:=by
  intro b s a f t C q e c
  obtain⟨D,e2,e3,e4,e5⟩:=@EU p en s f
  have B:a.toNat<s.prf.length:=by omega
  unfold fp at e c ⊢;split at e
  ·simp_all
  rename_i x
  have G:s.err=0/\s.found=false:=by simpa using x
  rw[if_neg x] at c ⊢;split at e
  ·rename_i m
   rw[if_pos m]
   refine⟨?_,λi u j=>?_,G⟩
   ·rw[γb]
    exact .con (by simp_all) m
   ·show(s.prf.set a.toNat ES)[i]?=_
    rw[δJ (λh=>j h.symm)]
  rename_i m;rw[if_neg m] at c ⊢
  have O:iw p f=true:=by simpa using m
  split at e
  ·rename_i w
   rw[if_pos w]
   refine⟨?_,λi u j=>?_,G⟩
   ·rw[γb,D]
    refine .bnd ?_ O w
    simp_all
   ·show((dh p en s f).prf.set a.toNat _)[i]?=_
    rw[δJ (λh=>j h.symm),D]
  rename_i w;rw[if_neg w] at c ⊢
  cases A:jv (dr p f) with
  |none=>simp_all
  |some k=>
  rw[A] at e c
  simp only at e c ⊢
  split at e
  ·simp at e
  rename_i Q;rw[if_neg Q] at c ⊢
  obtain⟨l,K,L⟩:=sQ A
  rw[rI] at l
  have v:bj f k.toNat 0=0:=sP (t.ok O) t.r (by omega) K L
  have n1:=me l v (d:=1) (by omega)
  have Y:=me l v (d:= -1) (by omega)
  have T:eQ p (f.set k.toNat 1):=t.set (by omega)
  have f2:eQ p (f.set k.toNat (-1)):=t.set (by omega)
  have S:(gp (dh p en s f) a k).prf.length=s.prf.length+2:=by
   simp_all[gp]
  rw[D] at e c ⊢
  obtain⟨l1,v1,t1⟩:=@q (gp (dh p en s f) a k) ((s.prf.length:Int)+1) (f.set k.toNat 1) T n1 (by omega)
  generalize R:b (gp (dh p en s f) a k) ((s.prf.length:Int)+1) (f.set k.toNat 1)=I at*
  obtain⟨l2,V,Z⟩:=@q I (s.prf.length:Int) (f.set k.toNat (-1)) f2 Y (by omega)
  generalize X:b I (s.prf.length:Int) (f.set k.toNat (-1))=P at*
  obtain⟨N,F,U,w2⟩:=Z e c
  obtain⟨J,H,w3,w4⟩:=t1 U w2
  have M:∀i:Nat,i<s.prf.length+2->(gp (dh p en s f) a k).prf[i]?=if i=a.toNat then some (kg k s.prf.length) else(s.prf++[zN,zN])[i]?:=λi u=>by
   unfold gp;simp only[D];rw[List.getElem?_set]
   by_cases h:a.toNat=i
   ·simp_all
   ·rw[if_neg h,if_neg (λm=>h m.symm)]
  have E:((s.prf.length:Int)).toNat=s.prf.length:=by omega
  have z:((s.prf.length:Int)+1).toNat=s.prf.length+1:=by omega
  rw[E] at N F;rw[z] at J H;rw[S] at J H
  have o:∀i:Nat,i<s.prf.length->P.prf[i]?=(gp (dh p en s f) a k).prf[i]?:=λi u=>by rw[F i (by omega) (by omega),H i (by omega) (by omega)]
  refine⟨.AX (k:=k) (mid:=I.prf.length) ?_ B l v ?_ N,λi u j=>?_,G⟩
  ·rw[o _ B,M _ (by omega),if_pos rfl]
  ·exact J.mono V λi u=>F i (by omega) (by omega)
  ·rw[o i u,M i (by omega),if_neg j,List.getElem?_append_left u]
 intro n
 induction n with
 |zero=>
  intro s a f t W C e c
  exact y t C (λ{s a g} _ h _=>by omega) e c
 |succ n ih=>
  intro s a f t W C e c
  refine y t C (λ{s a g} x m w=>?_) e c
  have A:=@rJ p en most n s a g x
  exact⟨A.1,A.2.2.1,λe c=>ih x (by omega) w e c⟩
theorem UJ {p:bp} {en:Int->Bool} {most:Int} {G:List Int->Int->Bool->Prop} (u:∀c w b q w',G c w b->cM p q=0->eC p q=w'->w<w'->G q w' (b||en w')):
  ∀{n:Nat} {s:cH} {a:Int} {f:List Int},eQ p f->G s.ch s.val s.found->G (dB p en most n s a f).ch (dB p en most n s a f).val (dB p en most n s a f).found:=by
 have k:∀{d:cH->Int->List Int->cH},(∀{s:cH} {a:Int} {f:List Int},eQ p f->G s.ch s.val s.found->G (d s a f).ch (d s a f).val (d s a f).found)->
   ∀{s:cH} {a:Int} {f:List Int},eQ p f->G s.ch s.val s.found->G (fp p en most d s a f).ch (fp p en most d s a f).val (fp p en most d s a f).found:=by
  intro d e s a f i j;unfold fp;split
  ·exact j
  split
  ·exact j
  rename_i t
  have y:iw p f=true:=by simp_all
  have m:G (dh p en s f).ch (dh p en s f).val (dh p en s f).found:=by
   unfold dh;split
   ·rename_i A
    unfold dU;split
    ·rename_i o
     obtain⟨z,B⟩:=UC (i.ok y) i.r A.2
     have g:fi p.offers.length (eD (dr p f)):=by
      have:=@UB (dr p f)
      rw[rI,i.l] at this;exact this
     refine u _ _ _ _ _ j ?_ ?_ o
     ·exact(UG i.c g).2 z
     ·exact yv i.c g
    ·exact j
   ·exact j
  split
  ·exact m
  split
  ·exact m
  split
  ·exact m
  ·exact e (i.set (by omega)) (e (i.set (by omega)) m)
 intro n
 induction n with
 |zero=>exact k λ_ h=>h
 |succ n x=>exact k λv t=>x v t
theorem two_pow_pos (n:Nat):1<=2^n:=Nat.one_le_two_pow
theorem UK {p:bp} {en:Int->Bool} {most:Int}:∀{n:Nat} {s:cH} {a:Int} {f:List Int},eQ p f->nF f<=n->s.err=0->((s.prf.length+2^(nF f+1):Nat):Int)<=most+2->(dB p en most n s a f).err=0/\(dB p en most n s a f).prf.length+2<=s.prf.length+2^(nF f+1):=by
 have l:∀{c:cH->Int->List Int->cH} {s:cH} {a:Int} {f:List Int},eQ p f->s.err=0->((s.prf.length+2^(nF f+1):Nat):Int)<=most+2->
   (∀{s:cH} {a:Int} {g:List Int},eQ p g->nF f=nF g+1->s.err=0->((s.prf.length+2^(nF g+1):Nat):Int)<=most+2->(c s a g).err=0/\(c s a g).prf.length+2<=s.prf.length+2^(nF g+1))->
   (fp p en most c s a f).err=0/\(fp p en most c s a f).prf.length+2<=s.prf.length+2^(nF f+1):=by
  intro c s a f b t u C
  obtain⟨L,J,T,X,e5⟩:=@EU p en s f
  have F:2<=2^(nF f+1):=by grind
  unfold fp;split
  ·omega
  split
  ·simp_all
  rename_i E N
  have x:iw p f=true:=by simp_all
  split
  ·simp_all
  rename_i v
  cases A:jv (dr p f) with
  |none=>
   exfalso
   apply v
   have o:mL (dr p f)=true:=by
    unfold mL;rw[Θ];intro q H
    obtain⟨i,B,rfl⟩:=δa H
    have w:=aeB A i B
    obtain⟨M,I,_⟩:=ER (b.ok x) b.r (show i<f.length by grind[rI])
    rw[cO B] at w M I
    rcases(show(dr p f)[i]=0\/(dr p f)[i]=1 by grind) with e|e<;>simp_all
   obtain⟨Y,K⟩:=UC (b.ok x) b.r o
   have P:((o7 p f).value:Rat)=jN p f:=K
   by_cases D:((s.val+1:Int):Rat)<=jN p f
   ·have O:s.val<(o7 p f).value:=by
     rw[<-P] at D
     have:s.val+1<=(o7 p f).value:=by exact_mod_cast D
     omega
    have:(dh p en s f).val=(o7 p f).value:=by
     simp_all[dh,dU]
    grind
   grind
  |some k=>
   simp only
   obtain⟨j,z,y⟩:=sQ A
   rw[rI] at j
   have m:bj f k.toNat 0=0:=sP (b.ok x) b.r (by omega) z y
   have n1:=me j m (d:=1) (by omega)
   have n2:=me j m (d:= -1) (by omega)
   have W:eQ p (f.set k.toNat 1):=b.set (by omega)
   have Z:eQ p (f.set k.toNat (-1)):=b.set (by omega)
   have V:(gp (dh p en s f) a k).prf.length=s.prf.length+2:=by
    grind[gp]
   have U:2^(nF f+1)=2^(nF (f.set k.toNat 1)+1)+2^(nF (f.set k.toNat 1)+1):=by
    grind
   have ne:nF (f.set k.toNat (-1))=nF (f.set k.toNat 1):=by omega
   have Q:2<=2^(nF (f.set k.toNat 1)+1):=by omega
   rw[if_neg (by rw[L];omega)]
   have S:(gp (dh p en s f) a k).err=0:=by show(dh p en s f).err=0;rw[J,t]
   grind
 intro n
 induction n with
 |zero=>
  intro s a f b G t u
  exact l b t u λ{s a g} _ h _ _=>by omega
 |succ n R=>
  intro s a f b G t u
  exact l b t u λ{s a g} E N v w=>R E (by omega) v w
end Go.Vi

/-
  Contracts: pivot.
  Conditions: none.
-/
import Derived.Test.YtbnhiekmnpikhaaGreatDK06
import Derived.Test.YtbnhiekmnpikhaaGreatDK07
import Derived.Test.YtbnhiekmnpikhaaGreatDK08
import Derived.Test.YtbnhiekmnpikhaaGreatDK09
import Derived.Test.YtbnhiekmnpikhaaGreatDK10
set_option maxRecDepth 100000
set_option maxHeartbeats 4000000
set_option linter.all false
open Bool renaming and_eq_true->θ
open Go.Vi.AV renaming sl->ζY,sc->δd,os->θc
open Go.Vi.SV renaming si->γi,row->Ω,ow->γ1,sb->γw,il->γy,ptr->γT,bl->δf
open Int renaming toNat_natCast->γl
open IntCast renaming intCast->κ
open List renaming range->Γ,ext_getElem->γ8,getElem_set->εX,getElem_map->δC,getElem_range->εJ,replicate->δ,length_map->Δ,mem_map->Ψ,take->ω,length->γc,take_length->ψ,all_eq_true->φ,map->γb,length_replicate->γC,length_take->γq,map_append->γa,length_set->Φ,map_map->γ3,flatMap->ζ1,elem->ζI,getElem_of_mem->γI,mem_append_left->εo,mem_append->γk,map_cons->π,sum_cons->ε0,perm_ext_iff_of_nodup->γ4,nodup_append->γs,filter_sublist->γO,sum_append->ζ7,idxOf_lt_length_of_mem->εj,getElem?_set_ne->δo
namespace Go.Vi
open Go.Proofs.YtbnhiekmnpikhaaGreat.Ir
open Go.Proofs
def r408:dH:=uD 176 (Int×Int) (.cons (eA .i64) (.one (eA .i64))) (λn m t a=>(0<=a.1/\a.1<m)/\(0<=a.2/\a.2<n)/\t.cf a.1.toNat a.2.toNat≠0) (λ_ _ _ _=> .bI []) (λ_ _ t a=>fV t a.1.toNat a.2.toNat)
def pv (l:List Rat) (q:Rat):List Rat:=l.map λx=>x*q
def fC (q:Rat):bq:=.cells [.sb (bu q).1,.row (.i .u32) (bu q).2.1,.row (.i .u32) (bu q).2.2] 177 3 false
def iV {a:Type} (f g:Nat->a) (n r i:Nat):List a:=(Γ n).map λk=>if k<i/\k≠r then g k else f k
theorem wC {a:Type} {f g:Nat->a} {n r i:Nat}:(iV f g n r i).length=n:=by simp[iV]
theorem TE {a:Type} {l:List a} {g:Nat->a} {r:Nat} {d:a}:iV (λk=>bj l k d) g l.length r 0=l:=by
 refine γ8 wC λi b c=>?_;grind[iV,bj]
theorem TF {a:Type} {f g:Nat->a} {n r i:Nat} {d:a} (h:i<n):bj (iV f g n r i) i d=f i:=by
 simp_all[iV,qK]
theorem TG {a:Type} {f g:Nat->a} {n r i:Nat} (h:i<n) (d:i≠r):(iV f g n r i).set i (g i)=iV f g n r (i+1):=by
 refine γ8 (by simp[iV]) λk b c=>?_;have e:k<n:=by grind[iV]
 rw[εX];simp only[iV,δC,εJ];grind
theorem TI {a:Type} {f g:Nat->a} {n r:Nat}:iV f g n r (r+1)=iV f g n r r:=by
 unfold iV;grind
theorem TJ {a:Type} {f g:Nat->a} {n r:Nat} {x:a} (h:r<n):(iV f g n r n).set r x=(Γ n).map λk=>if k=r then x else g k:=by
 refine γ8 (by simp[iV]) λk b c=>?_;have d:k<n:=by simp_all
 rw[εX];simp only[iV,δC,εJ];grind
theorem TK {l:List (List Rat)} {i:Nat} {x:List Rat}:(fM l).set i (fL x)=fM (l.set i x):=by
 simp_all[fM]
theorem adA {l:List Rat} {c:Nat} (h:c<l.length):(fL (pv l (1 / bj l c 0))).set c (bu (1 / bj l c 0))=fL (kH l c):=by
 rw[yF];congr 1;refine γ8 (by simp[pv,kH]) λk d e=>?_;have b:k<l.length:=by grind[kH]
 rw[εX];simp only[pv,kH,δC,εJ];by_cases a:c=k;·simp_all
 ·rw[if_neg a,if_neg λh=>a h.symm,cQ (i:=k) b]
def li (t:Tb) (r c i:Nat):Tb:={t with
 cj:=iV (λk=>bj t.cj k []) (λk=>kj (bj t.cj k []) c (kH (bj t.cj r []) c)) t.cj.length r i
 bound:=iV t.bd (λk=>t.bd k - t.cf k c*(t.bd r*(1 / t.cf r c))) t.bound.length r i}
theorem adB {t:Tb} {r c:Nat}:li t r c 0=t:=by
 unfold li;have b:=@TE (List Rat) t.cj (λk=>kj (bj t.cj k []) c (kH (bj t.cj r []) c)) r [];have d:=@TE Rat t.bound (λk=>t.bd k - t.cf k c*(t.bd r*(1 / t.cf r c))) r 0;have a:iV t.bd (λk=>t.bd k - t.cf k c*(t.bd r*(1 / t.cf r c))) t.bound.length r 0=t.bound:=d;rw[b,a]
def adE (n m:Int) (t:Tb) (r c:Int):Nat->cF
 |3=> .inv Int (λj=>⟨[(0,.ptr 0 0 10),(1,.si .i64 r),(2,.si .i64 c),(6,.ptr 5 0 3),(8,.ow 6 n.toNat 3),(41,.row sF (fL (bj t.cj r.toNat []))),(42,.si .i64 n),(43,.si .i64 j)],
   (bH n m t).gP++[fC (1 / t.cf r.toNat c.toNat),.row sF (eV (fL (pv (bj t.cj r.toNat []) (1 / t.cf r.toNat c.toNat))) j.toNat (false,([],[]))) 177 true]⟩)
   (λs=>iS s 43) (λj=>0<=j/\j<=n) (λj=>(n - j).toNat) λ_ _=> .look
 |10=> .inv Int (λi=>⟨[(0,.ptr 0 0 10),(1,.si .i64 r),(2,.si .i64 c),(8,.row sF (fL (kH (bj t.cj r.toNat []) c.toNat))),(11,.ptr 7 0 3),(72,.si .i64 m),(73,.si .i64 i)],
   (bH n m (li t r.toNat c.toNat i.toNat)).gP++[fC (1 / t.cf r.toNat c.toNat),.dead,fC (t.bd r.toNat*(1 / t.cf r.toNat c.toNat))]⟩)
   (λs=>iS s 73) (λj=>0<=j/\j<=m) (λj=>(m - j).toNat) λ_ _=> .look
 |_=> .look
theorem h408:ec Tryz.prog r408:=by
 refine lz (L:=[ox,D3,AI,r417,v8]) (W:=[]) r408 (λa=>adE a.1.n a.1.m a.1.t a.2.1 a.2.2) (by simp) (by simpa using⟨h94,h416,h410,h417,h129⟩) ?_;rintro⟨x,r,c⟩ ⟨n,m,t,hx,hok,⟨r0,r1⟩,⟨c0,c1⟩,ha⟩;simp only at hx r0 r1 c0 c1 ha;subst hx;refine bR (let a:=γi .i64;let d:=bq.row;let e:=(0:Int);let f:=Ω;let g:=γ1;let h:=bq.cells;let j:=γw;let k:=(1:Int);let o:=sF.dflt;let s:=γy .i64 0;let w:=γT;let K:=(bH n m t).cj;let a0:=bj K r.toNat sF.bE.dflt;let af:=bu (κ k);let aB:=(af.fst,af.snd.fst,af.snd.snd);let ag:=bj a0 c.toNat o;let ah:=(ag.fst,ag.snd.fst,ag.snd.snd);let Q:=(↑(bH n m t).k4:Int);let L:=w 0 0 10;let a3:=w 5 0 3;let A:=(bH n m t).n;let ai:=g 6 A.toNat 3;let M:=(bH n m t).t;let S:=bj M.cj r.toNat [];let aj:=f sF (fL S);let a4:=a A;let G:=(bH n m t).m;let a5:=a G;let z:=bp.i .u32;let B:=bH A G M;let a6:=h [a B.n,a B.m,g 1 B.k0 1,g 2 B.k1 3,f sF B.cost,j B.v.fst,f z B.v.snd.fst,f z B.v.snd.snd,g 3 B.k3 1,g 4 B.k4 1] 261 10 false;let a7:=d sF.bE B.cj 106 false;let a8:=d sF B.bound 177 false;let C:=bp.i .i64;let a9:=d C B.basic 3 false;let aa:=d C B.free 3 false;let ak:=bu (bV aB / bV ah);let N:=(1:Rat) / M.cf r.toNat c.toNat;let R:=h [j (bu N).fst,f z (bu N).snd.fst,f z (bu N).snd.snd] 177 3 false;let ab:=(false,[],[]);let al:=fL (pv S N);let T:=((bu N).fst,(bu N).snd.fst,(bu N).snd.snd);let ac:=B.bound.length;let am:=bj B.bound r.toNat o;let aC:=(am.fst,am.snd.fst,am.snd.snd);let U:=fL (kH S c.toNat);let an:=f sF U;let ad:=w 7 0 3;let D:=bH A G (li M r.toNat c.toNat 0);let ao:=bu (bV aC*bV T);let V:=bu (M.bd r.toNat*N);let ap:=h [j V.fst,f z V.snd.fst,f z V.snd.snd] 177 3 false;let W:=(V.fst,V.snd.fst,V.snd.snd);let E:=bH A G (fV M r.toNat c.toNat);((-9223372036854775808:Int)<=k/\k<=(9223372036854775807:Int))/\(bH n m t).k0=K.length/\e<=r/\r<(↑K.length:Int)/\(bH n m t).k0=K.length/\r.toNat<K.length/\e<=c/\c<(↑a0.length:Int)/\c.toNat<a0.length/\((cC aB/\cC ah)/\bV ah≠(0:Rat))/\e<=Q/\Q<=Q/\Q*(56:Int)<=(140737488355328:Int)/\Q<=(1000000000000:Int)/\(bH n m t).k0=K.length/\e<=r/\r<(↑K.length:Int)/\(bH n m t).k0=K.length/\r.toNat<K.length/\(((L.same L/\(a r).same (a r)/\(a c).same (a c)/\a3.same a3/\(g 6 Q.toNat 3).same ai/\(f sF a0).same aj/\(a (↑a0.length:Int)).same a4/\(s).same (a 0)/\True)/\(h [a4,a5,g 1 (bH n m t).k0 1,g 2 (bH n m t).k1 3,f sF (bH n m t).cost,j (bH n m t).v.fst,f z (bH n m t).v.snd.fst,f z (bH n m t).v.snd.snd,g 3 (bH n m t).k3 1,g 4 (bH n m t).k4 1] 261 10 false).same a6/\(d sF.bE K 106 false).same a7/\(d sF (bH n m t).bound 177 false).same a8/\(d C (bH n m t).basic 3 false).same a9/\(d C (bH n m t).free 3 false).same aa/\(h [j ak.fst,f z ak.snd.fst,f z ak.snd.snd] 177 3 false).same R/\(d (bp.b.pair (z.bE.pair z.bE)) (δ Q.toNat ab) 177 true).same (d sF (eV al 0 ab) 177 true)/\True)/\e<=e/\e<=A)/\∀(x:Int),let aq:=bj (fL S) x.toNat o;let aD:=(aq.fst,aq.snd.fst,aq.snd.snd);let ae:=eV al x.toNat ab;let O:=ae.length;let X:=x+k;let aE:=a X;let ar:=bu (bV aD*bV T);e<=x/\x<=A->(decide (x<A)=true->e<=x/\x<(↑(fL S).length:Int)/\x.toNat<(fL S).length/\(cC aD/\cC T)/\A.toNat=O/\e<=x/\x<(↑O:Int)/\A.toNat=O/\x.toNat<O/\cu .i64 X/\((L.same L/\(a r).same (a r)/\(a c).same (a c)/\a3.same a3/\ai.same ai/\aj.same aj/\a4.same a4/\aE.same aE/\True)/\a6.same a6/\a7.same a7/\a8.same a8/\a9.same a9/\aa.same aa/\R.same R/\(d sF (ae.set x.toNat (ar.fst,ar.snd.fst,ar.snd.snd)) 177 true).same (d sF (eV al X.toNat ab) 177 true)/\True)/\(e<=X/\X<=A)/\(A - X).toNat<(A - x).toNat)/\(decide (x<A)=false->A.toNat=O/\e<=c/\c<(↑O:Int)/\A.toNat=O/\c.toNat<O/\B.k1=ac/\e<=r/\r<(↑ac:Int)/\B.k1=ac/\r.toNat<ac/\(cC aC/\cC T)/\A.toNat=(ae.set c.toNat T).length/\(((L.same L/\(a r).same (a r)/\(a c).same (a c)/\(f sF (ae.set c.toNat T)).same an/\ad.same ad/\(a (↑B.k0:Int)).same a5/\(s).same (a 0)/\True)/\a6.same (h [a D.n,a D.m,g 1 D.k0 1,g 2 D.k1 3,f sF D.cost,j D.v.fst,f z D.v.snd.fst,f z D.v.snd.snd,g 3 D.k3 1,g 4 D.k4 1] 261 10 false)/\a7.same (d sF.bE D.cj 106 false)/\a8.same (d sF D.bound 177 false)/\a9.same (d C D.basic 3 false)/\aa.same (d C D.free 3 false)/\R.same R/\bq.dead.same bq.dead/\(h [j ao.fst,f z ao.snd.fst,f z ao.snd.snd] 177 3 false).same ap/\True)/\e<=e/\e<=G)/\∀(x:Int),let y:=bH A G (li M r.toNat c.toNat x.toNat);let aF:=a y.n;let aG:=a y.m;let aH:=g 1 y.k0 1;let aI:=g 2 y.k1 3;let Y:=y.cost;let aJ:=[g 3 y.k3 1,g 4 y.k4 1];let Z:=x+k;let F:=bH A G (li M r.toNat c.toNat Z.toNat);let J:=y.basic;let aK:=a Z;let a1:=y.cj;let H:=a1.length;let a2:=y.bound;let I:=a2.length;let au:=bj a1 x.toNat sF.bE.dflt;let av:=bj a2 x.toNat o;let aL:=(av.fst,av.snd.fst,av.snd.snd);let aw:=bu (bV aL - bj (vL au) c.toNat (0:Rat)*bV W);let ax:=(y.v.fst,y.v.snd.fst,y.v.snd.snd);let ay:=bj Y c.toNat o;let aM:=(ay.fst,ay.snd.fst,ay.snd.snd);let az:=bu (bV aM*bV W);let aN:=(az.fst,az.snd.fst,az.snd.snd);let P:=y.free.length;let aA:=bu (bV ax+bV aN);let aP:=(h (aF::aG::aH::aI::f sF Y::j y.v.fst::f z y.v.snd.fst::f z y.v.snd.snd::aJ) 261 10 false).same (h [a F.n,a F.m,g 1 F.k0 1,g 2 F.k1 3,f sF F.cost,j F.v.fst,f z F.v.snd.fst,f z F.v.snd.snd,g 3 F.k3 1,g 4 F.k4 1] 261 10 false);let aQ:=(d C J 3 false).same (d C F.basic 3 false)/\(d C y.free 3 false).same (d C F.free 3 false)/\R.same R/\bq.dead.same bq.dead/\ap.same ap/\True;let aO:=λ(u u_1:bq) ↦cu .i64 Z/\((L.same L/\(a r).same (a r)/\(a c).same (a c)/\an.same an/\ad.same ad/\a5.same a5/\aK.same aK/\True)/\aP/\u.same (d sF.bE F.cj 106 false)/\u_1.same (d sF F.bound 177 false)/\aQ)/\(e<=Z/\Z<=G)/\(G - Z).toNat<(G - x).toNat;e<=x/\x<=G->(decide (x<G)=true->(decide (x≠r)=true->y.k0=H/\e<=x/\x<(↑H:Int)/\y.k0=H/\x.toNat<H/\y.k1=I/\e<=x/\x<(↑I:Int)/\y.k1=I/\x.toNat<I/\(∃(l:List Rat),∃(b:Rat),∃(p:List Rat),∃(pb:Rat),(au=fL l/\aL=bu b/\U=fL p/\W=bu pb)/\(l.length=p.length/\l.length<=1000)/\(e<=c/\c<(↑l.length:Int))/\(∀(q:Rat),q∈l->Sz 10000000 q)/\(∀(q:Rat),q∈p->Sz 10000000 q)/\Sz 10000000 b/\Sz 10000000 pb)/\y.k0=H/\e<=x/\x<(↑H:Int)/\y.k0=H/\x.toNat<H/\y.k1=I/\e<=x/\x<(↑I:Int)/\y.k1=I/\x.toNat<I/\aO (d sF.bE (a1.set x.toNat (fL (kj (vL au) c.toNat (vL U)))) 106 false) (d sF (a2.set x.toNat (aw.fst,aw.snd.fst,aw.snd.snd)) 177 false))/\(decide (x≠r)=false->aO (d sF.bE a1 106 false) (d sF a2 177 false)))/\(decide (x<G)=false->e<=c/\c<(↑Y.length:Int)/\c.toNat<Y.length/\(∃(l:List Rat),∃(b:Rat),∃(p:List Rat),∃(pb:Rat),(Y=fL l/\ax=bu b/\U=fL p/\W=bu pb)/\(l.length=p.length/\l.length<=1000)/\(e<=c/\c<(↑l.length:Int))/\(∀(q:Rat),q∈l->Sz 10000000 q)/\(∀(q:Rat),q∈p->Sz 10000000 q)/\Sz 10000000 b/\Sz 10000000 pb)/\(cC aM/\cC W)/\(cC ax/\cC aN)/\y.k0=H/\e<=r/\r<(↑H:Int)/\y.k0=H/\r.toNat<H/\y.k1=I/\e<=r/\r<(↑I:Int)/\y.k1=I/\r.toNat<I/\y.k4=P/\e<=c/\c<(↑P:Int)/\y.k4=P/\c.toNat<P/\y.k3=J.length/\e<=r/\r<(↑J.length:Int)/\y.k3=J.length/\r.toNat<J.length/\y.k3=J.length/\e<=r/\r<(↑J.length:Int)/\y.k3=J.length/\r.toNat<J.length/\y.k4=P/\e<=c/\c<(↑P:Int)/\y.k4=P/\c.toNat<P/\(SV.bI []).same (SV.bI [])/\(h (aF::aG::aH::aI::f sF (fL (kj (vL Y) c.toNat (vL U)))::j aA.fst::f z aA.snd.fst::f z aA.snd.snd::aJ) 261 10 false).same (h [a E.n,a E.m,g 1 E.k0 1,g 2 E.k1 3,f sF E.cost,j E.v.fst,f z E.v.snd.fst,f z E.v.snd.snd,g 3 E.k3 1,g 4 E.k4 1] 261 10 false)/\(d sF.bE (a1.set r.toNat U) 106 false).same (d sF.bE E.cj 106 false)/\(d sF (a2.set r.toNat W) 177 false).same (d sF E.bound 177 false)/\(d C (J.set r.toNat (bj y.free c.toNat e)) 3 false).same (d C E.basic 3 false)/\(d C (y.free.set c.toNat (bj J r.toNat e)) 3 false).same (d C E.free 3 false)/\True))) (by kernel_rfl) ?_;conv=>zeta
 try simp only[sW]
 try simp only[bH]
 try simp only[vcs]
 obtain⟨⟨⟨n0,n1⟩,m0,m1⟩,hw,hz⟩:=id hok;have hkl:=hw.cj;have hbl:=hw.bound;have hbb:=hw.basic;have hfl:=hw.free;have hcl:=hw.cost;have hfm:=@Ji t.cj;have Jn:=@fF t.bound;have hrl:=hw.row r.toNat (by omega);have hcast:∀k:Nat,((k:Nat):Int).toNat=k:=λk=>γl k;have h1:(κ 1:Rat)=1:=rfl;have hR:bj (fM t.cj) r.toNat sF.bE.dflt=fL (bj t.cj r.toNat []):=Jj (by omega);have hA:bj (fL (bj t.cj r.toNat [])) c.toNat sF.dflt=bu (t.cf r.toNat c.toNat):=jw (by omega);have hB:bj (fL t.bound) r.toNat sF.dflt=bu (t.bd r.toNat):=jw (by omega);simp only[hR,hA,hB,jM,eD,hcast,h1];have hsA:=hok.cf (i:=r.toNat) (j:=c.toNat) (by omega) (by omega);have hsB:=hok.bd (i:=r.toNat) (by omega);have s1:Sz 1 (1:Rat):=by unfold Sz;decide
 have hsI:=I4 s1 hsA ha;have hsP:=uB hsB hsI;have hfr:=@fF (bj t.cj r.toNat []);have hsl:(pv (bj t.cj r.toNat []) (1 / t.cf r.toNat c.toNat)).length=n.toNat:=by unfold pv;rw[Δ];exact hrl
 have hfs:=@fF (pv (bj t.cj r.toNat []) (1 / t.cf r.toNat c.toNat));have hrow:∀{x y:List bL},x=y->(bq.row sF x 177 true).same (bq.row sF y 177 true):=by rintro _ _ rfl;rfl
 refine⟨by omega,by omega,r0,by omega,by omega,by omega,c0,by omega,by omega,⟨⟨dO s1 (by omega),dO hsA (by omega)⟩,ha⟩,by omega,by omega,by omega,by omega,by omega,r0,by omega,by omega,by omega,⟨⟨⟨by rw[hfl];rfl,trivial,by omega⟩,rfl,hrow (by rw[yC,hfs,hsl,hfl])⟩,by omega,by omega⟩,?_⟩;rintro j ⟨j0,j1⟩;have oW:=@yB (fL (pv (bj t.cj r.toNat []) (1 / t.cf r.toNat c.toNat))) j.toNat (false,([],[])) (by omega);refine⟨λhj=>?_,λhj=>?_⟩
 ·have hL:bj (fL (bj t.cj r.toNat [])) j.toNat sF.dflt=bu (t.cf r.toNat j.toNat):=jw (by omega);have hS:bj (fL (pv (bj t.cj r.toNat []) (1 / t.cf r.toNat c.toNat))) j.toNat (false,([],[]))=bu (t.cf r.toNat j.toNat*(1 / t.cf r.toNat c.toNat)):=by
   rw[jw (by omega),cQ (by omega)];unfold pv Tb.cf;rw[δC,cQ (l:=bj t.cj r.toNat []) (i:=j.toNat) (by omega)]
  simp only[hL,eD];refine⟨j0,by omega,by omega,⟨dO (hok.cf (by omega) (by omega)) (by omega),dO hsI (by omega)⟩,by omega,j0,by omega,by omega,by omega,by omega,hrow ?_,by omega,by omega⟩;rw[yE (by omega) hS.symm,show(j+1).toNat=j.toNat+1 by omega]
 ·have hset:(eV (fL (pv (bj t.cj r.toNat []) (1 / t.cf r.toNat c.toNat))) j.toNat (false,([],[]))).set c.toNat (bu (1 / t.cf r.toNat c.toNat))=fL (kH (bj t.cj r.toNat []) c.toNat):=by
   rw[show j.toNat=(fL (pv (bj t.cj r.toNat []) (1 / t.cf r.toNat c.toNat))).length by omega,yD];exact adA (by omega)
  have hpl:(kH (bj t.cj r.toNat []) c.toNat).length=n.toNat:=by rw[RO];exact hrl
  have hfp:=@fF (kH (bj t.cj r.toNat []) c.toNat);simp only[hset,adB];have TL:∀q∈kH (bj t.cj r.toNat []) c.toNat,Sz 10000000 q:=λq hq=>by
   obtain⟨k,hk,rfl⟩:=Ψ.1 hq;rw[List.mem_range] at hk;split;·exact hsI.mono (by omega)
   ·exact(uB (hok.cf (i:=r.toNat) (j:=k) (by omega) (by omega)) hsI).mono (by omega)
  refine⟨by omega,c0,by omega,by omega,by omega,by omega,r0,by omega,by omega,by omega,⟨dO hsB (by omega),dO hsI (by omega)⟩,by omega,⟨⟨⟨trivial,by omega⟩,rfl,rfl,rfl,rfl,rfl,rfl⟩,by omega,by omega⟩,?_⟩;rintro i ⟨i0,i1⟩;have ekl:(li t r.toNat c.toNat i.toNat).cj.length=m.toNat:=by show(iV _ _ _ _ _).length=_;rw[wC];exact hkl
  have ebl:(li t r.toNat c.toNat i.toNat).bound.length=m.toNat:=by show(iV _ _ _ _ _).length=_;rw[wC];exact hbl
  have efm:=@Ji (li t r.toNat c.toNat i.toNat).cj;have efb:=@fF (li t r.toNat c.toNat i.toNat).bound;have hfc:=@fF t.cost;have adH:∀{a b:Tb},a.cj.length=b.cj.length->a.bound.length=b.bound.length->a.cost=b.cost->a.value=b.value->a.basic.length=b.basic.length->a.free.length=b.free.length->
    (bq.cells [.si .i64 n,.si .i64 m,.ow 1 a.cj.length 1,.ow 2 a.bound.length 3,.row sF (fL a.cost),.sb (bu a.value).1,.row (.i .u32) (bu a.value).2.1,.row (.i .u32) (bu a.value).2.2,.ow 3 a.basic.length 1,.ow 4 a.free.length 1] 261 10 false).same
    (bq.cells [.si .i64 n,.si .i64 m,.ow 1 b.cj.length 1,.ow 2 b.bound.length 3,.row sF (fL b.cost),.sb (bu b.value).1,.row (.i .u32) (bu b.value).2.1,.row (.i .u32) (bu b.value).2.2,.ow 3 b.basic.length 1,.ow 4 b.free.length 1] 261 10 false):=λh1 h2 h3 h4 h5 h6=>by
   rw[h1,h2,h3,h4,h5,h6];rfl
  have TM:∀{x y:List (List bL)},x=y->(bq.row sF.bE x 106 false).same (bq.row sF.bE y 106 false):=by rintro _ _ rfl;rfl
  have TN:∀{x y:List bL},x=y->(bq.row sF x 177 false).same (bq.row sF y 177 false):=by rintro _ _ rfl;rfl
  have TP:∀{x y:List Int},x=y->(bq.row (.i .i64) x 3 false).same (bq.row (.i .i64) y 3 false):=by rintro _ _ rfl;rfl
  refine⟨λhi=>⟨λhir=>?_,λhir=>?_⟩,λhi=>?_⟩
  ·have hRi:bj (fM (li t r.toNat c.toNat i.toNat).cj) i.toNat sF.bE.dflt=fL (bj t.cj i.toNat []):=by
    rw[Jj (by omega)];congr 1;exact TF (by omega)
   have hBi:bj (fL (li t r.toNat c.toNat i.toNat).bound) i.toNat sF.dflt=bu (t.bd i.toNat):=by
    rw[jw (by omega)];congr 1;exact TF (by omega)
   have hli:=hw.row i.toNat (by omega);simp only[hRi,hBi,kJ,eD];refine⟨by omega,i0,by omega,by omega,by omega,by omega,i0,by omega,by omega,by omega,⟨bj t.cj i.toNat [],t.bd i.toNat,kH (bj t.cj r.toNat []) c.toNat,t.bd r.toNat*(1 / t.cf r.toNat c.toNat),⟨rfl,rfl,rfl,rfl⟩,⟨by omega,by omega⟩,⟨c0,by omega⟩,λq hq=>?_,TL,(hok.bd (by omega)).mono (by omega),hsP.mono (by omega)⟩,by omega,i0,by omega,by omega,by omega,by omega,i0,by omega,by omega,by omega,by omega,⟨adH ?_ ?_ rfl rfl rfl rfl,TM ?_,TN ?_,rfl,rfl⟩,by omega,by omega⟩;·exact(hz.1 _ (dr (d:=[]) (by omega)) q hq).mono (by omega)
   ·show(iV _ _ _ _ _).length=(iV _ _ _ _ _).length;rw[wC,wC]
   ·show(iV _ _ _ _ _).length=(iV _ _ _ _ _).length;rw[wC,wC]
   ·rw[TK,show(i+1).toNat=i.toNat+1 by omega];congr 1;exact TG (by omega) (by omega)
   ·rw[yF,show(i+1).toNat=i.toNat+1 by omega];congr 1;exact TG (f:=t.bd) (g:=λk=>t.bd k - t.cf k c.toNat*(t.bd r.toNat*(1 / t.cf r.toNat c.toNat))) (by omega) (by omega)
  ·have e:li t r.toNat c.toNat (i+1).toNat=li t r.toNat c.toNat i.toNat:=by
    rw[show(i+1).toNat=r.toNat+1 by omega,show i.toNat=r.toNat by omega];unfold li;rw[TI,TI]
   rw[e];refine⟨?_,⟨rfl,rfl,rfl,rfl,rfl⟩,?_,?_⟩<;>omega
  ·have TQ:=hok.cs (j:=c.toNat) (by omega);have hC:bj (fL t.cost) c.toNat sF.dflt=bu (t.cs c.toNat):=jw (by omega);have hcc:(li t r.toNat c.toNat i.toNat).cost=t.cost:=rfl;have hvv:(li t r.toNat c.toNat i.toNat).value=t.value:=rfl;have hff:(li t r.toNat c.toNat i.toNat).free=t.free:=rfl;have hbs:(li t r.toNat c.toNat i.toNat).basic=t.basic:=rfl;simp only[hC,hcc,hvv,hff,hbs,kJ,eD];refine⟨c0,by omega,by omega,⟨t.cost,t.value,kH (bj t.cj r.toNat []) c.toNat,t.bd r.toNat*(1 / t.cf r.toNat c.toNat),⟨rfl,rfl,rfl,rfl⟩,⟨by omega,by omega⟩,⟨c0,by omega⟩,λq hq=>(hz.2.2.1 q hq).mono (by omega),TL,hz.2.2.2.mono (by omega),hsP.mono (by omega)⟩,⟨dO TQ (by omega),dO hsP (by omega)⟩,⟨dO hz.2.2.2 (by omega),dO (uB TQ hsP) (by omega)⟩,
    by omega,r0,by omega,by omega,by omega,by omega,r0,by omega,by omega,by omega,c0,by omega,by omega,r0,by omega,by omega,r0,by omega,by omega,c0,by omega,by omega,?_,TM ?_,TN ?_,TP rfl,TP rfl⟩
   ·have hpw:=RP (r:=r.toNat) (c:=c.toNat) hw;rw[ekl,ebl,hbb,hfl,hpw.cj,hpw.bound,hpw.basic,hpw.free];rfl
   ·rw[TK,show i.toNat=t.cj.length by omega];congr 1;exact TJ (by omega)
   ·rw[yF,show i.toNat=t.bound.length by omega];congr 1;exact TJ (by omega)
def okO (n m:Nat) (t:Tb):Prop:=∃a M G,Small n m M G a/\Run n m a t/\km m t
theorem adL {n m:Nat} {t:Tb} (h:okO n m t):ft n m (uJ n m t) t=true:=by
 obtain⟨e,M,G,c,b,a⟩:=h;have d:=Jh b a;unfold uJ;grind
noncomputable def J2:dH:=uD 160 Unit .nil (λn m t _=>okO n.toNat m.toNat t) (λn m t _=> .bI [.si .i64 (if eE (lastT n.toNat m.toNat t) n.toNat<0 then 0 else eE (lastT n.toNat m.toNat t) n.toNat),.sb (decide (eE (lastT n.toNat m.toNat t) n.toNat<0))]) (λn m t _=>lastT n.toNat m.toNat t)
def tS (t:Tb) (s:cy):Tb:=match Eb s.o with
 |some x=>x.t
 |none=>t
noncomputable def adM (n m:Int) (t:Tb):Nat->cF
 |1=> .inv Tb (λx=>⟨[(0,.ptr 0 0 10)],(bH n m x).gP⟩) (tS t) (λx=>okO n.toNat m.toNat x/\lastT n.toNat m.toNat x=lastT n.toNat m.toNat t/\ft n.toNat m.toNat (uJ n.toNat m.toNat t) x=true) (λx=>yp n.toNat m.toNat (uJ n.toNat m.toNat t) x) λ_ _=> .look
 |_=> .look
theorem adN {n m:Int} {t:Tb} (h:okO n.toNat m.toNat t) (e:0<=n/\n<=1000) (f:0<=m/\m<=1000):kK n m t:=by
 obtain⟨c,M,G,a,b,d⟩:=h;grind[Ti]
theorem h402:ec Tryz.prog J2:=by
 refine lz (L:=[]) (W:=[Jl,Jm,r408]) J2 (λa=>adM a.1.n a.1.m a.1.t) (by simpa using⟨h411,h412,h408⟩) (by simp) ?_;rintro⟨x,u⟩ ⟨n,m,t,hx,hok,hd⟩;simp only at hx hd;subst hx;refine bR (let a:=bq.row;let b:=γi .i64;let c:=γ1;let d:=Ω;let e:=bq.cells;let f:=(0:Int);let g:=γw;let h:=SV.bI;let I:=γT 0 0 10;let D:=(bH n m t).n;let E:=(bH n m t).m;let r:=bp.i .u32;let F:=(bH n m t).t;let l:=bH D E F;let o:=bp.i .i64;let k:=D.toNat;let s:=E.toNat;let B:=lastT k s F;let G:=uJ k s F;let K:=h [b (if eE B k<f then f else eE B k),g (decide (eE B k<f))];let p:=bH D E B;let L:=e [b p.n,b p.m,c 1 p.k0 1,c 2 p.k1 3,d sF p.cost,g p.v.fst,d r p.v.snd.fst,d r p.v.snd.snd,c 3 p.k3 1,c 4 p.k4 1] 261 10 false;let M:=a sF.bE p.cj 106 false;let N:=a sF p.bound 177 false;let O:=a o p.basic 3 false;let P:=a o p.free 3 false;(((I.same I/\True)/\(e [b D,b E,c 1 (bH n m t).k0 1,c 2 (bH n m t).k1 3,d sF (bH n m t).cost,g (bH n m t).v.fst,d r (bH n m t).v.snd.fst,d r (bH n m t).v.snd.snd,c 3 (bH n m t).k3 1,c 4 (bH n m t).k4 1] 261 10 false).same (e [b l.n,b l.m,c 1 l.k0 1,c 2 l.k1 3,d sF l.cost,g l.v.fst,d r l.v.snd.fst,d r l.v.snd.snd,c 3 l.k3 1,c 4 l.k4 1] 261 10 false)/\(a sF.bE (bH n m t).cj 106 false).same (a sF.bE l.cj 106 false)/\(a sF (bH n m t).bound 177 false).same (a sF l.bound 177 false)/\(a o (bH n m t).basic 3 false).same (a o l.basic 3 false)/\(a o (bH n m t).free 3 false).same (a o l.free 3 false)/\True)/\okO k s F/\B=B/\ft k s G F=true)/\∀(x:Tb),let y:=bH D E x;let z:=eE y.t y.n.toNat;let Q:=decide (z<f);let j:=bH y.n y.m y.t;let H:=dT j.t z.toNat j.m.toNat;let R:=decide (H<f);let C:=bH j.n j.m j.t;let S:=fV C.t H.toNat z.toNat;let A:=bH C.n C.m S;let q:=bH D E A.t;let T:=λ(u u_1:Int) (u_2 u_3:Tb) (u_4:bq) ↦let J:=bH u u_1 u_2;let U:=bH J.n J.m J.t;let w:=bH U.n U.m u_3;(e [b w.n,b w.m,c 1 w.k0 1,c 2 w.k1 3,d sF w.cost,g w.v.fst,d r w.v.snd.fst,d r w.v.snd.snd,c 3 w.k3 1,c 4 w.k4 1] 261 10 false).same u_4;okO k s x/\lastT k s x=B/\ft k s G x=true->(∃(n:Int),∃(m:Int),∃(t:Tb),y=bH n m t/\kK n m t/\True)/\(Q=true->(h [γy .i64 0,δf true]).same K/\(e [b j.n,b j.m,c 1 j.k0 1,c 2 j.k1 3,d sF j.cost,g j.v.fst,d r j.v.snd.fst,d r j.v.snd.snd,c 3 j.k3 1,c 4 j.k4 1] 261 10 false).same L/\(a sF.bE j.cj 106 false).same M/\(a sF j.bound 177 false).same N/\(a o j.basic 3 false).same O/\(a o j.free 3 false).same P/\True)/\(Q=false->(∃(n:Int),∃(m:Int),∃(t:Tb),j=bH n m t/\kK n m t/\f<=z/\z<n)/\(R=true->(h [b z,δf false]).same K/\T D E x j.t L/\(a sF.bE C.cj 106 false).same M/\(a sF C.bound 177 false).same N/\(a o C.basic 3 false).same O/\(a o C.free 3 false).same P/\True)/\(R=false->(∃(n:Int),∃(m:Int),∃(t:Tb),C=bH n m t/\kK n m t/\(f<=H/\H<m)/\(f<=z/\z<n)/\t.cf H.toNat z.toNat≠(0:Rat))/\0=0/\((I.same I/\True)/\T y.n y.m y.t S (e [b q.n,b q.m,c 1 q.k0 1,c 2 q.k1 3,d sF q.cost,g q.v.fst,d r q.v.snd.fst,d r q.v.snd.snd,c 3 q.k3 1,c 4 q.k4 1] 261 10 false)/\(a sF.bE A.cj 106 false).same (a sF.bE q.cj 106 false)/\(a sF A.bound 177 false).same (a sF q.bound 177 false)/\(a o A.basic 3 false).same (a o q.basic 3 false)/\(a o A.free 3 false).same (a o q.free 3 false)/\True)/\(okO k s A.t/\lastT k s A.t=B/\ft k s G A.t=true)/\yp k s G A.t<yp k s G x))) (by kernel_rfl) ?_;simp only[ab2,sW,Sj,Sl];try simp only[vcs]
 obtain⟨⟨hn,hm⟩,hw,hz⟩:=id hok;refine⟨⟨hd,adL hd⟩,?_⟩;rintro x ⟨hx,hl,he⟩;have EC:=adN hx hn hm;have hs:stepT n.toNat m.toNat x=if eE x n.toNat<0 then none else if dT x (eE x n.toNat).toNat m.toNat<0 then none else some (fV x (dT x (eE x n.toNat).toNat m.toNat).toNat (eE x n.toNat).toNat):=rfl;have hwx:=EC.2.1;have fin:∀{y:Tb},y=lastT n.toNat m.toNat t->bH n m y=bH n m (lastT n.toNat m.toNat t):=by rintro _ rfl;rfl
 refine⟨⟨n,m,x,rfl,EC⟩,λh0=>?_,λh0=>?_⟩
 ·rw[if_pos h0] at hs;have e:=Tt hs;rw[hl] at e;rw[<-e] at h0 ⊢;rw[if_pos h0,decide_eq_true h0];exact⟨⟨rfl,rfl⟩,rfl,rfl,rfl,rfl,rfl⟩
 ·have h0':¬eE x n.toNat<0:=h0;rw[if_neg h0'] at hs;rcases @uC x n.toNat with⟨e1,e2⟩|⟨c,e1,e2,e3,e4⟩;·omega
  ·refine⟨⟨n,m,x,rfl,EC,by omega,by omega⟩,λh1=>?_,λh1=>?_⟩
   ·rw[if_pos h1] at hs;have e:=Tt hs;rw[hl] at e;rw[e,if_neg h0',decide_eq_false h0'];exact⟨⟨rfl,rfl⟩,rfl,rfl,rfl,rfl,rfl⟩
   ·have h1':¬dT x (eE x n.toNat).toNat m.toNat<0:=h1;rw[if_neg h1'] at hs;rcases @wm x (eE x n.toNat).toNat m.toNat with⟨l1,l2⟩|⟨r,l1,l2,l3,l4⟩;·omega
    ·refine⟨⟨n,m,x,rfl,EC,⟨by omega,by omega⟩,⟨by omega,by omega⟩,?_⟩,?_⟩;·rw[l1,γl];grind
     ·obtain⟨t0,M,G,g1,g2,g3⟩:=hx;have hsr:=Jf g2 g3 hs;have adO:=Jh g2 g3;refine⟨⟨⟨t0,M,G,g1,hsr.1,hsr.2⟩,?_,Si he hs⟩,left_step he hs⟩;rw[adv adO hs,hl]
def gp (t:Tb) (n:Nat):Nat->List Rat
 |0=>δ n 0
 |k+1=>if t.bv k<n then(gp t n k).set (t.bv k).toNat (t.bd k) else gp t n k
def jy (t:Tb) (n m:Nat):Nat->List Rat
 |0=>δ m 0
 |k+1=>if(n:Int)<=t.fv k/\t.fv k<n+m then(jy t n m k).set (t.fv k - n).toNat (-(t.cs k)) else jy t n m k
theorem ED {t:Tb} {n:Nat}:∀{k:Nat},(gp t n k).length=n
 |0=>by simp[gp];|k+1=>by
  have:=@ED t n k;grind[gp]
theorem EE {t:Tb} {n m:Nat}:∀{k:Nat},(jy t n m k).length=m
 |0=>by simp[jy];|k+1=>by
  have:=@EE t n m k;grind[jy]
def EF:dH:=uD 161 Unit .nil (λ_ _ t _=>∀v∈t.basic,0<=v) (λn m t _=> .row sF (fL (gp t n.toNat m.toNat))) (λ_ _ t _=>t)
def adP (n m:Int) (t:Tb):Nat->cF
 |3=> .inv Int (λi=>⟨[(0,.ptr 0 0 10),(3,.ow 5 n.toNat 3),(14,.ow 3 t.basic.length 1),(15,.si .i64 t.basic.length),(16,.si .i64 i)],(bH n m t).gP++[.row sF (fL (gp t n.toNat i.toNat)) 177 false]⟩)
   (λs=>iS s 16) (λi=>0<=i/\i<=m) (λi=>(m - i).toNat) λ_ _=> .look
 |_=> .look
theorem h403:ec Tryz.prog EF:=by
 refine lz (L:=[]) (W:=[r413]) EF (λa=>adP a.1.n a.1.m a.1.t) (by simpa using h413) (by simp) ?_;rintro⟨x,u⟩ ⟨n,m,t,hx,hok,hd⟩;simp only at hx hd;subst hx;refine bR (let a:=bq.row;let b:=γi .i64;let c:=(0:Int);let d:=Ω;let e:=γ1;let p:=(bH n m t).n;let B:=γT 0 0 10;let g:=p.toNat;let C:=e 5 g 3;let J:=e 3 (bH n m t).k3 1;let k:=(bH n m t).t;let q:=k.basic.length;let G:=e 3 q 1;let H:=b (↑q:Int);let h:=(bH n m t).m;let D:=bp.i .u32;let f:=bH p h k;let r:=bq.cells [b f.n,b f.m,e 1 f.k0 1,e 2 f.k1 3,d sF f.cost,γw f.v.fst,d D f.v.snd.fst,d D f.v.snd.snd,e 3 f.k3 1,e 4 f.k4 1] 261 10 false;let s:=a sF.bE f.cj 106 false;let w:=a sF f.bound 177 false;let E:=bp.i .i64;let l:=f.basic;let y:=a E l 3 false;let z:=a E f.free 3 false;let F:=f.bound.length;(c<=p/\p<=(1000:Int))/\(((B.same B/\C.same C/\J.same G/\(b (↑(bH n m t).k3:Int)).same H/\(γy .i64 0).same (b 0)/\True)/\(bq.cells [b p,b h,e 1 (bH n m t).k0 1,e 2 (bH n m t).k1 3,d sF (bH n m t).cost,γw (bH n m t).v.fst,d D (bH n m t).v.snd.fst,d D (bH n m t).v.snd.snd,J,e 4 (bH n m t).k4 1] 261 10 false).same r/\(a sF.bE (bH n m t).cj 106 false).same s/\(a sF (bH n m t).bound 177 false).same w/\(a E (bH n m t).basic 3 false).same y/\(a E (bH n m t).free 3 false).same z/\(a sF (fL (δ g (0:Rat))) 177 false).same (a sF (fL (gp k g 0)) 177 false)/\True)/\c<=c/\c<=h)/\∀(x:Int),let o:=x+(1:Int);let K:=b o;let L:=decide (x<(↑q:Int));let A:=bj l x.toNat c;let M:=decide (A<f.n);let j:=fL (gp k g x.toNat);let I:=bj f.bound x.toNat sF.dflt;let N:=λ(u:bq) ↦cu .i64 o/\((B.same B/\C.same C/\G.same G/\H.same H/\K.same K/\True)/\r.same r/\s.same s/\w.same w/\y.same y/\z.same z/\u.same (a sF (fL (gp k g o.toNat)) 177 false)/\True)/\(c<=o/\o<=h)/\(h - o).toNat<(h - x).toNat;c<=x/\x<=h->(L=true->q=l.length/\c<=x/\x<(↑l.length:Int)/\q=l.length/\x.toNat<l.length/\(M=true->f.k1=F/\c<=x/\x<(↑F:Int)/\f.k1=F/\x.toNat<F/\g=j.length/\c<=A/\A<(↑j.length:Int)/\g=j.length/\A.toNat<j.length/\N (a sF (j.set A.toNat (I.fst,I.snd.fst,I.snd.snd)) 177 false))/\(M=false->N (a sF j 177 false)))/\(L=false->g=j.length/\(d sF j).same (d sF (fL (gp k g h.toNat)))/\r.same r/\s.same s/\w.same w/\y.same y/\z.same z/\True)) (by kernel_rfl) ?_;simp only[sW];try simp only[bH]
 simp only[vcs];obtain⟨⟨⟨n0,n1⟩,m0,m1⟩,hw,hz⟩:=id hok;have hbb:=hw.basic;have hbl:=hw.bound;have Jn:=@fF t.bound;have hbv:∀k:Nat,bj t.basic k 0=t.bv k:=λk=>rfl;have hrow:∀{x y:List bL},x=y->(bq.row sF x 177 false).same (bq.row sF y 177 false):=by rintro _ _ rfl;rfl
 refine⟨⟨n0,n1⟩,⟨hrow rfl,by omega,by omega⟩,?_⟩;rintro i ⟨i0,i1⟩;have hpl:=@ED t n.toNat i.toNat;have hfp:=@fF (gp t n.toNat i.toNat);refine⟨λhi=>?_,λhi=>⟨by omega,by rw[show i.toNat=m.toNat by omega]⟩⟩;have hv:=hd _ (AQ hw (show i.toNat<m.toNat by omega));have hB:bj (fL t.bound) i.toNat sF.dflt=bu (t.bd i.toNat):=jw (by omega);have hs:gp t n.toNat (i+1).toNat=if t.bv i.toNat<n.toNat then(gp t n.toNat i.toNat).set (t.bv i.toNat).toNat (t.bd i.toNat) else gp t n.toNat i.toNat:=by
  rw[show(i+1).toNat=i.toNat+1 by omega];rfl
 simp only[hbv,hB,jM,hs];refine⟨i0,hi,by omega,λhlt=>⟨by omega,i0,by omega,by omega,by omega,by omega,hv,by omega,by omega,by omega,by omega,hrow ?_,by omega,by omega⟩,λhlt=>⟨by omega,hrow ?_,by omega,by omega⟩⟩;·rw[yF,if_pos (by omega)]
 ·rw[if_neg (by omega)]
def EG:dH:=uD 163 Unit .nil (λ_ _ t _=>True) (λn m t _=> .row sF (fL (jy t n.toNat m.toNat n.toNat))) (λ_ _ t _=>t)
def adQ (n m:Int) (t:Tb):Nat->cF
 |3=> .inv Int (λi=>⟨[(0,.ptr 0 0 10),(3,.ow 5 m.toNat 3),(14,.ow 4 t.free.length 1),(15,.si .i64 t.free.length),(16,.si .i64 i)],(bH n m t).gP++[.row sF (fL (jy t n.toNat m.toNat i.toNat)) 177 false]⟩)
   (λs=>iS s 16) (λi=>0<=i/\i<=n) (λi=>(n - i).toNat) λ_ _=> .look
 |_=> .look
theorem h405:ec Tryz.prog EG:=by
 refine lz (L:=[yh]) (W:=[r413]) EG (λa=>adQ a.1.n a.1.m a.1.t) (by simpa using h413) (by simpa using h130) ?_;rintro⟨x,u⟩ ⟨n,m,t,hx,hok,hd⟩;simp only at hx hd;subst hx;refine bR (let a:=bq.row;let b:=γi .i64;let c:=(0:Int);let d:=Ω;let e:=γ1;let f:=cu .i64;let A:=(bH n m t).m;let u:=γT 0 0 10;let k:=A.toNat;let w:=e 5 k 3;let M:=e 4 (bH n m t).k4 1;let y:=(bH n m t).t;let B:=y.free.length;let C:=e 4 B 1;let D:=b (↑B:Int);let h:=(bH n m t).n;let G:=bp.i .u32;let g:=bH h A y;let o:=bq.cells [b g.n,b g.m,e 1 g.k0 1,e 2 g.k1 3,d sF g.cost,γw g.v.fst,d G g.v.snd.fst,d G g.v.snd.snd,e 3 g.k3 1,e 4 g.k4 1] 261 10 false;let p:=a sF.bE g.cj 106 false;let q:=a sF g.bound 177 false;let H:=bp.i .i64;let r:=a H g.basic 3 false;let z:=g.free;let s:=a H z 3 false;let E:=h.toNat;(c<=A/\A<=(1000:Int))/\(((u.same u/\w.same w/\M.same C/\(b (↑(bH n m t).k4:Int)).same D/\(γy .i64 0).same (b 0)/\True)/\(bq.cells [b h,b A,e 1 (bH n m t).k0 1,e 2 (bH n m t).k1 3,d sF (bH n m t).cost,γw (bH n m t).v.fst,d G (bH n m t).v.snd.fst,d G (bH n m t).v.snd.snd,e 3 (bH n m t).k3 1,M] 261 10 false).same o/\(a sF.bE (bH n m t).cj 106 false).same p/\(a sF (bH n m t).bound 177 false).same q/\(a H (bH n m t).basic 3 false).same r/\(a H (bH n m t).free 3 false).same s/\(a sF (fL (δ k (0:Rat))) 177 false).same (a sF (fL (jy y E k 0)) 177 false)/\True)/\c<=c/\c<=h)/\∀(x:Int),let j:=x+(1:Int);let I:=b j;let l:=fL (jy y E k x.toNat);let N:=a sF (fL (jy y E k j.toNat)) 177 false;let O:=decide (x<(↑B:Int));let J:=bj z x.toNat c;let P:=decide (g.n<=J);let Q:=decide (J<g.n+g.m);let F:=J - g.n;let K:=bj g.cost x.toNat sF.dflt;let L:=(K.fst,K.snd.fst,K.snd.snd);let R:=(bu (-bV L)).snd;let S:=f j/\((u.same u/\w.same w/\C.same C/\D.same D/\I.same I/\True)/\o.same o/\p.same p/\q.same q/\r.same r/\s.same s/\(a sF l 177 false).same N/\True)/\(c<=j/\j<=h)/\(h - j).toNat<(h - x).toNat;c<=x/\x<=h->(O=true->B=z.length/\c<=x/\x<(↑z.length:Int)/\B=z.length/\x.toNat<z.length/\(P=true->f (g.n+g.m)/\(Q=true->f F/\c<=x/\x<(↑g.cost.length:Int)/\x.toNat<g.cost.length/\cC L/\k=l.length/\c<=F/\F<(↑l.length:Int)/\k=l.length/\F.toNat<l.length/\f j/\((u.same u/\w.same w/\C.same C/\D.same D/\I.same I/\True)/\o.same o/\p.same p/\q.same q/\r.same r/\s.same s/\(a sF (l.set F.toNat ((bu (-bV L)).fst,R.fst,R.snd)) 177 false).same N/\True)/\(c<=j/\j<=h)/\(h - j).toNat<(h - x).toNat)/\(Q=false->S))/\(P=false->S))/\(O=false->k=l.length/\(d sF l).same (d sF (fL (jy y E k E)))/\o.same o/\p.same p/\q.same q/\r.same r/\s.same s/\True)) (by kernel_rfl) ?_;simp only[sW];try simp only[bH]
 simp only[vcs];obtain⟨⟨⟨n0,n1⟩,m0,m1⟩,hw,hz⟩:=id hok;have hfl:=hw.free;have hcl:=hw.cost;have hfc:=@fF t.cost;have Ec:∀k:Nat,bj t.free k 0=t.fv k:=λk=>rfl;have hrow:∀{x y:List bL},x=y->(bq.row sF x 177 false).same (bq.row sF y 177 false):=by rintro _ _ rfl;rfl
 refine⟨⟨m0,m1⟩,⟨hrow rfl,by omega,by omega⟩,?_⟩;rintro i ⟨i0,i1⟩;have hpl:=@EE t n.toNat m.toNat i.toNat;have hfp:=@fF (jy t n.toNat m.toNat i.toNat);refine⟨λhi=>?_,λhi=>⟨by omega,by rw[show i.toNat=n.toNat by omega]⟩⟩;have hC:bj (fL t.cost) i.toNat sF.dflt=bu (t.cs i.toNat):=jw (by omega);have hs:jy t n.toNat m.toNat (i+1).toNat=if(n.toNat:Int)<=t.fv i.toNat/\t.fv i.toNat<n.toNat+m.toNat then(jy t n.toNat m.toNat i.toNat).set (t.fv i.toNat - n.toNat).toNat (-(t.cs i.toNat)) else jy t n.toNat m.toNat i.toNat:=by
  rw[show(i+1).toNat=i.toNat+1 by omega];rfl
 simp only[Ec,hC,jM,hs,eD];refine⟨i0,hi,by omega,λh1=>⟨by omega,λh2=>⟨by omega,i0,by omega,by omega,dO (hok.cs (by omega)) (by omega),by omega,by omega,by omega,by omega,by omega,by omega,hrow ?_,by omega,by omega⟩,λh2=>⟨by omega,hrow ?_,by omega,by omega⟩⟩,λh1=>⟨by omega,hrow ?_,by omega,by omega⟩⟩;·rw[yF,if_pos (by omega),show(n.toNat:Int)=n by omega]
 ·rw[if_neg (by omega)]
 ·rw[if_neg (by omega)]
@[reducible] def sR:bp:=.pair (.bE sF) sF
abbrev s8:=List bL×List (List bL×bL)
def yG:qx s8 where
 put a:=.agg [.row sF a.1,.row sR a.2];dec
  | .agg [r,v]=>match jH sF r,jH sR v with
   |some c,some v=>some (c,v)
   |_,_=>none
  |_=>none;ok v a h:=by
  grind[SV.g,gL,o6]
 inj a b h:=by
  obtain⟨c,v⟩:=a;obtain⟨f,i⟩:=b;simp only[SV.g,gL,AV.agg.injEq,List.cons.injEq,and_true,AV.sl.injEq] at h;have e:=ly sF h.1.1 h.1.2;have d:=ly sR h.2.1 h.2.2;rw[e,d]
def iW (x:bL):Prop:=(bA x.2.1/\bA x.2.2)/\x.2.1.length<=10000000/\x.2.2.length<=10000000
def J3:bM:=⟨175,List bL,.one (dM sF),λl=>(show List bL from l).length<=1000/\∀x∈(show List bL from l),iW x,λl=> .sb ((show List bL from l).all okF)⟩
def adS (l:List bL):Nat->cF
 |2=> .inv Int (λi=>⟨[(5,.row sF l),(6,.si .i64 l.length),(7,.si .i64 i)],[]⟩)
   (λs=>iS s 7) (λi=>(0<=i/\i<=l.length)/\(l.take i.toNat).all okF=true) (λi=>(l.length - i).toNat) λ_ _=> .look
 |_=> .look
theorem h406:Holds Tryz.prog J3:=by
 refine cH (L:=[uA]) J3 adS (by grind[h407]) ?_;rintro(l:List bL) ⟨(q:l.length<=1000),(n:∀x∈l,iW x)⟩;refine bR (let d:=(0:Int);let e:=γi .i64;let g:=Ω;let a:=(↑l.length:Int);let f:=e a;((((g sF l).same (g sF l)/\(e (↑l.length:Int)).same f/\(γy .i64 0).same (e 0)/\True)/\True)/\(d<=d/\d<=a)/\true=true)/\∀(x:Int),let b:=bj l x.toNat sF.dflt;let c:=x+(1:Int);let k:=e c;let m:=λ(u:Bool) ↦(!okF (b.fst,b.snd.fst,b.snd.snd))=u;(d<=x/\x<=a)/\(ω x.toNat l).all okF=true->(decide (x<a)=true->d<=x/\x<(↑l.length:Int)/\x.toNat<l.length/\((bA b.snd.fst/\bA b.snd.snd)/\γc b.snd.fst<=10000000/\γc b.snd.snd<=10000000)/\(m true->(δf false).same (γw (l.all okF)))/\(m false->cu .i64 c/\(((g sF l).same (g sF l)/\f.same f/\k.same k/\True)/\True)/\((d<=c/\c<=a)/\(ω c.toNat l).all okF=true)/\(a - c).toNat<(a - x).toNat))/\(decide (x<a)=false->(δf true).same (γw (l.all okF)))) (by kernel_rfl) ?_;simp only[vcs];refine⟨⟨by omega,by omega⟩,?_⟩;rintro i ⟨⟨j,t⟩,e⟩;refine⟨λh=>?_,λh=>?_⟩
 ·have p:=dr (d:=sF.dflt) (show i.toNat<l.length by omega);have r:=jX (d:=sF.dflt) j h;have g:=n _ p;have o:okF ((bj l i.toNat sF.dflt).1,(bj l i.toNat sF.dflt).2.1,(bj l i.toNat sF.dflt).2.2)=okF (bj l i.toNat sF.dflt):=rfl;rw[o];refine⟨j,h,by omega,⟨g.1,g.2.1,g.2.2⟩,λs=>?_,λv=>⟨by omega,⟨⟨by omega,by omega⟩,?_⟩,by omega⟩⟩;all_goals grind
 ·rw[show i.toNat=l.length by omega,ψ] at e;simp_all
def J4:bM:=⟨156,s8,.one yG,λa=>(a.1.length<=160/\a.2.length<=40)/\(∀x∈a.1,iW x/\okF x=true)/\∀r∈a.2,r.1.length=a.1.length/\(∀x∈r.1,iW x/\okF x=true)/\iW r.2/\okF r.2=true,λ_=> .si .i64 0⟩
def adT (a:s8):Nat->cF
 |6=> .inv Int (λi=>⟨[(1,.ptr 0 0 2),(20,.row sR a.2),(21,.si .i64 a.2.length),(22,.si .i64 i)],[.cells [.row sF a.1,.row sR a.2] 217 2 false]⟩)
   (λs=>iS s 22) (λi=>0<=i/\i<=a.2.length) (λi=>(a.2.length - i).toNat) λ_ _=> .look
 |_=> .look
theorem h398:Holds Tryz.prog J4:=by
 refine cH (L:=[J3,uA]) J4 adT (by simpa using⟨h406,h407⟩) ?_;rintro⟨g,rs⟩ ⟨⟨hl1,hl2⟩,hg,hr⟩;simp only at hl1 hl2 hg hr;refine bR (let a:=γy .i64;let b:=(0:Int);let c:=γi .i64;let d:=γy .i64 0;let q:=decide ((160:Int)<(↑g.length:Int));let e:=c 0;let m:=(↑rs.length:Int);let r:=decide ((40:Int)<m);let k:=γT 0 0 2;let i:=Ω sR rs;let f:=(↑rs.length:Int);let n:=c f;let l:=bq.cells [Ω sF g,i] 217 2 false;(q=true->(a 3).same e)/\(q=false->(r=true->(a 3).same e)/\(r=false->(g.length<=1000/\∀(x:bL),x∈g->iW x)/\((!g.all okF)=true->(a 2).same e)/\((!g.all okF)=false->(((k.same k/\i.same i/\(c m).same n/\(a 0).same e/\True)/\l.same l/\True)/\b<=b/\b<=f)/\∀(x:Int),let h:=bj rs x.toNat sR.dflt;let o:=h.snd.snd.fst;let p:=h.snd.snd.snd;let s:=!List.all h.fst okF;let j:=x+(1:Int);let t:=c j;let v:=λ(u:Bool) ↦(!okF (h.snd.fst,o,p))=u;let w:=λ(u:Bool) ↦decide ((↑(γc h.fst):Int)≠(↑g.length:Int))=u;b<=x/\x<=f->(decide (x<f)=true->b<=x/\x<m/\x.toNat<rs.length/\(w true->(a 2).same e)/\(w false->(γc h.fst<=1000/\∀(x:bL),x∈h.fst->iW x)/\(s=true->(a 2).same e)/\(s=false->((bA o/\bA p)/\γc o<=10000000/\γc p<=10000000)/\(v true->(a 2).same e)/\(v false->cu .i64 j/\((k.same k/\i.same i/\n.same n/\t.same t/\True)/\l.same l/\True)/\(b<=j/\j<=f)/\(f - j).toNat<(f - x).toNat))))/\(decide (x<f)=false->(a 0).same e))))) (by kernel_rfl) ?_;simp only[vcs];have hall:∀{l:List bL},(∀x∈l,iW x/\okF x=true)->l.all okF=true:=λh=>φ.2 λx hx=>(h x hx).2;refine⟨λh=>by omega,λ_=>⟨λh=>by omega,λ_=>⟨⟨by omega,λx hx=>(hg x hx).1⟩,λh=>(by rw[hall hg] at h;cases h),λ_=>⟨⟨by omega,by omega⟩,?_⟩⟩⟩⟩;rintro i ⟨i0,i1⟩;refine⟨λhi=>?_,λ_=>trivial⟩;have hm:=hr _ (dr (d:=sR.dflt) (show i.toNat<rs.length by omega));have h2:okF ((bj rs i.toNat sR.dflt).2.1,(bj rs i.toNat sR.dflt).2.2.1,(bj rs i.toNat sR.dflt).2.2.2)=okF (bj rs i.toNat sR.dflt).2:=rfl;rw[h2];refine⟨i0,hi,by omega,λh=>absurd (by rw[hm.1]) h,λ_=>⟨⟨by have:=hm.1;omega,λx hx=>(hm.2.1 x hx).1⟩,λh=>?_,λ_=>⟨⟨hm.2.2.1.1,hm.2.2.1.2.1,hm.2.2.1.2.2⟩,λh=>?_,λ_=>⟨by omega,⟨by omega,by omega⟩,by omega⟩⟩⟩⟩
 ·have:=hall hm.2.1;rw[show List.all (bj rs i.toNat sR.dflt).1 okF=true from this] at h;cases h
 ·rw[hm.2.2.2] at h;cases h
def Be (a:s8):nG:=⟨a.1.length,a.2.length,a.2.length,a.2.length,a.2.length,a.1.length,a.2.map (·.1),a.2.map (·.2),δ a.1.length (bu 0),bu 0,(dp a.2.length).map λi=>a.1.length+i,dp a.1.length⟩
def J5:dH where
 f:=157;α:=s8;put a:=[yG.put a];st _:=[];dec v o:=match v,o with
  |[v],[]=>yG.dec v
  |_,_=>none;ok v o a h:=by
  split at h;·exact⟨by simp only[gL,yG.ok _ _ h],rfl⟩
  ·cases h
 inj a b h _:=yG.inj a b (by simpa[gL] using h);dom a:=a.1.length<=1000/\a.2.length<=1000/\∀r∈a.2,r.1.length<=1000;res a:=.ptr 0 0 10;out a:=(Be a).gP
def TR (a:s8) (k0 k1 k2 k3 k4:Nat) (co:List (List bL)) (bo ct:List bL) (ba fr:List Int):bZ:=
 [.cells [.row sF a.1,.row sR a.2] 217 2 false,.cells [.si .i64 a.1.length,.si .i64 a.2.length,.ow 2 k0 1,.ow 3 k1 3,.ow 4 k2 3,.sb (bu 0).1,.row (.i .u32) (bu 0).2.1,.row (.i .u32) (bu 0).2.2,.ow 5 k3 1,.ow 6 k4 1] 261 10 false,
  .row (.bE sF) co 106 false,.row sF bo 177 false,.row sF ct 177 true,.row (.i .i64) ba 3 false,.row (.i .i64) fr 3 false]
def adU (a:s8):Nat->cF
 |3=> .inv Int (λj=>⟨[(1,.ptr 0 0 2),(3,.ptr 1 0 10),(18,.si .i64 a.1.length),(19,.si .i64 j)],TR a 0 0 j.toNat 0 j.toNat [] [] (δ j.toNat (bu 0)) [] (dp j.toNat)⟩)
   (λs=>iS s 19) (λj=>0<=j/\j<=a.1.length) (λj=>(a.1.length - j).toNat) λ_ _=> .look
 |9=> .inv Int (λi=>⟨[(3,.ptr 1 0 10),(44,.row sR a.2),(45,.si .i64 a.2.length),(46,.si .i64 i)],TR a i.toNat i.toNat a.1.length i.toNat a.1.length ((a.2.take i.toNat).map (·.1)) ((a.2.take i.toNat).map (·.2)) (δ a.1.length (bu 0)) ((dp i.toNat).map λi=>a.1.length+i) (dp a.1.length)⟩)
   (λs=>iS s 46) (λi=>0<=i/\i<=a.2.length) (λi=>(a.2.length - i).toNat) λ_ _=> .look
 |_=> .look
theorem h399:ec Tryz.prog J5:=by
 refine HG (L:=[ox]) (W:=[]) J5 (λ_=>none) adU (by simp) (by simpa using h94) ?_;rintro⟨g,rs⟩ ⟨hg,hr,hrr⟩;simp only at hg hr hrr;refine bR (let a:=bq.row;let c:=γ1;let d:=bq.cells;let e:=(0:Int);let f:=γi .i64;let h:=(-9223372036854775808:Int);let j:=Ω;let k:=(9223372036854775807:Int);let l:=γy .i64 0;let o:=cu .i64;let p:=γT;let V:=p 0 0 2;let w:=p 1 0 10;let a6:=f (↑g.length:Int);let r:=(↑g.length:Int);let s:=f r;let N:=j sR rs;let y:=d [j sF g,N] 217 2 false;let a7:=f (↑rs.length:Int);let G:=c 2 0 1;let H:=c 3 0 3;let a8:=c 4 0 3;let I:=bu (κ e);let z:=bp.i .u32;let O:=c 5 0 1;let a9:=[O,c 6 0 1];let A:=(↑rs.length:Int);let t:=f A;let J:=bu (0:Rat);let B:=γw J.fst;let C:=j z J.snd.fst;let D:=j z J.snd.snd;let P:=bp.b.pair (z.bE.pair z.bE);let Q:=a sF.bE [] 106 false;let R:=a sF [] 177 false;let u:=bp.i .i64;let F:=a u [] 3 false;let a1:=c 4 g.length 3;let a2:=[c 6 g.length 1];let a3:=δ g.length J;let a4:=a sF a3 177 true;let W:=a u (dp g.length) 3 false;let aa:=p 0 0 10;let q:=Be (g,rs);(h<=e/\e<=k)/\(((V.same V/\w.same w/\a6.same s/\(l).same (f 0)/\True)/\y.same y/\(d (a6::a7::G::H::a8::γw I.fst::j z I.snd.fst::j z I.snd.snd::a9) 261 10 false).same (d (s::t::G::H::a8::B::C::D::a9) 261 10 false)/\(a P.bE [] 106 false).same Q/\(a P [] 177 false).same R/\(a P [] 177 true).same (a sF [] 177 true)/\F.same F/\F.same (a u (dp 0) 3 false)/\True)/\e<=e/\e<=r)/\∀(x:Int),let S:=dp x.toNat;let ab:=S.length+1;let X:=δ x.toNat J;let ac:=X.length+1;let K:=x+(1:Int);let ad:=f K;let ae:=X++[(I.fst,I.snd.fst,I.snd.snd)];let Y:=K.toNat;e<=x/\x<=r->(decide (x<r)=true->1=1/\x.toNat=S.length/\ab*8<=140737488355328/\ab<=1000000000000/\(h<=e/\e<=k)/\1=1/\x.toNat=X.length/\ac*56<=140737488355328/\ac<=1000000000000/\o K/\((V.same V/\w.same w/\s.same s/\ad.same ad/\True)/\y.same y/\(d [s,t,G,H,c 4 ae.length 3,B,C,D,O,c 6 (S++[x]).length 1] 261 10 false).same (d [s,t,G,H,c 4 Y 3,B,C,D,O,c 6 Y 1] 261 10 false)/\Q.same Q/\R.same R/\(a P ae 177 true).same (a sF (δ Y J) 177 true)/\F.same F/\(a u (S++[x]) 3 false).same (a u (dp Y) 3 false)/\True)/\(e<=K/\K<=r)/\(r - K).toNat<(r - x).toNat)/\(decide (x<r)=false->(((w.same w/\N.same N/\a7.same t/\(l).same (f 0)/\True)/\y.same y/\(d [s,t,G,H,c 4 x.toNat 3,B,C,D,O,c 6 x.toNat 1] 261 10 false).same (d (s::t::G::H::a1::B::C::D::O::a2) 261 10 false)/\Q.same Q/\R.same R/\(a sF X 177 true).same a4/\F.same F/\(a u S 3 false).same W/\True)/\e<=e/\e<=A)/\∀(x:Int),let T:=bj rs x.toNat sR.dflt;let E:=γc T.fst;let af:=ω x.toNat rs;let Z:=γb (λx ↦x.fst) af;let a5:=Z.length+1;let a0:=γb (λx ↦x.snd) af;let ag:=a0.length+1;let U:=γb (λi ↦(↑(g,rs).fst.length:Int)+i) (dp x.toNat);let ah:=U.length+1;let L:=x+(1:Int);let ai:=f L;let aj:=a0++[(T.snd.fst,T.snd.snd.fst,T.snd.snd.snd)];let M:=L.toNat;e<=x/\x<=A->(decide (x<A)=true->e<=x/\x<(↑rs.length:Int)/\x.toNat<rs.length/\0=0/\(0+E)*56<=140737488355328/\0+E<=1000000000000/\x.toNat=Z.length/\a5*24<=140737488355328/\a5<=1000000000000/\E=E/\E=E/\E=E/\1=1/\x.toNat=a0.length/\ag*56<=140737488355328/\ag<=1000000000000/\o (r+x)/\1=1/\x.toNat=U.length/\ah*8<=140737488355328/\ah<=1000000000000/\o L/\((w.same w/\N.same N/\t.same t/\ai.same ai/\True)/\y.same y/\(d (s::t::c 2 a5 1::c 3 aj.length 3::a1::B::C::D::c 5 (U++[r+x]).length 1::a2) 261 10 false).same (d (s::t::c 2 M 1::c 3 M 3::a1::B::C::D::c 5 M 1::a2) 261 10 false)/\(a sF.bE (Z++[T.fst]) 106 false).same (a sF.bE (γb (λx ↦x.fst) (ω M rs)) 106 false)/\(a P aj 177 false).same (a sF (γb (λx ↦x.snd) (ω M rs)) 177 false)/\a4.same a4/\(a u (U++[r+x]) 3 false).same (a u (γb (λi ↦(↑(g,rs).fst.length:Int)+i) (dp M)) 3 false)/\W.same W/\True)/\(e<=L/\L<=A)/\(A - L).toNat<(A - x).toNat)/\(decide (x<A)=false->g.length=a3.length/\aa.same aa/\(d [s,t,c 1 x.toNat 1,c 2 x.toNat 3,j sF a3,B,C,D,c 3 x.toNat 1,c 4 g.length 1] 261 10 false).same (d [f q.n,f q.m,c 1 q.k0 1,c 2 q.k1 3,j sF q.cost,γw q.v.fst,j z q.v.snd.fst,j z q.v.snd.snd,c 3 q.k3 1,c 4 q.k4 1] 261 10 false)/\(a sF.bE Z 106 false).same (a sF.bE q.cj 106 false)/\(a sF a0 177 false).same (a sF q.bound 177 false)/\(a u U 3 false).same (a u q.basic 3 false)/\W.same (a u q.free 3 false)/\True))) (by kernel_rfl) ?_;simp only[vcs];have h0:(κ 0:Rat)=0:=rfl;simp only[h0,jM];have hcell:∀{a b a' b' c d e a2 b2 c2 d2 e2:Nat},a=a2->b=b2->c=c2->d=d2->e=e2->(bq.cells [.si .i64 a',.si .i64 b',.ow 2 a 1,.ow 3 b 3,.ow 4 c 3,.sb (bu 0).1,.row (.i .u32) (bu 0).2.1,.row (.i .u32) (bu 0).2.2,.ow 5 d 1,.ow 6 e 1] 261 10 false).same
   (bq.cells [.si .i64 a',.si .i64 b',.ow 2 a2 1,.ow 3 b2 3,.ow 4 c2 3,.sb (bu 0).1,.row (.i .u32) (bu 0).2.1,.row (.i .u32) (bu 0).2.2,.ow 5 d2 1,.ow 6 e2 1] 261 10 false):=by
  rintro _ _ _ _ _ _ _ _ _ _ _ _ rfl rfl rfl rfl rfl;rfl
 have hrF:∀{x y:List bL},x=y->(bq.row sF x 177 false).same (bq.row sF y 177 false):=by rintro _ _ rfl;rfl
 have uM:∀{x y:List bL},x=y->(bq.row sF x 177 true).same (bq.row sF y 177 true):=by rintro _ _ rfl;rfl
 have hrM:∀{x y:List (List bL)},x=y->(bq.row (.bE sF) x 106 false).same (bq.row (.bE sF) y 106 false):=by rintro _ _ rfl;rfl
 have lH:∀{x y:List Int},x=y->(bq.row (.i .i64) x 3 false).same (bq.row (.i .i64) y 3 false):=by rintro _ _ rfl;rfl
 have hcast:∀k:Nat,((k:Nat):Int).toNat=k:=λk=>γl k;refine⟨by omega,⟨⟨rfl,lH rfl⟩,by omega,by omega⟩,?_⟩;rintro j ⟨j0,j1⟩;have l1:=@iT j.toNat;have l2:(δ j.toNat (bu 0)).length=j.toNat:=γC;refine⟨λhj=>?_,λhj=>?_⟩
 ·have e1:dp j.toNat++[j]=dp (j+1).toNat:=by
   rw[show(j+1).toNat=j.toNat+1 by omega,sY,show((j.toNat:Nat):Int)=j by omega]
  have e2:δ j.toNat (bu 0)++[bu 0]=δ (j+1).toNat (bu 0):=by
   rw[show(j+1).toNat=j.toNat+1 by omega,List.replicate_succ']
  rw[e1,e2,iT,γC];rw[iT,γC];refine⟨rfl,?_,?_,?_,rfl,?_,?_,?_,⟨hcell rfl rfl rfl rfl rfl,uM rfl,lH rfl⟩,?_,?_⟩<;>omega
 ·rw[show j.toNat=g.length by omega];refine⟨⟨⟨hcell rfl rfl rfl rfl rfl,uM rfl,lH rfl⟩,by omega,by omega⟩,?_⟩;rintro i ⟨i0,i1⟩;have l3:(γb (λx:List bL×bL=>x.1) (ω i.toNat rs)).length=i.toNat:=by rw[Δ,γq];omega
  have l4:(γb (λx:List bL×bL=>x.2) (ω i.toNat rs)).length=i.toNat:=by rw[Δ,γq];omega
  have l5:(γb (λi:Int=>(g.length:Int)+i) (dp i.toNat)).length=i.toNat:=by rw[Δ,iT]
  refine⟨λhi=>?_,λhi=>?_⟩
  ·have hm:=hrr _ (dr (d:=sR.dflt) (show i.toNat<rs.length by omega));have et:=jX (d:=sR.dflt) i0 hi;have e1:γb (λx:List bL×bL=>x.1) (ω i.toNat rs)++[(bj rs i.toNat sR.dflt).1]=γb (λx:List bL×bL=>x.1) (ω (i+1).toNat rs):=by rw[et,γa];rfl
   have e2:γb (λx:List bL×bL=>x.2) (ω i.toNat rs)++[(bj rs i.toNat sR.dflt).2]=γb (λx:List bL×bL=>x.2) (ω (i+1).toNat rs):=by rw[et,γa];rfl
   have e3:γb (λi:Int=>(g.length:Int)+i) (dp i.toNat)++[(g.length:Int)+i]=γb (λi:Int=>(g.length:Int)+i) (dp (i+1).toNat):=by
    rw[show(i+1).toNat=i.toNat+1 by omega,sY,γa,show((i.toNat:Nat):Int)=i by omega];rfl
   have l6:(γb (λx:List bL×bL=>x.2) (ω (i+1).toNat rs)).length=(i+1).toNat:=by rw[Δ,γq];omega
   have l7:(γb (λi:Int=>(g.length:Int)+i) (dp (i+1).toNat)).length=(i+1).toNat:=by rw[Δ,iT]
   refine⟨i0,hi,by omega,by omega,by omega,l3.symm,by omega,by omega,l4.symm,by omega,by omega,by omega,l5.symm,by omega,by omega,by omega,⟨hcell ?_ ?_ rfl ?_ rfl,hrM e1,hrF e2,lH e3⟩,by omega,by omega⟩;·omega
   ·exact(congrArg γc e2).trans l6
   ·exact(congrArg γc e3).trans l7
  ·have e:i.toNat=rs.length:=by omega
   rw[e,ψ];exact⟨γC.symm,rfl,rfl,rfl,rfl,rfl⟩
def r400:dH:=uD 158 Unit .nil (λ_ m t _=>km m.toNat t) (λ_ _ _ _=> .bI [.sc (.slice none 0 0),.sb true]) (λ_ _ t _=>t)
def adX (n m:Int) (t:Tb):Nat->cF
 |3=> .inv Int (λi=>⟨[(0,.ptr 0 0 10),(4,.si .i64 (-1)),(12,.ow 2 t.bound.length 3),(13,.si .i64 t.bound.length),(14,.si .i64 i)],(bH n m t).gP⟩)
   (λs=>iS s 14) (λi=>0<=i/\i<=m) (λi=>(m - i).toNat) λ_ _=> .look
 |_=> .look
theorem h400:ec Tryz.prog r400:=by
 refine lz (L:=[sU]) (W:=[]) r400 (λa=>adX a.1.n a.1.m a.1.t) (by simp) (by simpa using h99) ?_;rintro⟨x,u⟩ ⟨n,m,t,hx,hok,hd⟩;simp only at hx hd;subst hx;refine bR (let a:=γi .i64;let b:=bq.row;let c:=(0:Int);let d:=γ1;let e:=Ω;let f:=(-1:Int);let w:=γT 0 0 10;let A:=a f;let E:=d 2 (bH n m t).k1 3;let k:=(bH n m t).t.bound.length;let B:=d 2 k 3;let C:=a (↑k:Int);let j:=(bH n m t).m;let y:=bp.i .u32;let g:=bH (bH n m t).n j (bH n m t).t;let l:=bq.cells [a g.n,a g.m,d 1 g.k0 1,d 2 g.k1 3,e sF g.cost,γw g.v.fst,e y g.v.snd.fst,e y g.v.snd.snd,d 3 g.k3 1,d 4 g.k4 1] 261 10 false;let o:=b sF.bE g.cj 106 false;let p:=b sF g.bound 177 false;let z:=bp.i .i64;let q:=b z g.basic 3 false;let r:=b z g.free 3 false;let h:=g.bound.length;let F:=SV.sc (Value.slice none 0 0);(((w.same w/\(γy .i64 f).same A/\E.same B/\(a (↑(bH n m t).k1:Int)).same C/\(γy .i64 0).same (a 0)/\True)/\(bq.cells [a (bH n m t).n,a j,d 1 (bH n m t).k0 1,E,e sF (bH n m t).cost,γw (bH n m t).v.fst,e y (bH n m t).v.snd.fst,e y (bH n m t).v.snd.snd,d 3 (bH n m t).k3 1,d 4 (bH n m t).k4 1] 261 10 false).same l/\(b sF.bE (bH n m t).cj 106 false).same o/\(b sF (bH n m t).bound 177 false).same p/\(b z (bH n m t).basic 3 false).same q/\(b z (bH n m t).free 3 false).same r/\True)/\c<=c/\c<=j)/\∀(x:Int),let D:=bj g.bound x.toNat sF.dflt;let G:=(D.fst,D.snd.fst,D.snd.snd);let s:=x+(1:Int);let H:=a s;let I:=decide (x<(↑k:Int));let J:=λ(u:Bool) ↦decide (jL (bV G)<c)=u;let K:=λ(u:SV) ↦cu .i64 s/\((w.same w/\u.same A/\B.same B/\C.same C/\H.same H/\True)/\l.same l/\o.same o/\p.same p/\q.same q/\r.same r/\True)/\(c<=s/\s<=j)/\(j - s).toNat<(j - x).toNat;c<=x/\x<=j->(I=true->k=h/\c<=x/\x<(↑h:Int)/\k=h/\x.toNat<h/\cC G/\(J true->(true=true->K (a x))/\(true=false->g.k1=h/\c<=f/\f<(↑h:Int)/\g.k1=h/\0<h/\False))/\(J false->K A))/\(I=false->(true=true->(SV.bI [F,δf true]).same (SV.bI [F,γw true])/\l.same l/\o.same o/\p.same p/\q.same q/\r.same r/\True)/\(true=false->False))) (by kernel_rfl) ?_;simp only[sW];try simp only[bH]
 simp only[vcs];obtain⟨⟨⟨n0,n1⟩,m0,m1⟩,hw,hz⟩:=id hok;have hbl:=hw.bound;have Jn:=@fF t.bound;refine⟨⟨by omega,by omega⟩,?_⟩;rintro i ⟨i0,i1⟩;refine⟨λhi=>?_,λhi=>⟨λ_=>trivial,λh=>by cases h⟩⟩;have hB:bj (fL t.bound) i.toNat sF.dflt=bu (t.bd i.toNat):=jw (by omega);have hpos:=hd i.toNat (by omega);have hneg:¬jL (t.bd i.toNat)<0:=λh=>by have:=AS.1 h;grind
 simp only[hB,jM,eD];exact⟨by omega,i0,by omega,by omega,by omega,dO (hok.bd (by omega)) (by omega),λh=>absurd h hneg,λ_=>⟨by omega,by omega,by omega⟩⟩
def J6:dH:=uD 159 (List bL) (.one (dM sF)) (λn m t a=>∃g:List Rat,a=fL g/\g.length=n.toNat/\t.free=dp n.toNat/\∀v∈t.basic,n<=v) (λ_ _ _ _=> .bI []) (λ_ _ t a=>{t with cost:=vL a,value:=0})
def adY (n m:Int) (t:Tb) (a:List bL):Nat->cF
 |3=> .inv Int (λj=>⟨[(0,.ptr 0 0 10),(1,.row sF a),(4,.ow 5 n.toNat 3),(24,.ow 4 t.free.length 1),(25,.si .i64 t.free.length),(26,.si .i64 j)],(bH n m {t with value:=0}).gP++[.row sF (eV a j.toNat (false,([],[]))) 177 true]⟩)
   (λs=>iS s 26) (λi=>0<=i/\i<=n) (λi=>(n - i).toNat) λ_ _=> .look
 |10=> .inv Int (λi=>⟨[(0,.ptr 0 0 10),(1,.row sF a),(4,.ow 5 n.toNat 3),(52,.ow 3 t.basic.length 1),(53,.si .i64 t.basic.length),(54,.si .i64 i)],(bH n m {t with value:=0}).gP++[.row sF a 177 true]⟩)
   (λs=>iS s 54) (λi=>0<=i/\i<=m) (λi=>(m - i).toNat) λ_ _=> .look
 |_=> .look
theorem h401:ec Tryz.prog J6:=by
 refine lz (L:=[ox]) (W:=[]) J6 (λa=>adY a.1.n a.1.m a.1.t a.2) (by simp) (by simpa using h94) ?_;rintro⟨x,a⟩ ⟨n,m,t,hx,hok,g,ha,hgl,hfr,hbs⟩;simp only at hx ha;subst hx ha;refine bR (let a:=(0:Int);let c:=γi .i64;let d:=bq.row;let e:=γ1;let f:=(-9223372036854775808:Int);let h:=Ω;let j:=(9223372036854775807:Int);let k:=bq.cells;let l:=γy .i64 0;let w:=(↑(bH n m t).k4:Int);let y:=γT 0 0 10;let s:=h sF (fL g);let p:=(bH n m t).n;let F:=e 5 p.toNat 3;let a0:=e 4 (bH n m t).k4 1;let r:=(bH n m t).t;let N:=r.free.length;let U:=e 4 N 1;let V:=c (↑N:Int);let z:=(bH n m t).m;let H:=bu (κ a);let A:=bp.i .u32;let o:=bH p z (Tb.mk r.cj r.bound r.cost (0:Rat) r.basic r.free);let a1:=c o.n;let a2:=c o.m;let a3:=e 1 o.k0 1;let a4:=e 2 o.k1 3;let a5:=e 3 o.k3 1;let a6:=[γw o.v.fst,h A o.v.snd.fst,h A o.v.snd.snd,a5,e 4 o.k4 1];let G:=k (a1::a2::a3::a4::h sF o.cost::a6) 261 10 false;let B:=d sF.bE o.cj 106 false;let C:=d sF o.bound 177 false;let I:=bp.i .i64;let J:=o.basic;let D:=d I J 3 false;let E:=d I o.free 3 false;let R:=(false,[],[]);let S:=o.free.length;let z29:Nat:=(fL g).length;let O:=r.basic.length;let W:=e 3 O 1;let X:=c (↑O:Int);let Y:=d sF (fL g) 177 true;let q:=bH p z (Tb.mk r.cj r.bound (vL (fL g)) (0:Rat) r.basic r.free);(f<=a/\a<=j)/\a<=w/\w<=w/\w*(56:Int)<=(140737488355328:Int)/\w<=(1000000000000:Int)/\(((y.same y/\s.same s/\(e 5 w.toNat 3).same F/\a0.same U/\(c w).same V/\(l).same (c 0)/\True)/\(k [c p,c z,e 1 (bH n m t).k0 1,e 2 (bH n m t).k1 3,h sF (bH n m t).cost,γw H.fst,h A H.snd.fst,h A H.snd.snd,e 3 (bH n m t).k3 1,a0] 261 10 false).same G/\(d sF.bE (bH n m t).cj 106 false).same B/\(d sF (bH n m t).bound 177 false).same C/\(d I (bH n m t).basic 3 false).same D/\(d I (bH n m t).free 3 false).same E/\(d (bp.b.pair (A.bE.pair A.bE)) (δ w.toNat R) 177 true).same (d sF (eV (fL g) 0 R) 177 true)/\True)/\a<=a/\a<=p)/\∀(x:Int),let K:=x+(1:Int);let a7:=c K;let a8:=decide (x<(↑N:Int));let L:=eV (fL g) x.toNat R;let P:=bj o.free x.toNat a;let a9:=decide (P<o.n);let M:=L.set x.toNat (H.fst,H.snd.fst,H.snd.snd);let Z:=bj (fL g) P.toNat sF.dflt;let aa:=λ(u:List (Bool×List Int×List Int)) ↦cu .i64 K/\((y.same y/\s.same s/\F.same F/\U.same U/\V.same V/\a7.same a7/\True)/\G.same G/\B.same B/\C.same C/\D.same D/\E.same E/\(d sF u 177 true).same (d sF (eV (fL g) K.toNat R) 177 true)/\True)/\(a<=K/\K<=p)/\(p - K).toNat<(p - x).toNat;a<=x/\x<=p->(a8=true->N=S/\a<=x/\x<(↑S:Int)/\N=S/\x.toNat<S/\(f<=a/\a<=j)/\p.toNat=L.length/\a<=x/\x<(↑L.length:Int)/\p.toNat=L.length/\x.toNat<L.length/\(a9=true->a<=P/\P<(↑z29:Int)/\P.toNat<z29/\p.toNat=M.length/\a<=x/\x<(↑M.length:Int)/\p.toNat=M.length/\x.toNat<M.length/\aa (M.set x.toNat (Z.fst,Z.snd.fst,Z.snd.snd)))/\(a9=false->aa M))/\(a8=false->(((y.same y/\s.same s/\F.same F/\a5.same W/\(c (↑o.k3:Int)).same X/\(l).same (c 0)/\True)/\G.same G/\B.same B/\C.same C/\D.same D/\E.same E/\(d sF L 177 true).same Y/\True)/\a<=a/\a<=z)/\∀(x:Int),let ab:=decide (x<(↑O:Int));let T:=bj J x.toNat a;let ac:=decide (o.n<=T);let Q:=x+(1:Int);let ad:=c Q;a<=x/\x<=z->(ab=true->O=J.length/\a<=x/\x<(↑J.length:Int)/\O=J.length/\x.toNat<J.length/\(ac=true->cu .i64 Q/\((y.same y/\s.same s/\F.same F/\W.same W/\X.same X/\ad.same ad/\True)/\G.same G/\B.same B/\C.same C/\D.same D/\E.same E/\Y.same Y/\True)/\(a<=Q/\Q<=z)/\(z - Q).toNat<(z - x).toNat)/\(ac=false->a<=T/\T<(↑z29:Int)/\T.toNat<z29/\False))/\(ab=false->p.toNat=z29/\(SV.bI []).same (SV.bI [])/\(k (a1::a2::a3::a4::s::a6) 261 10 false).same (k [c q.n,c q.m,e 1 q.k0 1,e 2 q.k1 3,h sF q.cost,γw q.v.fst,h A q.v.snd.fst,h A q.v.snd.snd,e 3 q.k3 1,e 4 q.k4 1] 261 10 false)/\B.same (d sF.bE q.cj 106 false)/\C.same (d sF q.bound 177 false)/\D.same (d I q.basic 3 false)/\E.same (d I q.free 3 false)/\True))) (by kernel_rfl) ?_;simp only[sW];try simp only[bH]
 simp only[vcs];obtain⟨⟨⟨n0,n1⟩,m0,m1⟩,hw,hz⟩:=id hok;have hbb:=hw.basic;have hfl:=hw.free;have hfg:=@fF g;have h0:(κ 0:Rat)=0:=rfl;have hrow:∀{x y:List bL},x=y->(bq.row sF x 177 true).same (bq.row sF y 177 true):=by rintro _ _ rfl;rfl
 simp only[h0,jM];refine⟨by omega,by omega,by omega,by omega,by omega,⟨⟨?_,?_,?_⟩,by omega,by omega⟩,?_⟩;·rw[hfl];rfl
 ·rfl
 ·exact hrow (by rw[yC,hfg,hgl,hfl];rfl)
 rintro j ⟨j0,j1⟩;have oW:=@yB (fL g) j.toNat (false,([],[])) (by omega);refine⟨λhj=>?_,λhj=>?_⟩
 ·have hv:bj t.free j.toNat 0=j:=by rw[hfr,JZ (by omega)];omega
  rw[hv];have hset:((eV (fL g) j.toNat (false,([],[]))).set j.toNat (bu 0)).set j.toNat (bj (fL g) j.toNat sF.dflt)=eV (fL g) (j+1).toNat (false,([],[])):=by
   have e:=yE (d:=fL g) (j:=j.toNat) (z:=(false,([],[]))) (x:=bj (fL g) j.toNat sF.dflt) (by omega) rfl;rw[List.set_set,show(j+1).toNat=j.toNat+1 by omega];exact e
  rw[Φ];exact⟨j0,by omega,by omega,by omega,by omega,j0,by omega,by omega,by omega,λ_=>⟨j0,by omega,by omega,by omega,j0,by omega,by omega,by omega,by omega,hrow hset,by omega,by omega⟩,λh=>(h (by omega)).elim⟩
 ·have e:j.toNat=(fL g).length:=by omega
  rw[e,yD];refine⟨⟨hrow rfl,by omega,by omega⟩,?_⟩;rintro i ⟨i0,i1⟩;refine⟨λhi=>⟨i0,hi,by omega,λ_=>⟨by omega,by omega,by omega⟩,λh=>absurd (hbs _ (dr (by omega))) h⟩,λhi=>⟨by omega,?_⟩⟩;rw[kJ];rfl
abbrev Lp:=List Rat×List (List Rat×Rat)
def iJ (a:Lp):s8:=(fL a.1,a.2.map λr=>(fL r.1,bu r.2))
def lj (a:Lp):Tb:=⟨a.2.map (·.1),a.2.map (·.2),a.1,0,(dp a.2.length).map λi=>a.1.length+i,dp a.1.length⟩
def rL (a:Lp):Tb:={lj a with cost:=δ a.1.length 0}
theorem adZ {a:Lp}:Be (iJ a)=bH a.1.length a.2.length (rL a):=by
 unfold Be iJ bH rL lj;simp_all[iT,fM,fL]
structure Bf (a:Lp):Prop where
 n:a.1.length<=160
 m:a.2.length<=40
 small:∃M G,Small a.1.length a.2.length M G (lj a)
 yn:km a.2.length (lj a)
 bnd:∃B,∀x z,(lj a).holds a.1.length a.2.length x z->(∀v∈(lj a).basic++(lj a).free,0<=x v)->z<=B
noncomputable def nL (a:Lp):Tb:=lastT a.1.length a.2.length (lj a)
theorem ad1 {a:Lp} (h:Bf a):okO a.1.length a.2.length (lj a):=by
 obtain⟨M,G,b⟩:=h.small;exact⟨lj a,M,G,b,Run.refl b.wf b.nd,h.yn⟩
theorem ad2 {a:Lp} (h:Bf a):Run a.1.length a.2.length (lj a) (nL a)/\km a.2.length (nL a)/\eE (nL a) a.1.length<0:=by
 obtain⟨M,G,c⟩:=h.small;obtain⟨B,d⟩:=h.bnd;have b:=Run.refl c.wf c.nd;have:=JX b h.yn;exact⟨this.1,this.2.1,Tv b h.yn d⟩
noncomputable def J7:bM:=⟨133,s8,.one yG,λx=>∃a:Lp,x=iJ a/\Bf a,λx=>
 let a:Lp:=(vL x.1,x.2.map λr=>(vL r.1,bV r.2));.bI [.agg [.si .i64 1,.sb (bu (nL a).value).1,.row (.i .u32) (bu (nL a).value).2.1,.row (.i .u32) (bu (nL a).value).2.2,.row sF (fL (gp (nL a) a.1.length a.2.length)),.row sF (fL (jy (nL a) a.1.length a.2.length a.1.length)),.row sF []],.si .i64 0]⟩
theorem ad3 {a:Lp}:((vL (iJ a).1,(iJ a).2.map λr=>(vL r.1,bV r.2)):Lp)=a:=by
 obtain⟨g,b⟩:=a;unfold iJ;simp only[kJ,γ3];congr 1;conv=>rhs;rw[<-List.map_id b]
 refine List.map_congr_left λr _=>?_;grind[kJ,eD]
theorem ad4 {a:Lp}:((iJ a).1,(iJ a).2)=iJ a:=rfl
theorem TS {a:Lp}:vL (iJ a).1=a.1:=kJ _
theorem TT {a:Lp}:(iJ a).2.map (λr=>(vL r.1,bV r.2))=a.2:=congrArg Prod.snd (@ad3 a)
theorem ad5 {a:Lp}:({cj:=(rL a).cj,bound:=(rL a).bound,cost:=a.1,value:=0,basic:=(rL a).basic,free:=(rL a).free}:Tb)=lj a:=rfl
theorem ad6 {a:Lp}:(iJ a).1.length=a.1.length:=fF
theorem ad7 {a:Lp}:(iJ a).2.length=a.2.length:=Δ _
theorem TU {q:Rat} (h:Sz 1000000 q):iW (bu q)/\okF (bu q)=true:=by
 obtain⟨g,⟨a,_,c⟩,⟨b,_,e⟩⟩:=l9 q;obtain⟨d,f⟩:=pn h;refine⟨⟨⟨a,b⟩,by omega,by omega⟩,?_⟩;grind[okF,eD]
theorem ad8 {o:Store} {d:Nat} {acc:List Nat} {l:List bL}:cT o d (γb (λx:bL=>dP bp.b x.1++dP ((bp.i .u32).bE.pair (bp.i .u32).bE) x.2) l).flatten acc=acc:=zZ λa c=>ni (s:=sF) (l:=l) c
theorem ad9 {o:Store} {d:Nat} {acc:List Nat} {l:List (List bL)}:cT o d (γb (λx:List bL=>[ζY (γc x) (ζ1 (dP sF) x)]) l).flatten acc=acc:=zZ λa b=>ni (s:=sF.bE) (l:=l) b
theorem aea {o:Store} {d:Nat} {acc:List Nat} {l:List Int}:cT o d (γb (λx:Int=>γb δd (dB (bp.i .i64) x)) l).flatten acc=acc:=zZ λa b=>ni (s:=bp.i .i64) (l:=l) b
theorem h395:Holds Tryz.prog J7:=by
 refine ZP (L:=[J4]) (W:=gK [J5,r400,J6,J2,EF,EG]) J7 (λf=>Nat.beq f EF.f||Nat.beq f EG.f) lk (kY (by simpa using⟨h399,h400,h401,h402,h403,h405⟩)) (by simpa using h398) ?_;rintro x ⟨a,hx,hok⟩;subst hx;refine bR (let c:=Ω;let d:=bq.row;let e:=γi .i64;let f:=γ1;let h:=bq.cells;let j:=γy .i64;let k:=(0:Int);let l:=γw;let o:=δf false;let p:=SV.agg;let q:=SV.bI;let B:=(iJ a).fst;let C:=(iJ a).snd;let J:=h [c sF B,c sR C] 217 2 false;let Q:=j 0;let a1:=Value.slice none 0 0;let G:=SV.sc a1;let K:=h [Q,o,G,G,G,G,G] 221 7 false;let L:=Be (B,C);let D:=bH L.n L.m L.t;let E:=bH D.n D.m (Tb.mk D.t.cj D.t.bound (vL B) (0:Rat) D.t.basic D.t.free);let a2:=lastT E.n.toNat E.m.toNat E.t;let s:=bH E.n E.m a2;let y:=bp.i .u32;let M:=s.v.snd.fst;let N:=s.v.snd.snd;let w:=bH s.n s.m s.t;let R:=w.v.snd.fst;let S:=w.v.snd.snd;let a3:=h [e w.n,e w.m,f 3 w.k0 1,f 4 w.k1 3,c sF w.cost,l w.v.fst,c y R,c y S,f 5 w.k3 1,f 6 w.k4 1] 261 10 false;let a4:=d sF.bE w.cj 106 false;let a5:=d sF w.bound 177 false;let z:=bp.i .i64;let a6:=d z w.basic 3 false;let a7:=d z w.free 3 false;let F:=c z [];let U:=γb (λ(r:List bL×bL) ↦(vL r.fst,bV r.snd)) C;let H:=nL (vL B,U);let z31:Nat:=(vL B).length;let a8:=e 0;let a9:=q [p [e 1,l (bu H.value).fst,c y (bu H.value).snd.fst,c y (bu H.value).snd.snd,c sF (fL (gp H z31 U.length)),c sF (fL (jy H z31 U.length z31)),c sF []],a8];let A:=bH w.n w.m w.t;let aa:=bQ.cells [ζY B.length (γb (λ(x:sF.T) ↦dP bp.b x.fst++dP (y.bE.pair y.bE) x.snd) B).flatten,ζY C.length (γb (λ(x:sR.T) ↦dP sF.bE x.fst++dP sF x.snd) C).flatten] 217 2 false;let I:=δd a1;let ab:=bQ.cells [δd (Value.int .i64 k),δd (Value.bool false),I,I,I,I,I] 221 7 false;let ac:=(γb (λ(x:sF.bE.T) ↦[ζY (γc x) (ζ1 (dP sF) x)]) s.cj).flatten;let ad:=(γb (λ(x:sF.T) ↦dP bp.b x.fst++dP (y.bE.pair y.bE) x.snd) s.bound).flatten;let ae:=(γb (λ(x:z.T) ↦γb δd (dB z x)) s.basic).flatten;let af:=(γb (λ(x:z.T) ↦γb δd (dB z x)) s.free).flatten;let O:=[aa,ab,bQ.cells [δd (Value.int .i64 s.n),δd (Value.int .i64 s.m),θc 3 0 s.k0 (s.k0*1),θc 4 0 s.k1 (s.k1*3),ζY s.cost.length (γb (λ(x:sF.T) ↦dP bp.b x.fst++dP (y.bE.pair y.bE) x.snd) s.cost).flatten,δd (Value.bool s.v.fst),ζY M.length (γb (λ(x:y.T) ↦γb δd (dB y x)) M).flatten,ζY N.length (γb (λ(x:y.T) ↦γb δd (dB y x)) N).flatten,θc 5 0 s.k3 (s.k3*1),θc 6 0 s.k4 (s.k4*1)] 261 10 false,bQ.cells ac 106 1 false,bQ.cells ad 177 3 false,bQ.cells ae 3 1 false,bQ.cells af 3 1 false];let ag:=[2,3];let V:=cT O (nat_lit 396) ac ag;let W:=if ζI 4 V=true then V else cT O (nat_lit 395) ad (V++[4]);let X:=if ζI 5 W=true then W else cT O (nat_lit 390) ae (W++[5]);let ah:=(γb (λ(x:sF.bE.T) ↦[ζY (γc x) (ζ1 (dP sF) x)]) w.cj).flatten;let ai:=(γb (λ(x:sF.T) ↦dP bp.b x.fst++dP (y.bE.pair y.bE) x.snd) w.bound).flatten;let aj:=(γb (λ(x:z.T) ↦γb δd (dB z x)) w.basic).flatten;let ak:=(γb (λ(x:z.T) ↦γb δd (dB z x)) w.free).flatten;let P:=[aa,ab,bQ.cells [δd (Value.int .i64 w.n),δd (Value.int .i64 w.m),θc 3 0 w.k0 (w.k0*1),θc 4 0 w.k1 (w.k1*3),ζY w.cost.length (γb (λ(x:sF.T) ↦dP bp.b x.fst++dP (y.bE.pair y.bE) x.snd) w.cost).flatten,δd (Value.bool w.v.fst),ζY R.length (γb (λ(x:y.T) ↦γb δd (dB y x)) R).flatten,ζY S.length (γb (λ(x:y.T) ↦γb δd (dB y x)) S).flatten,θc 5 0 w.k3 (w.k3*1),θc 6 0 w.k4 (w.k4*1)] 261 10 false,bQ.cells ah 106 1 false,bQ.cells ai 177 3 false,bQ.cells aj 3 1 false,bQ.cells ak 3 1 false];let Y:=cT P (nat_lit 396) ah ag;let Z:=if ζI 4 Y=true then Y else cT P (nat_lit 395) ai (Y++[4]);let a0:=if ζI 5 Z=true then Z else cT P (nat_lit 390) aj (Z++[5]);let al:=J.same J/\K.same K/\(h [e s.n,e s.m,f 3 s.k0 1,f 4 s.k1 3,c sF s.cost,l s.v.fst,c y M,c y N,f 5 s.k3 1,f 6 s.k4 1] 261 10 false).same a3/\(d sF.bE s.cj 106 false).same a4/\(d sF s.bound 177 false).same a5/\(d z s.basic 3 false).same a6/\(d z s.free 3 false).same a7/\True;let am:=∃(n:Int),∃(m:Int),∃(t:Tb),s=bH n m t/\kK n m t/\∀(v:Int),v∈t.basic->k<=v;let an:=λ(u:Bool) ↦(!decide (eE a2 E.n.toNat<k))=u;let ao:=λ(u:Int) (u_1:SV) ↦false=true->(q [p [j u,o,F,F,F,F,F],u_1]).same a9;((B.length<=160/\C.length<=40)/\(∀(x:bL),x∈B->iW x/\okF x=true)/\∀(r:List bL×bL),r∈C->r.fst.length=B.length/\(∀(x:bL),x∈r.fst->iW x/\okF x=true)/\iW r.snd/\okF r.snd=true)/\ao k a8/\(false=false->(B.length<=1000/\C.length<=1000/\∀(r:List bL×bL),r∈C->r.fst.length<=1000)/\(∃(n:Int),∃(m:Int),∃(t:Tb),L=bH n m t/\kK n m t/\km m.toNat t)/\ao (2:Int) Q/\(false=false->(∃(n:Int),∃(m:Int),∃(t:Tb),D=bH n m t/\kK n m t/\∃(g:List Rat),B=fL g/\g.length=n.toNat/\t.free=dp n.toNat/\∀(v:Int),v∈t.basic->n<=v)/\(∃(n:Int),∃(m:Int),∃(t:Tb),E=bH n m t/\kK n m t/\okO n.toNat m.toNat t)/\(an true->am/\al/\False)/\(an false->am/\al/\(∃(n:Int),∃(m:Int),∃(t:Tb),w=bH n m t/\kK n m t/\True)/\(J.same J/\K.same K/\a3.same (h [e A.n,e A.m,f 3 A.k0 1,f 4 A.k1 3,c sF A.cost,l A.v.fst,c y A.v.snd.fst,c y A.v.snd.snd,f 5 A.k3 1,f 6 A.k4 1] 261 10 false)/\a4.same (d sF.bE A.cj 106 false)/\a5.same (d sF A.bound 177 false)/\a6.same (d z A.basic 3 false)/\a7.same (d z A.free 3 false)/\True)/\if(((if ζI 6 X=true then X else cT O (nat_lit 389) af (X++[6])).all λ(i:Nat) ↦decide (i<7))&&(((if ζI 6 a0=true then a0 else cT P (nat_lit 389) ak (a0++[6])).all λ(i:Nat) ↦decide (i<7))&&true))=true then(q [p [j 1,l s.v.fst,c y M,c y N,c sF (fL (gp s.t s.n.toNat s.m.toNat)),c sF (fL (jy w.t w.n.toNat w.m.toNat w.n.toNat)),F],Q]).same a9 else False)))) (by kernel_rfl) ?_;simp only[ad4,adZ,sW,Sj,Sl,TS,TT,ad5,ad6,ad7,γl];try simp only[vcs]
 obtain⟨M,G,hs⟩:=hok.small;obtain⟨r1,r2,r3⟩:=ad2 hok;have hw:=hs.wf;have hz:=hs.wo (Run.refl hs.wf hs.nd);have hn:=hok.n;have hm:=hok.m;have hO:=ad1 hok;have k1:kK a.1.length a.2.length (lj a):=⟨⟨by omega,by omega⟩,by simpa using hw,hz⟩;have k0:kK a.1.length a.2.length (rL a):=by
  refine⟨⟨by omega,by omega⟩,⟨hw.cj,hw.row,hw.bound,by simp[rL],hw.basic,hw.free⟩,hz.1,hz.2.1,λq hq=>?_,hz.2.2.2⟩;rw[(List.mem_replicate.1 hq).2];exact hz.2.2.2
 have k2:kK a.1.length a.2.length (nL a):=Ti hs (by simpa using r1) (by omega) (by omega);have hl:lastT a.1.length a.2.length (lj a)=nL a:=rfl;have J8:((a.1,a.2):Lp)=a:=rfl;simp only[hl,J8,ad8,ad9,aea];have mem2:∀i,i<a.2.length->bj a.2 i ([],0)∈a.2:=λi hi=>dr hi;have hrow:∀r∈a.2,r.1.length=a.1.length/\(∀q∈r.1,Sz 1000000 q)/\Sz 1000000 r.2:=λr hr=>by
  obtain⟨i,hi,rfl⟩:=γI hr;have h1:=hw.row i hi;have e:bj (lj a).cj i []=a.2[i].1:=by
   show bj (a.2.map (·.1)) i []=_;rw[cQ (by rw[Δ];exact hi),δC]
  rw[e] at h1;refine⟨h1,hz.1 _ (Ψ.2 ⟨a.2[i],hr,rfl⟩),hz.2.1 _ (Ψ.2 ⟨a.2[i],hr,rfl⟩)⟩
 have hg:∀q∈a.1,Sz 1000000 q:=hz.2.2.1;have hF:∀{l:List Rat},(∀q∈l,Sz 1000000 q)->∀x∈fL l,iW x/\okF x=true:=λh x hx=>by
  obtain⟨q,hq,rfl⟩:=Ψ.1 hx;exact TU (h q hq)
 have hdg:(∀x∈(iJ a).1,iW x/\okF x=true)/\∀r∈(iJ a).2,r.1.length=a.1.length/\(∀x∈r.1,iW x/\okF x=true)/\iW r.2/\okF r.2=true:=by
  refine⟨hF hg,λr hr=>?_⟩;obtain⟨r0,hr0,rfl⟩:=Ψ.1 hr;obtain⟨h1,h2,h3⟩:=hrow r0 hr0;exact⟨by rw[<-h1];exact fF,hF h2,TU h3⟩
 have hb0:∀v∈(nL a).basic,0<=v:=λv hv=>by
  have:=r1.perm.mem_iff.1 (εo _ hv);simp only[lj,γk,Ψ,kL] at this;rcases this with⟨i,hi,rfl⟩|h;·omega
  ·exact h.1
 have hbn:∀v∈(rL a).basic,(a.1.length:Int)<=v:=λv hv=>by
  simp only[rL,lj,Ψ,kL] at hv;obtain⟨i,hi,rfl⟩:=hv;omega
 refine⟨⟨⟨hn,hm⟩,hdg.1,hdg.2⟩,λh=>(by cases h),λ_=>⟨⟨by omega,by omega,λr hr=>by have:=(hdg.2 r hr).1;omega⟩,⟨_,_,_,rfl,k0,by rw[γl];exact hok.yn⟩,λh=>(by cases h),λ_=>⟨⟨_,_,_,rfl,k0,a.1,rfl,by simp,rfl,hbn⟩,⟨_,_,_,rfl,k1,by simpa using hO⟩,λh=>absurd r3 h,λ_=>⟨⟨_,_,_,rfl,k2,hb0⟩,⟨_,_,_,rfl,k2⟩,?_⟩⟩⟩⟩;rw[if_pos (by decide)];rfl
theorem Bg {f:List Int} {d:Int} {i:Int} (h:0<=i) (c:i<f.length):bD (f.take (i+1).toNat) d=bD (f.take i.toNat) d++if bj f i.toNat 0=d then[i] else[]:=by
 have a:(f.take (i+1).toNat).length=i.toNat+1:=by grind
 have b:(f.take i.toNat).length=i.toNat:=by grind
 unfold bD;rw[a,b,sY,List.filter_append];have e:∀{k:Nat} {m:Nat},k<m->m<=f.length->bj (f.take m) k 0=bj f k 0:=λ{k m} c j=>by
  grind[cQ]
 congr 1
 ·refine List.filter_congr λx g=>?_;grind[kL]
 grind
def jN (f:List Int):Bool:=f.all λx=>decide (-1<=x)&&decide (x<=1)
def jf (p:bn) (f:List Int):Int:=if bz p≠0 then bz p else if f.length≠p.offers.length then 3 else if jN f=true then 0 else 4
def EH:bM:=⟨131,bn×List Int,.cons dQ (.one (dM (.i .i64))),λa=>a.2.length<=1000000000000,λa=> .si .i64 (jf a.1 a.2)⟩
def aeb (p:bn) (f:List Int):Nat->cF
 |7=> .inv Int (λi=>⟨[(19,.row (.i .i64) f),(20,.si .i64 f.length),(21,.si .i64 i)],[.cells p.ss 27 20 false]⟩)
   (λs=>iS s 21) (λi=>(0<=i/\i<=f.length)/\jN (f.take i.toNat)=true) (λi=>(f.length - i).toNat) λ_ _=> .look
 |_=> .look
theorem h393:Holds Tryz.prog EH:=by
 refine cH (L:=[o9]) EH (λa=>aeb a.1 a.2) (by grind[h79]) ?_;rintro⟨p,f⟩ (D:f.length<=1000000000000);refine bR (let a:=γi .i64;let d:=(0:Int);let g:=γy .i64;let v:=decide (bz p≠d);let e:=a (jf p f);let q:=(↑f.length:Int);let r:=decide (q≠(↑p.offers.length:Int));let n:=Ω (bp.i .i64) f;let c:=(↑f.length:Int);let o:=a c;let w:=g 0;let m:=bq.cells (bn.ss p) 27 20 false;True/\(v=true->(a (bz p)).same e)/\(v=false->(r=true->(g 3).same e)/\(r=false->(((n.same n/\(a q).same o/\w.same (a 0)/\True)/\m.same m/\True)/\(d<=d/\d<=c)/\jN []=true)/\∀(x:Int),let s:=bj f x.toNat d;let l:=decide (s<(-1:Int));let j:=decide ((1:Int)<s);let b:=x+(1:Int);let k:=a b;(d<=x/\x<=c)/\jN (ω x.toNat f)=true->(decide (x<c)=true->d<=x/\x<q/\x.toNat<f.length/\(l=true->(g 4).same e)/\(l=false->(j=true->(g 4).same e)/\(j=false->cu .i64 b/\((n.same n/\o.same o/\k.same k/\True)/\m.same m/\True)/\((d<=b/\b<=c)/\jN (ω b.toNat f)=true)/\(c - b).toNat<(c - x).toNat)))/\(decide (x<c)=false->w.same e)))) (by kernel_rfl) ?_;simp only[vcs];refine⟨λh=>by simp[jf,h],λh=>?_⟩;have F:bz p=0:=Classical.not_not.1 h;refine⟨λy=>by
  grind[jf],λy=>⟨⟨⟨by omega,by omega⟩,rfl⟩,?_⟩⟩;have u:f.length=p.offers.length:=by omega
 rintro i ⟨⟨A,G⟩,g⟩;refine⟨λt=>?_,λt=>?_⟩
 ·have B:=dr (d:=0) (show i.toNat<f.length by omega);have H:=jX (d:=0) A t;have z:¬(-1<=bj f i.toNat 0/\bj f i.toNat 0<=1)->(4:Int)=jf p f:=λE=>by
   have:jN f=false:=by
    rw[Bool.eq_false_iff];intro C;have:=φ.1 C _ B;grind
   grind[jf]
  grind[jN]
 ·rw[show i.toNat=f.length by omega,ψ] at g;grind[jf]
def gA (p:bn) (f:List Int):Int:=cK ((bD f 1).map (oI p))
theorem Bh {p:bn} (c:bz p=0) {f:List Int} {k:Nat} (g:f.length=p.offers.length):0<=gA p (f.take k)/\gA p (f.take k)<=160000000:=by
 have a:=dR c;have e:=@uL (f.take k) 1;have h:(f.take k).length<=f.length:=by grind
 have j:=@sN p a ((bD (f.take k) 1).map (oI p)) λx b=>by
  obtain⟨i,d,rfl⟩:=Ψ.1 b;have:=(kN.1 d).1;exact dr (by omega)
 have l:=a.2.1;grind[gA]
theorem TV {p:bn} {f:List Int} {i:Int} (b:0<=i) (a:i<f.length):gA p (f.take (i+1).toNat)=gA p (f.take i.toNat)+if bj f i.toNat 0=1 then(oI p i).value else 0:=by
 unfold gA;rw[Bg b a,γa,pP];grind[cK]
def jO (p:bn) (f:List Int):Lp:=((cJ p f).cost,(dp (mF p)).map λr=>((bD f 0).map λi=>((dX p r (oI p i):Int):Rat),((dn p r - cV p ((bD f 1).map (oI p)) r:Int):Rat)))
theorem EI {p:bn} {f:List Int}:lj (jO p f)=cJ p f:=by
 simp_all[lj,jO,cJ,dp]
def mj (p:bn) (f:List Int) (j:Nat):List bL:=fL (((bD f 0).take j).map λi=>(((oI p i).value:Int):Rat))
def nM (p:bn) (f:List Int) (r:Int) (j:Nat):List bL:=fL (((bD f 0).take j).map λi=>((dX p r (oI p i):Int):Rat))
def nN (p:bn) (f:List Int) (k:Nat):List (List bL×bL):=(dp k).map λr=>(nM p f r (bD f 0).length,bu ((dn p r - cV p ((bD f 1).map (oI p)) r:Int):Rat))
theorem TW {p:bn} {f:List Int}:mj p f (bD f 0).length=(iJ (jO p f)).1:=by
 unfold mj;rw[ψ];rfl
theorem TX {p:bn} {f:List Int}:nN p f (mF p)=(iJ (jO p f)).2:=by
 simp_all[nN,iJ,jO,nM]
theorem J9 {p:bn} {f:List Int} {j:Nat} (h:j<=(bD f 0).length):(mj p f j).length=j:=by
 grind[mj,fF]
theorem TY {p:bn} {f:List Int} {r:Int} {j:Nat} (h:j<=(bD f 0).length):(nM p f r j).length=j:=by
 grind[nM,fF]
theorem T0 {p:bn} {f:List Int} {k:Nat}:(nN p f k).length=k:=by
 grind[nN,iT]
theorem T8 {l m:List Rat}:fL (l++m)=fL l++fL m:=γa
theorem aec {p:bn} {f:List Int} {j:Int} (a:0<=j) (h:j<(bD f 0).length):mj p f (j+1).toNat=mj p f j.toNat++[bu (((oI p (bj (bD f 0) j.toNat 0)).value:Int):Rat)]:=by
 unfold mj;rw[jX (d:=0) a h,γa,T8];rfl
theorem aed {p:bn} {f:List Int} {r j:Int} (a:0<=j) (h:j<(bD f 0).length):nM p f r (j+1).toNat=nM p f r j.toNat++[bu ((dX p r (oI p (bj (bD f 0) j.toNat 0)):Int):Rat)]:=by
 unfold nM;rw[jX (d:=0) a h,γa,T8];rfl
theorem aee {p:bn} {f:List Int} {r:Int} (a:0<=r):nN p f (r+1).toNat=nN p f r.toNat++[(nM p f r (bD f 0).length,bu ((dn p r - cV p ((bD f 1).map (oI p)) r:Int):Rat))]:=by
 unfold nN;rw[show(r+1).toNat=r.toNat+1 by omega,sY,γa,show((r.toNat:Nat):Int)=r by omega];rfl
def hJ (p:bn) (f:List Int):Bool:=gk p ((bD f 1).map (oI p))
def mO (p:bn) (f:List Int):List bL×(List (List bL×bL)×List Int):=if hJ p f=true then((iJ (jO p f)).1,((iJ (jO p f)).2,bD f 0)) else([],([],[]))
theorem aef {p:bn} {f:List Int} (h:eX p f):Bf (jO p f):=by
 have a:=dR h.1;have c:(jO p f).1.length=nF f:=by
  show((bD f 0).map _).length=_;simp_all
 have b:(jO p f).2.length=mF p:=by
  show((dp (mF p)).map _).length=_;grind[iT]
 have g:=@uL f 0;have i:mF p=p.classes.length+12:=rfl;refine⟨?_,?_,?_,?_,?_⟩;·rw[c];have:=h.2.1;have:=a.2.1;grind
 ·rw[b];have:=a.1;omega
 ·grind[EI,Ez]
 ·grind[EI,J1]
 ·rw[c,b,EI];exact⟨_,λx z d e=>TD h d e⟩
theorem aeg {p:bn} {f:List Int}:nL (jO p f)=dA p f:=by
 have b:(jO p f).1.length=nF f:=by
  show((bD f 0).map _).length=_;simp_all
 have a:(jO p f).2.length=mF p:=by
  show((dp (mF p)).map _).length=_;grind[iT]
 grind[nL,dA,EI]
noncomputable def j3 (p:bn) (f:List Int) (k:Nat):List Rat:=(dp f.length).map λi=>if bj f i.toNat 0=1 then 1 else if i∈(bD f 0).take k then bj (gp (dA p f) (nF f) (mF p)) ((bD f 0).idxOf i) 0 else 0
noncomputable def jg (p:bn) (f:List Int):Rat:=((gA p f:Int):Rat)+(dA p f).value
noncomputable def iC (p:bn) (f:List Int):List Rat:=jy (dA p f) (nF f) (mF p) (nF f)
theorem yH {p:bn} {f:List Int} {k:Nat}:(j3 p f k).length=f.length:=by
 grind[j3,iT]
theorem EJ {p:bn} {f:List Int} {k i:Nat} (h:i<f.length):bj (j3 p f k) i 0=if bj f i 0=1 then 1 else if(i:Int)∈(bD f 0).take k then bj (gp (dA p f) (nF f) (mF p)) ((bD f 0).idxOf (i:Int)) 0 else 0:=by
 unfold j3;rw[JY (e:=0) (by grind[iT]),JZ h,γl]
theorem aeh {l m:List Rat} (a:l.length=m.length) (h:∀i,i<m.length->bj l i 0=bj m i 0):l=m:=γ8 a λi b c=>by
 grind[cQ]
theorem aei {p:bn} {f:List Int} {k:Nat} (b:k<nF f):(j3 p f k).set (bj (bD f 0) k 0).toNat (bj (gp (dA p f) (nF f) (mF p)) k 0)=j3 p f (k+1):=by
 have g:=kN.1 (dr (d:=0) b);refine aeh (by grind[yH]) λi a=>?_;rw[yH] at a;have c:(bD f 0).idxOf (bj (bD f 0) k 0)=k:=po (uK.imp λh=>by omega) b;have e:(bD f 0).take (k+1)=(bD f 0).take k++[bj (bD f 0) k 0]:=by simp_all[cQ]
 rw[iR (by grind[yH]),EJ a,EJ a,e];grind
theorem aej {p:bn} {f:List Int} {i:Nat} (h:i<f.length):bj (j3 p f 0) i 0=if bj f i 0=1 then 1 else 0:=by
 grind[EJ]
def j4 (p:bn) (f:List Int):Bool:=decide (jf p f=0)&&hJ p f
noncomputable def kp (p:bn) (f:List Int):bL:=if j4 p f=true then bu (jg p f) else(false,([],[]))
noncomputable def qP (p:bn) (f:List Int):List bL:=if j4 p f=true then fL (iC p f) else[]
noncomputable def kq (p:bn) (f:List Int):List bL:=if j4 p f=true then fL (j3 p f (nF f)) else[]
noncomputable def aek (p:bn) (f:List Int):SV:=.agg [.sb (j4 p f),.sb (kp p f).1,.row (.i .u32) (kp p f).2.1,.row (.i .u32) (kp p f).2.2,.row sF (qP p f),.row sF (kq p f)]
theorem Ko {t:List Int} {g:Int->Int}:∀{l:List Int},((l.filter λx=>decide (x∈t)).map g).sum=(l.map λx=>if x∈t then g x else 0).sum
 |[]=>rfl
 |x::l=>by
  simp only[List.filter_cons,π,ε0];by_cases h:x∈t;·rw[if_pos (decide_eq_true h),if_pos h,π,ε0,Ko]
  ·rw[if_neg (by simpa using h),if_neg h,Ko];omega
theorem Kp {t:List Int} {g:Int->Int}:∀{l:List Int},me (λx=>((g x:Int):Rat)*(if x∈t then 1 else 0)) l=(((l.map λx=>if x∈t then g x else 0).sum:Int):Rat)
 |[]=>rfl
 |x::l=>by
  have:=@Kp t g l;simp only[me,this,π,ε0,Rat.intCast_add];congr 1;split<;>simp_all
theorem Kq {p:bn}:∀{l:List Int},cK (l.map (oI p))=(l.map λi=>(oI p i).value).sum
 |[]=>rfl
 |x::l=>by
  have:=@Kq p l;grind[cK]
section
variable {p:bn} {f t:List Int}
theorem T9 (k:jN f=true) (u:f.length=p.offers.length) (e:eO p.offers.length t) (j:∀i∈t,bj f i.toNat 0≠ -1) (r:∀i∈bD f 1,i∈t) (g:Int->Int):
  (t.map g).sum=((bD f 1).map g).sum+((bD f 0).map λx=>if x∈t then g x else 0).sum:=by
 have l:t.Perm (bD f 1++(bD f 0).filter λx=>decide (x∈t)):=by
  refine(γ4 (Ba e) ?_).2 λx=>?_
  ·rw[γs];refine⟨uK.imp λh=>by omega,(uK.sublist γO).imp λh=>by omega,λa s b o m=>?_⟩;grind[kN]
  ·rw[γk,List.mem_filter,decide_eq_true_eq];constructor
   ·intro c;have v:=e.2 x c;have q:=j x c;have n:=φ.1 k _ (dr (d:=0) (show x.toNat<f.length by omega));simp only[θ,decide_eq_true_eq] at n;grind[kN]
   grind
 rw[S8 (l.map g),γa,ζ7,Ko]
theorem wE (l:List Int) (r:Int):cV p (l.map (oI p)) r=(l.map λi=>dX p r (oI p i)).sum:=by
 unfold cV;rw[γ3];rfl
theorem weak (h:eX p f) (s:jN f=true) (z:eO p.offers.length t) (a:gk p (t.map (oI p))=true) (u:∀i∈t,bj f i.toNat 0≠ -1) (A:∀i∈bD f 1,i∈t):((cK (t.map (oI p)):Int):Rat)<=jg p f:=by
 obtain⟨l,E,r⟩:=oD h;have d:∀g:Int->Int,bO (nF f) (λj=>((g (bj (bD f 0) j 0):Int):Rat)*(if bj (bD f 0) j 0∈t then(1:Rat) else 0))=(((t.map g).sum - ((bD f 1).map g).sum:Int):Rat):=λg=>by
  have e:=@qL (λx=>((g x:Int):Rat)*(if x∈t then(1:Rat) else 0)) (bD f 0);rw[Kp] at e;rw[T9 s h.2.1 z u A g];grind
 have q:=asg_holds (n:=nF f) (m:=mF p) (t:=cJ p f) lG qO (y:=λj=>if bj (bD f 0) j 0∈t then(1:Rat) else 0);have B:(cJ p f).value+bO (nF f) (λj=>(cJ p f).cs j*(if bj (bD f 0) j 0∈t then(1:Rat) else 0))=((cK (t.map (oI p)) - gA p f:Int):Rat):=by
  grind[cJ,dK,Bd,gA,Kq]
 rw[B] at q;have o:∀v∈(cJ p f).basic++(cJ p f).free,0<=ju (nF f) (cJ p f) (λj=>if bj (bD f 0) j 0∈t then(1:Rat) else 0) v:=λv b=>by
  rcases γk.1 b with b|b
  ·obtain⟨i,k,rfl⟩:=yo lG b;rw[nE lG qO k,yz k,dK (g:=λj=>((dX p i (oI p (bj (bD f 0) j 0)):Int):Rat)*(if bj (bD f 0) j 0∈t then(1:Rat) else 0)) λj c=>by rw[yx k c],d λx=>dX p i (oI p x),<-wE,<-wE];have C:=o8.1 a i (by grind[df]);have w:0<=(dn p i - cV p ((bD f 1).map (oI p)) i) - (cV p (t.map (oI p)) i - cV p ((bD f 1).map (oI p)) i):=by omega
   have D:=EA w;simp_all
  grind[wj,lG,mJ,qO]
 have:=l.best r q λj c=>o _ (l.perm.mem_iff.1 (List.mem_append_right _ (wi l.wf c)));grind[jg]
end
theorem Ua {t:Tb} {n j:Nat} (b:j<n):∀{k:Nat},(∀i,i<k->0<=t.bv i)->(∃i,i<k/\t.bv i=j/\bj (gp t n k) j 0=t.bd i)\/((∀i,i<k->t.bv i≠j)/\bj (gp t n k) j 0=0)
 |0,_=> .inr ⟨λi a=>by omega,by
   grind[gp,cQ]⟩
 |k+1,h=>by
  have e:=h k (by omega);have d:=@Ua t n j b k λi a=>h i (by omega);unfold gp;by_cases c:t.bv k<n
  ·rw[if_pos c,iR (by grind[ED])];grind
  grind
theorem Ub {t:Tb} {n m r:Nat} (a:r<m):∀{k:Nat},(∃j,j<k/\t.fv j=((n+r:Nat):Int)/\bj (jy t n m k) r 0= -(t.cs j))\/((∀j,j<k->t.fv j≠((n+r:Nat):Int))/\bj (jy t n m k) r 0=0)
 |0=> .inr ⟨λi d=>by omega,by
   grind[jy,cQ]⟩
 |k+1=>by
  have c:=@Ub t n m r a k;unfold jy;by_cases b:(n:Int)<=t.fv k/\t.fv k<n+m
  ·rw[if_pos b,iR (by grind[EE])];grind
  grind
theorem Uc {n m:Nat} {t:Tb} (h:t.WF n m) (c:(t.basic++t.free).Nodup) {j:Nat} (a:j<n):eu t (t.fv j)=t.cs j:=by
 have b:j<t.free.length:=by rw[h.free];exact a
 unfold eu;rw[if_pos (wi h a),show t.free.idxOf (t.fv j)=j from po (γs.1 c).2.1 b]
theorem ael {n m:Nat} {t:Tb} (h:t.WF n m) (b:(t.basic++t.free).Nodup) {j:Nat} (a:j<m):eu t (t.bv j)=0:=by
 unfold eu;rw[if_neg (Jc h b a)]
section
variable {p:bn} {f:List Int}
noncomputable def pV (p:bn) (f:List Int):Int->Rat:=ju (nF f) (dA p f) λ_=>0
theorem optX_holds (h:eX p f):(cJ p f).holds (nF f) (mF p) (pV p f) (dA p f).value:=by
 obtain⟨a,_,_⟩:=oD h;have b:=asg_holds a.wf a.gn (y:=λ_=>0);rw[dK (g:=λ_=>0) λj _=>by grind,iQ] at b;have c:=(a.mK _ _).1 b;rwa [show(dA p f).value+0=(dA p f).value by grind] at c
theorem Kr (h:eX p f) {i:Nat} (b:i<mF p):pV p f ((dA p f).bv i)=(dA p f).bd i:=by
 obtain⟨a,_,_⟩:=oD h;unfold pV;rw[nE a.wf a.gn b,dK (g:=λ_=>0) λj _=>by grind,iQ];grind
theorem Ks (h:eX p f) {j:Nat} (b:j<nF f):pV p f ((dA p f).fv j)=0:=by
 obtain⟨a,_,_⟩:=oD h;unfold pV;rw[mJ a.wf a.gn b]
theorem EK (h:eX p f) {v:Int} (a:v∈(cJ p f).basic++(cJ p f).free):(∃i,i<mF p/\(dA p f).bv i=v)\/∃j,j<nF f/\(dA p f).fv j=v:=by
 obtain⟨b,_,_⟩:=oD h;rw[<-b.perm.mem_iff,γk] at a;rcases a with a|a;·exact .inl (yo b.wf a)
 ·exact .inr (wj b.wf a)
theorem Kt (h:eX p f) {v:Int} (c:v∈(cJ p f).basic++(cJ p f).free):0<=pV p f v:=by
 obtain⟨_,b,_⟩:=oD h;rcases EK h c with⟨i,a,rfl⟩|⟨j,d,rfl⟩
 ·rw[Kr h a];exact b i a
 grind[Ks]
theorem Ku {j:Nat} (a:j<nF f):(j:Int)∈(cJ p f).basic++(cJ p f).free:=by
 have:=wi (n:=nF f) (m:=mF p) (t:=cJ p f) lG a;grind[wA]
theorem aem (h:eX p f) {i:Nat} (b:i<mF p):0<=(dA p f).bv i:=by
 obtain⟨a,_,_⟩:=oD h;have c:=a.perm.mem_iff.1 (εo _ (AQ a.wf b));grind[yo,lG,Ew,wj,wA]
theorem aen (h:eX p f) {j:Nat} (c:j<nF f):bj (gp (dA p f) (nF f) (mF p)) j 0=pV p f j:=by
 rcases @Ua (dA p f) (nF f) j c (mF p) λi b=>aem h b with⟨i,d,a,g⟩|⟨d,a⟩;·grind[Kr]
 ·rw[a];rcases EK h (Ku c) with⟨i,b,e⟩|⟨k,l,e⟩<;>grind[EK,Ku,Ks]
theorem aeo (h:eX p f) {j:Nat} (a:j<nF f):pV p f j<=1:=by
 have:=TC h (optX_holds h) (λv b=>Kt h b) a;grind[wA]
theorem Ud (h:eX p f):(∀i,i<mF p->Sz 1000 ((dA p f).bd i))/\(∀j,j<nF f->Sz 1000 ((dA p f).cs j))/\Sz 1000 (dA p f).value:=have a:=(Ez h).Tf (oD h).1;⟨a.1,a.2.1,a.2.2.1⟩
theorem Kv (q:Rat) (h:q=0\/q=1):Sz 1000 q:=by
 have a:Sz 1 q:=by rcases h with rfl|rfl<;>exact⟨by decide,by decide⟩
 exact a.mono (by omega)
theorem aep (h:eX p f) {v:Int} (a:v∈(cJ p f).basic++(cJ p f).free):Sz 1000 (pV p f v):=by
 grind[EK,Kr,Ud,Ks,Kv]
noncomputable def dE (p:bn) (f:List Int):List Rat:=j3 p f (nF f)
theorem rM:(dE p f).length=f.length:=yH
theorem Bi (h:eX p f) (c:jN f=true) {i:Nat} (b:i<f.length):(bj f i 0=1/\bj (dE p f) i 0=1)\/(bj f i 0= -1/\bj (dE p f) i 0=0)\/(bj f i 0=0/\(i:Int)∈bD f 0/\(bD f 0).idxOf (i:Int)<nF f/\bj (dE p f) i 0=pV p f ((bD f 0).idxOf (i:Int))):=by
 have g:=φ.1 c _ (dr (d:=0) b);simp only[θ,decide_eq_true_eq] at g;unfold dE;rw[EJ b,ψ];rcases(show bj f i 0=1\/bj f i 0= -1\/bj f i 0=0 by omega) with a|a|a;·simp_all
 ·simp_all[kN]
 ·have e:(i:Int)∈bD f 0:=kN.2 ⟨by omega,by simp_all⟩;have j:(bD f 0).idxOf (i:Int)<nF f:=εj e;simp_all[aen]
theorem EL (h:eX p f) (a:jN f=true) {i:Nat} (b:i<f.length):0<=bj (dE p f) i 0/\bj (dE p f) i 0<=1/\Sz 1000 (bj (dE p f) i 0):=by
 rcases Bi h a b with⟨_,e⟩|⟨_,e⟩|⟨_,_,c,e⟩;all_goals grind[Kv,Kt,Ku,aeo,aep]
theorem s9 (h:eX p f) (c:jN f=true) {i:Nat} (b:i<f.length) (d:0<bj (dE p f) i 0) (a:bj (dE p f) i 0<1):bj f i 0=0:=by
 grind[Bi]
def eI (x:List Rat):List Int:=(dp x.length).filter λi=>decide (0<bj x i.toNat 0)
theorem yI {x:List Rat} {i:Int}:i∈eI x↔(0<=i/\i<x.length)/\0<bj x i.toNat 0:=by
 simp_all[eI,kL]
theorem Ue {x:List Rat}:eO x.length (eI x):=⟨rI.sublist γO,λi a=>(yI.1 a).1⟩
def mP (x:List Rat):Bool:=x.all λq=>decide (q.den=1)
theorem aer {q:Rat} (h:q.den=1):q=(q.num:Rat):=by
 grind[Rat.mkRat_self,Rat.mkRat_one]
theorem aes {q:Rat} (c:q.den=1) (b:0<=q) (a:q<=1):q=0\/q=1:=by
 rw[aer c] at b a ⊢;have f:0<=q.num:=by exact_mod_cast b
 have d:q.num<=1:=by exact_mod_cast a
 rcases(show q.num=0\/q.num=1 by omega) with e|e<;>simp_all
theorem aeu {t:List Int} (a:jN f=true) (c:f.length=p.offers.length) (h:eO p.offers.length t) (b:∀i∈t,bj f i.toNat 0≠ -1) (d:∀i∈bD f 1,i∈t) (g:Int->Int):bO (nF f) (λj=>((g (bj (bD f 0) j 0):Int):Rat)*(if bj (bD f 0) j 0∈t then(1:Rat) else 0))=(((t.map g).sum - ((bD f 1).map g).sum:Int):Rat):=by
 have e:=@qL (λx=>((g x:Int):Rat)*(if x∈t then(1:Rat) else 0)) (bD f 0);rw[Kp] at e;rw[T9 a c h b d g];grind
theorem Uf (h:eX p f) (t:jN f=true) (F:mP (dE p f)=true):gk p ((eI (dE p f)).map (oI p))=true/\((cK ((eI (dE p f)).map (oI p)):Int):Rat)=jg p f:=by
 have n:=h.2.1;have z:=@rM p f;have q:∀i:Nat,i<f.length->bj (dE p f) i 0=0\/bj (dE p f) i 0=1:=λi o=>by
  obtain⟨O,J,_⟩:=EL h t o;have:=φ.1 F _ (dr (d:=0) (show i<(dE p f).length by omega));simp_all[aes]
 have B:eO p.offers.length (eI (dE p f)):=by
  grind[Ue]
 have A:∀i∈eI (dE p f),bj f i.toNat 0≠ -1:=λi x K=>by
  grind[yI,Bi]
 have D:∀i∈bD f 1,i∈eI (dE p f):=λi x=>by
  grind[kN,yI,Bi]
 have G:∀j,j<nF f->(if bj (bD f 0) j 0∈eI (dE p f) then(1:Rat) else 0)=pV p f ((cJ p f).fv j):=λj c=>by
  obtain⟨C,L⟩:=yA h c;have E:(bD f 0).idxOf (bj (bD f 0) j 0)=j:=po (uK.imp λh=>by omega) c;have M:((((bj (bD f 0) j 0).toNat:Nat)):Int)=bj (bD f 0) j 0:=by omega
  have e:bj (dE p f) (bj (bD f 0) j 0).toNat 0=pV p f j:=by
   grind[Bi]
  rw[wA c,<-e];rcases q (bj (bD f 0) j 0).toNat (by omega) with l|l;·simp_all[yI]
  ·rw[l,if_pos];grind[yI]
 obtain⟨v,w⟩:=optX_holds h;have k:=aeu t n B A D;refine⟨o8.2 λy b=>?_,?_⟩
 ·obtain⟨r,m⟩:∃r:Int,r=(y:Int):=⟨_,rfl⟩;rw[<-m] at b ⊢;have I:0<=r:=by omega
  have a:r.toNat<mF p:=by unfold df at b;grind
  have s:=v r.toNat a;rw[dK (g:=λj=>((dX p r (oI p (bj (bD f 0) j 0)):Int):Rat)*(if bj (bD f 0) j 0∈eI (dE p f) then(1:Rat) else 0)) λj c=>by grind[yx],k λi=>dX p r (oI p i),yz a,show((r.toNat:Nat):Int)=r by omega] at s;have N:=Kt h (εo _ (AQ lG a));rw[<-wE,<-wE] at s;have l:((cV p ((eI (dE p f)).map (oI p)) r - cV p ((bD f 1).map (oI p)) r:Int):Rat)<=((dn p r - cV p ((bD f 1).map (oI p)) r:Int):Rat):=by grind
  have H:cV p ((eI (dE p f)).map (oI p)) r - cV p ((bD f 1).map (oI p)) r<=dn p r - cV p ((bD f 1).map (oI p)) r:=by exact_mod_cast l
  omega
 ·have u:(cJ p f).value=0:=rfl;rw[u,dK (g:=λj=>(((oI p (bj (bD f 0) j 0)).value:Int):Rat)*(if bj (bD f 0) j 0∈eI (dE p f) then(1:Rat) else 0)) λj c=>by grind[Bd],k λi=>(oI p i).value] at w;grind[jg,gA,Kq]
theorem Ug (h:eX p f) {x:Int->Rat} {z:Rat} (l:(cJ p f).holds (nF f) (mF p) x z):z=(dA p f).value+(bO (mF p) (λk=>eu (dA p f) ((nF f+k:Nat):Int)*x ((nF f+k:Nat):Int))+bO (nF f) λj=>eu (dA p f) (j:Int)*x (j:Int)):=by
 obtain⟨a,_,_⟩:=oD h;have i:=((a.mK _ _).2 l).2;have m:bO (nF f) (λj=>(dA p f).cs j*x ((dA p f).fv j))=me (λv=>eu (dA p f) v*x v) ((dA p f).basic++(dA p f).free):=by
  rw[AL,qL,qL,a.wf.basic,a.wf.free];rw[dK (n:=mF p) (g:=λ_=>0) λk b=>by
   show eu (dA p f) ((dA p f).bv k)*x ((dA p f).bv k)=0;rw[ael a.wf a.gn b];grind,iQ];rw[dK (n:=nF f) (f:=λk=>eu (dA p f) (bj (dA p f).free k 0)*x (bj (dA p f).free k 0)) (g:=λj=>(dA p f).cs j*x ((dA p f).fv j)) λj e=>by
   show eu (dA p f) ((dA p f).fv j)*x ((dA p f).fv j)=_;rw[Uc a.wf a.gn e]];grind
 have d:me (λv=>eu (dA p f) v*x v) ((cJ p f).basic++(cJ p f).free)=bO (mF p) (λk=>eu (dA p f) ((nF f+k:Nat):Int)*x ((nF f+k:Nat):Int))+bO (nF f) λj=>eu (dA p f) (j:Int)*x (j:Int):=by
  have c:=@lG p f;rw[AL,qL,qL,c.basic,c.free];congr 1
  ·refine dK λk b=>?_;show eu (dA p f) ((cJ p f).bv k)*x ((cJ p f).bv k)=_;rw[Ew b]
  ·refine dK λk b=>?_;show eu (dA p f) ((cJ p f).fv k)*x ((cJ p f).fv k)=_;rw[wA b]
 rw[i,m,Jb a.perm,d]
theorem Uh (h:eX p f) {v:Int}:eu (dA p f) v<=0:=by
 obtain⟨d,_,e⟩:=oD h;unfold eu;split
 ·rename_i g;have k:(dA p f).free.idxOf v<nF f:=by rw[<-d.wf.free];grind
  rcases @uC (dA p f) (nF f) with⟨a,b⟩|⟨c,a,b,i,j⟩<;>grind
 ·decide
theorem EM (h:eX p f) {r:Nat} (g:r<mF p):bj (iC p f) r 0= -(eu (dA p f) ((nF f+r:Nat):Int)):=by
 obtain⟨a,_,_⟩:=oD h;unfold iC;rcases @Ub (dA p f) (nF f) (mF p) r g (nF f) with⟨j,c,b,i⟩|⟨c,b⟩;·rw[i,<-b,Uc a.wf a.gn c]
 ·rw[b];unfold eu;rw[if_neg];·decide
  ·intro d;obtain⟨j,k,e⟩:=wj a.wf d;simp_all
theorem EN:(iC p f).length=mF p:=EE
theorem Kw (h:eX p f) {r:Nat} (a:r<mF p):0<=bj (iC p f) r 0/\Sz 1000 (bj (iC p f) r 0):=by
 obtain⟨c,_,_⟩:=oD h;have d:=@Uh p f h ((nF f+r:Nat):Int);refine⟨by grind[EM],?_⟩;rw[EM h a];refine AB ?_;unfold eu;split
 ·rename_i b;exact(Ud h).2.1 _ (by have:=εj b;rw[c.wf.free] at this;exact this)
 grind[Kv]
theorem Ui (h:eX p f):(dA p f).value=bO (mF p) λr=>bj (iC p f) r 0*(cJ p f).bd r:=by
 have c:=asg_holds (n:=nF f) (m:=mF p) (t:=cJ p f) lG qO (y:=λ_=>0);have a:=Ug h c;have d:(cJ p f).value=0:=rfl;rw[d,dK (n:=nF f) (f:=λj=>(cJ p f).cs j*(λ_=>(0:Rat)) j) (g:=λ_=>0) λj _=>by grind,iQ] at a;rw[dK (n:=nF f) (f:=λj=>eu (dA p f) (j:Int)*ju (nF f) (cJ p f) (λ_=>0) (j:Int)) (g:=λ_=>0) λj b=>by
  have e:=mJ (n:=nF f) (m:=mF p) (t:=cJ p f) lG qO (y:=λ_=>0) b;grind[wA],iQ] at a;rw[dK (n:=mF p) (g:=λk=>(-1:Rat)*(bj (iC p f) k 0*(cJ p f).bd k)) λk i=>by
  have e:=nE (n:=nF f) (m:=mF p) (t:=cJ p f) lG qO (y:=λ_=>0) i;grind[Ew,iQ,EM],wb] at a;grind
theorem aev (h:eX p f) {j:Nat} (b:j<nF f):(cJ p f).cs j<=bO (mF p) λr=>bj (iC p f) r 0*(cJ p f).cf r j:=by
 have l:=asg_holds (n:=nF f) (m:=mF p) (t:=cJ p f) lG qO (y:=λi=>if i=j then 1 else 0);have a:=Ug h l;have o:(cJ p f).value=0:=rfl;rw[o,dK (n:=nF f) (f:=λi=>(cJ p f).cs i*(if i=j then(1:Rat) else 0)) (g:=λi=>if i=j then(cJ p f).cs j else 0) λi _=>by
  grind,uI b] at a;rw[dK (n:=nF f) (f:=λi=>eu (dA p f) (i:Int)*ju (nF f) (cJ p f) (λi=>if i=j then 1 else 0) (i:Int)) (g:=λi=>if i=j then eu (dA p f) (j:Int) else 0) λi d=>by
  have e:=mJ (n:=nF f) (m:=mF p) (t:=cJ p f) lG qO (y:=λi=>if i=j then(1:Rat) else 0) d;rw[wA d] at e;grind,uI b] at a;rw[dK (n:=mF p) (g:=λk=>bj (iC p f) k 0*(cJ p f).cf k j - bj (iC p f) k 0*(cJ p f).bd k) λk c=>by
  have e:=nE (n:=nF f) (m:=mF p) (t:=cJ p f) lG qO (y:=λi=>if i=j then(1:Rat) else 0) c;rw[Ew c,dK (g:=λi=>if i=j then(cJ p f).cf k j else 0) λi _=>by
   grind,uI b] at e;grind[EM],JS] at a;grind[Ui,Uh]
end
abbrev dj:=Int×(Int×(Int×(Int×List bL)))
@[reducible] def bF:bp:=.pair (.i .i64) (.pair (.i .i64) (.pair (.i .i64) (.pair (.i .i64) (.bE sF))))
def zN:dj:=(0,(0,(0,(0,[]))))
def EO:dj:=(3,(0,(0,(0,[]))))
noncomputable def qQ (p:bn) (f:List Int):dj:=(1,(0,(0,(0,fL (iC p f)))))
def j5 (k o:Int):dj:=(2,(k,(o,(o+1,[]))))
structure cZ where
 ch:List Int
 val:Int
 found:Bool
 prf:List dj
 err:Int
def dW (b:Int->Bool) (s:cZ) (a:Alloc):cZ:=if s.val<a.value then⟨a.chosen,a.value,s.found||b a.value,s.prf,s.err⟩ else s
def mQ (q:Rat):Rat:=if q<0 then -q else q
def jz (x:List Rat):Nat->Option (Int×Rat)
 |0=>none
 |k+1=>if 0<bj x k 0/\bj x k 0<1 then(match jz x k with
   |none=>some ((k:Int),mQ (bj x k 0 - 1 / 2))
   |some (i,l)=>if mQ (bj x k 0 - 1 / 2)<l then some ((k:Int),mQ (bj x k 0 - 1 / 2)) else some (i,l)) else jz x k
def jP (x:List Rat):Option Int:=(jz x x.length).map (·.1)
theorem Kx {x:List Rat}:∀{k:Nat} {i:Int} {l:Rat},jz x k=some (i,l)->(0<=i/\i<k)/\(0<bj x i.toNat 0/\bj x i.toNat 0<1)/\l=mQ (bj x i.toNat 0 - 1 / 2)
 |0,i,l,h=>by cases h;|k+1,i,l,h=>by
  unfold jz at h;have b:some ((k:Int),mQ (bj x k 0 - 1 / 2))=some (i,l)->(0<bj x k 0/\bj x k 0<1)->(0<=i/\i<((k+1:Nat):Int))/\(0<bj x i.toNat 0/\bj x i.toNat 0<1)/\l=mQ (bj x i.toNat 0 - 1 / 2):=λh f=>by
   grind
  have a:jz x k=some (i,l)->(0<=i/\i<((k+1:Nat):Int))/\(0<bj x i.toNat 0/\bj x i.toNat 0<1)/\l=mQ (bj x i.toNat 0 - 1 / 2):=λh=>by
   obtain⟨c,d,e⟩:=Kx h;grind
  grind
theorem Uj {x:List Rat}:∀{k:Nat},jz x k=none->∀i,i<k->¬(0<bj x i 0/\bj x i 0<1)
 |0,_,i,a=>by omega;|k+1,h,i,a=>by
  unfold jz at h;split at h;·grind
  ·rename_i b;by_cases e:i=k;·simp_all
   ·exact Uj h i (by omega)
theorem tc {x:List Rat} {k:Int} (h:jP x=some k):(0<=k/\k<x.length)/\0<bj x k.toNat 0/\bj x k.toNat 0<1:=by
 unfold jP at h;obtain⟨⟨i,l⟩,b,a⟩:=Option.map_eq_some_iff.1 h;simp only at a;subst a;obtain⟨c,d,_⟩:=Kx b;simp_all
theorem aew {x:List Rat} (h:jP x=none):∀i,i<x.length->¬(0<bj x i 0/\bj x i 0<1):=Uj (Option.map_eq_none_iff.1 h)
noncomputable def px (p:bn) (f:List Int):Alloc:=⟨eI (dE p f),cK ((eI (dE p f)).map (oI p))⟩
noncomputable def dx (p:bn) (a:Int->Bool) (s:cZ) (f:List Int):cZ:=if((s.val+1:Int):Rat)<=jg p f/\mP (dE p f)=true then dW a s (px p f) else s
def gB (s:cZ) (a k:Int):cZ:={s with prf:=(s.prf++[zN,zN]).set a.toNat (j5 k s.prf.length)}
noncomputable def fJ (p:bn) (en:Int->Bool) (most:Int) (b:cZ->Int->List Int->cZ) (s:cZ) (a:Int) (f:List Int):cZ:=
 if s.err≠0\/s.found=true then s
 else if hJ p f=false then {s with prf:=s.prf.set a.toNat EO}
 else if jg p f<(((dx p en s f).val+1:Int):Rat) then {dx p en s f with prf:=(dx p en s f).prf.set a.toNat (qQ p f)}
 else match jP (dE p f) with
  |none=>{dx p en s f with err:=12}
  |some k=>if most<(dx p en s f).prf.length+2 then {dx p en s f with err:=12}
   else b (b (gB (dx p en s f) a k) ((dx p en s f).prf.length+1) (f.set k.toNat 1)) (dx p en s f).prf.length (f.set k.toNat (-1))
noncomputable def dG (p:bn) (b:Int->Bool) (a:Int):Nat->cZ->Int->List Int->cZ
 |0=>fJ p b a λs _ _=>s
 |n+1=>fJ p b a (dG p b a n)
structure eL (p:bn) (f:List Int):Prop where
 c:bz p=0
 l:f.length=p.offers.length
 r:jN f=true
theorem eL.ok {p:bn} {f:List Int} (h:eL p f) (a:hJ p f=true):eX p f:=⟨h.c,h.l,a⟩
theorem eL.e {p:bn} {f:List Int} (h:eL p f):jf p f=0:=by
 unfold jf;rw[if_neg (by simp[h.c]),if_neg (by simp[h.l]),if_pos h.r]
theorem eL.j4 {p:bn} {f:List Int} (h:eL p f):j4 p f=hJ p f:=by
 unfold Go.Vi.j4;rw[h.e];simp
theorem Uk {f:List Int} {k:Nat} {d:Int} (h:jN f=true) (a: -1<=d/\d<=1):jN (f.set k d)=true:=by
 grind[jN]
theorem eL.set {p:bn} {f:List Int} (h:eL p f) {k:Nat} {d:Int} (a: -1<=d/\d<=1):eL p (f.set k d):=⟨h.c,by rw[Φ];exact h.l,Uk h.r a⟩
theorem mq {f:List Int} {k d:Int} (i:0<=k/\k<f.length) (l:bj f k.toNat 0=0) (g:d≠0):nF f=nF (f.set k.toNat d)+1:=by
 have c:(bD f 0).Perm (k::bD (f.set k.toNat d) 0):=by
  refine(γ4 (uK.imp λh=>by omega) ?_).2 λx=>?_
  ·rw[List.nodup_cons];refine⟨λj=>?_,uK.imp λh=>by omega⟩;simp_all[kN,iR]
  ·rw[List.mem_cons,kN,kN,Φ];constructor
   ·rintro⟨a,b⟩;by_cases e:x=k;·exact .inl e
    ·exact .inr ⟨a,by rw[iR (by omega),if_neg (by omega)];exact b⟩
   grind[iR]
 have:=c.length_eq;omega
theorem EP {en:Int->Bool} {s:cZ} {a:Alloc}:(dW en s a).prf=s.prf/\(dW en s a).err=s.err/\s.val<=(dW en s a).val/\((dW en s a).val=s.val\/(dW en s a).val=a.value)/\((dW en s a).ch=s.ch\/(dW en s a).ch=a.chosen):=by
 grind[dW]
theorem ER {p:bn} {en:Int->Bool} {s:cZ} {f:List Int}:(dx p en s f).prf=s.prf/\(dx p en s f).err=s.err/\s.val<=(dx p en s f).val/\((dx p en s f).val=s.val\/(dx p en s f).val=(px p f).value)/\((dx p en s f).ch=s.ch\/(dx p en s f).ch=(px p f).chosen):=by
 grind[dx,EP]
theorem aex {x:List Rat}:(eI x).length<=x.length:=by
 have:=List.length_filter_le (λi:Int=>decide (0<bj x i.toNat 0)) (dp x.length);rw[iT] at this;exact this
theorem aey {p:bn} {f:List Int} (b:f.length=p.offers.length):∀x∈(eI (dE p f)).map (oI p),x∈p.offers:=λx a=>by
 obtain⟨i,c,rfl⟩:=Ψ.1 a;have:=(yI.1 c).1;rw[rM,b] at this;exact dr (by omega)
theorem Ul {p:bn} {f:List Int} (h:eL p f):0<=(px p f).value/\(px p f).value<=160000000/\(px p f).chosen.length<=160:=by
 have a:=dR h.c;have b:=@sN p a ((eI (dE p f)).map (oI p)) (aey h.l);have d:=@aex (dE p f);rw[rM,h.l] at d;have e:=a.2.1;rw[Δ] at b;refine⟨b.1,?_,?_⟩
 ·show cK _<=_;omega
 ·show(eI (dE p f)).length<=160;omega
theorem Ky {p:bn} (a:bz p=0) {c:List Int} (h:eO p.offers.length c):di p c=0↔gk p (c.map (oI p))=true:=by
 simp_all[Et,jc,eK,di]
theorem yJ {p:bn} (a:bz p=0) {c:List Int} (h:eO p.offers.length c):ef p c=cK (c.map (oI p)):=by
 simp_all[eK,Et,ef]
theorem rN {p:bn} {en:Int->Bool} {most:Int}:∀{n:Nat} {s:cZ} {a:Int} {f:List Int},eL p f->s.prf.length<=(dG p en most n s a f).prf.length/\((dG p en most n s a f).prf.length<=most\/(dG p en most n s a f).prf.length=s.prf.length)/\s.val<=(dG p en most n s a f).val/\((dG p en most n s a f).val=s.val\/(dG p en most n s a f).val<=160000000)/\((dG p en most n s a f).ch=s.ch\/(dG p en most n s a f).ch.length<=160)/\((dG p en most n s a f).err=s.err\/(dG p en most n s a f).err=12):=by
 have d:∀{b:cZ->Int->List Int->cZ},(∀{s:cZ} {a:Int} {f:List Int},eL p f->s.prf.length<=(b s a f).prf.length/\((b s a f).prf.length<=most\/(b s a f).prf.length=s.prf.length)/\s.val<=(b s a f).val/\((b s a f).val=s.val\/(b s a f).val<=160000000)/\((b s a f).ch=s.ch\/(b s a f).ch.length<=160)/\((b s a f).err=s.err\/(b s a f).err=12))->
   ∀{s:cZ} {a:Int} {f:List Int},eL p f->s.prf.length<=(fJ p en most b s a f).prf.length/\((fJ p en most b s a f).prf.length<=most\/(fJ p en most b s a f).prf.length=s.prf.length)/\s.val<=(fJ p en most b s a f).val/\((fJ p en most b s a f).val=s.val\/(fJ p en most b s a f).val<=160000000)/\((fJ p en most b s a f).ch=s.ch\/(fJ p en most b s a f).ch.length<=160)/\((fJ p en most b s a f).err=s.err\/(fJ p en most b s a f).err=12):=by
  intro b c s a f h;obtain⟨v,j,E,l,r⟩:=@ER p en s f;obtain⟨H,A,L⟩:=Ul h;have w:(dx p en s f).ch=s.ch\/(dx p en s f).ch.length<=160:=r.imp id λh=>by simp_all
  have x:(dx p en s f).val=s.val\/(dx p en s f).val<=160000000:=l.imp id λh=>by omega
  unfold fJ;split;·simp_all
  split;·simp_all
  split;·simp_all
  split;·simp_all
  rename_i k J;split;·simp_all
  rename_i o;have F:(gB (dx p en s f) a k).prf.length=s.prf.length+2:=by
   simp_all[gB]
  obtain⟨D,K,u,z,e,t⟩:=@c (gB (dx p en s f) a k) ((dx p en s f).prf.length+1) (f.set k.toNat 1) (h.set (by omega));obtain⟨B,C,G,I,g,M⟩:=@c (b (gB (dx p en s f) a k) ((dx p en s f).prf.length+1) (f.set k.toNat 1)) (dx p en s f).prf.length (f.set k.toNat (-1)) (h.set (by omega));have i:(gB (dx p en s f) a k).val=(dx p en s f).val:=rfl;have m:(gB (dx p en s f) a k).ch=(dx p en s f).ch:=rfl;have q:(gB (dx p en s f) a k).err=(dx p en s f).err:=rfl;rw[v] at o;rw[i] at u z;rw[m] at e;rw[q,j] at t;refine⟨by omega,.inl (by omega),by omega,by omega,?_,?_⟩
  ·rcases g with g|g
   ·rw[g];rcases e with e|e<;>simp_all
   omega
  omega
 intro n;induction n with
 |zero=>exact d λ{s a f} _=>⟨Nat.le_refl _,.inr rfl,Int.le_refl _,.inl rfl,.inl rfl,.inl rfl⟩;|succ n y=>exact d λh=>y h
inductive jh (p:bn) (v:Int) (t:List dj):Nat->List Int->Nat->Nat->Prop
 |bnd {a:Nat} {f:List Int} {lo:Nat}:t[a]?=some (qQ p f)->hJ p f=true->jg p f<((v+1:Int):Rat)->jh p v t a f lo lo
 |con {a:Nat} {f:List Int} {lo:Nat}:t[a]?=some EO->hJ p f=false->jh p v t a f lo lo
 |td {a:Nat} {f:List Int} {lo mid hi:Nat} {k:Int}:t[a]?=some (j5 k lo)->a<lo->(0<=k/\k<f.length)->bj f k.toNat 0=0->jh p v t (lo+1) (f.set k.toNat 1) (lo+2) mid->jh p v t lo (f.set k.toNat (-1)) mid hi->jh p v t a f lo hi
section
variable {p:bn} {v v':Int} {t t':List dj} {a lo hi:Nat} {f:List Int}
theorem jh.le (h:jh p v t a f lo hi):lo<=hi:=by
 induction h with
 |bnd _ _ _=>omega;|con _ _=>omega;|td _ _ _ _ _ _ b c=>omega
theorem jh.mono (h:jh p v t a f lo hi) (q:v<=v') (e:∀i,i=a\/(lo<=i/\i<hi)->t'[i]?=t[i]?):jh p v' t' a f lo hi:=by
 induction h with
 |bnd c b d=>
  refine .bnd (by simp_all) b ?_;have:((v+1:Int):Rat)<=((v'+1:Int):Rat):=by exact_mod_cast (show v+1<=v'+1 by omega)
  grind;|con c b=>exact .con (by simp_all) b;|td c b d l k g m j=>
  have o:=k.le;have n:=g.le;exact .td (by simp_all) b d l (m λi hi=>e i (by omega)) (j λi hi=>e i (by omega))
def ES (f:List Int) (l:List Int):Prop:=(∀i∈l,bj f i.toNat 0≠ -1)/\∀i∈bD f 1,i∈l
theorem Um {l:List Int} {k d:Int} (g:0<=k/\k<f.length) (m:bj f k.toNat 0=0) (e:∀i∈l,0<=i) (h:ES f l) (j:(d=1/\k∈l)\/(d= -1/\k∉l)):ES (f.set k.toNat d) l:=by
 obtain⟨b,c⟩:=h;refine⟨λi a=>?_,λi a=>?_⟩<;>grind[iR,kN]
theorem aez {l m:List Int} (e:bz p=0) (f:∀i∈l,0<=i/\i<p.offers.length) (q:m.Nodup) (j:∀i∈m,i∈l) (o:l.Nodup) (h:gk p (l.map (oI p))=true):gk p (m.map (oI p))=true:=by
 refine o8.2 λr b=>?_;have d:=o8.1 h r b;have a:l.Perm (m++l.filter λi=>decide (i∉m)):=by
  grind
 have g:cV p (l.map (oI p)) r=cV p (m.map (oI p)) r+cV p ((l.filter λi=>decide (i∉m)).map (oI p)) r:=by
  rw[wE,wE,wE,S8 (a.map _),γa,ζ7]
 have n:=@sM p r ((l.filter λi=>decide (i∉m)).map (oI p)) λx c=>by
  obtain⟨i,k,rfl⟩:=Ψ.1 c;simp_all[kO]
 omega
theorem jh.sound (h:jh p v t a f lo hi) (e:eL p f) {l:List Int} (d:eO p.offers.length l) (b:gk p (l.map (oI p))=true) (g:ES f l):cK (l.map (oI p))<=v:=by
 induction h with
 |bnd o n m=>
  have j:=weak (e.ok n) e.r d b g.1 g.2;have s:((cK (l.map (oI p)):Int):Rat)<((v+1:Int):Rat):=by grind
  have u:cK (l.map (oI p))<v+1:=by exact_mod_cast s
  omega;|con o n=>
  exfalso;have:=aez e.c d.2 (uK.imp λh=>by omega) g.2 (Ba d) b;grind[hJ];|@td a f lo y hi k o n m j s u x w=>
  by_cases q:k∈l;·exact x (e.set (by omega)) (Um m j (λi hi=>(d.2 i hi).1) g (.inl ⟨rfl,q⟩))
  ·exact w (e.set (by omega)) (Um m j (λi hi=>(d.2 i hi).1) g (.inr ⟨rfl,q⟩))
end
theorem Un {p:bn} {en:Int->Bool} {most:Int}:∀{n:Nat} {s:cZ} {a:Int} {f:List Int},eL p f->nF f<=n->(0<=a/\a<s.prf.length)->(dG p en most n s a f).err=0->(dG p en most n s a f).found=false->
  jh p (dG p en most n s a f).val (dG p en most n s a f).prf a.toNat f s.prf.length (dG p en most n s a f).prf.length/\(∀i:Nat,i<s.prf.length->i≠a.toNat->(dG p en most n s a f).prf[i]?=s.prf[i]?)/\s.err=0/\s.found=false:=by
 have y:∀{b:cZ->Int->List Int->cZ} {s:cZ} {a:Int} {f:List Int},eL p f->(0<=a/\a<s.prf.length)->
   (∀{s:cZ} {a:Int} {g:List Int},eL p g->nF f=nF g+1->(0<=a/\a<s.prf.length)->s.prf.length<=(b s a g).prf.length/\s.val<=(b s a g).val/\((b s a g).err=0->(b s a g).found=false->jh p (b s a g).val (b s a g).prf a.toNat g s.prf.length (b s a g).prf.length/\(∀i:Nat,i<s.prf.length->i≠a.toNat->(b s a g).prf[i]?=s.prf[i]?)/\s.err=0/\s.found=false))->
   (fJ p en most b s a f).err=0->(fJ p en most b s a f).found=false->jh p (fJ p en most b s a f).val (fJ p en most b s a f).prf a.toNat f s.prf.length (fJ p en most b s a f).prf.length/\(∀i:Nat,i<s.prf.length->i≠a.toNat->(fJ p en most b s a f).prf[i]?=s.prf[i]?)/\s.err=0/\s.found=false:=by
  intro b s a f t C q e c;obtain⟨D,e2,e3,e4,e5⟩:=@ER p en s f;have B:a.toNat<s.prf.length:=by omega
  unfold fJ at e c ⊢;split at e;·simp_all
  rename_i x;have G:s.err=0/\s.found=false:=by simpa using x
  rw[if_neg x] at c ⊢;split at e
  ·rename_i m;rw[if_pos m];refine⟨?_,λi u j=>?_,G⟩
   ·rw[Φ];exact .con (by simp_all) m
   ·show(s.prf.set a.toNat EO)[i]?=_;rw[δo (λh=>j h.symm)]
  rename_i m;rw[if_neg m] at c ⊢;have O:hJ p f=true:=by simpa using m
  split at e
  ·rename_i w;rw[if_pos w];refine⟨?_,λi u j=>?_,G⟩
   ·rw[Φ,D];refine .bnd ?_ O w;simp_all
   ·show((dx p en s f).prf.set a.toNat _)[i]?=_;rw[δo (λh=>j h.symm),D]
  rename_i w;rw[if_neg w] at c ⊢;cases A:jP (dE p f) with
  |none=>simp_all;|some k=>
  rw[A] at e c;simp only at e c ⊢;split at e;·simp at e
  rename_i Q;rw[if_neg Q] at c ⊢;obtain⟨l,K,L⟩:=tc A;rw[rM] at l;have v:bj f k.toNat 0=0:=s9 (t.ok O) t.r (by omega) K L;have n1:=mq l v (d:=1) (by omega);have Y:=mq l v (d:= -1) (by omega);have T:eL p (f.set k.toNat 1):=t.set (by omega);have f2:eL p (f.set k.toNat (-1)):=t.set (by omega);have S:(gB (dx p en s f) a k).prf.length=s.prf.length+2:=by
   simp_all[gB]
  rw[D] at e c ⊢;obtain⟨l1,v1,t1⟩:=@q (gB (dx p en s f) a k) ((s.prf.length:Int)+1) (f.set k.toNat 1) T n1 (by omega);generalize R:b (gB (dx p en s f) a k) ((s.prf.length:Int)+1) (f.set k.toNat 1)=I at*;obtain⟨l2,V,Z⟩:=@q I (s.prf.length:Int) (f.set k.toNat (-1)) f2 Y (by omega);generalize X:b I (s.prf.length:Int) (f.set k.toNat (-1))=P at*;obtain⟨N,F,U,w2⟩:=Z e c;obtain⟨J,H,w3,w4⟩:=t1 U w2;have M:∀i:Nat,i<s.prf.length+2->(gB (dx p en s f) a k).prf[i]?=if i=a.toNat then some (j5 k s.prf.length) else(s.prf++[zN,zN])[i]?:=λi u=>by
   unfold gB;simp only[D];rw[List.getElem?_set];by_cases h:a.toNat=i;·simp_all
   ·rw[if_neg h,if_neg (λm=>h m.symm)]
  have E:((s.prf.length:Int)).toNat=s.prf.length:=by omega
  have z:((s.prf.length:Int)+1).toNat=s.prf.length+1:=by omega
  rw[E] at N F;rw[z] at J H;rw[S] at J H;have o:∀i:Nat,i<s.prf.length->P.prf[i]?=(gB (dx p en s f) a k).prf[i]?:=λi u=>by rw[F i (by omega) (by omega),H i (by omega) (by omega)]
  refine⟨.td (k:=k) (mid:=I.prf.length) ?_ B l v ?_ N,λi u j=>?_,G⟩;·rw[o _ B,M _ (by omega),if_pos rfl]
  ·exact J.mono V λi u=>F i (by omega) (by omega)
  ·rw[o i u,M i (by omega),if_neg j,List.getElem?_append_left u]
 intro n;induction n with
 |zero=>
  intro s a f t W C e c;exact y t C (λ{s a g} _ h _=>by omega) e c;|succ n ih=>
  intro s a f t W C e c;refine y t C (λ{s a g} x m w=>?_) e c;have A:=@rN p en most n s a g x;exact⟨A.1,A.2.2.1,λe c=>ih x (by omega) w e c⟩
theorem Uo {p:bn} {en:Int->Bool} {most:Int} {G:List Int->Int->Bool->Prop} (u:∀c w b q w',G c w b->di p q=0->ef p q=w'->w<w'->G q w' (b||en w')):
  ∀{n:Nat} {s:cZ} {a:Int} {f:List Int},eL p f->G s.ch s.val s.found->G (dG p en most n s a f).ch (dG p en most n s a f).val (dG p en most n s a f).found:=by
 have k:∀{d:cZ->Int->List Int->cZ},(∀{s:cZ} {a:Int} {f:List Int},eL p f->G s.ch s.val s.found->G (d s a f).ch (d s a f).val (d s a f).found)->
   ∀{s:cZ} {a:Int} {f:List Int},eL p f->G s.ch s.val s.found->G (fJ p en most d s a f).ch (fJ p en most d s a f).val (fJ p en most d s a f).found:=by
  intro d e s a f i j;unfold fJ;split;·exact j
  split;·exact j
  rename_i t;have y:hJ p f=true:=by simp_all
  have m:G (dx p en s f).ch (dx p en s f).val (dx p en s f).found:=by
   unfold dx;split
   ·rename_i A;unfold dW;split
    ·rename_i o;obtain⟨z,B⟩:=Uf (i.ok y) i.r A.2;have g:eO p.offers.length (eI (dE p f)):=by
      have:=@Ue (dE p f);rw[rM,i.l] at this;exact this
     refine u _ _ _ _ _ j ?_ ?_ o;·exact(Ky i.c g).2 z
     ·exact yJ i.c g
    ·exact j
   ·exact j
  split;·exact m
  split;·exact m
  split;·exact m
  ·exact e (i.set (by omega)) (e (i.set (by omega)) m)
 intro n;induction n with
 |zero=>exact k λ_ h=>h;|succ n x=>exact k λv t=>x v t
theorem two_pow_pos (n:Nat):1<=2^n:=Nat.one_le_two_pow
theorem Up {p:bn} {en:Int->Bool} {most:Int}:∀{n:Nat} {s:cZ} {a:Int} {f:List Int},eL p f->nF f<=n->s.err=0->((s.prf.length+2^(nF f+1):Nat):Int)<=most+2->(dG p en most n s a f).err=0/\(dG p en most n s a f).prf.length+2<=s.prf.length+2^(nF f+1):=by
 have l:∀{c:cZ->Int->List Int->cZ} {s:cZ} {a:Int} {f:List Int},eL p f->s.err=0->((s.prf.length+2^(nF f+1):Nat):Int)<=most+2->
   (∀{s:cZ} {a:Int} {g:List Int},eL p g->nF f=nF g+1->s.err=0->((s.prf.length+2^(nF g+1):Nat):Int)<=most+2->(c s a g).err=0/\(c s a g).prf.length+2<=s.prf.length+2^(nF g+1))->
   (fJ p en most c s a f).err=0/\(fJ p en most c s a f).prf.length+2<=s.prf.length+2^(nF f+1):=by
  intro c s a f b t u C;obtain⟨L,J,T,X,e5⟩:=@ER p en s f;have F:2<=2^(nF f+1):=by grind
  unfold fJ;split;·omega
  split;·simp_all
  rename_i E N;have x:hJ p f=true:=by simp_all
  split;·simp_all
  rename_i v;cases A:jP (dE p f) with
  |none=>
   exfalso;apply v;have o:mP (dE p f)=true:=by
    unfold mP;rw[φ];intro q H;obtain⟨i,B,rfl⟩:=γI H;have w:=aew A i B;obtain⟨M,I,_⟩:=EL (b.ok x) b.r (show i<f.length by grind[rM]);rw[cQ B] at w M I;rcases(show(dE p f)[i]=0\/(dE p f)[i]=1 by grind) with e|e<;>simp_all
   obtain⟨Y,K⟩:=Uf (b.ok x) b.r o;have P:((px p f).value:Rat)=jg p f:=K;by_cases D:((s.val+1:Int):Rat)<=jg p f
   ·have O:s.val<(px p f).value:=by
     rw[<-P] at D;have:s.val+1<=(px p f).value:=by exact_mod_cast D
     omega
    have:(dx p en s f).val=(px p f).value:=by
     simp_all[dx,dW]
    grind
   grind;|some k=>
   simp only;obtain⟨j,z,y⟩:=tc A;rw[rM] at j;have m:bj f k.toNat 0=0:=s9 (b.ok x) b.r (by omega) z y;have n1:=mq j m (d:=1) (by omega);have n2:=mq j m (d:= -1) (by omega);have W:eL p (f.set k.toNat 1):=b.set (by omega);have Z:eL p (f.set k.toNat (-1)):=b.set (by omega);have V:(gB (dx p en s f) a k).prf.length=s.prf.length+2:=by
    grind[gB]
   have U:2^(nF f+1)=2^(nF (f.set k.toNat 1)+1)+2^(nF (f.set k.toNat 1)+1):=by
    grind
   have ne:nF (f.set k.toNat (-1))=nF (f.set k.toNat 1):=by omega
   have Q:2<=2^(nF (f.set k.toNat 1)+1):=by omega
   rw[if_neg (by rw[L];omega)];have S:(gB (dx p en s f) a k).err=0:=by show(dx p en s f).err=0;rw[J,t]
   grind
 intro n;induction n with
 |zero=>
  intro s a f b G t u;exact l b t u λ{s a g} _ h _ _=>by omega;|succ n R=>
  intro s a f b G t u;exact l b t u λ{s a g} E N v w=>R E (by omega) v w
end Go.Vi

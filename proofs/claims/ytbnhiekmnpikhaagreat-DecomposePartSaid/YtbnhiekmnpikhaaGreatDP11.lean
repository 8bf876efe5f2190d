/-
  Contracts: pivot.
  Conditions: none.
-/
import Derived.Test.YtbnhiekmnpikhaaGreatDP06
import Derived.Test.YtbnhiekmnpikhaaGreatDP07
import Derived.Test.YtbnhiekmnpikhaaGreatDP09
import Derived.Test.YtbnhiekmnpikhaaGreatDP10
import Derived.Test.YtbnhiekmnpikhaaGreatDP08
set_option maxRecDepth 100000
set_option maxHeartbeats 4000000
set_option linter.all false
open Bool renaming and_eq_true->θ
open Go.Vi.AV renaming sl->ζX,sc->δe,os->ζ9
open Go.Vi.SV renaming si->γh,row->Ψ,ow->γZ,sb->γv,il->γx,ptr->γO,bl->δc
open Int renaming toNat_natCast->γl
open IntCast renaming intCast->κ
open List renaming range->ω,ext_getElem->γ8,getElem_set->εW,getElem_map->δA,getElem_range->εH,replicate->δ,length_map->Θ,mem_map->Ω,take->Δ,length->γc,take_length->ψ,all_eq_true->φ,map->γb,length_replicate->γC,length_take->γu,map_append->γa,length_set->Φ,map_map->γ4,flatMap->ζ0,elem->ζH,getElem_of_mem->γI,mem_append_left->εm,mem_append->γk,map_cons->π,sum_cons->εZ,perm_ext_iff_of_nodup->γ5,nodup_append->γr,filter_sublist->γP,sum_append->ζ5,idxOf_lt_length_of_mem->εh,getElem?_set_ne->δo
namespace Go.Vi
open Go.Proofs.YtbnhiekmnpikhaaGreat.Ir
open Go.Proofs
def r408:dH:=uC 176 (Int×Int) (.cons (eZ .i64) (.one (eZ .i64))) (λn m t a=>(0<=a.1/\a.1<m)/\(0<=a.2/\a.2<n)/\t.cf a.1.toNat a.2.toNat≠0) (λ_ _ _ _=> .bI []) (λ_ _ t a=>fU t a.1.toNat a.2.toNat)
def pq (l:List Rat) (q:Rat):List Rat:=l.map λx=>x*q
def fC (q:Rat):bq:=.cells [.sb (bu q).1,.row (.i .u32) (bu q).2.1,.row (.i .u32) (bu q).2.2] 177 3 false
def iV {a:Type} (f g:Nat->a) (n r i:Nat):List a:=(ω n).map λk=>if k<i/\k≠r then g k else f k
theorem wz {a:Type} {f g:Nat->a} {n r i:Nat}:(iV f g n r i).length=n:=by simp[iV]
theorem TD {a:Type} {l:List a} {g:Nat->a} {r:Nat} {d:a}:iV (λk=>bj l k d) g l.length r 0=l:=by
 refine γ8 wz λi b c=>?_;grind[iV,bj]
theorem TE {a:Type} {f g:Nat->a} {n r i:Nat} {d:a} (h:i<n):bj (iV f g n r i) i d=f i:=by
 simp_all[iV,qF]
theorem TF {a:Type} {f g:Nat->a} {n r i:Nat} (h:i<n) (d:i≠r):(iV f g n r i).set i (g i)=iV f g n r (i+1):=by
 refine γ8 (by simp[iV]) λk b c=>?_;have e:k<n:=by grind[iV]
 rw[εW];simp only[iV,δA,εH];grind
theorem TG {a:Type} {f g:Nat->a} {n r:Nat}:iV f g n r (r+1)=iV f g n r r:=by
 unfold iV;grind
theorem TI {a:Type} {f g:Nat->a} {n r:Nat} {x:a} (h:r<n):(iV f g n r n).set r x=(ω n).map λk=>if k=r then x else g k:=by
 refine γ8 (by simp[iV]) λk b c=>?_;have d:k<n:=by simp_all
 rw[εW];simp only[iV,δA,εH];grind
theorem TJ {l:List (List Rat)} {i:Nat} {x:List Rat}:(fM l).set i (fL x)=fM (l.set i x):=by
 simp_all[fM]
theorem ads {l:List Rat} {c:Nat} (h:c<l.length):(fL (pq l (1 / bj l c 0))).set c (bu (1 / bj l c 0))=fL (kM l c):=by
 rw[yB];congr 1;refine γ8 (by simp[pq,kM]) λk d e=>?_;have b:k<l.length:=by grind[kM]
 rw[εW];simp only[pq,kM,δA,εH];by_cases a:c=k;·simp_all
 ·rw[if_neg a,if_neg λh=>a h.symm,cY (i:=k) b]
def lj (t:Tb) (r c i:Nat):Tb:={t with
 cj:=iV (λk=>bj t.cj k []) (λk=>kp (bj t.cj k []) c (kM (bj t.cj r []) c)) t.cj.length r i
 bound:=iV t.bd (λk=>t.bd k - t.cf k c*(t.bd r*(1 / t.cf r c))) t.bound.length r i}
theorem adt {t:Tb} {r c:Nat}:lj t r c 0=t:=by
 unfold lj;have b:=@TD (List Rat) t.cj (λk=>kp (bj t.cj k []) c (kM (bj t.cj r []) c)) r [];have d:=@TD Rat t.bound (λk=>t.bd k - t.cf k c*(t.bd r*(1 / t.cf r c))) r 0;have a:iV t.bd (λk=>t.bd k - t.cf k c*(t.bd r*(1 / t.cf r c))) t.bound.length r 0=t.bound:=d;rw[b,a]
def adu (n m:Int) (t:Tb) (r c:Int):Nat->cE
 |3=> .inv Int (λj=>⟨[(0,.ptr 0 0 10),(1,.si .i64 r),(2,.si .i64 c),(6,.ptr 5 0 3),(8,.ow 6 n.toNat 3),(41,.row sF (fL (bj t.cj r.toNat []))),(42,.si .i64 n),(43,.si .i64 j)],
   (bH n m t).gQ++[fC (1 / t.cf r.toNat c.toNat),.row sF (eU (fL (pq (bj t.cj r.toNat []) (1 / t.cf r.toNat c.toNat))) j.toNat (false,([],[]))) 177 true]⟩)
   (λs=>iS s 43) (λj=>0<=j/\j<=n) (λj=>(n - j).toNat) λ_ _=> .look
 |10=> .inv Int (λi=>⟨[(0,.ptr 0 0 10),(1,.si .i64 r),(2,.si .i64 c),(8,.row sF (fL (kM (bj t.cj r.toNat []) c.toNat))),(11,.ptr 7 0 3),(72,.si .i64 m),(73,.si .i64 i)],
   (bH n m (lj t r.toNat c.toNat i.toNat)).gQ++[fC (1 / t.cf r.toNat c.toNat),.dead,fC (t.bd r.toNat*(1 / t.cf r.toNat c.toNat))]⟩)
   (λs=>iS s 73) (λj=>0<=j/\j<=m) (λj=>(m - j).toNat) λ_ _=> .look
 |_=> .look
theorem h408:ec Tryz.prog r408:=by
 refine lA (L:=[oC,Eg,A6,r417,wq]) (W:=[]) r408 (λa=>adu a.1.n a.1.m a.1.t a.2.1 a.2.2) (by simp) (by simpa using⟨h94,h416,h410,h417,h129⟩) ?_;rintro⟨x,r,c⟩ ⟨n,m,t,hx,hok,⟨r0,r1⟩,⟨c0,c1⟩,ha⟩;simp only at hx r0 r1 c0 c1 ha;subst hx;refine bO (let a:=γh .i64;let d:=bq.row;let e:=(0:Int);let f:=Ψ;let g:=γZ;let h:=bq.cells;let j:=γv;let k:=(1:Int);let o:=sF.dflt;let s:=γx .i64 0;let w:=γO;let K:=(bH n m t).cj;let a0:=bj K r.toNat sF.bF.dflt;let af:=bu (κ k);let aB:=(af.fst,af.snd.fst,af.snd.snd);let ag:=bj a0 c.toNat o;let ah:=(ag.fst,ag.snd.fst,ag.snd.snd);let Q:=(↑(bH n m t).k4:Int);let L:=w 0 0 10;let a3:=w 5 0 3;let A:=(bH n m t).n;let ai:=g 6 A.toNat 3;let M:=(bH n m t).t;let S:=bj M.cj r.toNat [];let aj:=f sF (fL S);let a4:=a A;let G:=(bH n m t).m;let a5:=a G;let z:=bp.i .u32;let B:=bH A G M;let a6:=h [a B.n,a B.m,g 1 B.k0 1,g 2 B.k1 3,f sF B.cost,j B.v.fst,f z B.v.snd.fst,f z B.v.snd.snd,g 3 B.k3 1,g 4 B.k4 1] 261 10 false;let a7:=d sF.bF B.cj 106 false;let a8:=d sF B.bound 177 false;let C:=bp.i .i64;let a9:=d C B.basic 3 false;let aa:=d C B.free 3 false;let ak:=bu (bV aB / bV ah);let N:=(1:Rat) / M.cf r.toNat c.toNat;let R:=h [j (bu N).fst,f z (bu N).snd.fst,f z (bu N).snd.snd] 177 3 false;let ab:=(false,[],[]);let al:=fL (pq S N);let T:=((bu N).fst,(bu N).snd.fst,(bu N).snd.snd);let ac:=B.bound.length;let am:=bj B.bound r.toNat o;let aC:=(am.fst,am.snd.fst,am.snd.snd);let U:=fL (kM S c.toNat);let an:=f sF U;let ad:=w 7 0 3;let D:=bH A G (lj M r.toNat c.toNat 0);let ao:=bu (bV aC*bV T);let V:=bu (M.bd r.toNat*N);let ap:=h [j V.fst,f z V.snd.fst,f z V.snd.snd] 177 3 false;let W:=(V.fst,V.snd.fst,V.snd.snd);let E:=bH A G (fU M r.toNat c.toNat);((-9223372036854775808:Int)<=k/\k<=(9223372036854775807:Int))/\(bH n m t).k0=K.length/\e<=r/\r<(↑K.length:Int)/\(bH n m t).k0=K.length/\r.toNat<K.length/\e<=c/\c<(↑a0.length:Int)/\c.toNat<a0.length/\((cC aB/\cC ah)/\bV ah≠(0:Rat))/\e<=Q/\Q<=Q/\Q*(56:Int)<=(140737488355328:Int)/\Q<=(1000000000000:Int)/\(bH n m t).k0=K.length/\e<=r/\r<(↑K.length:Int)/\(bH n m t).k0=K.length/\r.toNat<K.length/\(((L.same L/\(a r).same (a r)/\(a c).same (a c)/\a3.same a3/\(g 6 Q.toNat 3).same ai/\(f sF a0).same aj/\(a (↑a0.length:Int)).same a4/\(s).same (a 0)/\True)/\(h [a4,a5,g 1 (bH n m t).k0 1,g 2 (bH n m t).k1 3,f sF (bH n m t).cost,j (bH n m t).v.fst,f z (bH n m t).v.snd.fst,f z (bH n m t).v.snd.snd,g 3 (bH n m t).k3 1,g 4 (bH n m t).k4 1] 261 10 false).same a6/\(d sF.bF K 106 false).same a7/\(d sF (bH n m t).bound 177 false).same a8/\(d C (bH n m t).basic 3 false).same a9/\(d C (bH n m t).free 3 false).same aa/\(h [j ak.fst,f z ak.snd.fst,f z ak.snd.snd] 177 3 false).same R/\(d (bp.b.pair (z.bF.pair z.bF)) (δ Q.toNat ab) 177 true).same (d sF (eU al 0 ab) 177 true)/\True)/\e<=e/\e<=A)/\∀(x:Int),let aq:=bj (fL S) x.toNat o;let aD:=(aq.fst,aq.snd.fst,aq.snd.snd);let ae:=eU al x.toNat ab;let O:=ae.length;let X:=x+k;let aE:=a X;let ar:=bu (bV aD*bV T);e<=x/\x<=A->(decide (x<A)=true->e<=x/\x<(↑(fL S).length:Int)/\x.toNat<(fL S).length/\(cC aD/\cC T)/\A.toNat=O/\e<=x/\x<(↑O:Int)/\A.toNat=O/\x.toNat<O/\cq .i64 X/\((L.same L/\(a r).same (a r)/\(a c).same (a c)/\a3.same a3/\ai.same ai/\aj.same aj/\a4.same a4/\aE.same aE/\True)/\a6.same a6/\a7.same a7/\a8.same a8/\a9.same a9/\aa.same aa/\R.same R/\(d sF (ae.set x.toNat (ar.fst,ar.snd.fst,ar.snd.snd)) 177 true).same (d sF (eU al X.toNat ab) 177 true)/\True)/\(e<=X/\X<=A)/\(A - X).toNat<(A - x).toNat)/\(decide (x<A)=false->A.toNat=O/\e<=c/\c<(↑O:Int)/\A.toNat=O/\c.toNat<O/\B.k1=ac/\e<=r/\r<(↑ac:Int)/\B.k1=ac/\r.toNat<ac/\(cC aC/\cC T)/\A.toNat=(ae.set c.toNat T).length/\(((L.same L/\(a r).same (a r)/\(a c).same (a c)/\(f sF (ae.set c.toNat T)).same an/\ad.same ad/\(a (↑B.k0:Int)).same a5/\(s).same (a 0)/\True)/\a6.same (h [a D.n,a D.m,g 1 D.k0 1,g 2 D.k1 3,f sF D.cost,j D.v.fst,f z D.v.snd.fst,f z D.v.snd.snd,g 3 D.k3 1,g 4 D.k4 1] 261 10 false)/\a7.same (d sF.bF D.cj 106 false)/\a8.same (d sF D.bound 177 false)/\a9.same (d C D.basic 3 false)/\aa.same (d C D.free 3 false)/\R.same R/\bq.dead.same bq.dead/\(h [j ao.fst,f z ao.snd.fst,f z ao.snd.snd] 177 3 false).same ap/\True)/\e<=e/\e<=G)/\∀(x:Int),let y:=bH A G (lj M r.toNat c.toNat x.toNat);let aF:=a y.n;let aG:=a y.m;let aH:=g 1 y.k0 1;let aI:=g 2 y.k1 3;let Y:=y.cost;let aJ:=[g 3 y.k3 1,g 4 y.k4 1];let Z:=x+k;let F:=bH A G (lj M r.toNat c.toNat Z.toNat);let J:=y.basic;let aK:=a Z;let a1:=y.cj;let H:=a1.length;let a2:=y.bound;let I:=a2.length;let au:=bj a1 x.toNat sF.bF.dflt;let av:=bj a2 x.toNat o;let aL:=(av.fst,av.snd.fst,av.snd.snd);let aw:=bu (bV aL - bj (vL au) c.toNat (0:Rat)*bV W);let ax:=(y.v.fst,y.v.snd.fst,y.v.snd.snd);let ay:=bj Y c.toNat o;let aM:=(ay.fst,ay.snd.fst,ay.snd.snd);let az:=bu (bV aM*bV W);let aN:=(az.fst,az.snd.fst,az.snd.snd);let P:=y.free.length;let aA:=bu (bV ax+bV aN);let aP:=(h (aF::aG::aH::aI::f sF Y::j y.v.fst::f z y.v.snd.fst::f z y.v.snd.snd::aJ) 261 10 false).same (h [a F.n,a F.m,g 1 F.k0 1,g 2 F.k1 3,f sF F.cost,j F.v.fst,f z F.v.snd.fst,f z F.v.snd.snd,g 3 F.k3 1,g 4 F.k4 1] 261 10 false);let aQ:=(d C J 3 false).same (d C F.basic 3 false)/\(d C y.free 3 false).same (d C F.free 3 false)/\R.same R/\bq.dead.same bq.dead/\ap.same ap/\True;let aO:=λ(u u_1:bq) ↦cq .i64 Z/\((L.same L/\(a r).same (a r)/\(a c).same (a c)/\an.same an/\ad.same ad/\a5.same a5/\aK.same aK/\True)/\aP/\u.same (d sF.bF F.cj 106 false)/\u_1.same (d sF F.bound 177 false)/\aQ)/\(e<=Z/\Z<=G)/\(G - Z).toNat<(G - x).toNat;e<=x/\x<=G->(decide (x<G)=true->(decide (x≠r)=true->y.k0=H/\e<=x/\x<(↑H:Int)/\y.k0=H/\x.toNat<H/\y.k1=I/\e<=x/\x<(↑I:Int)/\y.k1=I/\x.toNat<I/\(∃(l:List Rat),∃(b:Rat),∃(p:List Rat),∃(pb:Rat),(au=fL l/\aL=bu b/\U=fL p/\W=bu pb)/\(l.length=p.length/\l.length<=1000)/\(e<=c/\c<(↑l.length:Int))/\(∀(q:Rat),q∈l->Sz 10000000 q)/\(∀(q:Rat),q∈p->Sz 10000000 q)/\Sz 10000000 b/\Sz 10000000 pb)/\y.k0=H/\e<=x/\x<(↑H:Int)/\y.k0=H/\x.toNat<H/\y.k1=I/\e<=x/\x<(↑I:Int)/\y.k1=I/\x.toNat<I/\aO (d sF.bF (a1.set x.toNat (fL (kp (vL au) c.toNat (vL U)))) 106 false) (d sF (a2.set x.toNat (aw.fst,aw.snd.fst,aw.snd.snd)) 177 false))/\(decide (x≠r)=false->aO (d sF.bF a1 106 false) (d sF a2 177 false)))/\(decide (x<G)=false->e<=c/\c<(↑Y.length:Int)/\c.toNat<Y.length/\(∃(l:List Rat),∃(b:Rat),∃(p:List Rat),∃(pb:Rat),(Y=fL l/\ax=bu b/\U=fL p/\W=bu pb)/\(l.length=p.length/\l.length<=1000)/\(e<=c/\c<(↑l.length:Int))/\(∀(q:Rat),q∈l->Sz 10000000 q)/\(∀(q:Rat),q∈p->Sz 10000000 q)/\Sz 10000000 b/\Sz 10000000 pb)/\(cC aM/\cC W)/\(cC ax/\cC aN)/\y.k0=H/\e<=r/\r<(↑H:Int)/\y.k0=H/\r.toNat<H/\y.k1=I/\e<=r/\r<(↑I:Int)/\y.k1=I/\r.toNat<I/\y.k4=P/\e<=c/\c<(↑P:Int)/\y.k4=P/\c.toNat<P/\y.k3=J.length/\e<=r/\r<(↑J.length:Int)/\y.k3=J.length/\r.toNat<J.length/\y.k3=J.length/\e<=r/\r<(↑J.length:Int)/\y.k3=J.length/\r.toNat<J.length/\y.k4=P/\e<=c/\c<(↑P:Int)/\y.k4=P/\c.toNat<P/\(SV.bI []).same (SV.bI [])/\(h (aF::aG::aH::aI::f sF (fL (kp (vL Y) c.toNat (vL U)))::j aA.fst::f z aA.snd.fst::f z aA.snd.snd::aJ) 261 10 false).same (h [a E.n,a E.m,g 1 E.k0 1,g 2 E.k1 3,f sF E.cost,j E.v.fst,f z E.v.snd.fst,f z E.v.snd.snd,g 3 E.k3 1,g 4 E.k4 1] 261 10 false)/\(d sF.bF (a1.set r.toNat U) 106 false).same (d sF.bF E.cj 106 false)/\(d sF (a2.set r.toNat W) 177 false).same (d sF E.bound 177 false)/\(d C (J.set r.toNat (bj y.free c.toNat e)) 3 false).same (d C E.basic 3 false)/\(d C (y.free.set c.toNat (bj J r.toNat e)) 3 false).same (d C E.free 3 false)/\True))) (by kernel_rfl) ?_;conv=>zeta
 try simp only[sV]
 try simp only[bH]
 try simp only[vcs]
 obtain⟨⟨⟨n0,n1⟩,m0,m1⟩,hw,hz⟩:=id hok;have hkl:=hw.cj;have hbl:=hw.bound;have hbb:=hw.basic;have hfl:=hw.free;have hcl:=hw.cost;have hfm:=@JI t.cj;have JO:=@fE t.bound;have hrl:=hw.row r.toNat (by omega);have hcast:∀k:Nat,((k:Nat):Int).toNat=k:=λk=>γl k;have h1:(κ 1:Rat)=1:=rfl;have hR:bj (fM t.cj) r.toNat sF.bF.dflt=fL (bj t.cj r.toNat []):=JJ (by omega);have hA:bj (fL (bj t.cj r.toNat [])) c.toNat sF.dflt=bu (t.cf r.toNat c.toNat):=jv (by omega);have hB:bj (fL t.bound) r.toNat sF.dflt=bu (t.bd r.toNat):=jv (by omega);simp only[hR,hA,hB,jM,eC,hcast,h1];have hsA:=hok.cf (i:=r.toNat) (j:=c.toNat) (by omega) (by omega);have hsB:=hok.bd (i:=r.toNat) (by omega);have s1:Sz 1 (1:Rat):=by unfold Sz;decide
 have hsI:=JE s1 hsA ha;have hsP:=uA hsB hsI;have hfr:=@fE (bj t.cj r.toNat []);have hsl:(pq (bj t.cj r.toNat []) (1 / t.cf r.toNat c.toNat)).length=n.toNat:=by unfold pq;rw[Θ];exact hrl
 have hfs:=@fE (pq (bj t.cj r.toNat []) (1 / t.cf r.toNat c.toNat));have hrow:∀{x y:List bL},x=y->(bq.row sF x 177 true).same (bq.row sF y 177 true):=by rintro _ _ rfl;rfl
 refine⟨by omega,by omega,r0,by omega,by omega,by omega,c0,by omega,by omega,⟨⟨dP s1 (by omega),dP hsA (by omega)⟩,ha⟩,by omega,by omega,by omega,by omega,by omega,r0,by omega,by omega,by omega,⟨⟨⟨by rw[hfl];rfl,trivial,by omega⟩,rfl,hrow (by rw[yx,hfs,hsl,hfl])⟩,by omega,by omega⟩,?_⟩;rintro j ⟨j0,j1⟩;have oV:=@yw (fL (pq (bj t.cj r.toNat []) (1 / t.cf r.toNat c.toNat))) j.toNat (false,([],[])) (by omega);refine⟨λhj=>?_,λhj=>?_⟩
 ·have hL:bj (fL (bj t.cj r.toNat [])) j.toNat sF.dflt=bu (t.cf r.toNat j.toNat):=jv (by omega);have hS:bj (fL (pq (bj t.cj r.toNat []) (1 / t.cf r.toNat c.toNat))) j.toNat (false,([],[]))=bu (t.cf r.toNat j.toNat*(1 / t.cf r.toNat c.toNat)):=by
   rw[jv (by omega),cY (by omega)];unfold pq Tb.cf;rw[δA,cY (l:=bj t.cj r.toNat []) (i:=j.toNat) (by omega)]
  simp only[hL,eC];refine⟨j0,by omega,by omega,⟨dP (hok.cf (by omega) (by omega)) (by omega),dP hsI (by omega)⟩,by omega,j0,by omega,by omega,by omega,by omega,hrow ?_,by omega,by omega⟩;rw[yA (by omega) hS.symm,show(j+1).toNat=j.toNat+1 by omega]
 ·have hset:(eU (fL (pq (bj t.cj r.toNat []) (1 / t.cf r.toNat c.toNat))) j.toNat (false,([],[]))).set c.toNat (bu (1 / t.cf r.toNat c.toNat))=fL (kM (bj t.cj r.toNat []) c.toNat):=by
   rw[show j.toNat=(fL (pq (bj t.cj r.toNat []) (1 / t.cf r.toNat c.toNat))).length by omega,yz];exact ads (by omega)
  have hpl:(kM (bj t.cj r.toNat []) c.toNat).length=n.toNat:=by rw[Si];exact hrl
  have hfp:=@fE (kM (bj t.cj r.toNat []) c.toNat);simp only[hset,adt];have TK:∀q∈kM (bj t.cj r.toNat []) c.toNat,Sz 10000000 q:=λq hq=>by
   obtain⟨k,hk,rfl⟩:=Ω.1 hq;rw[List.mem_range] at hk;split;·exact hsI.mono (by omega)
   ·exact(uA (hok.cf (i:=r.toNat) (j:=k) (by omega) (by omega)) hsI).mono (by omega)
  refine⟨by omega,c0,by omega,by omega,by omega,by omega,r0,by omega,by omega,by omega,⟨dP hsB (by omega),dP hsI (by omega)⟩,by omega,⟨⟨⟨trivial,by omega⟩,rfl,rfl,rfl,rfl,rfl,rfl⟩,by omega,by omega⟩,?_⟩;rintro i ⟨i0,i1⟩;have ekl:(lj t r.toNat c.toNat i.toNat).cj.length=m.toNat:=by show(iV _ _ _ _ _).length=_;rw[wz];exact hkl
  have ebl:(lj t r.toNat c.toNat i.toNat).bound.length=m.toNat:=by show(iV _ _ _ _ _).length=_;rw[wz];exact hbl
  have efm:=@JI (lj t r.toNat c.toNat i.toNat).cj;have efb:=@fE (lj t r.toNat c.toNat i.toNat).bound;have hfc:=@fE t.cost;have adx:∀{a b:Tb},a.cj.length=b.cj.length->a.bound.length=b.bound.length->a.cost=b.cost->a.value=b.value->a.basic.length=b.basic.length->a.free.length=b.free.length->
    (bq.cells [.si .i64 n,.si .i64 m,.ow 1 a.cj.length 1,.ow 2 a.bound.length 3,.row sF (fL a.cost),.sb (bu a.value).1,.row (.i .u32) (bu a.value).2.1,.row (.i .u32) (bu a.value).2.2,.ow 3 a.basic.length 1,.ow 4 a.free.length 1] 261 10 false).same
    (bq.cells [.si .i64 n,.si .i64 m,.ow 1 b.cj.length 1,.ow 2 b.bound.length 3,.row sF (fL b.cost),.sb (bu b.value).1,.row (.i .u32) (bu b.value).2.1,.row (.i .u32) (bu b.value).2.2,.ow 3 b.basic.length 1,.ow 4 b.free.length 1] 261 10 false):=λh1 h2 h3 h4 h5 h6=>by
   rw[h1,h2,h3,h4,h5,h6];rfl
  have TL:∀{x y:List (List bL)},x=y->(bq.row sF.bF x 106 false).same (bq.row sF.bF y 106 false):=by rintro _ _ rfl;rfl
  have TM:∀{x y:List bL},x=y->(bq.row sF x 177 false).same (bq.row sF y 177 false):=by rintro _ _ rfl;rfl
  have TN:∀{x y:List Int},x=y->(bq.row (.i .i64) x 3 false).same (bq.row (.i .i64) y 3 false):=by rintro _ _ rfl;rfl
  refine⟨λhi=>⟨λhir=>?_,λhir=>?_⟩,λhi=>?_⟩
  ·have hRi:bj (fM (lj t r.toNat c.toNat i.toNat).cj) i.toNat sF.bF.dflt=fL (bj t.cj i.toNat []):=by
    rw[JJ (by omega)];congr 1;exact TE (by omega)
   have hBi:bj (fL (lj t r.toNat c.toNat i.toNat).bound) i.toNat sF.dflt=bu (t.bd i.toNat):=by
    rw[jv (by omega)];congr 1;exact TE (by omega)
   have hli:=hw.row i.toNat (by omega);simp only[hRi,hBi,kN,eC];refine⟨by omega,i0,by omega,by omega,by omega,by omega,i0,by omega,by omega,by omega,⟨bj t.cj i.toNat [],t.bd i.toNat,kM (bj t.cj r.toNat []) c.toNat,t.bd r.toNat*(1 / t.cf r.toNat c.toNat),⟨rfl,rfl,rfl,rfl⟩,⟨by omega,by omega⟩,⟨c0,by omega⟩,λq hq=>?_,TK,(hok.bd (by omega)).mono (by omega),hsP.mono (by omega)⟩,by omega,i0,by omega,by omega,by omega,by omega,i0,by omega,by omega,by omega,by omega,⟨adx ?_ ?_ rfl rfl rfl rfl,TL ?_,TM ?_,rfl,rfl⟩,by omega,by omega⟩;·exact(hz.1 _ (dr (d:=[]) (by omega)) q hq).mono (by omega)
   ·show(iV _ _ _ _ _).length=(iV _ _ _ _ _).length;rw[wz,wz]
   ·show(iV _ _ _ _ _).length=(iV _ _ _ _ _).length;rw[wz,wz]
   ·rw[TJ,show(i+1).toNat=i.toNat+1 by omega];congr 1;exact TF (by omega) (by omega)
   ·rw[yB,show(i+1).toNat=i.toNat+1 by omega];congr 1;exact TF (f:=t.bd) (g:=λk=>t.bd k - t.cf k c.toNat*(t.bd r.toNat*(1 / t.cf r.toNat c.toNat))) (by omega) (by omega)
  ·have e:lj t r.toNat c.toNat (i+1).toNat=lj t r.toNat c.toNat i.toNat:=by
    rw[show(i+1).toNat=r.toNat+1 by omega,show i.toNat=r.toNat by omega];unfold lj;rw[TG,TG]
   rw[e];refine⟨?_,⟨rfl,rfl,rfl,rfl,rfl⟩,?_,?_⟩<;>omega
  ·have TP:=hok.cs (j:=c.toNat) (by omega);have hC:bj (fL t.cost) c.toNat sF.dflt=bu (t.cs c.toNat):=jv (by omega);have hcc:(lj t r.toNat c.toNat i.toNat).cost=t.cost:=rfl;have hvv:(lj t r.toNat c.toNat i.toNat).value=t.value:=rfl;have hff:(lj t r.toNat c.toNat i.toNat).free=t.free:=rfl;have hbs:(lj t r.toNat c.toNat i.toNat).basic=t.basic:=rfl;simp only[hC,hcc,hvv,hff,hbs,kN,eC];refine⟨c0,by omega,by omega,⟨t.cost,t.value,kM (bj t.cj r.toNat []) c.toNat,t.bd r.toNat*(1 / t.cf r.toNat c.toNat),⟨rfl,rfl,rfl,rfl⟩,⟨by omega,by omega⟩,⟨c0,by omega⟩,λq hq=>(hz.2.2.1 q hq).mono (by omega),TK,hz.2.2.2.mono (by omega),hsP.mono (by omega)⟩,⟨dP TP (by omega),dP hsP (by omega)⟩,⟨dP hz.2.2.2 (by omega),dP (uA TP hsP) (by omega)⟩,
    by omega,r0,by omega,by omega,by omega,by omega,r0,by omega,by omega,by omega,c0,by omega,by omega,r0,by omega,by omega,r0,by omega,by omega,c0,by omega,by omega,?_,TL ?_,TM ?_,TN rfl,TN rfl⟩
   ·have hpw:=Sj (r:=r.toNat) (c:=c.toNat) hw;rw[ekl,ebl,hbb,hfl,hpw.cj,hpw.bound,hpw.basic,hpw.free];rfl
   ·rw[TJ,show i.toNat=t.cj.length by omega];congr 1;exact TI (by omega)
   ·rw[yB,show i.toNat=t.bound.length by omega];congr 1;exact TI (by omega)
def okO (n m:Nat) (t:Tb):Prop:=∃a M G,Small n m M G a/\Run n m a t/\kq m t
theorem adB {n m:Nat} {t:Tb} (h:okO n m t):fj n m (uF n m t) t=true:=by
 obtain⟨e,M,G,c,b,a⟩:=h;have d:=JH b a;unfold uF;grind
noncomputable def JZ:dH:=uC 160 Unit .nil (λn m t _=>okO n.toNat m.toNat t) (λn m t _=> .bI [.si .i64 (if eD (lastT n.toNat m.toNat t) n.toNat<0 then 0 else eD (lastT n.toNat m.toNat t) n.toNat),.sb (decide (eD (lastT n.toNat m.toNat t) n.toNat<0))]) (λn m t _=>lastT n.toNat m.toNat t)
def tS (t:Tb) (s:cu):Tb:=match Eh s.o with
 |some x=>x.t
 |none=>t
noncomputable def adE (n m:Int) (t:Tb):Nat->cE
 |1=> .inv Tb (λx=>⟨[(0,.ptr 0 0 10)],(bH n m x).gQ⟩) (tS t) (λx=>okO n.toNat m.toNat x/\lastT n.toNat m.toNat x=lastT n.toNat m.toNat t/\fj n.toNat m.toNat (uF n.toNat m.toNat t) x=true) (λx=>yr n.toNat m.toNat (uF n.toNat m.toNat t) x) λ_ _=> .look
 |_=> .look
theorem adF {n m:Int} {t:Tb} (h:okO n.toNat m.toNat t) (e:0<=n/\n<=1000) (f:0<=m/\m<=1000):kO n m t:=by
 obtain⟨c,M,G,a,b,d⟩:=h;grind[Tf]
theorem h402:ec Tryz.prog JZ:=by
 refine lA (L:=[]) (W:=[JL,JM,r408]) JZ (λa=>adE a.1.n a.1.m a.1.t) (by simpa using⟨h411,h412,h408⟩) (by simp) ?_;rintro⟨x,u⟩ ⟨n,m,t,hx,hok,hd⟩;simp only at hx hd;subst hx;refine bO (let a:=bq.row;let b:=γh .i64;let c:=γZ;let d:=Ψ;let e:=bq.cells;let f:=(0:Int);let g:=γv;let h:=SV.bI;let I:=γO 0 0 10;let D:=(bH n m t).n;let E:=(bH n m t).m;let r:=bp.i .u32;let F:=(bH n m t).t;let l:=bH D E F;let o:=bp.i .i64;let k:=D.toNat;let s:=E.toNat;let B:=lastT k s F;let G:=uF k s F;let K:=h [b (if eD B k<f then f else eD B k),g (decide (eD B k<f))];let p:=bH D E B;let L:=e [b p.n,b p.m,c 1 p.k0 1,c 2 p.k1 3,d sF p.cost,g p.v.fst,d r p.v.snd.fst,d r p.v.snd.snd,c 3 p.k3 1,c 4 p.k4 1] 261 10 false;let M:=a sF.bF p.cj 106 false;let N:=a sF p.bound 177 false;let O:=a o p.basic 3 false;let P:=a o p.free 3 false;(((I.same I/\True)/\(e [b D,b E,c 1 (bH n m t).k0 1,c 2 (bH n m t).k1 3,d sF (bH n m t).cost,g (bH n m t).v.fst,d r (bH n m t).v.snd.fst,d r (bH n m t).v.snd.snd,c 3 (bH n m t).k3 1,c 4 (bH n m t).k4 1] 261 10 false).same (e [b l.n,b l.m,c 1 l.k0 1,c 2 l.k1 3,d sF l.cost,g l.v.fst,d r l.v.snd.fst,d r l.v.snd.snd,c 3 l.k3 1,c 4 l.k4 1] 261 10 false)/\(a sF.bF (bH n m t).cj 106 false).same (a sF.bF l.cj 106 false)/\(a sF (bH n m t).bound 177 false).same (a sF l.bound 177 false)/\(a o (bH n m t).basic 3 false).same (a o l.basic 3 false)/\(a o (bH n m t).free 3 false).same (a o l.free 3 false)/\True)/\okO k s F/\B=B/\fj k s G F=true)/\∀(x:Tb),let y:=bH D E x;let z:=eD y.t y.n.toNat;let Q:=decide (z<f);let j:=bH y.n y.m y.t;let H:=dS j.t z.toNat j.m.toNat;let R:=decide (H<f);let C:=bH j.n j.m j.t;let S:=fU C.t H.toNat z.toNat;let A:=bH C.n C.m S;let q:=bH D E A.t;let T:=λ(u u_1:Int) (u_2 u_3:Tb) (u_4:bq) ↦let J:=bH u u_1 u_2;let U:=bH J.n J.m J.t;let w:=bH U.n U.m u_3;(e [b w.n,b w.m,c 1 w.k0 1,c 2 w.k1 3,d sF w.cost,g w.v.fst,d r w.v.snd.fst,d r w.v.snd.snd,c 3 w.k3 1,c 4 w.k4 1] 261 10 false).same u_4;okO k s x/\lastT k s x=B/\fj k s G x=true->(∃(n:Int),∃(m:Int),∃(t:Tb),y=bH n m t/\kO n m t/\True)/\(Q=true->(h [γx .i64 0,δc true]).same K/\(e [b j.n,b j.m,c 1 j.k0 1,c 2 j.k1 3,d sF j.cost,g j.v.fst,d r j.v.snd.fst,d r j.v.snd.snd,c 3 j.k3 1,c 4 j.k4 1] 261 10 false).same L/\(a sF.bF j.cj 106 false).same M/\(a sF j.bound 177 false).same N/\(a o j.basic 3 false).same O/\(a o j.free 3 false).same P/\True)/\(Q=false->(∃(n:Int),∃(m:Int),∃(t:Tb),j=bH n m t/\kO n m t/\f<=z/\z<n)/\(R=true->(h [b z,δc false]).same K/\T D E x j.t L/\(a sF.bF C.cj 106 false).same M/\(a sF C.bound 177 false).same N/\(a o C.basic 3 false).same O/\(a o C.free 3 false).same P/\True)/\(R=false->(∃(n:Int),∃(m:Int),∃(t:Tb),C=bH n m t/\kO n m t/\(f<=H/\H<m)/\(f<=z/\z<n)/\t.cf H.toNat z.toNat≠(0:Rat))/\0=0/\((I.same I/\True)/\T y.n y.m y.t S (e [b q.n,b q.m,c 1 q.k0 1,c 2 q.k1 3,d sF q.cost,g q.v.fst,d r q.v.snd.fst,d r q.v.snd.snd,c 3 q.k3 1,c 4 q.k4 1] 261 10 false)/\(a sF.bF A.cj 106 false).same (a sF.bF q.cj 106 false)/\(a sF A.bound 177 false).same (a sF q.bound 177 false)/\(a o A.basic 3 false).same (a o q.basic 3 false)/\(a o A.free 3 false).same (a o q.free 3 false)/\True)/\(okO k s A.t/\lastT k s A.t=B/\fj k s G A.t=true)/\yr k s G A.t<yr k s G x))) (by kernel_rfl) ?_;simp only[ada,sV,S8,S9];try simp only[vcs]
 obtain⟨⟨hn,hm⟩,hw,hz⟩:=id hok;refine⟨⟨hd,adB hd⟩,?_⟩;rintro x ⟨hx,hl,he⟩;have Es:=adF hx hn hm;have hs:stepT n.toNat m.toNat x=if eD x n.toNat<0 then none else if dS x (eD x n.toNat).toNat m.toNat<0 then none else some (fU x (dS x (eD x n.toNat).toNat m.toNat).toNat (eD x n.toNat).toNat):=rfl;have hwx:=Es.2.1;have fin:∀{y:Tb},y=lastT n.toNat m.toNat t->bH n m y=bH n m (lastT n.toNat m.toNat t):=by rintro _ rfl;rfl
 refine⟨⟨n,m,x,rfl,Es⟩,λh0=>?_,λh0=>?_⟩
 ·rw[if_pos h0] at hs;have e:=Tq hs;rw[hl] at e;rw[<-e] at h0 ⊢;rw[if_pos h0,decide_eq_true h0];exact⟨⟨rfl,rfl⟩,rfl,rfl,rfl,rfl,rfl⟩
 ·have h0':¬eD x n.toNat<0:=h0;rw[if_neg h0'] at hs;rcases @uB x n.toNat with⟨e1,e2⟩|⟨c,e1,e2,e3,e4⟩;·omega
  ·refine⟨⟨n,m,x,rfl,Es,by omega,by omega⟩,λh1=>?_,λh1=>?_⟩
   ·rw[if_pos h1] at hs;have e:=Tq hs;rw[hl] at e;rw[e,if_neg h0',decide_eq_false h0'];exact⟨⟨rfl,rfl⟩,rfl,rfl,rfl,rfl,rfl⟩
   ·have h1':¬dS x (eD x n.toNat).toNat m.toNat<0:=h1;rw[if_neg h1'] at hs;rcases @wt x (eD x n.toNat).toNat m.toNat with⟨l1,l2⟩|⟨r,l1,l2,l3,l4⟩;·omega
    ·refine⟨⟨n,m,x,rfl,Es,⟨by omega,by omega⟩,⟨by omega,by omega⟩,?_⟩,?_⟩;·rw[l1,γl];grind
     ·obtain⟨t0,M,G,g1,g2,g3⟩:=hx;have hsr:=JF g2 g3 hs;have adG:=JH g2 g3;refine⟨⟨⟨t0,M,G,g1,hsr.1,hsr.2⟩,?_,S7 he hs⟩,left_step he hs⟩;rw[adn adG hs,hl]
def gp (t:Tb) (n:Nat):Nat->List Rat
 |0=>δ n 0
 |k+1=>if t.bv k<n then(gp t n k).set (t.bv k).toNat (t.bd k) else gp t n k
def jw (t:Tb) (n m:Nat):Nat->List Rat
 |0=>δ m 0
 |k+1=>if(n:Int)<=t.fv k/\t.fv k<n+m then(jw t n m k).set (t.fv k - n).toNat (-(t.cs k)) else jw t n m k
theorem Et {t:Tb} {n:Nat}:∀{k:Nat},(gp t n k).length=n
 |0=>by simp[gp];|k+1=>by
  have:=@Et t n k;grind[gp]
theorem Eu {t:Tb} {n m:Nat}:∀{k:Nat},(jw t n m k).length=m
 |0=>by simp[jw];|k+1=>by
  have:=@Eu t n m k;grind[jw]
def Ew:dH:=uC 161 Unit .nil (λ_ _ t _=>∀v∈t.basic,0<=v) (λn m t _=> .row sF (fL (gp t n.toNat m.toNat))) (λ_ _ t _=>t)
def adH (n m:Int) (t:Tb):Nat->cE
 |3=> .inv Int (λi=>⟨[(0,.ptr 0 0 10),(3,.ow 5 n.toNat 3),(14,.ow 3 t.basic.length 1),(15,.si .i64 t.basic.length),(16,.si .i64 i)],(bH n m t).gQ++[.row sF (fL (gp t n.toNat i.toNat)) 177 false]⟩)
   (λs=>iS s 16) (λi=>0<=i/\i<=m) (λi=>(m - i).toNat) λ_ _=> .look
 |_=> .look
theorem h403:ec Tryz.prog Ew:=by
 refine lA (L:=[]) (W:=[r413]) Ew (λa=>adH a.1.n a.1.m a.1.t) (by simpa using h413) (by simp) ?_;rintro⟨x,u⟩ ⟨n,m,t,hx,hok,hd⟩;simp only at hx hd;subst hx;refine bO (let a:=bq.row;let b:=γh .i64;let c:=(0:Int);let d:=Ψ;let e:=γZ;let p:=(bH n m t).n;let B:=γO 0 0 10;let g:=p.toNat;let C:=e 5 g 3;let J:=e 3 (bH n m t).k3 1;let k:=(bH n m t).t;let q:=k.basic.length;let G:=e 3 q 1;let H:=b (↑q:Int);let h:=(bH n m t).m;let D:=bp.i .u32;let f:=bH p h k;let r:=bq.cells [b f.n,b f.m,e 1 f.k0 1,e 2 f.k1 3,d sF f.cost,γv f.v.fst,d D f.v.snd.fst,d D f.v.snd.snd,e 3 f.k3 1,e 4 f.k4 1] 261 10 false;let s:=a sF.bF f.cj 106 false;let w:=a sF f.bound 177 false;let E:=bp.i .i64;let l:=f.basic;let y:=a E l 3 false;let z:=a E f.free 3 false;let F:=f.bound.length;(c<=p/\p<=(1000:Int))/\(((B.same B/\C.same C/\J.same G/\(b (↑(bH n m t).k3:Int)).same H/\(γx .i64 0).same (b 0)/\True)/\(bq.cells [b p,b h,e 1 (bH n m t).k0 1,e 2 (bH n m t).k1 3,d sF (bH n m t).cost,γv (bH n m t).v.fst,d D (bH n m t).v.snd.fst,d D (bH n m t).v.snd.snd,J,e 4 (bH n m t).k4 1] 261 10 false).same r/\(a sF.bF (bH n m t).cj 106 false).same s/\(a sF (bH n m t).bound 177 false).same w/\(a E (bH n m t).basic 3 false).same y/\(a E (bH n m t).free 3 false).same z/\(a sF (fL (δ g (0:Rat))) 177 false).same (a sF (fL (gp k g 0)) 177 false)/\True)/\c<=c/\c<=h)/\∀(x:Int),let o:=x+(1:Int);let K:=b o;let L:=decide (x<(↑q:Int));let A:=bj l x.toNat c;let M:=decide (A<f.n);let j:=fL (gp k g x.toNat);let I:=bj f.bound x.toNat sF.dflt;let N:=λ(u:bq) ↦cq .i64 o/\((B.same B/\C.same C/\G.same G/\H.same H/\K.same K/\True)/\r.same r/\s.same s/\w.same w/\y.same y/\z.same z/\u.same (a sF (fL (gp k g o.toNat)) 177 false)/\True)/\(c<=o/\o<=h)/\(h - o).toNat<(h - x).toNat;c<=x/\x<=h->(L=true->q=l.length/\c<=x/\x<(↑l.length:Int)/\q=l.length/\x.toNat<l.length/\(M=true->f.k1=F/\c<=x/\x<(↑F:Int)/\f.k1=F/\x.toNat<F/\g=j.length/\c<=A/\A<(↑j.length:Int)/\g=j.length/\A.toNat<j.length/\N (a sF (j.set A.toNat (I.fst,I.snd.fst,I.snd.snd)) 177 false))/\(M=false->N (a sF j 177 false)))/\(L=false->g=j.length/\(d sF j).same (d sF (fL (gp k g h.toNat)))/\r.same r/\s.same s/\w.same w/\y.same y/\z.same z/\True)) (by kernel_rfl) ?_;simp only[sV];try simp only[bH]
 simp only[vcs];obtain⟨⟨⟨n0,n1⟩,m0,m1⟩,hw,hz⟩:=id hok;have hbb:=hw.basic;have hbl:=hw.bound;have JO:=@fE t.bound;have hbv:∀k:Nat,bj t.basic k 0=t.bv k:=λk=>rfl;have hrow:∀{x y:List bL},x=y->(bq.row sF x 177 false).same (bq.row sF y 177 false):=by rintro _ _ rfl;rfl
 refine⟨⟨n0,n1⟩,⟨hrow rfl,by omega,by omega⟩,?_⟩;rintro i ⟨i0,i1⟩;have hpl:=@Et t n.toNat i.toNat;have hfp:=@fE (gp t n.toNat i.toNat);refine⟨λhi=>?_,λhi=>⟨by omega,by rw[show i.toNat=m.toNat by omega]⟩⟩;have hv:=hd _ (AW hw (show i.toNat<m.toNat by omega));have hB:bj (fL t.bound) i.toNat sF.dflt=bu (t.bd i.toNat):=jv (by omega);have hs:gp t n.toNat (i+1).toNat=if t.bv i.toNat<n.toNat then(gp t n.toNat i.toNat).set (t.bv i.toNat).toNat (t.bd i.toNat) else gp t n.toNat i.toNat:=by
  rw[show(i+1).toNat=i.toNat+1 by omega];rfl
 simp only[hbv,hB,jM,hs];refine⟨i0,hi,by omega,λhlt=>⟨by omega,i0,by omega,by omega,by omega,by omega,hv,by omega,by omega,by omega,by omega,hrow ?_,by omega,by omega⟩,λhlt=>⟨by omega,hrow ?_,by omega,by omega⟩⟩;·rw[yB,if_pos (by omega)]
 ·rw[if_neg (by omega)]
def Ey:dH:=uC 163 Unit .nil (λ_ _ t _=>True) (λn m t _=> .row sF (fL (jw t n.toNat m.toNat n.toNat))) (λ_ _ t _=>t)
def adI (n m:Int) (t:Tb):Nat->cE
 |3=> .inv Int (λi=>⟨[(0,.ptr 0 0 10),(3,.ow 5 m.toNat 3),(14,.ow 4 t.free.length 1),(15,.si .i64 t.free.length),(16,.si .i64 i)],(bH n m t).gQ++[.row sF (fL (jw t n.toNat m.toNat i.toNat)) 177 false]⟩)
   (λs=>iS s 16) (λi=>0<=i/\i<=n) (λi=>(n - i).toNat) λ_ _=> .look
 |_=> .look
theorem h405:ec Tryz.prog Ey:=by
 refine lA (L:=[yp]) (W:=[r413]) Ey (λa=>adI a.1.n a.1.m a.1.t) (by simpa using h413) (by simpa using h130) ?_;rintro⟨x,u⟩ ⟨n,m,t,hx,hok,hd⟩;simp only at hx hd;subst hx;refine bO (let a:=bq.row;let b:=γh .i64;let c:=(0:Int);let d:=Ψ;let e:=γZ;let f:=cq .i64;let A:=(bH n m t).m;let u:=γO 0 0 10;let k:=A.toNat;let w:=e 5 k 3;let M:=e 4 (bH n m t).k4 1;let y:=(bH n m t).t;let B:=y.free.length;let C:=e 4 B 1;let D:=b (↑B:Int);let h:=(bH n m t).n;let G:=bp.i .u32;let g:=bH h A y;let o:=bq.cells [b g.n,b g.m,e 1 g.k0 1,e 2 g.k1 3,d sF g.cost,γv g.v.fst,d G g.v.snd.fst,d G g.v.snd.snd,e 3 g.k3 1,e 4 g.k4 1] 261 10 false;let p:=a sF.bF g.cj 106 false;let q:=a sF g.bound 177 false;let H:=bp.i .i64;let r:=a H g.basic 3 false;let z:=g.free;let s:=a H z 3 false;let E:=h.toNat;(c<=A/\A<=(1000:Int))/\(((u.same u/\w.same w/\M.same C/\(b (↑(bH n m t).k4:Int)).same D/\(γx .i64 0).same (b 0)/\True)/\(bq.cells [b h,b A,e 1 (bH n m t).k0 1,e 2 (bH n m t).k1 3,d sF (bH n m t).cost,γv (bH n m t).v.fst,d G (bH n m t).v.snd.fst,d G (bH n m t).v.snd.snd,e 3 (bH n m t).k3 1,M] 261 10 false).same o/\(a sF.bF (bH n m t).cj 106 false).same p/\(a sF (bH n m t).bound 177 false).same q/\(a H (bH n m t).basic 3 false).same r/\(a H (bH n m t).free 3 false).same s/\(a sF (fL (δ k (0:Rat))) 177 false).same (a sF (fL (jw y E k 0)) 177 false)/\True)/\c<=c/\c<=h)/\∀(x:Int),let j:=x+(1:Int);let I:=b j;let l:=fL (jw y E k x.toNat);let N:=a sF (fL (jw y E k j.toNat)) 177 false;let O:=decide (x<(↑B:Int));let J:=bj z x.toNat c;let P:=decide (g.n<=J);let Q:=decide (J<g.n+g.m);let F:=J - g.n;let K:=bj g.cost x.toNat sF.dflt;let L:=(K.fst,K.snd.fst,K.snd.snd);let R:=(bu (-bV L)).snd;let S:=f j/\((u.same u/\w.same w/\C.same C/\D.same D/\I.same I/\True)/\o.same o/\p.same p/\q.same q/\r.same r/\s.same s/\(a sF l 177 false).same N/\True)/\(c<=j/\j<=h)/\(h - j).toNat<(h - x).toNat;c<=x/\x<=h->(O=true->B=z.length/\c<=x/\x<(↑z.length:Int)/\B=z.length/\x.toNat<z.length/\(P=true->f (g.n+g.m)/\(Q=true->f F/\c<=x/\x<(↑g.cost.length:Int)/\x.toNat<g.cost.length/\cC L/\k=l.length/\c<=F/\F<(↑l.length:Int)/\k=l.length/\F.toNat<l.length/\f j/\((u.same u/\w.same w/\C.same C/\D.same D/\I.same I/\True)/\o.same o/\p.same p/\q.same q/\r.same r/\s.same s/\(a sF (l.set F.toNat ((bu (-bV L)).fst,R.fst,R.snd)) 177 false).same N/\True)/\(c<=j/\j<=h)/\(h - j).toNat<(h - x).toNat)/\(Q=false->S))/\(P=false->S))/\(O=false->k=l.length/\(d sF l).same (d sF (fL (jw y E k E)))/\o.same o/\p.same p/\q.same q/\r.same r/\s.same s/\True)) (by kernel_rfl) ?_;simp only[sV];try simp only[bH]
 simp only[vcs];obtain⟨⟨⟨n0,n1⟩,m0,m1⟩,hw,hz⟩:=id hok;have hfl:=hw.free;have hcl:=hw.cost;have hfc:=@fE t.cost;have Ei:∀k:Nat,bj t.free k 0=t.fv k:=λk=>rfl;have hrow:∀{x y:List bL},x=y->(bq.row sF x 177 false).same (bq.row sF y 177 false):=by rintro _ _ rfl;rfl
 refine⟨⟨m0,m1⟩,⟨hrow rfl,by omega,by omega⟩,?_⟩;rintro i ⟨i0,i1⟩;have hpl:=@Eu t n.toNat m.toNat i.toNat;have hfp:=@fE (jw t n.toNat m.toNat i.toNat);refine⟨λhi=>?_,λhi=>⟨by omega,by rw[show i.toNat=n.toNat by omega]⟩⟩;have hC:bj (fL t.cost) i.toNat sF.dflt=bu (t.cs i.toNat):=jv (by omega);have hs:jw t n.toNat m.toNat (i+1).toNat=if(n.toNat:Int)<=t.fv i.toNat/\t.fv i.toNat<n.toNat+m.toNat then(jw t n.toNat m.toNat i.toNat).set (t.fv i.toNat - n.toNat).toNat (-(t.cs i.toNat)) else jw t n.toNat m.toNat i.toNat:=by
  rw[show(i+1).toNat=i.toNat+1 by omega];rfl
 simp only[Ei,hC,jM,hs,eC];refine⟨i0,hi,by omega,λh1=>⟨by omega,λh2=>⟨by omega,i0,by omega,by omega,dP (hok.cs (by omega)) (by omega),by omega,by omega,by omega,by omega,by omega,by omega,hrow ?_,by omega,by omega⟩,λh2=>⟨by omega,hrow ?_,by omega,by omega⟩⟩,λh1=>⟨by omega,hrow ?_,by omega,by omega⟩⟩;·rw[yB,if_pos (by omega),show(n.toNat:Int)=n by omega]
 ·rw[if_neg (by omega)]
 ·rw[if_neg (by omega)]
@[reducible] def sR:bp:=.pair (.bF sF) sF
abbrev sW:=List bL×List (List bL×bL)
def yC:qs sW where
 put a:=.agg [.row sF a.1,.row sR a.2];dec
  | .agg [r,v]=>match jG sF r,jG sR v with
   |some c,some v=>some (c,v)
   |_,_=>none
  |_=>none;ok v a h:=by
  grind[SV.g,gL,oZ]
 inj a b h:=by
  obtain⟨c,v⟩:=a;obtain⟨f,i⟩:=b;simp only[SV.g,gL,AV.agg.injEq,List.cons.injEq,and_true,AV.sl.injEq] at h;have e:=lz sF h.1.1 h.1.2;have d:=lz sR h.2.1 h.2.2;rw[e,d]
def iW (x:bL):Prop:=(bA x.2.1/\bA x.2.2)/\x.2.1.length<=10000000/\x.2.2.length<=10000000
def J0:bM:=⟨175,List bL,.one (dF sF),λl=>(show List bL from l).length<=1000/\∀x∈(show List bL from l),iW x,λl=> .sb ((show List bL from l).all okF)⟩
def adJ (l:List bL):Nat->cE
 |2=> .inv Int (λi=>⟨[(5,.row sF l),(6,.si .i64 l.length),(7,.si .i64 i)],[]⟩)
   (λs=>iS s 7) (λi=>(0<=i/\i<=l.length)/\(l.take i.toNat).all okF=true) (λi=>(l.length - i).toNat) λ_ _=> .look
 |_=> .look
theorem h406:Holds Tryz.prog J0:=by
 refine cF (L:=[uz]) J0 adJ (by grind[h407]) ?_;rintro(l:List bL) ⟨(q:l.length<=1000),(n:∀x∈l,iW x)⟩;refine bO (let d:=(0:Int);let e:=γh .i64;let g:=Ψ;let a:=(↑l.length:Int);let f:=e a;((((g sF l).same (g sF l)/\(e (↑l.length:Int)).same f/\(γx .i64 0).same (e 0)/\True)/\True)/\(d<=d/\d<=a)/\true=true)/\∀(x:Int),let b:=bj l x.toNat sF.dflt;let c:=x+(1:Int);let k:=e c;let m:=λ(u:Bool) ↦(!okF (b.fst,b.snd.fst,b.snd.snd))=u;(d<=x/\x<=a)/\(Δ x.toNat l).all okF=true->(decide (x<a)=true->d<=x/\x<(↑l.length:Int)/\x.toNat<l.length/\((bA b.snd.fst/\bA b.snd.snd)/\γc b.snd.fst<=10000000/\γc b.snd.snd<=10000000)/\(m true->(δc false).same (γv (l.all okF)))/\(m false->cq .i64 c/\(((g sF l).same (g sF l)/\f.same f/\k.same k/\True)/\True)/\((d<=c/\c<=a)/\(Δ c.toNat l).all okF=true)/\(a - c).toNat<(a - x).toNat))/\(decide (x<a)=false->(δc true).same (γv (l.all okF)))) (by kernel_rfl) ?_;simp only[vcs];refine⟨⟨by omega,by omega⟩,?_⟩;rintro i ⟨⟨j,t⟩,e⟩;refine⟨λh=>?_,λh=>?_⟩
 ·have p:=dr (d:=sF.dflt) (show i.toNat<l.length by omega);have r:=jX (d:=sF.dflt) j h;have g:=n _ p;have o:okF ((bj l i.toNat sF.dflt).1,(bj l i.toNat sF.dflt).2.1,(bj l i.toNat sF.dflt).2.2)=okF (bj l i.toNat sF.dflt):=rfl;rw[o];refine⟨j,h,by omega,⟨g.1,g.2.1,g.2.2⟩,λs=>?_,λv=>⟨by omega,⟨⟨by omega,by omega⟩,?_⟩,by omega⟩⟩;all_goals grind
 ·rw[show i.toNat=l.length by omega,ψ] at e;simp_all
def J1:bM:=⟨156,sW,.one yC,λa=>(a.1.length<=160/\a.2.length<=40)/\(∀x∈a.1,iW x/\okF x=true)/\∀r∈a.2,r.1.length=a.1.length/\(∀x∈r.1,iW x/\okF x=true)/\iW r.2/\okF r.2=true,λ_=> .si .i64 0⟩
def adK (a:sW):Nat->cE
 |6=> .inv Int (λi=>⟨[(1,.ptr 0 0 2),(20,.row sR a.2),(21,.si .i64 a.2.length),(22,.si .i64 i)],[.cells [.row sF a.1,.row sR a.2] 217 2 false]⟩)
   (λs=>iS s 22) (λi=>0<=i/\i<=a.2.length) (λi=>(a.2.length - i).toNat) λ_ _=> .look
 |_=> .look
theorem h398:Holds Tryz.prog J1:=by
 refine cF (L:=[J0,uz]) J1 adK (by simpa using⟨h406,h407⟩) ?_;rintro⟨g,rs⟩ ⟨⟨hl1,hl2⟩,hg,hr⟩;simp only at hl1 hl2 hg hr;refine bO (let a:=γx .i64;let b:=(0:Int);let c:=γh .i64;let d:=γx .i64 0;let q:=decide ((160:Int)<(↑g.length:Int));let e:=c 0;let m:=(↑rs.length:Int);let r:=decide ((40:Int)<m);let k:=γO 0 0 2;let i:=Ψ sR rs;let f:=(↑rs.length:Int);let n:=c f;let l:=bq.cells [Ψ sF g,i] 217 2 false;(q=true->(a 3).same e)/\(q=false->(r=true->(a 3).same e)/\(r=false->(g.length<=1000/\∀(x:bL),x∈g->iW x)/\((!g.all okF)=true->(a 2).same e)/\((!g.all okF)=false->(((k.same k/\i.same i/\(c m).same n/\(a 0).same e/\True)/\l.same l/\True)/\b<=b/\b<=f)/\∀(x:Int),let h:=bj rs x.toNat sR.dflt;let o:=h.snd.snd.fst;let p:=h.snd.snd.snd;let s:=!List.all h.fst okF;let j:=x+(1:Int);let t:=c j;let v:=λ(u:Bool) ↦(!okF (h.snd.fst,o,p))=u;let w:=λ(u:Bool) ↦decide ((↑(γc h.fst):Int)≠(↑g.length:Int))=u;b<=x/\x<=f->(decide (x<f)=true->b<=x/\x<m/\x.toNat<rs.length/\(w true->(a 2).same e)/\(w false->(γc h.fst<=1000/\∀(x:bL),x∈h.fst->iW x)/\(s=true->(a 2).same e)/\(s=false->((bA o/\bA p)/\γc o<=10000000/\γc p<=10000000)/\(v true->(a 2).same e)/\(v false->cq .i64 j/\((k.same k/\i.same i/\n.same n/\t.same t/\True)/\l.same l/\True)/\(b<=j/\j<=f)/\(f - j).toNat<(f - x).toNat))))/\(decide (x<f)=false->(a 0).same e))))) (by kernel_rfl) ?_;simp only[vcs];have hall:∀{l:List bL},(∀x∈l,iW x/\okF x=true)->l.all okF=true:=λh=>φ.2 λx hx=>(h x hx).2;refine⟨λh=>by omega,λ_=>⟨λh=>by omega,λ_=>⟨⟨by omega,λx hx=>(hg x hx).1⟩,λh=>(by rw[hall hg] at h;cases h),λ_=>⟨⟨by omega,by omega⟩,?_⟩⟩⟩⟩;rintro i ⟨i0,i1⟩;refine⟨λhi=>?_,λ_=>trivial⟩;have hm:=hr _ (dr (d:=sR.dflt) (show i.toNat<rs.length by omega));have h2:okF ((bj rs i.toNat sR.dflt).2.1,(bj rs i.toNat sR.dflt).2.2.1,(bj rs i.toNat sR.dflt).2.2.2)=okF (bj rs i.toNat sR.dflt).2:=rfl;rw[h2];refine⟨i0,hi,by omega,λh=>absurd (by rw[hm.1]) h,λ_=>⟨⟨by have:=hm.1;omega,λx hx=>(hm.2.1 x hx).1⟩,λh=>?_,λ_=>⟨⟨hm.2.2.1.1,hm.2.2.1.2.1,hm.2.2.1.2.2⟩,λh=>?_,λ_=>⟨by omega,⟨by omega,by omega⟩,by omega⟩⟩⟩⟩
 ·have:=hall hm.2.1;rw[show List.all (bj rs i.toNat sR.dflt).1 okF=true from this] at h;cases h
 ·rw[hm.2.2.2] at h;cases h
def Ba (a:sW):nJ:=⟨a.1.length,a.2.length,a.2.length,a.2.length,a.2.length,a.1.length,a.2.map (·.1),a.2.map (·.2),δ a.1.length (bu 0),bu 0,(dm a.2.length).map λi=>a.1.length+i,dm a.1.length⟩
def J2:dH where
 f:=157;α:=sW;put a:=[yC.put a];st _:=[];dec v o:=match v,o with
  |[v],[]=>yC.dec v
  |_,_=>none;ok v o a h:=by
  split at h;·exact⟨by simp only[gL,yC.ok _ _ h],rfl⟩
  ·cases h
 inj a b h _:=yC.inj a b (by simpa[gL] using h);dom a:=a.1.length<=1000/\a.2.length<=1000/\∀r∈a.2,r.1.length<=1000;res a:=.ptr 0 0 10;out a:=(Ba a).gQ
def TQ (a:sW) (k0 k1 k2 k3 k4:Nat) (co:List (List bL)) (bo ct:List bL) (ba fr:List Int):bZ:=
 [.cells [.row sF a.1,.row sR a.2] 217 2 false,.cells [.si .i64 a.1.length,.si .i64 a.2.length,.ow 2 k0 1,.ow 3 k1 3,.ow 4 k2 3,.sb (bu 0).1,.row (.i .u32) (bu 0).2.1,.row (.i .u32) (bu 0).2.2,.ow 5 k3 1,.ow 6 k4 1] 261 10 false,
  .row (.bF sF) co 106 false,.row sF bo 177 false,.row sF ct 177 true,.row (.i .i64) ba 3 false,.row (.i .i64) fr 3 false]
def adL (a:sW):Nat->cE
 |3=> .inv Int (λj=>⟨[(1,.ptr 0 0 2),(3,.ptr 1 0 10),(18,.si .i64 a.1.length),(19,.si .i64 j)],TQ a 0 0 j.toNat 0 j.toNat [] [] (δ j.toNat (bu 0)) [] (dm j.toNat)⟩)
   (λs=>iS s 19) (λj=>0<=j/\j<=a.1.length) (λj=>(a.1.length - j).toNat) λ_ _=> .look
 |9=> .inv Int (λi=>⟨[(3,.ptr 1 0 10),(44,.row sR a.2),(45,.si .i64 a.2.length),(46,.si .i64 i)],TQ a i.toNat i.toNat a.1.length i.toNat a.1.length ((a.2.take i.toNat).map (·.1)) ((a.2.take i.toNat).map (·.2)) (δ a.1.length (bu 0)) ((dm i.toNat).map λi=>a.1.length+i) (dm a.1.length)⟩)
   (λs=>iS s 46) (λi=>0<=i/\i<=a.2.length) (λi=>(a.2.length - i).toNat) λ_ _=> .look
 |_=> .look
theorem h399:ec Tryz.prog J2:=by
 refine HE (L:=[oC]) (W:=[]) J2 (λ_=>none) adL (by simp) (by simpa using h94) ?_;rintro⟨g,rs⟩ ⟨hg,hr,hrr⟩;simp only at hg hr hrr;refine bO (let a:=bq.row;let c:=γZ;let d:=bq.cells;let e:=(0:Int);let f:=γh .i64;let h:=(-9223372036854775808:Int);let j:=Ψ;let k:=(9223372036854775807:Int);let l:=γx .i64 0;let o:=cq .i64;let p:=γO;let V:=p 0 0 2;let w:=p 1 0 10;let a6:=f (↑g.length:Int);let r:=(↑g.length:Int);let s:=f r;let N:=j sR rs;let y:=d [j sF g,N] 217 2 false;let a7:=f (↑rs.length:Int);let G:=c 2 0 1;let H:=c 3 0 3;let a8:=c 4 0 3;let I:=bu (κ e);let z:=bp.i .u32;let O:=c 5 0 1;let a9:=[O,c 6 0 1];let A:=(↑rs.length:Int);let t:=f A;let J:=bu (0:Rat);let B:=γv J.fst;let C:=j z J.snd.fst;let D:=j z J.snd.snd;let P:=bp.b.pair (z.bF.pair z.bF);let Q:=a sF.bF [] 106 false;let R:=a sF [] 177 false;let u:=bp.i .i64;let F:=a u [] 3 false;let a1:=c 4 g.length 3;let a2:=[c 6 g.length 1];let a3:=δ g.length J;let a4:=a sF a3 177 true;let W:=a u (dm g.length) 3 false;let aa:=p 0 0 10;let q:=Ba (g,rs);(h<=e/\e<=k)/\(((V.same V/\w.same w/\a6.same s/\(l).same (f 0)/\True)/\y.same y/\(d (a6::a7::G::H::a8::γv I.fst::j z I.snd.fst::j z I.snd.snd::a9) 261 10 false).same (d (s::t::G::H::a8::B::C::D::a9) 261 10 false)/\(a P.bF [] 106 false).same Q/\(a P [] 177 false).same R/\(a P [] 177 true).same (a sF [] 177 true)/\F.same F/\F.same (a u (dm 0) 3 false)/\True)/\e<=e/\e<=r)/\∀(x:Int),let S:=dm x.toNat;let ab:=S.length+1;let X:=δ x.toNat J;let ac:=X.length+1;let K:=x+(1:Int);let ad:=f K;let ae:=X++[(I.fst,I.snd.fst,I.snd.snd)];let Y:=K.toNat;e<=x/\x<=r->(decide (x<r)=true->1=1/\x.toNat=S.length/\ab*8<=140737488355328/\ab<=1000000000000/\(h<=e/\e<=k)/\1=1/\x.toNat=X.length/\ac*56<=140737488355328/\ac<=1000000000000/\o K/\((V.same V/\w.same w/\s.same s/\ad.same ad/\True)/\y.same y/\(d [s,t,G,H,c 4 ae.length 3,B,C,D,O,c 6 (S++[x]).length 1] 261 10 false).same (d [s,t,G,H,c 4 Y 3,B,C,D,O,c 6 Y 1] 261 10 false)/\Q.same Q/\R.same R/\(a P ae 177 true).same (a sF (δ Y J) 177 true)/\F.same F/\(a u (S++[x]) 3 false).same (a u (dm Y) 3 false)/\True)/\(e<=K/\K<=r)/\(r - K).toNat<(r - x).toNat)/\(decide (x<r)=false->(((w.same w/\N.same N/\a7.same t/\(l).same (f 0)/\True)/\y.same y/\(d [s,t,G,H,c 4 x.toNat 3,B,C,D,O,c 6 x.toNat 1] 261 10 false).same (d (s::t::G::H::a1::B::C::D::O::a2) 261 10 false)/\Q.same Q/\R.same R/\(a sF X 177 true).same a4/\F.same F/\(a u S 3 false).same W/\True)/\e<=e/\e<=A)/\∀(x:Int),let T:=bj rs x.toNat sR.dflt;let E:=γc T.fst;let af:=Δ x.toNat rs;let Z:=γb (λx ↦x.fst) af;let a5:=Z.length+1;let a0:=γb (λx ↦x.snd) af;let ag:=a0.length+1;let U:=γb (λi ↦(↑(g,rs).fst.length:Int)+i) (dm x.toNat);let ah:=U.length+1;let L:=x+(1:Int);let ai:=f L;let aj:=a0++[(T.snd.fst,T.snd.snd.fst,T.snd.snd.snd)];let M:=L.toNat;e<=x/\x<=A->(decide (x<A)=true->e<=x/\x<(↑rs.length:Int)/\x.toNat<rs.length/\0=0/\(0+E)*56<=140737488355328/\0+E<=1000000000000/\x.toNat=Z.length/\a5*24<=140737488355328/\a5<=1000000000000/\E=E/\E=E/\E=E/\1=1/\x.toNat=a0.length/\ag*56<=140737488355328/\ag<=1000000000000/\o (r+x)/\1=1/\x.toNat=U.length/\ah*8<=140737488355328/\ah<=1000000000000/\o L/\((w.same w/\N.same N/\t.same t/\ai.same ai/\True)/\y.same y/\(d (s::t::c 2 a5 1::c 3 aj.length 3::a1::B::C::D::c 5 (U++[r+x]).length 1::a2) 261 10 false).same (d (s::t::c 2 M 1::c 3 M 3::a1::B::C::D::c 5 M 1::a2) 261 10 false)/\(a sF.bF (Z++[T.fst]) 106 false).same (a sF.bF (γb (λx ↦x.fst) (Δ M rs)) 106 false)/\(a P aj 177 false).same (a sF (γb (λx ↦x.snd) (Δ M rs)) 177 false)/\a4.same a4/\(a u (U++[r+x]) 3 false).same (a u (γb (λi ↦(↑(g,rs).fst.length:Int)+i) (dm M)) 3 false)/\W.same W/\True)/\(e<=L/\L<=A)/\(A - L).toNat<(A - x).toNat)/\(decide (x<A)=false->g.length=a3.length/\aa.same aa/\(d [s,t,c 1 x.toNat 1,c 2 x.toNat 3,j sF a3,B,C,D,c 3 x.toNat 1,c 4 g.length 1] 261 10 false).same (d [f q.n,f q.m,c 1 q.k0 1,c 2 q.k1 3,j sF q.cost,γv q.v.fst,j z q.v.snd.fst,j z q.v.snd.snd,c 3 q.k3 1,c 4 q.k4 1] 261 10 false)/\(a sF.bF Z 106 false).same (a sF.bF q.cj 106 false)/\(a sF a0 177 false).same (a sF q.bound 177 false)/\(a u U 3 false).same (a u q.basic 3 false)/\W.same (a u q.free 3 false)/\True))) (by kernel_rfl) ?_;simp only[vcs];have h0:(κ 0:Rat)=0:=rfl;simp only[h0,jM];have hcell:∀{a b a' b' c d e a2 b2 c2 d2 e2:Nat},a=a2->b=b2->c=c2->d=d2->e=e2->(bq.cells [.si .i64 a',.si .i64 b',.ow 2 a 1,.ow 3 b 3,.ow 4 c 3,.sb (bu 0).1,.row (.i .u32) (bu 0).2.1,.row (.i .u32) (bu 0).2.2,.ow 5 d 1,.ow 6 e 1] 261 10 false).same
   (bq.cells [.si .i64 a',.si .i64 b',.ow 2 a2 1,.ow 3 b2 3,.ow 4 c2 3,.sb (bu 0).1,.row (.i .u32) (bu 0).2.1,.row (.i .u32) (bu 0).2.2,.ow 5 d2 1,.ow 6 e2 1] 261 10 false):=by
  rintro _ _ _ _ _ _ _ _ _ _ _ _ rfl rfl rfl rfl rfl;rfl
 have hrF:∀{x y:List bL},x=y->(bq.row sF x 177 false).same (bq.row sF y 177 false):=by rintro _ _ rfl;rfl
 have uI:∀{x y:List bL},x=y->(bq.row sF x 177 true).same (bq.row sF y 177 true):=by rintro _ _ rfl;rfl
 have hrM:∀{x y:List (List bL)},x=y->(bq.row (.bF sF) x 106 false).same (bq.row (.bF sF) y 106 false):=by rintro _ _ rfl;rfl
 have lI:∀{x y:List Int},x=y->(bq.row (.i .i64) x 3 false).same (bq.row (.i .i64) y 3 false):=by rintro _ _ rfl;rfl
 have hcast:∀k:Nat,((k:Nat):Int).toNat=k:=λk=>γl k;refine⟨by omega,⟨⟨rfl,lI rfl⟩,by omega,by omega⟩,?_⟩;rintro j ⟨j0,j1⟩;have l1:=@iP j.toNat;have l2:(δ j.toNat (bu 0)).length=j.toNat:=γC;refine⟨λhj=>?_,λhj=>?_⟩
 ·have e1:dm j.toNat++[j]=dm (j+1).toNat:=by
   rw[show(j+1).toNat=j.toNat+1 by omega,sP,show((j.toNat:Nat):Int)=j by omega]
  have e2:δ j.toNat (bu 0)++[bu 0]=δ (j+1).toNat (bu 0):=by
   rw[show(j+1).toNat=j.toNat+1 by omega,List.replicate_succ']
  rw[e1,e2,iP,γC];rw[iP,γC];refine⟨rfl,?_,?_,?_,rfl,?_,?_,?_,⟨hcell rfl rfl rfl rfl rfl,uI rfl,lI rfl⟩,?_,?_⟩<;>omega
 ·rw[show j.toNat=g.length by omega];refine⟨⟨⟨hcell rfl rfl rfl rfl rfl,uI rfl,lI rfl⟩,by omega,by omega⟩,?_⟩;rintro i ⟨i0,i1⟩;have l3:(γb (λx:List bL×bL=>x.1) (Δ i.toNat rs)).length=i.toNat:=by rw[Θ,γu];omega
  have l4:(γb (λx:List bL×bL=>x.2) (Δ i.toNat rs)).length=i.toNat:=by rw[Θ,γu];omega
  have l5:(γb (λi:Int=>(g.length:Int)+i) (dm i.toNat)).length=i.toNat:=by rw[Θ,iP]
  refine⟨λhi=>?_,λhi=>?_⟩
  ·have hm:=hrr _ (dr (d:=sR.dflt) (show i.toNat<rs.length by omega));have et:=jX (d:=sR.dflt) i0 hi;have e1:γb (λx:List bL×bL=>x.1) (Δ i.toNat rs)++[(bj rs i.toNat sR.dflt).1]=γb (λx:List bL×bL=>x.1) (Δ (i+1).toNat rs):=by rw[et,γa];rfl
   have e2:γb (λx:List bL×bL=>x.2) (Δ i.toNat rs)++[(bj rs i.toNat sR.dflt).2]=γb (λx:List bL×bL=>x.2) (Δ (i+1).toNat rs):=by rw[et,γa];rfl
   have e3:γb (λi:Int=>(g.length:Int)+i) (dm i.toNat)++[(g.length:Int)+i]=γb (λi:Int=>(g.length:Int)+i) (dm (i+1).toNat):=by
    rw[show(i+1).toNat=i.toNat+1 by omega,sP,γa,show((i.toNat:Nat):Int)=i by omega];rfl
   have l6:(γb (λx:List bL×bL=>x.2) (Δ (i+1).toNat rs)).length=(i+1).toNat:=by rw[Θ,γu];omega
   have l7:(γb (λi:Int=>(g.length:Int)+i) (dm (i+1).toNat)).length=(i+1).toNat:=by rw[Θ,iP]
   refine⟨i0,hi,by omega,by omega,by omega,l3.symm,by omega,by omega,l4.symm,by omega,by omega,by omega,l5.symm,by omega,by omega,by omega,⟨hcell ?_ ?_ rfl ?_ rfl,hrM e1,hrF e2,lI e3⟩,by omega,by omega⟩;·omega
   ·exact(congrArg γc e2).trans l6
   ·exact(congrArg γc e3).trans l7
  ·have e:i.toNat=rs.length:=by omega
   rw[e,ψ];exact⟨γC.symm,rfl,rfl,rfl,rfl,rfl⟩
def r400:dH:=uC 158 Unit .nil (λ_ m t _=>kq m.toNat t) (λ_ _ _ _=> .bI [.sc (.slice none 0 0),.sb true]) (λ_ _ t _=>t)
def adO (n m:Int) (t:Tb):Nat->cE
 |3=> .inv Int (λi=>⟨[(0,.ptr 0 0 10),(4,.si .i64 (-1)),(12,.ow 2 t.bound.length 3),(13,.si .i64 t.bound.length),(14,.si .i64 i)],(bH n m t).gQ⟩)
   (λs=>iS s 14) (λi=>0<=i/\i<=m) (λi=>(m - i).toNat) λ_ _=> .look
 |_=> .look
theorem h400:ec Tryz.prog r400:=by
 refine lA (L:=[sT]) (W:=[]) r400 (λa=>adO a.1.n a.1.m a.1.t) (by simp) (by simpa using h99) ?_;rintro⟨x,u⟩ ⟨n,m,t,hx,hok,hd⟩;simp only at hx hd;subst hx;refine bO (let a:=γh .i64;let b:=bq.row;let c:=(0:Int);let d:=γZ;let e:=Ψ;let f:=(-1:Int);let w:=γO 0 0 10;let A:=a f;let E:=d 2 (bH n m t).k1 3;let k:=(bH n m t).t.bound.length;let B:=d 2 k 3;let C:=a (↑k:Int);let j:=(bH n m t).m;let y:=bp.i .u32;let g:=bH (bH n m t).n j (bH n m t).t;let l:=bq.cells [a g.n,a g.m,d 1 g.k0 1,d 2 g.k1 3,e sF g.cost,γv g.v.fst,e y g.v.snd.fst,e y g.v.snd.snd,d 3 g.k3 1,d 4 g.k4 1] 261 10 false;let o:=b sF.bF g.cj 106 false;let p:=b sF g.bound 177 false;let z:=bp.i .i64;let q:=b z g.basic 3 false;let r:=b z g.free 3 false;let h:=g.bound.length;let F:=SV.sc (Value.slice none 0 0);(((w.same w/\(γx .i64 f).same A/\E.same B/\(a (↑(bH n m t).k1:Int)).same C/\(γx .i64 0).same (a 0)/\True)/\(bq.cells [a (bH n m t).n,a j,d 1 (bH n m t).k0 1,E,e sF (bH n m t).cost,γv (bH n m t).v.fst,e y (bH n m t).v.snd.fst,e y (bH n m t).v.snd.snd,d 3 (bH n m t).k3 1,d 4 (bH n m t).k4 1] 261 10 false).same l/\(b sF.bF (bH n m t).cj 106 false).same o/\(b sF (bH n m t).bound 177 false).same p/\(b z (bH n m t).basic 3 false).same q/\(b z (bH n m t).free 3 false).same r/\True)/\c<=c/\c<=j)/\∀(x:Int),let D:=bj g.bound x.toNat sF.dflt;let G:=(D.fst,D.snd.fst,D.snd.snd);let s:=x+(1:Int);let H:=a s;let I:=decide (x<(↑k:Int));let J:=λ(u:Bool) ↦decide (jL (bV G)<c)=u;let K:=λ(u:SV) ↦cq .i64 s/\((w.same w/\u.same A/\B.same B/\C.same C/\H.same H/\True)/\l.same l/\o.same o/\p.same p/\q.same q/\r.same r/\True)/\(c<=s/\s<=j)/\(j - s).toNat<(j - x).toNat;c<=x/\x<=j->(I=true->k=h/\c<=x/\x<(↑h:Int)/\k=h/\x.toNat<h/\cC G/\(J true->(true=true->K (a x))/\(true=false->g.k1=h/\c<=f/\f<(↑h:Int)/\g.k1=h/\0<h/\False))/\(J false->K A))/\(I=false->(true=true->(SV.bI [F,δc true]).same (SV.bI [F,γv true])/\l.same l/\o.same o/\p.same p/\q.same q/\r.same r/\True)/\(true=false->False))) (by kernel_rfl) ?_;simp only[sV];try simp only[bH]
 simp only[vcs];obtain⟨⟨⟨n0,n1⟩,m0,m1⟩,hw,hz⟩:=id hok;have hbl:=hw.bound;have JO:=@fE t.bound;refine⟨⟨by omega,by omega⟩,?_⟩;rintro i ⟨i0,i1⟩;refine⟨λhi=>?_,λhi=>⟨λ_=>trivial,λh=>by cases h⟩⟩;have hB:bj (fL t.bound) i.toNat sF.dflt=bu (t.bd i.toNat):=jv (by omega);have hpos:=hd i.toNat (by omega);have hneg:¬jL (t.bd i.toNat)<0:=λh=>by have:=A7.1 h;grind
 simp only[hB,jM,eC];exact⟨by omega,i0,by omega,by omega,by omega,dP (hok.bd (by omega)) (by omega),λh=>absurd h hneg,λ_=>⟨by omega,by omega,by omega⟩⟩
def J3:dH:=uC 159 (List bL) (.one (dF sF)) (λn m t a=>∃g:List Rat,a=fL g/\g.length=n.toNat/\t.free=dm n.toNat/\∀v∈t.basic,n<=v) (λ_ _ _ _=> .bI []) (λ_ _ t a=>{t with cost:=vL a,value:=0})
def adP (n m:Int) (t:Tb) (a:List bL):Nat->cE
 |3=> .inv Int (λj=>⟨[(0,.ptr 0 0 10),(1,.row sF a),(4,.ow 5 n.toNat 3),(24,.ow 4 t.free.length 1),(25,.si .i64 t.free.length),(26,.si .i64 j)],(bH n m {t with value:=0}).gQ++[.row sF (eU a j.toNat (false,([],[]))) 177 true]⟩)
   (λs=>iS s 26) (λi=>0<=i/\i<=n) (λi=>(n - i).toNat) λ_ _=> .look
 |10=> .inv Int (λi=>⟨[(0,.ptr 0 0 10),(1,.row sF a),(4,.ow 5 n.toNat 3),(52,.ow 3 t.basic.length 1),(53,.si .i64 t.basic.length),(54,.si .i64 i)],(bH n m {t with value:=0}).gQ++[.row sF a 177 true]⟩)
   (λs=>iS s 54) (λi=>0<=i/\i<=m) (λi=>(m - i).toNat) λ_ _=> .look
 |_=> .look
theorem h401:ec Tryz.prog J3:=by
 refine lA (L:=[oC]) (W:=[]) J3 (λa=>adP a.1.n a.1.m a.1.t a.2) (by simp) (by simpa using h94) ?_;rintro⟨x,a⟩ ⟨n,m,t,hx,hok,g,ha,hgl,hfr,hbs⟩;simp only at hx ha;subst hx ha;refine bO (let a:=(0:Int);let c:=γh .i64;let d:=bq.row;let e:=γZ;let f:=(-9223372036854775808:Int);let h:=Ψ;let j:=(9223372036854775807:Int);let k:=bq.cells;let l:=γx .i64 0;let w:=(↑(bH n m t).k4:Int);let y:=γO 0 0 10;let s:=h sF (fL g);let p:=(bH n m t).n;let F:=e 5 p.toNat 3;let a0:=e 4 (bH n m t).k4 1;let r:=(bH n m t).t;let N:=r.free.length;let U:=e 4 N 1;let V:=c (↑N:Int);let z:=(bH n m t).m;let H:=bu (κ a);let A:=bp.i .u32;let o:=bH p z (Tb.mk r.cj r.bound r.cost (0:Rat) r.basic r.free);let a1:=c o.n;let a2:=c o.m;let a3:=e 1 o.k0 1;let a4:=e 2 o.k1 3;let a5:=e 3 o.k3 1;let a6:=[γv o.v.fst,h A o.v.snd.fst,h A o.v.snd.snd,a5,e 4 o.k4 1];let G:=k (a1::a2::a3::a4::h sF o.cost::a6) 261 10 false;let B:=d sF.bF o.cj 106 false;let C:=d sF o.bound 177 false;let I:=bp.i .i64;let J:=o.basic;let D:=d I J 3 false;let E:=d I o.free 3 false;let R:=(false,[],[]);let S:=o.free.length;let z29:Nat:=(fL g).length;let O:=r.basic.length;let W:=e 3 O 1;let X:=c (↑O:Int);let Y:=d sF (fL g) 177 true;let q:=bH p z (Tb.mk r.cj r.bound (vL (fL g)) (0:Rat) r.basic r.free);(f<=a/\a<=j)/\a<=w/\w<=w/\w*(56:Int)<=(140737488355328:Int)/\w<=(1000000000000:Int)/\(((y.same y/\s.same s/\(e 5 w.toNat 3).same F/\a0.same U/\(c w).same V/\(l).same (c 0)/\True)/\(k [c p,c z,e 1 (bH n m t).k0 1,e 2 (bH n m t).k1 3,h sF (bH n m t).cost,γv H.fst,h A H.snd.fst,h A H.snd.snd,e 3 (bH n m t).k3 1,a0] 261 10 false).same G/\(d sF.bF (bH n m t).cj 106 false).same B/\(d sF (bH n m t).bound 177 false).same C/\(d I (bH n m t).basic 3 false).same D/\(d I (bH n m t).free 3 false).same E/\(d (bp.b.pair (A.bF.pair A.bF)) (δ w.toNat R) 177 true).same (d sF (eU (fL g) 0 R) 177 true)/\True)/\a<=a/\a<=p)/\∀(x:Int),let K:=x+(1:Int);let a7:=c K;let a8:=decide (x<(↑N:Int));let L:=eU (fL g) x.toNat R;let P:=bj o.free x.toNat a;let a9:=decide (P<o.n);let M:=L.set x.toNat (H.fst,H.snd.fst,H.snd.snd);let Z:=bj (fL g) P.toNat sF.dflt;let aa:=λ(u:List (Bool×List Int×List Int)) ↦cq .i64 K/\((y.same y/\s.same s/\F.same F/\U.same U/\V.same V/\a7.same a7/\True)/\G.same G/\B.same B/\C.same C/\D.same D/\E.same E/\(d sF u 177 true).same (d sF (eU (fL g) K.toNat R) 177 true)/\True)/\(a<=K/\K<=p)/\(p - K).toNat<(p - x).toNat;a<=x/\x<=p->(a8=true->N=S/\a<=x/\x<(↑S:Int)/\N=S/\x.toNat<S/\(f<=a/\a<=j)/\p.toNat=L.length/\a<=x/\x<(↑L.length:Int)/\p.toNat=L.length/\x.toNat<L.length/\(a9=true->a<=P/\P<(↑z29:Int)/\P.toNat<z29/\p.toNat=M.length/\a<=x/\x<(↑M.length:Int)/\p.toNat=M.length/\x.toNat<M.length/\aa (M.set x.toNat (Z.fst,Z.snd.fst,Z.snd.snd)))/\(a9=false->aa M))/\(a8=false->(((y.same y/\s.same s/\F.same F/\a5.same W/\(c (↑o.k3:Int)).same X/\(l).same (c 0)/\True)/\G.same G/\B.same B/\C.same C/\D.same D/\E.same E/\(d sF L 177 true).same Y/\True)/\a<=a/\a<=z)/\∀(x:Int),let ab:=decide (x<(↑O:Int));let T:=bj J x.toNat a;let ac:=decide (o.n<=T);let Q:=x+(1:Int);let ad:=c Q;a<=x/\x<=z->(ab=true->O=J.length/\a<=x/\x<(↑J.length:Int)/\O=J.length/\x.toNat<J.length/\(ac=true->cq .i64 Q/\((y.same y/\s.same s/\F.same F/\W.same W/\X.same X/\ad.same ad/\True)/\G.same G/\B.same B/\C.same C/\D.same D/\E.same E/\Y.same Y/\True)/\(a<=Q/\Q<=z)/\(z - Q).toNat<(z - x).toNat)/\(ac=false->a<=T/\T<(↑z29:Int)/\T.toNat<z29/\False))/\(ab=false->p.toNat=z29/\(SV.bI []).same (SV.bI [])/\(k (a1::a2::a3::a4::s::a6) 261 10 false).same (k [c q.n,c q.m,e 1 q.k0 1,e 2 q.k1 3,h sF q.cost,γv q.v.fst,h A q.v.snd.fst,h A q.v.snd.snd,e 3 q.k3 1,e 4 q.k4 1] 261 10 false)/\B.same (d sF.bF q.cj 106 false)/\C.same (d sF q.bound 177 false)/\D.same (d I q.basic 3 false)/\E.same (d I q.free 3 false)/\True))) (by kernel_rfl) ?_;simp only[sV];try simp only[bH]
 simp only[vcs];obtain⟨⟨⟨n0,n1⟩,m0,m1⟩,hw,hz⟩:=id hok;have hbb:=hw.basic;have hfl:=hw.free;have hfg:=@fE g;have h0:(κ 0:Rat)=0:=rfl;have hrow:∀{x y:List bL},x=y->(bq.row sF x 177 true).same (bq.row sF y 177 true):=by rintro _ _ rfl;rfl
 simp only[h0,jM];refine⟨by omega,by omega,by omega,by omega,by omega,⟨⟨?_,?_,?_⟩,by omega,by omega⟩,?_⟩;·rw[hfl];rfl
 ·rfl
 ·exact hrow (by rw[yx,hfg,hgl,hfl];rfl)
 rintro j ⟨j0,j1⟩;have oV:=@yw (fL g) j.toNat (false,([],[])) (by omega);refine⟨λhj=>?_,λhj=>?_⟩
 ·have hv:bj t.free j.toNat 0=j:=by rw[hfr,JW (by omega)];omega
  rw[hv];have hset:((eU (fL g) j.toNat (false,([],[]))).set j.toNat (bu 0)).set j.toNat (bj (fL g) j.toNat sF.dflt)=eU (fL g) (j+1).toNat (false,([],[])):=by
   have e:=yA (d:=fL g) (j:=j.toNat) (z:=(false,([],[]))) (x:=bj (fL g) j.toNat sF.dflt) (by omega) rfl;rw[List.set_set,show(j+1).toNat=j.toNat+1 by omega];exact e
  rw[Φ];exact⟨j0,by omega,by omega,by omega,by omega,j0,by omega,by omega,by omega,λ_=>⟨j0,by omega,by omega,by omega,j0,by omega,by omega,by omega,by omega,hrow hset,by omega,by omega⟩,λh=>(h (by omega)).elim⟩
 ·have e:j.toNat=(fL g).length:=by omega
  rw[e,yz];refine⟨⟨hrow rfl,by omega,by omega⟩,?_⟩;rintro i ⟨i0,i1⟩;refine⟨λhi=>⟨i0,hi,by omega,λ_=>⟨by omega,by omega,by omega⟩,λh=>absurd (hbs _ (dr (by omega))) h⟩,λhi=>⟨by omega,?_⟩⟩;rw[kN];rfl
abbrev Lp:=List Rat×List (List Rat×Rat)
def iJ (a:Lp):sW:=(fL a.1,a.2.map λr=>(fL r.1,bu r.2))
def ln (a:Lp):Tb:=⟨a.2.map (·.1),a.2.map (·.2),a.1,0,(dm a.2.length).map λi=>a.1.length+i,dm a.1.length⟩
def rH (a:Lp):Tb:={ln a with cost:=δ a.1.length 0}
theorem adQ {a:Lp}:Ba (iJ a)=bH a.1.length a.2.length (rH a):=by
 unfold Ba iJ bH rH ln;simp_all[iP,fM,fL]
structure Bc (a:Lp):Prop where
 n:a.1.length<=160
 m:a.2.length<=40
 small:∃M G,Small a.1.length a.2.length M G (ln a)
 yi:kq a.2.length (ln a)
 bnd:∃B,∀x z,(ln a).holds a.1.length a.2.length x z->(∀v∈(ln a).basic++(ln a).free,0<=x v)->z<=B
noncomputable def nL (a:Lp):Tb:=lastT a.1.length a.2.length (ln a)
theorem adS {a:Lp} (h:Bc a):okO a.1.length a.2.length (ln a):=by
 obtain⟨M,G,b⟩:=h.small;exact⟨ln a,M,G,b,Run.refl b.wf b.nd,h.yi⟩
theorem adT {a:Lp} (h:Bc a):Run a.1.length a.2.length (ln a) (nL a)/\kq a.2.length (nL a)/\eD (nL a) a.1.length<0:=by
 obtain⟨M,G,c⟩:=h.small;obtain⟨B,d⟩:=h.bnd;have b:=Run.refl c.wf c.nd;have:=JU b h.yi;exact⟨this.1,this.2.1,Tt b h.yi d⟩
noncomputable def J4:bM:=⟨133,sW,.one yC,λx=>∃a:Lp,x=iJ a/\Bc a,λx=>
 let a:Lp:=(vL x.1,x.2.map λr=>(vL r.1,bV r.2));.bI [.agg [.si .i64 1,.sb (bu (nL a).value).1,.row (.i .u32) (bu (nL a).value).2.1,.row (.i .u32) (bu (nL a).value).2.2,.row sF (fL (gp (nL a) a.1.length a.2.length)),.row sF (fL (jw (nL a) a.1.length a.2.length a.1.length)),.row sF []],.si .i64 0]⟩
theorem adU {a:Lp}:((vL (iJ a).1,(iJ a).2.map λr=>(vL r.1,bV r.2)):Lp)=a:=by
 obtain⟨g,b⟩:=a;unfold iJ;simp only[kN,γ4];congr 1;conv=>rhs;rw[<-List.map_id b]
 refine List.map_congr_left λr _=>?_;grind[kN,eC]
theorem adV {a:Lp}:((iJ a).1,(iJ a).2)=iJ a:=rfl
theorem TR {a:Lp}:vL (iJ a).1=a.1:=kN _
theorem TS {a:Lp}:(iJ a).2.map (λr=>(vL r.1,bV r.2))=a.2:=congrArg Prod.snd (@adU a)
theorem adW {a:Lp}:({cj:=(rH a).cj,bound:=(rH a).bound,cost:=a.1,value:=0,basic:=(rH a).basic,free:=(rH a).free}:Tb)=ln a:=rfl
theorem adX {a:Lp}:(iJ a).1.length=a.1.length:=fE
theorem adY {a:Lp}:(iJ a).2.length=a.2.length:=Θ _
theorem TT {q:Rat} (h:Sz 1000000 q):iW (bu q)/\okF (bu q)=true:=by
 obtain⟨g,⟨a,_,c⟩,⟨b,_,e⟩⟩:=mj q;obtain⟨d,f⟩:=pn h;refine⟨⟨⟨a,b⟩,by omega,by omega⟩,?_⟩;grind[okF,eC]
theorem adZ {o:Store} {d:Nat} {acc:List Nat} {l:List bL}:cQ o d (γb (λx:bL=>dO bp.b x.1++dO ((bp.i .u32).bF.pair (bp.i .u32).bF) x.2) l).flatten acc=acc:=zU λa c=>ni (s:=sF) (l:=l) c
theorem ad1 {o:Store} {d:Nat} {acc:List Nat} {l:List (List bL)}:cQ o d (γb (λx:List bL=>[ζX (γc x) (ζ0 (dO sF) x)]) l).flatten acc=acc:=zU λa b=>ni (s:=sF.bF) (l:=l) b
theorem ad2 {o:Store} {d:Nat} {acc:List Nat} {l:List Int}:cQ o d (γb (λx:Int=>γb δe (dx (bp.i .i64) x)) l).flatten acc=acc:=zU λa b=>ni (s:=bp.i .i64) (l:=l) b
theorem h395:Holds Tryz.prog J4:=by
 refine ZL (L:=[J1]) (W:=gK [J2,r400,J3,JZ,Ew,Ey]) J4 (λf=>Nat.beq f Ew.f||Nat.beq f Ey.f) lk (kZ (by simpa using⟨h399,h400,h401,h402,h403,h405⟩)) (by simpa using h398) ?_;rintro x ⟨a,hx,hok⟩;subst hx;refine bO (let c:=Ψ;let d:=bq.row;let e:=γh .i64;let f:=γZ;let h:=bq.cells;let j:=γx .i64;let k:=(0:Int);let l:=γv;let o:=δc false;let p:=SV.agg;let q:=SV.bI;let B:=(iJ a).fst;let C:=(iJ a).snd;let J:=h [c sF B,c sR C] 217 2 false;let Q:=j 0;let a1:=Value.slice none 0 0;let G:=SV.sc a1;let K:=h [Q,o,G,G,G,G,G] 221 7 false;let L:=Ba (B,C);let D:=bH L.n L.m L.t;let E:=bH D.n D.m (Tb.mk D.t.cj D.t.bound (vL B) (0:Rat) D.t.basic D.t.free);let a2:=lastT E.n.toNat E.m.toNat E.t;let s:=bH E.n E.m a2;let y:=bp.i .u32;let M:=s.v.snd.fst;let N:=s.v.snd.snd;let w:=bH s.n s.m s.t;let R:=w.v.snd.fst;let S:=w.v.snd.snd;let a3:=h [e w.n,e w.m,f 3 w.k0 1,f 4 w.k1 3,c sF w.cost,l w.v.fst,c y R,c y S,f 5 w.k3 1,f 6 w.k4 1] 261 10 false;let a4:=d sF.bF w.cj 106 false;let a5:=d sF w.bound 177 false;let z:=bp.i .i64;let a6:=d z w.basic 3 false;let a7:=d z w.free 3 false;let F:=c z [];let U:=γb (λ(r:List bL×bL) ↦(vL r.fst,bV r.snd)) C;let H:=nL (vL B,U);let z31:Nat:=(vL B).length;let a8:=e 0;let a9:=q [p [e 1,l (bu H.value).fst,c y (bu H.value).snd.fst,c y (bu H.value).snd.snd,c sF (fL (gp H z31 U.length)),c sF (fL (jw H z31 U.length z31)),c sF []],a8];let A:=bH w.n w.m w.t;let aa:=bR.cells [ζX B.length (γb (λ(x:sF.T) ↦dO bp.b x.fst++dO (y.bF.pair y.bF) x.snd) B).flatten,ζX C.length (γb (λ(x:sR.T) ↦dO sF.bF x.fst++dO sF x.snd) C).flatten] 217 2 false;let I:=δe a1;let ab:=bR.cells [δe (Value.int .i64 k),δe (Value.bool false),I,I,I,I,I] 221 7 false;let ac:=(γb (λ(x:sF.bF.T) ↦[ζX (γc x) (ζ0 (dO sF) x)]) s.cj).flatten;let ad:=(γb (λ(x:sF.T) ↦dO bp.b x.fst++dO (y.bF.pair y.bF) x.snd) s.bound).flatten;let ae:=(γb (λ(x:z.T) ↦γb δe (dx z x)) s.basic).flatten;let af:=(γb (λ(x:z.T) ↦γb δe (dx z x)) s.free).flatten;let O:=[aa,ab,bR.cells [δe (Value.int .i64 s.n),δe (Value.int .i64 s.m),ζ9 3 0 s.k0 (s.k0*1),ζ9 4 0 s.k1 (s.k1*3),ζX s.cost.length (γb (λ(x:sF.T) ↦dO bp.b x.fst++dO (y.bF.pair y.bF) x.snd) s.cost).flatten,δe (Value.bool s.v.fst),ζX M.length (γb (λ(x:y.T) ↦γb δe (dx y x)) M).flatten,ζX N.length (γb (λ(x:y.T) ↦γb δe (dx y x)) N).flatten,ζ9 5 0 s.k3 (s.k3*1),ζ9 6 0 s.k4 (s.k4*1)] 261 10 false,bR.cells ac 106 1 false,bR.cells ad 177 3 false,bR.cells ae 3 1 false,bR.cells af 3 1 false];let ag:=[2,3];let V:=cQ O (nat_lit 396) ac ag;let W:=if ζH 4 V=true then V else cQ O (nat_lit 395) ad (V++[4]);let X:=if ζH 5 W=true then W else cQ O (nat_lit 390) ae (W++[5]);let ah:=(γb (λ(x:sF.bF.T) ↦[ζX (γc x) (ζ0 (dO sF) x)]) w.cj).flatten;let ai:=(γb (λ(x:sF.T) ↦dO bp.b x.fst++dO (y.bF.pair y.bF) x.snd) w.bound).flatten;let aj:=(γb (λ(x:z.T) ↦γb δe (dx z x)) w.basic).flatten;let ak:=(γb (λ(x:z.T) ↦γb δe (dx z x)) w.free).flatten;let P:=[aa,ab,bR.cells [δe (Value.int .i64 w.n),δe (Value.int .i64 w.m),ζ9 3 0 w.k0 (w.k0*1),ζ9 4 0 w.k1 (w.k1*3),ζX w.cost.length (γb (λ(x:sF.T) ↦dO bp.b x.fst++dO (y.bF.pair y.bF) x.snd) w.cost).flatten,δe (Value.bool w.v.fst),ζX R.length (γb (λ(x:y.T) ↦γb δe (dx y x)) R).flatten,ζX S.length (γb (λ(x:y.T) ↦γb δe (dx y x)) S).flatten,ζ9 5 0 w.k3 (w.k3*1),ζ9 6 0 w.k4 (w.k4*1)] 261 10 false,bR.cells ah 106 1 false,bR.cells ai 177 3 false,bR.cells aj 3 1 false,bR.cells ak 3 1 false];let Y:=cQ P (nat_lit 396) ah ag;let Z:=if ζH 4 Y=true then Y else cQ P (nat_lit 395) ai (Y++[4]);let a0:=if ζH 5 Z=true then Z else cQ P (nat_lit 390) aj (Z++[5]);let al:=J.same J/\K.same K/\(h [e s.n,e s.m,f 3 s.k0 1,f 4 s.k1 3,c sF s.cost,l s.v.fst,c y M,c y N,f 5 s.k3 1,f 6 s.k4 1] 261 10 false).same a3/\(d sF.bF s.cj 106 false).same a4/\(d sF s.bound 177 false).same a5/\(d z s.basic 3 false).same a6/\(d z s.free 3 false).same a7/\True;let am:=∃(n:Int),∃(m:Int),∃(t:Tb),s=bH n m t/\kO n m t/\∀(v:Int),v∈t.basic->k<=v;let an:=λ(u:Bool) ↦(!decide (eD a2 E.n.toNat<k))=u;let ao:=λ(u:Int) (u_1:SV) ↦false=true->(q [p [j u,o,F,F,F,F,F],u_1]).same a9;((B.length<=160/\C.length<=40)/\(∀(x:bL),x∈B->iW x/\okF x=true)/\∀(r:List bL×bL),r∈C->r.fst.length=B.length/\(∀(x:bL),x∈r.fst->iW x/\okF x=true)/\iW r.snd/\okF r.snd=true)/\ao k a8/\(false=false->(B.length<=1000/\C.length<=1000/\∀(r:List bL×bL),r∈C->r.fst.length<=1000)/\(∃(n:Int),∃(m:Int),∃(t:Tb),L=bH n m t/\kO n m t/\kq m.toNat t)/\ao (2:Int) Q/\(false=false->(∃(n:Int),∃(m:Int),∃(t:Tb),D=bH n m t/\kO n m t/\∃(g:List Rat),B=fL g/\g.length=n.toNat/\t.free=dm n.toNat/\∀(v:Int),v∈t.basic->n<=v)/\(∃(n:Int),∃(m:Int),∃(t:Tb),E=bH n m t/\kO n m t/\okO n.toNat m.toNat t)/\(an true->am/\al/\False)/\(an false->am/\al/\(∃(n:Int),∃(m:Int),∃(t:Tb),w=bH n m t/\kO n m t/\True)/\(J.same J/\K.same K/\a3.same (h [e A.n,e A.m,f 3 A.k0 1,f 4 A.k1 3,c sF A.cost,l A.v.fst,c y A.v.snd.fst,c y A.v.snd.snd,f 5 A.k3 1,f 6 A.k4 1] 261 10 false)/\a4.same (d sF.bF A.cj 106 false)/\a5.same (d sF A.bound 177 false)/\a6.same (d z A.basic 3 false)/\a7.same (d z A.free 3 false)/\True)/\if(((if ζH 6 X=true then X else cQ O (nat_lit 389) af (X++[6])).all λ(i:Nat) ↦decide (i<7))&&(((if ζH 6 a0=true then a0 else cQ P (nat_lit 389) ak (a0++[6])).all λ(i:Nat) ↦decide (i<7))&&true))=true then(q [p [j 1,l s.v.fst,c y M,c y N,c sF (fL (gp s.t s.n.toNat s.m.toNat)),c sF (fL (jw w.t w.n.toNat w.m.toNat w.n.toNat)),F],Q]).same a9 else False)))) (by kernel_rfl) ?_;simp only[adV,adQ,sV,S8,S9,TR,TS,adW,adX,adY,γl];try simp only[vcs]
 obtain⟨M,G,hs⟩:=hok.small;obtain⟨r1,r2,r3⟩:=adT hok;have hw:=hs.wf;have hz:=hs.wu (Run.refl hs.wf hs.nd);have hn:=hok.n;have hm:=hok.m;have hO:=adS hok;have k1:kO a.1.length a.2.length (ln a):=⟨⟨by omega,by omega⟩,by simpa using hw,hz⟩;have k0:kO a.1.length a.2.length (rH a):=by
  refine⟨⟨by omega,by omega⟩,⟨hw.cj,hw.row,hw.bound,by simp[rH],hw.basic,hw.free⟩,hz.1,hz.2.1,λq hq=>?_,hz.2.2.2⟩;rw[(List.mem_replicate.1 hq).2];exact hz.2.2.2
 have k2:kO a.1.length a.2.length (nL a):=Tf hs (by simpa using r1) (by omega) (by omega);have hl:lastT a.1.length a.2.length (ln a)=nL a:=rfl;have J5:((a.1,a.2):Lp)=a:=rfl;simp only[hl,J5,adZ,ad1,ad2];have mem2:∀i,i<a.2.length->bj a.2 i ([],0)∈a.2:=λi hi=>dr hi;have hrow:∀r∈a.2,r.1.length=a.1.length/\(∀q∈r.1,Sz 1000000 q)/\Sz 1000000 r.2:=λr hr=>by
  obtain⟨i,hi,rfl⟩:=γI hr;have h1:=hw.row i hi;have e:bj (ln a).cj i []=a.2[i].1:=by
   show bj (a.2.map (·.1)) i []=_;rw[cY (by rw[Θ];exact hi),δA]
  rw[e] at h1;refine⟨h1,hz.1 _ (Ω.2 ⟨a.2[i],hr,rfl⟩),hz.2.1 _ (Ω.2 ⟨a.2[i],hr,rfl⟩)⟩
 have hg:∀q∈a.1,Sz 1000000 q:=hz.2.2.1;have hF:∀{l:List Rat},(∀q∈l,Sz 1000000 q)->∀x∈fL l,iW x/\okF x=true:=λh x hx=>by
  obtain⟨q,hq,rfl⟩:=Ω.1 hx;exact TT (h q hq)
 have hdg:(∀x∈(iJ a).1,iW x/\okF x=true)/\∀r∈(iJ a).2,r.1.length=a.1.length/\(∀x∈r.1,iW x/\okF x=true)/\iW r.2/\okF r.2=true:=by
  refine⟨hF hg,λr hr=>?_⟩;obtain⟨r0,hr0,rfl⟩:=Ω.1 hr;obtain⟨h1,h2,h3⟩:=hrow r0 hr0;exact⟨by rw[<-h1];exact fE,hF h2,TT h3⟩
 have hb0:∀v∈(nL a).basic,0<=v:=λv hv=>by
  have:=r1.perm.mem_iff.1 (εm _ hv);simp only[ln,γk,Ω,kK] at this;rcases this with⟨i,hi,rfl⟩|h;·omega
  ·exact h.1
 have hbn:∀v∈(rH a).basic,(a.1.length:Int)<=v:=λv hv=>by
  simp only[rH,ln,Ω,kK] at hv;obtain⟨i,hi,rfl⟩:=hv;omega
 refine⟨⟨⟨hn,hm⟩,hdg.1,hdg.2⟩,λh=>(by cases h),λ_=>⟨⟨by omega,by omega,λr hr=>by have:=(hdg.2 r hr).1;omega⟩,⟨_,_,_,rfl,k0,by rw[γl];exact hok.yi⟩,λh=>(by cases h),λ_=>⟨⟨_,_,_,rfl,k0,a.1,rfl,by simp,rfl,hbn⟩,⟨_,_,_,rfl,k1,by simpa using hO⟩,λh=>absurd r3 h,λ_=>⟨⟨_,_,_,rfl,k2,hb0⟩,⟨_,_,_,rfl,k2⟩,?_⟩⟩⟩⟩;rw[if_pos (by decide)];rfl
theorem Bd {f:List Int} {d:Int} {i:Int} (h:0<=i) (c:i<f.length):bD (f.take (i+1).toNat) d=bD (f.take i.toNat) d++if bj f i.toNat 0=d then[i] else[]:=by
 have a:(f.take (i+1).toNat).length=i.toNat+1:=by grind
 have b:(f.take i.toNat).length=i.toNat:=by grind
 unfold bD;rw[a,b,sP,List.filter_append];have e:∀{k:Nat} {m:Nat},k<m->m<=f.length->bj (f.take m) k 0=bj f k 0:=λ{k m} c j=>by
  grind[cY]
 congr 1
 ·refine List.filter_congr λx g=>?_;grind[kK]
 grind
def jN (f:List Int):Bool:=f.all λx=>decide (-1<=x)&&decide (x<=1)
def je (p:bn) (f:List Int):Int:=if bz p≠0 then bz p else if f.length≠p.offers.length then 3 else if jN f=true then 0 else 4
def Ez:bM:=⟨131,bn×List Int,.cons dK (.one (dF (.i .i64))),λa=>a.2.length<=1000000000000,λa=> .si .i64 (je a.1 a.2)⟩
def ad3 (p:bn) (f:List Int):Nat->cE
 |7=> .inv Int (λi=>⟨[(19,.row (.i .i64) f),(20,.si .i64 f.length),(21,.si .i64 i)],[.cells p.ss 27 20 false]⟩)
   (λs=>iS s 21) (λi=>(0<=i/\i<=f.length)/\jN (f.take i.toNat)=true) (λi=>(f.length - i).toNat) λ_ _=> .look
 |_=> .look
theorem h393:Holds Tryz.prog Ez:=by
 refine cF (L:=[o7]) Ez (λa=>ad3 a.1 a.2) (by grind[h79]) ?_;rintro⟨p,f⟩ (D:f.length<=1000000000000);refine bO (let a:=γh .i64;let d:=(0:Int);let g:=γx .i64;let v:=decide (bz p≠d);let e:=a (je p f);let q:=(↑f.length:Int);let r:=decide (q≠(↑p.offers.length:Int));let n:=Ψ (bp.i .i64) f;let c:=(↑f.length:Int);let o:=a c;let w:=g 0;let m:=bq.cells (bn.ss p) 27 20 false;True/\(v=true->(a (bz p)).same e)/\(v=false->(r=true->(g 3).same e)/\(r=false->(((n.same n/\(a q).same o/\w.same (a 0)/\True)/\m.same m/\True)/\(d<=d/\d<=c)/\jN []=true)/\∀(x:Int),let s:=bj f x.toNat d;let l:=decide (s<(-1:Int));let j:=decide ((1:Int)<s);let b:=x+(1:Int);let k:=a b;(d<=x/\x<=c)/\jN (Δ x.toNat f)=true->(decide (x<c)=true->d<=x/\x<q/\x.toNat<f.length/\(l=true->(g 4).same e)/\(l=false->(j=true->(g 4).same e)/\(j=false->cq .i64 b/\((n.same n/\o.same o/\k.same k/\True)/\m.same m/\True)/\((d<=b/\b<=c)/\jN (Δ b.toNat f)=true)/\(c - b).toNat<(c - x).toNat)))/\(decide (x<c)=false->w.same e)))) (by kernel_rfl) ?_;simp only[vcs];refine⟨λh=>by simp[je,h],λh=>?_⟩;have F:bz p=0:=Classical.not_not.1 h;refine⟨λy=>by
  grind[je],λy=>⟨⟨⟨by omega,by omega⟩,rfl⟩,?_⟩⟩;have u:f.length=p.offers.length:=by omega
 rintro i ⟨⟨A,G⟩,g⟩;refine⟨λt=>?_,λt=>?_⟩
 ·have B:=dr (d:=0) (show i.toNat<f.length by omega);have H:=jX (d:=0) A t;have z:¬(-1<=bj f i.toNat 0/\bj f i.toNat 0<=1)->(4:Int)=je p f:=λE=>by
   have:jN f=false:=by
    rw[Bool.eq_false_iff];intro C;have:=φ.1 C _ B;grind
   grind[je]
  grind[jN]
 ·rw[show i.toNat=f.length by omega,ψ] at g;grind[je]
def gA (p:bn) (f:List Int):Int:=cJ ((bD f 1).map (oI p))
theorem Be {p:bn} (c:bz p=0) {f:List Int} {k:Nat} (g:f.length=p.offers.length):0<=gA p (f.take k)/\gA p (f.take k)<=160000000:=by
 have a:=dQ c;have e:=@uH (f.take k) 1;have h:(f.take k).length<=f.length:=by grind
 have j:=@sJ p a ((bD (f.take k) 1).map (oI p)) λx b=>by
  obtain⟨i,d,rfl⟩:=Ω.1 b;have:=(kP.1 d).1;exact dr (by omega)
 have l:=a.2.1;grind[gA]
theorem TU {p:bn} {f:List Int} {i:Int} (b:0<=i) (a:i<f.length):gA p (f.take (i+1).toNat)=gA p (f.take i.toNat)+if bj f i.toNat 0=1 then(oI p i).value else 0:=by
 unfold gA;rw[Bd b a,γa,pN];grind[cJ]
def jO (p:bn) (f:List Int):Lp:=((cH p f).cost,(dm (mF p)).map λr=>((bD f 0).map λi=>((dW p r (oI p i):Int):Rat),((dj p r - cT p ((bD f 1).map (oI p)) r:Int):Rat)))
theorem EA {p:bn} {f:List Int}:ln (jO p f)=cH p f:=by
 simp_all[ln,jO,cH,dm]
def mq (p:bn) (f:List Int) (j:Nat):List bL:=fL (((bD f 0).take j).map λi=>(((oI p i).value:Int):Rat))
def nM (p:bn) (f:List Int) (r:Int) (j:Nat):List bL:=fL (((bD f 0).take j).map λi=>((dW p r (oI p i):Int):Rat))
def nN (p:bn) (f:List Int) (k:Nat):List (List bL×bL):=(dm k).map λr=>(nM p f r (bD f 0).length,bu ((dj p r - cT p ((bD f 1).map (oI p)) r:Int):Rat))
theorem TV {p:bn} {f:List Int}:mq p f (bD f 0).length=(iJ (jO p f)).1:=by
 unfold mq;rw[ψ];rfl
theorem TW {p:bn} {f:List Int}:nN p f (mF p)=(iJ (jO p f)).2:=by
 simp_all[nN,iJ,jO,nM]
theorem J6 {p:bn} {f:List Int} {j:Nat} (h:j<=(bD f 0).length):(mq p f j).length=j:=by
 grind[mq,fE]
theorem TX {p:bn} {f:List Int} {r:Int} {j:Nat} (h:j<=(bD f 0).length):(nM p f r j).length=j:=by
 grind[nM,fE]
theorem TY {p:bn} {f:List Int} {k:Nat}:(nN p f k).length=k:=by
 grind[nN,iP]
theorem T0 {l m:List Rat}:fL (l++m)=fL l++fL m:=γa
theorem ad4 {p:bn} {f:List Int} {j:Int} (a:0<=j) (h:j<(bD f 0).length):mq p f (j+1).toNat=mq p f j.toNat++[bu (((oI p (bj (bD f 0) j.toNat 0)).value:Int):Rat)]:=by
 unfold mq;rw[jX (d:=0) a h,γa,T0];rfl
theorem ad5 {p:bn} {f:List Int} {r j:Int} (a:0<=j) (h:j<(bD f 0).length):nM p f r (j+1).toNat=nM p f r j.toNat++[bu ((dW p r (oI p (bj (bD f 0) j.toNat 0)):Int):Rat)]:=by
 unfold nM;rw[jX (d:=0) a h,γa,T0];rfl
theorem ad6 {p:bn} {f:List Int} {r:Int} (a:0<=r):nN p f (r+1).toNat=nN p f r.toNat++[(nM p f r (bD f 0).length,bu ((dj p r - cT p ((bD f 1).map (oI p)) r:Int):Rat))]:=by
 unfold nN;rw[show(r+1).toNat=r.toNat+1 by omega,sP,γa,show((r.toNat:Nat):Int)=r by omega];rfl
def hJ (p:bn) (f:List Int):Bool:=gk p ((bD f 1).map (oI p))
def mP (p:bn) (f:List Int):List bL×(List (List bL×bL)×List Int):=if hJ p f=true then((iJ (jO p f)).1,((iJ (jO p f)).2,bD f 0)) else([],([],[]))
theorem ad7 {p:bn} {f:List Int} (h:eV p f):Bc (jO p f):=by
 have a:=dQ h.1;have c:(jO p f).1.length=nF f:=by
  show((bD f 0).map _).length=_;simp_all
 have b:(jO p f).2.length=mF p:=by
  show((dm (mF p)).map _).length=_;grind[iP]
 have g:=@uH f 0;have i:mF p=p.classes.length+12:=rfl;refine⟨?_,?_,?_,?_,?_⟩;·rw[c];have:=h.2.1;have:=a.2.1;grind
 ·rw[b];have:=a.1;omega
 ·grind[EA,En]
 ·grind[EA,JY]
 ·rw[c,b,EA];exact⟨_,λx z d e=>TC h d e⟩
theorem ad8 {p:bn} {f:List Int}:nL (jO p f)=dy p f:=by
 have b:(jO p f).1.length=nF f:=by
  show((bD f 0).map _).length=_;simp_all
 have a:(jO p f).2.length=mF p:=by
  show((dm (mF p)).map _).length=_;grind[iP]
 grind[nL,dy,EA]
noncomputable def j3 (p:bn) (f:List Int) (k:Nat):List Rat:=(dm f.length).map λi=>if bj f i.toNat 0=1 then 1 else if i∈(bD f 0).take k then bj (gp (dy p f) (nF f) (mF p)) ((bD f 0).idxOf i) 0 else 0
noncomputable def jf (p:bn) (f:List Int):Rat:=((gA p f:Int):Rat)+(dy p f).value
noncomputable def iC (p:bn) (f:List Int):List Rat:=jw (dy p f) (nF f) (mF p) (nF f)
theorem yD {p:bn} {f:List Int} {k:Nat}:(j3 p f k).length=f.length:=by
 grind[j3,iP]
theorem EB {p:bn} {f:List Int} {k i:Nat} (h:i<f.length):bj (j3 p f k) i 0=if bj f i 0=1 then 1 else if(i:Int)∈(bD f 0).take k then bj (gp (dy p f) (nF f) (mF p)) ((bD f 0).idxOf (i:Int)) 0 else 0:=by
 unfold j3;rw[JV (e:=0) (by grind[iP]),JW h,γl]
theorem ad9 {l m:List Rat} (a:l.length=m.length) (h:∀i,i<m.length->bj l i 0=bj m i 0):l=m:=γ8 a λi b c=>by
 grind[cY]
theorem aea {p:bn} {f:List Int} {k:Nat} (b:k<nF f):(j3 p f k).set (bj (bD f 0) k 0).toNat (bj (gp (dy p f) (nF f) (mF p)) k 0)=j3 p f (k+1):=by
 have g:=kP.1 (dr (d:=0) b);refine ad9 (by grind[yD]) λi a=>?_;rw[yD] at a;have c:(bD f 0).idxOf (bj (bD f 0) k 0)=k:=pg (uG.imp λh=>by omega) b;have e:(bD f 0).take (k+1)=(bD f 0).take k++[bj (bD f 0) k 0]:=by simp_all[cY]
 rw[iT (by grind[yD]),EB a,EB a,e];grind
theorem aeb {p:bn} {f:List Int} {i:Nat} (h:i<f.length):bj (j3 p f 0) i 0=if bj f i 0=1 then 1 else 0:=by
 grind[EB]
def j4 (p:bn) (f:List Int):Bool:=decide (je p f=0)&&hJ p f
noncomputable def kr (p:bn) (f:List Int):bL:=if j4 p f=true then bu (jf p f) else(false,([],[]))
noncomputable def qK (p:bn) (f:List Int):List bL:=if j4 p f=true then fL (iC p f) else[]
noncomputable def ku (p:bn) (f:List Int):List bL:=if j4 p f=true then fL (j3 p f (nF f)) else[]
noncomputable def aec (p:bn) (f:List Int):SV:=.agg [.sb (j4 p f),.sb (kr p f).1,.row (.i .u32) (kr p f).2.1,.row (.i .u32) (kr p f).2.2,.row sF (qK p f),.row sF (ku p f)]
theorem J7 {t:List Int} {g:Int->Int}:∀{l:List Int},((l.filter λx=>decide (x∈t)).map g).sum=(l.map λx=>if x∈t then g x else 0).sum
 |[]=>rfl
 |x::l=>by
  simp only[List.filter_cons,π,εZ];by_cases h:x∈t;·rw[if_pos (decide_eq_true h),if_pos h,π,εZ,J7]
  ·rw[if_neg (by simpa using h),if_neg h,J7];omega
theorem J8 {t:List Int} {g:Int->Int}:∀{l:List Int},mg (λx=>((g x:Int):Rat)*(if x∈t then 1 else 0)) l=(((l.map λx=>if x∈t then g x else 0).sum:Int):Rat)
 |[]=>rfl
 |x::l=>by
  have:=@J8 t g l;simp only[mg,this,π,εZ,Rat.intCast_add];congr 1;split<;>simp_all
theorem J9 {p:bn}:∀{l:List Int},cJ (l.map (oI p))=(l.map λi=>(oI p i).value).sum
 |[]=>rfl
 |x::l=>by
  have:=@J9 p l;grind[cJ]
section
variable {p:bn} {f t:List Int}
theorem T8 (k:jN f=true) (u:f.length=p.offers.length) (e:eM p.offers.length t) (j:∀i∈t,bj f i.toNat 0≠ -1) (r:∀i∈bD f 1,i∈t) (g:Int->Int):
  (t.map g).sum=((bD f 1).map g).sum+((bD f 0).map λx=>if x∈t then g x else 0).sum:=by
 have l:t.Perm (bD f 1++(bD f 0).filter λx=>decide (x∈t)):=by
  refine(γ5 (AI e) ?_).2 λx=>?_
  ·rw[γr];refine⟨uG.imp λh=>by omega,(uG.sublist γP).imp λh=>by omega,λa s b o m=>?_⟩;grind[kP]
  ·rw[γk,List.mem_filter,decide_eq_true_eq];constructor
   ·intro c;have v:=e.2 x c;have q:=j x c;have n:=φ.1 k _ (dr (d:=0) (show x.toNat<f.length by omega));simp only[θ,decide_eq_true_eq] at n;grind[kP]
   grind
 rw[SU (l.map g),γa,ζ5,J7]
theorem wA (l:List Int) (r:Int):cT p (l.map (oI p)) r=(l.map λi=>dW p r (oI p i)).sum:=by
 unfold cT;rw[γ4];rfl
theorem weak (h:eV p f) (s:jN f=true) (z:eM p.offers.length t) (a:gk p (t.map (oI p))=true) (u:∀i∈t,bj f i.toNat 0≠ -1) (A:∀i∈bD f 1,i∈t):((cJ (t.map (oI p)):Int):Rat)<=jf p f:=by
 obtain⟨l,E,r⟩:=oD h;have d:∀g:Int->Int,bP (nF f) (λj=>((g (bj (bD f 0) j 0):Int):Rat)*(if bj (bD f 0) j 0∈t then(1:Rat) else 0))=(((t.map g).sum - ((bD f 1).map g).sum:Int):Rat):=λg=>by
  have e:=@qG (λx=>((g x:Int):Rat)*(if x∈t then(1:Rat) else 0)) (bD f 0);rw[J8] at e;rw[T8 s h.2.1 z u A g];grind
 have q:=asg_holds (n:=nF f) (m:=mF p) (t:=cH p f) lH qJ (y:=λj=>if bj (bD f 0) j 0∈t then(1:Rat) else 0);have B:(cH p f).value+bP (nF f) (λj=>(cH p f).cs j*(if bj (bD f 0) j 0∈t then(1:Rat) else 0))=((cJ (t.map (oI p)) - gA p f:Int):Rat):=by
  grind[cH,dL,A8,gA,J9]
 rw[B] at q;have o:∀v∈(cH p f).basic++(cH p f).free,0<=js (nF f) (cH p f) (λj=>if bj (bD f 0) j 0∈t then(1:Rat) else 0) v:=λv b=>by
  rcases γk.1 b with b|b
  ·obtain⟨i,k,rfl⟩:=yj lH b;rw[nI lH qJ k,yu k,dL (g:=λj=>((dW p i (oI p (bj (bD f 0) j 0)):Int):Rat)*(if bj (bD f 0) j 0∈t then(1:Rat) else 0)) λj c=>by rw[yt k c],d λx=>dW p i (oI p x),<-wA,<-wA];have C:=o6.1 a i (by grind[de]);have w:0<=(dj p i - cT p ((bD f 1).map (oI p)) i) - (cT p (t.map (oI p)) i - cT p ((bD f 1).map (oI p)) i):=by omega
   have D:=Eo w;simp_all
  grind[wi,lH,mM,qJ]
 have:=l.best r q λj c=>o _ (l.perm.mem_iff.1 (List.mem_append_right _ (wh l.wf c)));grind[jf]
end
theorem T9 {t:Tb} {n j:Nat} (b:j<n):∀{k:Nat},(∀i,i<k->0<=t.bv i)->(∃i,i<k/\t.bv i=j/\bj (gp t n k) j 0=t.bd i)\/((∀i,i<k->t.bv i≠j)/\bj (gp t n k) j 0=0)
 |0,_=> .inr ⟨λi a=>by omega,by
   grind[gp,cY]⟩
 |k+1,h=>by
  have e:=h k (by omega);have d:=@T9 t n j b k λi a=>h i (by omega);unfold gp;by_cases c:t.bv k<n
  ·rw[if_pos c,iT (by grind[Et])];grind
  grind
theorem Ua {t:Tb} {n m r:Nat} (a:r<m):∀{k:Nat},(∃j,j<k/\t.fv j=((n+r:Nat):Int)/\bj (jw t n m k) r 0= -(t.cs j))\/((∀j,j<k->t.fv j≠((n+r:Nat):Int))/\bj (jw t n m k) r 0=0)
 |0=> .inr ⟨λi d=>by omega,by
   grind[jw,cY]⟩
 |k+1=>by
  have c:=@Ua t n m r a k;unfold jw;by_cases b:(n:Int)<=t.fv k/\t.fv k<n+m
  ·rw[if_pos b,iT (by grind[Eu])];grind
  grind
theorem Ub {n m:Nat} {t:Tb} (h:t.WF n m) (c:(t.basic++t.free).Nodup) {j:Nat} (a:j<n):eu t (t.fv j)=t.cs j:=by
 have b:j<t.free.length:=by rw[h.free];exact a
 unfold eu;rw[if_pos (wh h a),show t.free.idxOf (t.fv j)=j from pg (γr.1 c).2.1 b]
theorem aed {n m:Nat} {t:Tb} (h:t.WF n m) (b:(t.basic++t.free).Nodup) {j:Nat} (a:j<m):eu t (t.bv j)=0:=by
 unfold eu;rw[if_neg (Jq h b a)]
section
variable {p:bn} {f:List Int}
noncomputable def pT (p:bn) (f:List Int):Int->Rat:=js (nF f) (dy p f) λ_=>0
theorem optX_holds (h:eV p f):(cH p f).holds (nF f) (mF p) (pT p f) (dy p f).value:=by
 obtain⟨a,_,_⟩:=oD h;have b:=asg_holds a.wf a.gn (y:=λ_=>0);rw[dL (g:=λ_=>0) λj _=>by grind,iR] at b;have c:=(a.mN _ _).1 b;rwa [show(dy p f).value+0=(dy p f).value by grind] at c
theorem Ko (h:eV p f) {i:Nat} (b:i<mF p):pT p f ((dy p f).bv i)=(dy p f).bd i:=by
 obtain⟨a,_,_⟩:=oD h;unfold pT;rw[nI a.wf a.gn b,dL (g:=λ_=>0) λj _=>by grind,iR];grind
theorem Kp (h:eV p f) {j:Nat} (b:j<nF f):pT p f ((dy p f).fv j)=0:=by
 obtain⟨a,_,_⟩:=oD h;unfold pT;rw[mM a.wf a.gn b]
theorem EC (h:eV p f) {v:Int} (a:v∈(cH p f).basic++(cH p f).free):(∃i,i<mF p/\(dy p f).bv i=v)\/∃j,j<nF f/\(dy p f).fv j=v:=by
 obtain⟨b,_,_⟩:=oD h;rw[<-b.perm.mem_iff,γk] at a;rcases a with a|a;·exact .inl (yj b.wf a)
 ·exact .inr (wi b.wf a)
theorem Kq (h:eV p f) {v:Int} (c:v∈(cH p f).basic++(cH p f).free):0<=pT p f v:=by
 obtain⟨_,b,_⟩:=oD h;rcases EC h c with⟨i,a,rfl⟩|⟨j,d,rfl⟩
 ·rw[Ko h a];exact b i a
 grind[Kp]
theorem Kr {j:Nat} (a:j<nF f):(j:Int)∈(cH p f).basic++(cH p f).free:=by
 have:=wh (n:=nF f) (m:=mF p) (t:=cH p f) lH a;grind[wv]
theorem aee (h:eV p f) {i:Nat} (b:i<mF p):0<=(dy p f).bv i:=by
 obtain⟨a,_,_⟩:=oD h;have c:=a.perm.mem_iff.1 (εm _ (AW a.wf b));grind[yj,lH,Ek,wi,wv]
theorem aef (h:eV p f) {j:Nat} (c:j<nF f):bj (gp (dy p f) (nF f) (mF p)) j 0=pT p f j:=by
 rcases @T9 (dy p f) (nF f) j c (mF p) λi b=>aee h b with⟨i,d,a,g⟩|⟨d,a⟩;·grind[Ko]
 ·rw[a];rcases EC h (Kr c) with⟨i,b,e⟩|⟨k,l,e⟩<;>grind[EC,Kr,Kp]
theorem aeg (h:eV p f) {j:Nat} (a:j<nF f):pT p f j<=1:=by
 have:=TB h (optX_holds h) (λv b=>Kq h b) a;grind[wv]
theorem Uc (h:eV p f):(∀i,i<mF p->Sz 1000 ((dy p f).bd i))/\(∀j,j<nF f->Sz 1000 ((dy p f).cs j))/\Sz 1000 (dy p f).value:=have a:=(En h).Td (oD h).1;⟨a.1,a.2.1,a.2.2.1⟩
theorem Ks (q:Rat) (h:q=0\/q=1):Sz 1000 q:=by
 have a:Sz 1 q:=by rcases h with rfl|rfl<;>exact⟨by decide,by decide⟩
 exact a.mono (by omega)
theorem aeh (h:eV p f) {v:Int} (a:v∈(cH p f).basic++(cH p f).free):Sz 1000 (pT p f v):=by
 grind[EC,Ko,Uc,Kp,Ks]
noncomputable def dD (p:bn) (f:List Int):List Rat:=j3 p f (nF f)
theorem rI:(dD p f).length=f.length:=yD
theorem Bf (h:eV p f) (c:jN f=true) {i:Nat} (b:i<f.length):(bj f i 0=1/\bj (dD p f) i 0=1)\/(bj f i 0= -1/\bj (dD p f) i 0=0)\/(bj f i 0=0/\(i:Int)∈bD f 0/\(bD f 0).idxOf (i:Int)<nF f/\bj (dD p f) i 0=pT p f ((bD f 0).idxOf (i:Int))):=by
 have g:=φ.1 c _ (dr (d:=0) b);simp only[θ,decide_eq_true_eq] at g;unfold dD;rw[EB b,ψ];rcases(show bj f i 0=1\/bj f i 0= -1\/bj f i 0=0 by omega) with a|a|a;·simp_all
 ·simp_all[kP]
 ·have e:(i:Int)∈bD f 0:=kP.2 ⟨by omega,by simp_all⟩;have j:(bD f 0).idxOf (i:Int)<nF f:=εh e;simp_all[aef]
theorem ED (h:eV p f) (a:jN f=true) {i:Nat} (b:i<f.length):0<=bj (dD p f) i 0/\bj (dD p f) i 0<=1/\Sz 1000 (bj (dD p f) i 0):=by
 rcases Bf h a b with⟨_,e⟩|⟨_,e⟩|⟨_,_,c,e⟩;all_goals grind[Ks,Kq,Kr,aeg,aeh]
theorem sX (h:eV p f) (c:jN f=true) {i:Nat} (b:i<f.length) (d:0<bj (dD p f) i 0) (a:bj (dD p f) i 0<1):bj f i 0=0:=by
 grind[Bf]
def eG (x:List Rat):List Int:=(dm x.length).filter λi=>decide (0<bj x i.toNat 0)
theorem yE {x:List Rat} {i:Int}:i∈eG x↔(0<=i/\i<x.length)/\0<bj x i.toNat 0:=by
 simp_all[eG,kK]
theorem Ud {x:List Rat}:eM x.length (eG x):=⟨rD.sublist γP,λi a=>(yE.1 a).1⟩
def mQ (x:List Rat):Bool:=x.all λq=>decide (q.den=1)
theorem aei {q:Rat} (h:q.den=1):q=(q.num:Rat):=by
 grind[Rat.mkRat_self,Rat.mkRat_one]
theorem aej {q:Rat} (c:q.den=1) (b:0<=q) (a:q<=1):q=0\/q=1:=by
 rw[aei c] at b a ⊢;have f:0<=q.num:=by exact_mod_cast b
 have d:q.num<=1:=by exact_mod_cast a
 rcases(show q.num=0\/q.num=1 by omega) with e|e<;>simp_all
theorem aek {t:List Int} (a:jN f=true) (c:f.length=p.offers.length) (h:eM p.offers.length t) (b:∀i∈t,bj f i.toNat 0≠ -1) (d:∀i∈bD f 1,i∈t) (g:Int->Int):bP (nF f) (λj=>((g (bj (bD f 0) j 0):Int):Rat)*(if bj (bD f 0) j 0∈t then(1:Rat) else 0))=(((t.map g).sum - ((bD f 1).map g).sum:Int):Rat):=by
 have e:=@qG (λx=>((g x:Int):Rat)*(if x∈t then(1:Rat) else 0)) (bD f 0);rw[J8] at e;rw[T8 a c h b d g];grind
theorem Ue (h:eV p f) (t:jN f=true) (F:mQ (dD p f)=true):gk p ((eG (dD p f)).map (oI p))=true/\((cJ ((eG (dD p f)).map (oI p)):Int):Rat)=jf p f:=by
 have n:=h.2.1;have z:=@rI p f;have q:∀i:Nat,i<f.length->bj (dD p f) i 0=0\/bj (dD p f) i 0=1:=λi o=>by
  obtain⟨O,J,_⟩:=ED h t o;have:=φ.1 F _ (dr (d:=0) (show i<(dD p f).length by omega));simp_all[aej]
 have B:eM p.offers.length (eG (dD p f)):=by
  grind[Ud]
 have A:∀i∈eG (dD p f),bj f i.toNat 0≠ -1:=λi x K=>by
  grind[yE,Bf]
 have D:∀i∈bD f 1,i∈eG (dD p f):=λi x=>by
  grind[kP,yE,Bf]
 have G:∀j,j<nF f->(if bj (bD f 0) j 0∈eG (dD p f) then(1:Rat) else 0)=pT p f ((cH p f).fv j):=λj c=>by
  obtain⟨C,L⟩:=yv h c;have E:(bD f 0).idxOf (bj (bD f 0) j 0)=j:=pg (uG.imp λh=>by omega) c;have M:((((bj (bD f 0) j 0).toNat:Nat)):Int)=bj (bD f 0) j 0:=by omega
  have e:bj (dD p f) (bj (bD f 0) j 0).toNat 0=pT p f j:=by
   grind[Bf]
  rw[wv c,<-e];rcases q (bj (bD f 0) j 0).toNat (by omega) with l|l;·simp_all[yE]
  ·rw[l,if_pos];grind[yE]
 obtain⟨v,w⟩:=optX_holds h;have k:=aek t n B A D;refine⟨o6.2 λy b=>?_,?_⟩
 ·obtain⟨r,m⟩:∃r:Int,r=(y:Int):=⟨_,rfl⟩;rw[<-m] at b ⊢;have I:0<=r:=by omega
  have a:r.toNat<mF p:=by unfold de at b;grind
  have s:=v r.toNat a;rw[dL (g:=λj=>((dW p r (oI p (bj (bD f 0) j 0)):Int):Rat)*(if bj (bD f 0) j 0∈eG (dD p f) then(1:Rat) else 0)) λj c=>by grind[yt],k λi=>dW p r (oI p i),yu a,show((r.toNat:Nat):Int)=r by omega] at s;have N:=Kq h (εm _ (AW lH a));rw[<-wA,<-wA] at s;have l:((cT p ((eG (dD p f)).map (oI p)) r - cT p ((bD f 1).map (oI p)) r:Int):Rat)<=((dj p r - cT p ((bD f 1).map (oI p)) r:Int):Rat):=by grind
  have H:cT p ((eG (dD p f)).map (oI p)) r - cT p ((bD f 1).map (oI p)) r<=dj p r - cT p ((bD f 1).map (oI p)) r:=by exact_mod_cast l
  omega
 ·have u:(cH p f).value=0:=rfl;rw[u,dL (g:=λj=>(((oI p (bj (bD f 0) j 0)).value:Int):Rat)*(if bj (bD f 0) j 0∈eG (dD p f) then(1:Rat) else 0)) λj c=>by grind[A8],k λi=>(oI p i).value] at w;grind[jf,gA,J9]
theorem Uf (h:eV p f) {x:Int->Rat} {z:Rat} (l:(cH p f).holds (nF f) (mF p) x z):z=(dy p f).value+(bP (mF p) (λk=>eu (dy p f) ((nF f+k:Nat):Int)*x ((nF f+k:Nat):Int))+bP (nF f) λj=>eu (dy p f) (j:Int)*x (j:Int)):=by
 obtain⟨a,_,_⟩:=oD h;have i:=((a.mN _ _).2 l).2;have m:bP (nF f) (λj=>(dy p f).cs j*x ((dy p f).fv j))=mg (λv=>eu (dy p f) v*x v) ((dy p f).basic++(dy p f).free):=by
  rw[AP,qG,qG,a.wf.basic,a.wf.free];rw[dL (n:=mF p) (g:=λ_=>0) λk b=>by
   show eu (dy p f) ((dy p f).bv k)*x ((dy p f).bv k)=0;rw[aed a.wf a.gn b];grind,iR];rw[dL (n:=nF f) (f:=λk=>eu (dy p f) (bj (dy p f).free k 0)*x (bj (dy p f).free k 0)) (g:=λj=>(dy p f).cs j*x ((dy p f).fv j)) λj e=>by
   show eu (dy p f) ((dy p f).fv j)*x ((dy p f).fv j)=_;rw[Ub a.wf a.gn e]];grind
 have d:mg (λv=>eu (dy p f) v*x v) ((cH p f).basic++(cH p f).free)=bP (mF p) (λk=>eu (dy p f) ((nF f+k:Nat):Int)*x ((nF f+k:Nat):Int))+bP (nF f) λj=>eu (dy p f) (j:Int)*x (j:Int):=by
  have c:=@lH p f;rw[AP,qG,qG,c.basic,c.free];congr 1
  ·refine dL λk b=>?_;show eu (dy p f) ((cH p f).bv k)*x ((cH p f).bv k)=_;rw[Ek b]
  ·refine dL λk b=>?_;show eu (dy p f) ((cH p f).fv k)*x ((cH p f).fv k)=_;rw[wv b]
 rw[i,m,Jp a.perm,d]
theorem Ug (h:eV p f) {v:Int}:eu (dy p f) v<=0:=by
 obtain⟨d,_,e⟩:=oD h;unfold eu;split
 ·rename_i g;have k:(dy p f).free.idxOf v<nF f:=by rw[<-d.wf.free];grind
  rcases @uB (dy p f) (nF f) with⟨a,b⟩|⟨c,a,b,i,j⟩<;>grind
 ·decide
theorem EE (h:eV p f) {r:Nat} (g:r<mF p):bj (iC p f) r 0= -(eu (dy p f) ((nF f+r:Nat):Int)):=by
 obtain⟨a,_,_⟩:=oD h;unfold iC;rcases @Ua (dy p f) (nF f) (mF p) r g (nF f) with⟨j,c,b,i⟩|⟨c,b⟩;·rw[i,<-b,Ub a.wf a.gn c]
 ·rw[b];unfold eu;rw[if_neg];·decide
  ·intro d;obtain⟨j,k,e⟩:=wi a.wf d;simp_all
theorem EF:(iC p f).length=mF p:=Eu
theorem Kt (h:eV p f) {r:Nat} (a:r<mF p):0<=bj (iC p f) r 0/\Sz 1000 (bj (iC p f) r 0):=by
 obtain⟨c,_,_⟩:=oD h;have d:=@Ug p f h ((nF f+r:Nat):Int);refine⟨by grind[EE],?_⟩;rw[EE h a];refine A1 ?_;unfold eu;split
 ·rename_i b;exact(Uc h).2.1 _ (by have:=εh b;rw[c.wf.free] at this;exact this)
 grind[Ks]
theorem Uh (h:eV p f):(dy p f).value=bP (mF p) λr=>bj (iC p f) r 0*(cH p f).bd r:=by
 have c:=asg_holds (n:=nF f) (m:=mF p) (t:=cH p f) lH qJ (y:=λ_=>0);have a:=Uf h c;have d:(cH p f).value=0:=rfl;rw[d,dL (n:=nF f) (f:=λj=>(cH p f).cs j*(λ_=>(0:Rat)) j) (g:=λ_=>0) λj _=>by grind,iR] at a;rw[dL (n:=nF f) (f:=λj=>eu (dy p f) (j:Int)*js (nF f) (cH p f) (λ_=>0) (j:Int)) (g:=λ_=>0) λj b=>by
  have e:=mM (n:=nF f) (m:=mF p) (t:=cH p f) lH qJ (y:=λ_=>0) b;grind[wv],iR] at a;rw[dL (n:=mF p) (g:=λk=>(-1:Rat)*(bj (iC p f) k 0*(cH p f).bd k)) λk i=>by
  have e:=nI (n:=nF f) (m:=mF p) (t:=cH p f) lH qJ (y:=λ_=>0) i;grind[Ek,iR,EE],v8] at a;grind
theorem ael (h:eV p f) {j:Nat} (b:j<nF f):(cH p f).cs j<=bP (mF p) λr=>bj (iC p f) r 0*(cH p f).cf r j:=by
 have l:=asg_holds (n:=nF f) (m:=mF p) (t:=cH p f) lH qJ (y:=λi=>if i=j then 1 else 0);have a:=Uf h l;have o:(cH p f).value=0:=rfl;rw[o,dL (n:=nF f) (f:=λi=>(cH p f).cs i*(if i=j then(1:Rat) else 0)) (g:=λi=>if i=j then(cH p f).cs j else 0) λi _=>by
  grind,uE b] at a;rw[dL (n:=nF f) (f:=λi=>eu (dy p f) (i:Int)*js (nF f) (cH p f) (λi=>if i=j then 1 else 0) (i:Int)) (g:=λi=>if i=j then eu (dy p f) (j:Int) else 0) λi d=>by
  have e:=mM (n:=nF f) (m:=mF p) (t:=cH p f) lH qJ (y:=λi=>if i=j then(1:Rat) else 0) d;rw[wv d] at e;grind,uE b] at a;rw[dL (n:=mF p) (g:=λk=>bj (iC p f) k 0*(cH p f).cf k j - bj (iC p f) k 0*(cH p f).bd k) λk c=>by
  have e:=nI (n:=nF f) (m:=mF p) (t:=cH p f) lH qJ (y:=λi=>if i=j then(1:Rat) else 0) c;rw[Ek c,dL (g:=λi=>if i=j then(cH p f).cf k j else 0) λi _=>by
   grind,uE b] at e;grind[EE],JP] at a;grind[Uh,Ug]
end
abbrev di:=Int×(Int×(Int×(Int×List bL)))
@[reducible] def bE:bp:=.pair (.i .i64) (.pair (.i .i64) (.pair (.i .i64) (.pair (.i .i64) (.bF sF))))
def zN:di:=(0,(0,(0,(0,[]))))
def EG:di:=(3,(0,(0,(0,[]))))
noncomputable def qL (p:bn) (f:List Int):di:=(1,(0,(0,(0,fL (iC p f)))))
def j5 (k o:Int):di:=(2,(k,(o,(o+1,[]))))
structure cZ where
 ch:List Int
 val:Int
 found:Bool
 prf:List di
 err:Int
def dV (b:Int->Bool) (s:cZ) (a:Alloc):cZ:=if s.val<a.value then⟨a.chosen,a.value,s.found||b a.value,s.prf,s.err⟩ else s
def mR (q:Rat):Rat:=if q<0 then -q else q
def jy (x:List Rat):Nat->Option (Int×Rat)
 |0=>none
 |k+1=>if 0<bj x k 0/\bj x k 0<1 then(match jy x k with
   |none=>some ((k:Int),mR (bj x k 0 - 1 / 2))
   |some (i,l)=>if mR (bj x k 0 - 1 / 2)<l then some ((k:Int),mR (bj x k 0 - 1 / 2)) else some (i,l)) else jy x k
def jP (x:List Rat):Option Int:=(jy x x.length).map (·.1)
theorem Ku {x:List Rat}:∀{k:Nat} {i:Int} {l:Rat},jy x k=some (i,l)->(0<=i/\i<k)/\(0<bj x i.toNat 0/\bj x i.toNat 0<1)/\l=mR (bj x i.toNat 0 - 1 / 2)
 |0,i,l,h=>by cases h;|k+1,i,l,h=>by
  unfold jy at h;have b:some ((k:Int),mR (bj x k 0 - 1 / 2))=some (i,l)->(0<bj x k 0/\bj x k 0<1)->(0<=i/\i<((k+1:Nat):Int))/\(0<bj x i.toNat 0/\bj x i.toNat 0<1)/\l=mR (bj x i.toNat 0 - 1 / 2):=λh f=>by
   grind
  have a:jy x k=some (i,l)->(0<=i/\i<((k+1:Nat):Int))/\(0<bj x i.toNat 0/\bj x i.toNat 0<1)/\l=mR (bj x i.toNat 0 - 1 / 2):=λh=>by
   obtain⟨c,d,e⟩:=Ku h;grind
  grind
theorem Ui {x:List Rat}:∀{k:Nat},jy x k=none->∀i,i<k->¬(0<bj x i 0/\bj x i 0<1)
 |0,_,i,a=>by omega;|k+1,h,i,a=>by
  unfold jy at h;split at h;·grind
  ·rename_i b;by_cases e:i=k;·simp_all
   ·exact Ui h i (by omega)
theorem sY {x:List Rat} {k:Int} (h:jP x=some k):(0<=k/\k<x.length)/\0<bj x k.toNat 0/\bj x k.toNat 0<1:=by
 unfold jP at h;obtain⟨⟨i,l⟩,b,a⟩:=Option.map_eq_some_iff.1 h;simp only at a;subst a;obtain⟨c,d,_⟩:=Ku b;simp_all
theorem aem {x:List Rat} (h:jP x=none):∀i,i<x.length->¬(0<bj x i 0/\bj x i 0<1):=Ui (Option.map_eq_none_iff.1 h)
noncomputable def pr (p:bn) (f:List Int):Alloc:=⟨eG (dD p f),cJ ((eG (dD p f)).map (oI p))⟩
noncomputable def dp (p:bn) (a:Int->Bool) (s:cZ) (f:List Int):cZ:=if((s.val+1:Int):Rat)<=jf p f/\mQ (dD p f)=true then dV a s (pr p f) else s
def gB (s:cZ) (a k:Int):cZ:={s with prf:=(s.prf++[zN,zN]).set a.toNat (j5 k s.prf.length)}
noncomputable def fF (p:bn) (en:Int->Bool) (most:Int) (b:cZ->Int->List Int->cZ) (s:cZ) (a:Int) (f:List Int):cZ:=
 if s.err≠0\/s.found=true then s
 else if hJ p f=false then {s with prf:=s.prf.set a.toNat EG}
 else if jf p f<(((dp p en s f).val+1:Int):Rat) then {dp p en s f with prf:=(dp p en s f).prf.set a.toNat (qL p f)}
 else match jP (dD p f) with
  |none=>{dp p en s f with err:=12}
  |some k=>if most<(dp p en s f).prf.length+2 then {dp p en s f with err:=12}
   else b (b (gB (dp p en s f) a k) ((dp p en s f).prf.length+1) (f.set k.toNat 1)) (dp p en s f).prf.length (f.set k.toNat (-1))
noncomputable def dG (p:bn) (b:Int->Bool) (a:Int):Nat->cZ->Int->List Int->cZ
 |0=>fF p b a λs _ _=>s
 |n+1=>fF p b a (dG p b a n)
structure eK (p:bn) (f:List Int):Prop where
 c:bz p=0
 l:f.length=p.offers.length
 r:jN f=true
theorem eK.ok {p:bn} {f:List Int} (h:eK p f) (a:hJ p f=true):eV p f:=⟨h.c,h.l,a⟩
theorem eK.e {p:bn} {f:List Int} (h:eK p f):je p f=0:=by
 unfold je;rw[if_neg (by simp[h.c]),if_neg (by simp[h.l]),if_pos h.r]
theorem eK.j4 {p:bn} {f:List Int} (h:eK p f):j4 p f=hJ p f:=by
 unfold Go.Vi.j4;rw[h.e];simp
theorem Uj {f:List Int} {k:Nat} {d:Int} (h:jN f=true) (a: -1<=d/\d<=1):jN (f.set k d)=true:=by
 grind[jN]
theorem eK.set {p:bn} {f:List Int} (h:eK p f) {k:Nat} {d:Int} (a: -1<=d/\d<=1):eK p (f.set k d):=⟨h.c,by rw[Φ];exact h.l,Uj h.r a⟩
theorem mr {f:List Int} {k d:Int} (i:0<=k/\k<f.length) (l:bj f k.toNat 0=0) (g:d≠0):nF f=nF (f.set k.toNat d)+1:=by
 have c:(bD f 0).Perm (k::bD (f.set k.toNat d) 0):=by
  refine(γ5 (uG.imp λh=>by omega) ?_).2 λx=>?_
  ·rw[List.nodup_cons];refine⟨λj=>?_,uG.imp λh=>by omega⟩;simp_all[kP,iT]
  ·rw[List.mem_cons,kP,kP,Φ];constructor
   ·rintro⟨a,b⟩;by_cases e:x=k;·exact .inl e
    ·exact .inr ⟨a,by rw[iT (by omega),if_neg (by omega)];exact b⟩
   grind[iT]
 have:=c.length_eq;omega
theorem EH {en:Int->Bool} {s:cZ} {a:Alloc}:(dV en s a).prf=s.prf/\(dV en s a).err=s.err/\s.val<=(dV en s a).val/\((dV en s a).val=s.val\/(dV en s a).val=a.value)/\((dV en s a).ch=s.ch\/(dV en s a).ch=a.chosen):=by
 grind[dV]
theorem EI {p:bn} {en:Int->Bool} {s:cZ} {f:List Int}:(dp p en s f).prf=s.prf/\(dp p en s f).err=s.err/\s.val<=(dp p en s f).val/\((dp p en s f).val=s.val\/(dp p en s f).val=(pr p f).value)/\((dp p en s f).ch=s.ch\/(dp p en s f).ch=(pr p f).chosen):=by
 grind[dp,EH]
theorem aen {x:List Rat}:(eG x).length<=x.length:=by
 have:=List.length_filter_le (λi:Int=>decide (0<bj x i.toNat 0)) (dm x.length);rw[iP] at this;exact this
theorem aeo {p:bn} {f:List Int} (b:f.length=p.offers.length):∀x∈(eG (dD p f)).map (oI p),x∈p.offers:=λx a=>by
 obtain⟨i,c,rfl⟩:=Ω.1 a;have:=(yE.1 c).1;rw[rI,b] at this;exact dr (by omega)
theorem Uk {p:bn} {f:List Int} (h:eK p f):0<=(pr p f).value/\(pr p f).value<=160000000/\(pr p f).chosen.length<=160:=by
 have a:=dQ h.c;have b:=@sJ p a ((eG (dD p f)).map (oI p)) (aeo h.l);have d:=@aen (dD p f);rw[rI,h.l] at d;have e:=a.2.1;rw[Θ] at b;refine⟨b.1,?_,?_⟩
 ·show cJ _<=_;omega
 ·show(eG (dD p f)).length<=160;omega
theorem Kv {p:bn} (a:bz p=0) {c:List Int} (h:eM p.offers.length c):dh p c=0↔gk p (c.map (oI p))=true:=by
 simp_all[AL,fR,dX,dh]
theorem yF {p:bn} (a:bz p=0) {c:List Int} (h:eM p.offers.length c):ei p c=cJ (c.map (oI p)):=by
 simp_all[dX,AL,ei]
theorem rJ {p:bn} {en:Int->Bool} {most:Int}:∀{n:Nat} {s:cZ} {a:Int} {f:List Int},eK p f->s.prf.length<=(dG p en most n s a f).prf.length/\((dG p en most n s a f).prf.length<=most\/(dG p en most n s a f).prf.length=s.prf.length)/\s.val<=(dG p en most n s a f).val/\((dG p en most n s a f).val=s.val\/(dG p en most n s a f).val<=160000000)/\((dG p en most n s a f).ch=s.ch\/(dG p en most n s a f).ch.length<=160)/\((dG p en most n s a f).err=s.err\/(dG p en most n s a f).err=12):=by
 have d:∀{b:cZ->Int->List Int->cZ},(∀{s:cZ} {a:Int} {f:List Int},eK p f->s.prf.length<=(b s a f).prf.length/\((b s a f).prf.length<=most\/(b s a f).prf.length=s.prf.length)/\s.val<=(b s a f).val/\((b s a f).val=s.val\/(b s a f).val<=160000000)/\((b s a f).ch=s.ch\/(b s a f).ch.length<=160)/\((b s a f).err=s.err\/(b s a f).err=12))->
   ∀{s:cZ} {a:Int} {f:List Int},eK p f->s.prf.length<=(fF p en most b s a f).prf.length/\((fF p en most b s a f).prf.length<=most\/(fF p en most b s a f).prf.length=s.prf.length)/\s.val<=(fF p en most b s a f).val/\((fF p en most b s a f).val=s.val\/(fF p en most b s a f).val<=160000000)/\((fF p en most b s a f).ch=s.ch\/(fF p en most b s a f).ch.length<=160)/\((fF p en most b s a f).err=s.err\/(fF p en most b s a f).err=12):=by
  intro b c s a f h;obtain⟨v,j,E,l,r⟩:=@EI p en s f;obtain⟨H,A,L⟩:=Uk h;have w:(dp p en s f).ch=s.ch\/(dp p en s f).ch.length<=160:=r.imp id λh=>by simp_all
  have x:(dp p en s f).val=s.val\/(dp p en s f).val<=160000000:=l.imp id λh=>by omega
  unfold fF;split;·simp_all
  split;·simp_all
  split;·simp_all
  split;·simp_all
  rename_i k J;split;·simp_all
  rename_i o;have F:(gB (dp p en s f) a k).prf.length=s.prf.length+2:=by
   simp_all[gB]
  obtain⟨D,K,u,z,e,t⟩:=@c (gB (dp p en s f) a k) ((dp p en s f).prf.length+1) (f.set k.toNat 1) (h.set (by omega));obtain⟨B,C,G,I,g,M⟩:=@c (b (gB (dp p en s f) a k) ((dp p en s f).prf.length+1) (f.set k.toNat 1)) (dp p en s f).prf.length (f.set k.toNat (-1)) (h.set (by omega));have i:(gB (dp p en s f) a k).val=(dp p en s f).val:=rfl;have m:(gB (dp p en s f) a k).ch=(dp p en s f).ch:=rfl;have q:(gB (dp p en s f) a k).err=(dp p en s f).err:=rfl;rw[v] at o;rw[i] at u z;rw[m] at e;rw[q,j] at t;refine⟨by omega,.inl (by omega),by omega,by omega,?_,?_⟩
  ·rcases g with g|g
   ·rw[g];rcases e with e|e<;>simp_all
   omega
  omega
 intro n;induction n with
 |zero=>exact d λ{s a f} _=>⟨Nat.le_refl _,.inr rfl,Int.le_refl _,.inl rfl,.inl rfl,.inl rfl⟩;|succ n y=>exact d λh=>y h
inductive jg (p:bn) (v:Int) (t:List di):Nat->List Int->Nat->Nat->Prop
 |bnd {a:Nat} {f:List Int} {lo:Nat}:t[a]?=some (qL p f)->hJ p f=true->jf p f<((v+1:Int):Rat)->jg p v t a f lo lo
 |con {a:Nat} {f:List Int} {lo:Nat}:t[a]?=some EG->hJ p f=false->jg p v t a f lo lo
 |sZ {a:Nat} {f:List Int} {lo mid hi:Nat} {k:Int}:t[a]?=some (j5 k lo)->a<lo->(0<=k/\k<f.length)->bj f k.toNat 0=0->jg p v t (lo+1) (f.set k.toNat 1) (lo+2) mid->jg p v t lo (f.set k.toNat (-1)) mid hi->jg p v t a f lo hi
section
variable {p:bn} {v v':Int} {t t':List di} {a lo hi:Nat} {f:List Int}
theorem jg.le (h:jg p v t a f lo hi):lo<=hi:=by
 induction h with
 |bnd _ _ _=>omega;|con _ _=>omega;|sZ _ _ _ _ _ _ b c=>omega
theorem jg.mono (h:jg p v t a f lo hi) (q:v<=v') (e:∀i,i=a\/(lo<=i/\i<hi)->t'[i]?=t[i]?):jg p v' t' a f lo hi:=by
 induction h with
 |bnd c b d=>
  refine .bnd (by simp_all) b ?_;have:((v+1:Int):Rat)<=((v'+1:Int):Rat):=by exact_mod_cast (show v+1<=v'+1 by omega)
  grind;|con c b=>exact .con (by simp_all) b;|sZ c b d l k g m j=>
  have o:=k.le;have n:=g.le;exact .sZ (by simp_all) b d l (m λi hi=>e i (by omega)) (j λi hi=>e i (by omega))
def EJ (f:List Int) (l:List Int):Prop:=(∀i∈l,bj f i.toNat 0≠ -1)/\∀i∈bD f 1,i∈l
theorem Ul {l:List Int} {k d:Int} (g:0<=k/\k<f.length) (m:bj f k.toNat 0=0) (e:∀i∈l,0<=i) (h:EJ f l) (j:(d=1/\k∈l)\/(d= -1/\k∉l)):EJ (f.set k.toNat d) l:=by
 obtain⟨b,c⟩:=h;refine⟨λi a=>?_,λi a=>?_⟩<;>grind[iT,kP]
theorem aep {l m:List Int} (e:bz p=0) (f:∀i∈l,0<=i/\i<p.offers.length) (q:m.Nodup) (j:∀i∈m,i∈l) (o:l.Nodup) (h:gk p (l.map (oI p))=true):gk p (m.map (oI p))=true:=by
 refine o6.2 λr b=>?_;have d:=o6.1 h r b;have a:l.Perm (m++l.filter λi=>decide (i∉m)):=by
  grind
 have g:cT p (l.map (oI p)) r=cT p (m.map (oI p)) r+cT p ((l.filter λi=>decide (i∉m)).map (oI p)) r:=by
  rw[wA,wA,wA,SU (a.map _),γa,ζ5]
 have n:=@sG p r ((l.filter λi=>decide (i∉m)).map (oI p)) λx c=>by
  obtain⟨i,k,rfl⟩:=Ω.1 c;simp_all[kQ]
 omega
theorem jg.sound (h:jg p v t a f lo hi) (e:eK p f) {l:List Int} (d:eM p.offers.length l) (b:gk p (l.map (oI p))=true) (g:EJ f l):cJ (l.map (oI p))<=v:=by
 induction h with
 |bnd o n m=>
  have j:=weak (e.ok n) e.r d b g.1 g.2;have s:((cJ (l.map (oI p)):Int):Rat)<((v+1:Int):Rat):=by grind
  have u:cJ (l.map (oI p))<v+1:=by exact_mod_cast s
  omega;|con o n=>
  exfalso;have:=aep e.c d.2 (uG.imp λh=>by omega) g.2 (AI d) b;grind[hJ];|@sZ a f lo y hi k o n m j s u x w=>
  by_cases q:k∈l;·exact x (e.set (by omega)) (Ul m j (λi hi=>(d.2 i hi).1) g (.inl ⟨rfl,q⟩))
  ·exact w (e.set (by omega)) (Ul m j (λi hi=>(d.2 i hi).1) g (.inr ⟨rfl,q⟩))
end
theorem Um {p:bn} {en:Int->Bool} {most:Int}:∀{n:Nat} {s:cZ} {a:Int} {f:List Int},eK p f->nF f<=n->(0<=a/\a<s.prf.length)->(dG p en most n s a f).err=0->(dG p en most n s a f).found=false->
  jg p (dG p en most n s a f).val (dG p en most n s a f).prf a.toNat f s.prf.length (dG p en most n s a f).prf.length/\(∀i:Nat,i<s.prf.length->i≠a.toNat->(dG p en most n s a f).prf[i]?=s.prf[i]?)/\s.err=0/\s.found=false:=by
 have y:∀{b:cZ->Int->List Int->cZ} {s:cZ} {a:Int} {f:List Int},eK p f->(0<=a/\a<s.prf.length)->
   (∀{s:cZ} {a:Int} {g:List Int},eK p g->nF f=nF g+1->(0<=a/\a<s.prf.length)->s.prf.length<=(b s a g).prf.length/\s.val<=(b s a g).val/\((b s a g).err=0->(b s a g).found=false->jg p (b s a g).val (b s a g).prf a.toNat g s.prf.length (b s a g).prf.length/\(∀i:Nat,i<s.prf.length->i≠a.toNat->(b s a g).prf[i]?=s.prf[i]?)/\s.err=0/\s.found=false))->
   (fF p en most b s a f).err=0->(fF p en most b s a f).found=false->jg p (fF p en most b s a f).val (fF p en most b s a f).prf a.toNat f s.prf.length (fF p en most b s a f).prf.length/\(∀i:Nat,i<s.prf.length->i≠a.toNat->(fF p en most b s a f).prf[i]?=s.prf[i]?)/\s.err=0/\s.found=false:=by
  intro b s a f t C q e c;obtain⟨D,e2,e3,e4,e5⟩:=@EI p en s f;have B:a.toNat<s.prf.length:=by omega
  unfold fF at e c ⊢;split at e;·simp_all
  rename_i x;have G:s.err=0/\s.found=false:=by simpa using x
  rw[if_neg x] at c ⊢;split at e
  ·rename_i m;rw[if_pos m];refine⟨?_,λi u j=>?_,G⟩
   ·rw[Φ];exact .con (by simp_all) m
   ·show(s.prf.set a.toNat EG)[i]?=_;rw[δo (λh=>j h.symm)]
  rename_i m;rw[if_neg m] at c ⊢;have O:hJ p f=true:=by simpa using m
  split at e
  ·rename_i w;rw[if_pos w];refine⟨?_,λi u j=>?_,G⟩
   ·rw[Φ,D];refine .bnd ?_ O w;simp_all
   ·show((dp p en s f).prf.set a.toNat _)[i]?=_;rw[δo (λh=>j h.symm),D]
  rename_i w;rw[if_neg w] at c ⊢;cases A:jP (dD p f) with
  |none=>simp_all;|some k=>
  rw[A] at e c;simp only at e c ⊢;split at e;·simp at e
  rename_i Q;rw[if_neg Q] at c ⊢;obtain⟨l,K,L⟩:=sY A;rw[rI] at l;have v:bj f k.toNat 0=0:=sX (t.ok O) t.r (by omega) K L;have n1:=mr l v (d:=1) (by omega);have Y:=mr l v (d:= -1) (by omega);have T:eK p (f.set k.toNat 1):=t.set (by omega);have f2:eK p (f.set k.toNat (-1)):=t.set (by omega);have S:(gB (dp p en s f) a k).prf.length=s.prf.length+2:=by
   simp_all[gB]
  rw[D] at e c ⊢;obtain⟨l1,v1,t1⟩:=@q (gB (dp p en s f) a k) ((s.prf.length:Int)+1) (f.set k.toNat 1) T n1 (by omega);generalize R:b (gB (dp p en s f) a k) ((s.prf.length:Int)+1) (f.set k.toNat 1)=I at*;obtain⟨l2,V,Z⟩:=@q I (s.prf.length:Int) (f.set k.toNat (-1)) f2 Y (by omega);generalize X:b I (s.prf.length:Int) (f.set k.toNat (-1))=P at*;obtain⟨N,F,U,w2⟩:=Z e c;obtain⟨J,H,w3,w4⟩:=t1 U w2;have M:∀i:Nat,i<s.prf.length+2->(gB (dp p en s f) a k).prf[i]?=if i=a.toNat then some (j5 k s.prf.length) else(s.prf++[zN,zN])[i]?:=λi u=>by
   unfold gB;simp only[D];rw[List.getElem?_set];by_cases h:a.toNat=i;·simp_all
   ·rw[if_neg h,if_neg (λm=>h m.symm)]
  have E:((s.prf.length:Int)).toNat=s.prf.length:=by omega
  have z:((s.prf.length:Int)+1).toNat=s.prf.length+1:=by omega
  rw[E] at N F;rw[z] at J H;rw[S] at J H;have o:∀i:Nat,i<s.prf.length->P.prf[i]?=(gB (dp p en s f) a k).prf[i]?:=λi u=>by rw[F i (by omega) (by omega),H i (by omega) (by omega)]
  refine⟨.sZ (k:=k) (mid:=I.prf.length) ?_ B l v ?_ N,λi u j=>?_,G⟩;·rw[o _ B,M _ (by omega),if_pos rfl]
  ·exact J.mono V λi u=>F i (by omega) (by omega)
  ·rw[o i u,M i (by omega),if_neg j,List.getElem?_append_left u]
 intro n;induction n with
 |zero=>
  intro s a f t W C e c;exact y t C (λ{s a g} _ h _=>by omega) e c;|succ n ih=>
  intro s a f t W C e c;refine y t C (λ{s a g} x m w=>?_) e c;have A:=@rJ p en most n s a g x;exact⟨A.1,A.2.2.1,λe c=>ih x (by omega) w e c⟩
theorem Un {p:bn} {en:Int->Bool} {most:Int} {G:List Int->Int->Bool->Prop} (u:∀c w b q w',G c w b->dh p q=0->ei p q=w'->w<w'->G q w' (b||en w')):
  ∀{n:Nat} {s:cZ} {a:Int} {f:List Int},eK p f->G s.ch s.val s.found->G (dG p en most n s a f).ch (dG p en most n s a f).val (dG p en most n s a f).found:=by
 have k:∀{d:cZ->Int->List Int->cZ},(∀{s:cZ} {a:Int} {f:List Int},eK p f->G s.ch s.val s.found->G (d s a f).ch (d s a f).val (d s a f).found)->
   ∀{s:cZ} {a:Int} {f:List Int},eK p f->G s.ch s.val s.found->G (fF p en most d s a f).ch (fF p en most d s a f).val (fF p en most d s a f).found:=by
  intro d e s a f i j;unfold fF;split;·exact j
  split;·exact j
  rename_i t;have y:hJ p f=true:=by simp_all
  have m:G (dp p en s f).ch (dp p en s f).val (dp p en s f).found:=by
   unfold dp;split
   ·rename_i A;unfold dV;split
    ·rename_i o;obtain⟨z,B⟩:=Ue (i.ok y) i.r A.2;have g:eM p.offers.length (eG (dD p f)):=by
      have:=@Ud (dD p f);rw[rI,i.l] at this;exact this
     refine u _ _ _ _ _ j ?_ ?_ o;·exact(Kv i.c g).2 z
     ·exact yF i.c g
    ·exact j
   ·exact j
  split;·exact m
  split;·exact m
  split;·exact m
  ·exact e (i.set (by omega)) (e (i.set (by omega)) m)
 intro n;induction n with
 |zero=>exact k λ_ h=>h;|succ n x=>exact k λv t=>x v t
theorem two_pow_pos (n:Nat):1<=2^n:=Nat.one_le_two_pow
theorem Uo {p:bn} {en:Int->Bool} {most:Int}:∀{n:Nat} {s:cZ} {a:Int} {f:List Int},eK p f->nF f<=n->s.err=0->((s.prf.length+2^(nF f+1):Nat):Int)<=most+2->(dG p en most n s a f).err=0/\(dG p en most n s a f).prf.length+2<=s.prf.length+2^(nF f+1):=by
 have l:∀{c:cZ->Int->List Int->cZ} {s:cZ} {a:Int} {f:List Int},eK p f->s.err=0->((s.prf.length+2^(nF f+1):Nat):Int)<=most+2->
   (∀{s:cZ} {a:Int} {g:List Int},eK p g->nF f=nF g+1->s.err=0->((s.prf.length+2^(nF g+1):Nat):Int)<=most+2->(c s a g).err=0/\(c s a g).prf.length+2<=s.prf.length+2^(nF g+1))->
   (fF p en most c s a f).err=0/\(fF p en most c s a f).prf.length+2<=s.prf.length+2^(nF f+1):=by
  intro c s a f b t u C;obtain⟨L,J,T,X,e5⟩:=@EI p en s f;have F:2<=2^(nF f+1):=by grind
  unfold fF;split;·omega
  split;·simp_all
  rename_i E N;have x:hJ p f=true:=by simp_all
  split;·simp_all
  rename_i v;cases A:jP (dD p f) with
  |none=>
   exfalso;apply v;have o:mQ (dD p f)=true:=by
    unfold mQ;rw[φ];intro q H;obtain⟨i,B,rfl⟩:=γI H;have w:=aem A i B;obtain⟨M,I,_⟩:=ED (b.ok x) b.r (show i<f.length by grind[rI]);rw[cY B] at w M I;rcases(show(dD p f)[i]=0\/(dD p f)[i]=1 by grind) with e|e<;>simp_all
   obtain⟨Y,K⟩:=Ue (b.ok x) b.r o;have P:((pr p f).value:Rat)=jf p f:=K;by_cases D:((s.val+1:Int):Rat)<=jf p f
   ·have O:s.val<(pr p f).value:=by
     rw[<-P] at D;have:s.val+1<=(pr p f).value:=by exact_mod_cast D
     omega
    have:(dp p en s f).val=(pr p f).value:=by
     simp_all[dp,dV]
    grind
   grind;|some k=>
   simp only;obtain⟨j,z,y⟩:=sY A;rw[rI] at j;have m:bj f k.toNat 0=0:=sX (b.ok x) b.r (by omega) z y;have n1:=mr j m (d:=1) (by omega);have n2:=mr j m (d:= -1) (by omega);have W:eK p (f.set k.toNat 1):=b.set (by omega);have Z:eK p (f.set k.toNat (-1)):=b.set (by omega);have V:(gB (dp p en s f) a k).prf.length=s.prf.length+2:=by
    grind[gB]
   have U:2^(nF f+1)=2^(nF (f.set k.toNat 1)+1)+2^(nF (f.set k.toNat 1)+1):=by
    grind
   have ne:nF (f.set k.toNat (-1))=nF (f.set k.toNat 1):=by omega
   have Q:2<=2^(nF (f.set k.toNat 1)+1):=by omega
   rw[if_neg (by rw[L];omega)];have S:(gB (dp p en s f) a k).err=0:=by show(dp p en s f).err=0;rw[J,t]
   grind
 intro n;induction n with
 |zero=>
  intro s a f b G t u;exact l b t u λ{s a g} _ h _ _=>by omega;|succ n R=>
  intro s a f b G t u;exact l b t u λ{s a g} E N v w=>R E (by omega) v w
end Go.Vi

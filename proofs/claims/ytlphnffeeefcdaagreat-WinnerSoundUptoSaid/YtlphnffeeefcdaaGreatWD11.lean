/-
  Contracts: pivot.
  Conditions: none.
-/
import Derived.Test.YtlphnffeeefcdaaGreatWD06
import Derived.Test.YtlphnffeeefcdaaGreatWD07
import Derived.Test.YtlphnffeeefcdaaGreatWD08
import Derived.Test.YtlphnffeeefcdaaGreatWD09
import Derived.Test.YtlphnffeeefcdaaGreatWD10
set_option maxRecDepth 100000
set_option maxHeartbeats 4000000
set_option linter.all false
open Bool renaming eq_false_iff->γ7,and_eq_true->ζ
open Go.Vi.AV renaming sl->ζS,sc->δd,os->ζV
open Go.Vi.SV renaming si->γe,row->Θ,ow->γS,sb->γw,il->γx,ptr->γP,bl->δa
open Int renaming toNat_natCast->Ψ
open IntCast renaming intCast->ι
open List renaming range->ψ,ext_getElem->δb,getElem_map->δB,replicate->δ,length_map->Ω,mem_map->γa,take->ω,length->γf,all_eq_true->κ,take_length->π,map->γc,length_replicate->γk,length_take->γq,map_append->γb,length_set->τ,map_map->δg,flatMap->ζN,elem->ζv,getElem_of_mem->γF,mem_append_left->δF,mem_append->γh,map_cons->ξ,sum_cons->δH,perm_ext_iff_of_nodup->δs,nodup_append->γu,filter_sublist->δm,sum_append->εU,idxOf_lt_length_of_mem->εi,getElem?_set_ne->δD
namespace Go.Vi
open Go.Proofs.YtlphnffeeefcdaaGreat.Ir
open Go.Proofs
def r408:dF:=uh 170 (Int×Int) (.cons (eK .i64) (.one (eK .i64))) (λn m t a=>(0<=a.1/\a.1<m)/\(0<=a.2/\a.2<n)/\t.cf a.1.toNat a.2.toNat≠0) (λ_ _ _ _=> .bJ []) (λ_ _ t a=>fH t a.1.toNat a.2.toNat)
def oW (l:List Rat) (q:Rat):List Rat:=l.map λx=>x*q
def fC (q:Rat):bq:=.cells [.sb (bu q).1,.row (.i .u32) (bu q).2.1,.row (.i .u32) (bu q).2.2] 126 3 false
def i6 {a:Type} (f g:Nat->a) (n r i:Nat):List a:=(ψ n).map λk=>if k<i/\k≠r then g k else f k
theorem v7 {a:Type} {f g:Nat->a} {n r i:Nat}:(i6 f g n r i).length=n:=by simp[i6]
theorem S4 {a:Type} {l:List a} {g:Nat->a} {r:Nat} {d:a}:i6 (λk=>bj l k d) g l.length r 0=l:=by
 refine δb v7 λi b c=>?_;grind[i6,bj]
theorem S5 {a:Type} {f g:Nat->a} {n r i:Nat} {d:a} (h:i<n):bj (i6 f g n r i) i d=f i:=by
 grind[i6,qH]
theorem S7 {a:Type} {f g:Nat->a} {n r i:Nat} (h:i<n) (d:i≠r):(i6 f g n r i).set i (g i)=i6 f g n r (i+1):=by
 refine δb (by simp[i6]) λk b c=>?_;grind[i6]
theorem S8 {a:Type} {f g:Nat->a} {n r:Nat}:i6 f g n r (r+1)=i6 f g n r r:=by
 grind[i6]
theorem S9 {a:Type} {f g:Nat->a} {n r:Nat} {x:a} (h:r<n):(i6 f g n r n).set r x=(ψ n).map λk=>if k=r then x else g k:=by
 refine δb (by simp[i6]) λk b c=>?_;grind[i6]
theorem Ta {l:List (List Rat)} {i:Nat} {x:List Rat}:(fM l).set i (fL x)=fM (l.set i x):=by
 simp_all[fM]
theorem acH {l:List Rat} {c:Nat} (h:c<l.length):(fL (oW l (1 / bj l c 0))).set c (bu (1 / bj l c 0))=fL (kH l c):=by
 rw[yq];congr 1;refine δb (by simp[oW,kH]) λk d e=>?_;have b:k<l.length:=by grind[kH]
 rw[List.getElem_set];simp only[oW,kH,δB,List.getElem_range];by_cases a:c=k;·simp_all
 ·rw[if_neg a,if_neg λh=>a h.symm,cV (i:=k) b]
def kW (t:Tb) (r c i:Nat):Tb:={t with
 ck:=i6 (λk=>bj t.ck k []) (λk=>j8 (bj t.ck k []) c (kH (bj t.ck r []) c)) t.ck.length r i
 bound:=i6 t.bd (λk=>t.bd k - t.cf k c*(t.bd r*(1 / t.cf r c))) t.bound.length r i}
theorem acI {t:Tb} {r c:Nat}:kW t r c 0=t:=by
 unfold kW;have b:=@S4 (List Rat) t.ck (λk=>j8 (bj t.ck k []) c (kH (bj t.ck r []) c)) r [];have d:=@S4 Rat t.bound (λk=>t.bd k - t.cf k c*(t.bd r*(1 / t.cf r c))) r 0;have a:i6 t.bd (λk=>t.bd k - t.cf k c*(t.bd r*(1 / t.cf r c))) t.bound.length r 0=t.bound:=d;rw[b,a]
def acJ (n m:Int) (t:Tb) (r c:Int):Nat->cC
 |3=> .inv Int (λj=>⟨[(0,.ptr 0 0 10),(1,.si .i64 r),(2,.si .i64 c),(6,.ptr 5 0 3),(8,.ow 6 n.toNat 3),(41,.row sF (fL (bj t.ck r.toNat []))),(42,.si .i64 n),(43,.si .i64 j)],
   (bG n m t).gI++[fC (1 / t.cf r.toNat c.toNat),.row sF (eQ (fL (oW (bj t.ck r.toNat []) (1 / t.cf r.toNat c.toNat))) j.toNat (false,([],[]))) 126 true]⟩)
   (λs=>iS s 43) (λj=>0<=j/\j<=n) (λj=>(n - j).toNat) λ_ _=> .look
 |10=> .inv Int (λi=>⟨[(0,.ptr 0 0 10),(1,.si .i64 r),(2,.si .i64 c),(8,.row sF (fL (kH (bj t.ck r.toNat []) c.toNat))),(11,.ptr 7 0 3),(72,.si .i64 m),(73,.si .i64 i)],
   (bG n m (kW t r.toNat c.toNat i.toNat)).gI++[fC (1 / t.cf r.toNat c.toNat),.dead,fC (t.bd r.toNat*(1 / t.cf r.toNat c.toNat))]⟩)
   (λs=>iS s 73) (λj=>0<=j/\j<=m) (λj=>(m - j).toNat) λ_ _=> .look
 |_=> .look
theorem h408:dZ Tryz.prog r408:=by
 refine lp (L:=[nY,DO,Ar,r417,vP]) (W:=[]) r408 (λa=>acJ a.1.n a.1.m a.1.t a.2.1 a.2.2) (by simp) (by simpa using⟨h94,h416,h410,h417,h129⟩) ?_;rintro⟨x,r,c⟩ ⟨n,m,t,hx,hok,⟨r0,r1⟩,⟨c0,c1⟩,ha⟩;simp only at hx r0 r1 c0 c1 ha;subst hx;refine bO (let a:=γe .i64;let d:=bq.row;let e:=(0:Int);let f:=Θ;let g:=γS;let h:=bq.cells;let j:=γw;let k:=(1:Int);let o:=sF.dflt;let s:=γx .i64 0;let w:=γP;let K:=(bG n m t).ck;let a0:=bj K r.toNat sF.bH.dflt;let af:=bu (ι k);let aB:=(af.fst,af.snd.fst,af.snd.snd);let ag:=bj a0 c.toNat o;let ah:=(ag.fst,ag.snd.fst,ag.snd.snd);let Q:=(↑(bG n m t).k4:Int);let L:=w 0 0 10;let a3:=w 5 0 3;let A:=(bG n m t).n;let ai:=g 6 A.toNat 3;let M:=(bG n m t).t;let S:=bj M.ck r.toNat [];let aj:=f sF (fL S);let a4:=a A;let G:=(bG n m t).m;let a5:=a G;let z:=bp.i .u32;let B:=bG A G M;let a6:=h [a B.n,a B.m,g 1 B.k0 1,g 2 B.k1 3,f sF B.cost,j B.v.fst,f z B.v.snd.fst,f z B.v.snd.snd,g 3 B.k3 1,g 4 B.k4 1] 219 10 false;let a7:=d sF.bH B.ck 66 false;let a8:=d sF B.bound 126 false;let C:=bp.i .i64;let a9:=d C B.basic 3 false;let aa:=d C B.free 3 false;let ak:=bu (bQ aB / bQ ah);let N:=(1:Rat) / M.cf r.toNat c.toNat;let R:=h [j (bu N).fst,f z (bu N).snd.fst,f z (bu N).snd.snd] 126 3 false;let ab:=(false,[],[]);let al:=fL (oW S N);let T:=((bu N).fst,(bu N).snd.fst,(bu N).snd.snd);let ac:=B.bound.length;let am:=bj B.bound r.toNat o;let aC:=(am.fst,am.snd.fst,am.snd.snd);let U:=fL (kH S c.toNat);let an:=f sF U;let ad:=w 7 0 3;let D:=bG A G (kW M r.toNat c.toNat 0);let ao:=bu (bQ aC*bQ T);let V:=bu (M.bd r.toNat*N);let ap:=h [j V.fst,f z V.snd.fst,f z V.snd.snd] 126 3 false;let W:=(V.fst,V.snd.fst,V.snd.snd);let E:=bG A G (fH M r.toNat c.toNat);((-9223372036854775808:Int)<=k/\k<=(9223372036854775807:Int))/\(bG n m t).k0=K.length/\e<=r/\r<(↑K.length:Int)/\(bG n m t).k0=K.length/\r.toNat<K.length/\e<=c/\c<(↑a0.length:Int)/\c.toNat<a0.length/\((cB aB/\cB ah)/\bQ ah≠(0:Rat))/\e<=Q/\Q<=Q/\Q*(56:Int)<=(140737488355328:Int)/\Q<=(1000000000000:Int)/\(bG n m t).k0=K.length/\e<=r/\r<(↑K.length:Int)/\(bG n m t).k0=K.length/\r.toNat<K.length/\(((L.same L/\(a r).same (a r)/\(a c).same (a c)/\a3.same a3/\(g 6 Q.toNat 3).same ai/\(f sF a0).same aj/\(a (↑a0.length:Int)).same a4/\(s).same (a 0)/\True)/\(h [a4,a5,g 1 (bG n m t).k0 1,g 2 (bG n m t).k1 3,f sF (bG n m t).cost,j (bG n m t).v.fst,f z (bG n m t).v.snd.fst,f z (bG n m t).v.snd.snd,g 3 (bG n m t).k3 1,g 4 (bG n m t).k4 1] 219 10 false).same a6/\(d sF.bH K 66 false).same a7/\(d sF (bG n m t).bound 126 false).same a8/\(d C (bG n m t).basic 3 false).same a9/\(d C (bG n m t).free 3 false).same aa/\(h [j ak.fst,f z ak.snd.fst,f z ak.snd.snd] 126 3 false).same R/\(d (bp.b.pair (z.bH.pair z.bH)) (δ Q.toNat ab) 126 true).same (d sF (eQ al 0 ab) 126 true)/\True)/\e<=e/\e<=A)/\∀(x:Int),let aq:=bj (fL S) x.toNat o;let aD:=(aq.fst,aq.snd.fst,aq.snd.snd);let ae:=eQ al x.toNat ab;let O:=ae.length;let X:=x+k;let aE:=a X;let ar:=bu (bQ aD*bQ T);e<=x/\x<=A->(decide (x<A)=true->e<=x/\x<(↑(fL S).length:Int)/\x.toNat<(fL S).length/\(cB aD/\cB T)/\A.toNat=O/\e<=x/\x<(↑O:Int)/\A.toNat=O/\x.toNat<O/\cn .i64 X/\((L.same L/\(a r).same (a r)/\(a c).same (a c)/\a3.same a3/\ai.same ai/\aj.same aj/\a4.same a4/\aE.same aE/\True)/\a6.same a6/\a7.same a7/\a8.same a8/\a9.same a9/\aa.same aa/\R.same R/\(d sF (ae.set x.toNat (ar.fst,ar.snd.fst,ar.snd.snd)) 126 true).same (d sF (eQ al X.toNat ab) 126 true)/\True)/\(e<=X/\X<=A)/\(A - X).toNat<(A - x).toNat)/\(decide (x<A)=false->A.toNat=O/\e<=c/\c<(↑O:Int)/\A.toNat=O/\c.toNat<O/\B.k1=ac/\e<=r/\r<(↑ac:Int)/\B.k1=ac/\r.toNat<ac/\(cB aC/\cB T)/\A.toNat=(ae.set c.toNat T).length/\(((L.same L/\(a r).same (a r)/\(a c).same (a c)/\(f sF (ae.set c.toNat T)).same an/\ad.same ad/\(a (↑B.k0:Int)).same a5/\(s).same (a 0)/\True)/\a6.same (h [a D.n,a D.m,g 1 D.k0 1,g 2 D.k1 3,f sF D.cost,j D.v.fst,f z D.v.snd.fst,f z D.v.snd.snd,g 3 D.k3 1,g 4 D.k4 1] 219 10 false)/\a7.same (d sF.bH D.ck 66 false)/\a8.same (d sF D.bound 126 false)/\a9.same (d C D.basic 3 false)/\aa.same (d C D.free 3 false)/\R.same R/\bq.dead.same bq.dead/\(h [j ao.fst,f z ao.snd.fst,f z ao.snd.snd] 126 3 false).same ap/\True)/\e<=e/\e<=G)/\∀(x:Int),let y:=bG A G (kW M r.toNat c.toNat x.toNat);let aF:=a y.n;let aG:=a y.m;let aH:=g 1 y.k0 1;let aI:=g 2 y.k1 3;let Y:=y.cost;let aJ:=[g 3 y.k3 1,g 4 y.k4 1];let Z:=x+k;let F:=bG A G (kW M r.toNat c.toNat Z.toNat);let J:=y.basic;let aK:=a Z;let a1:=y.ck;let H:=a1.length;let a2:=y.bound;let I:=a2.length;let au:=bj a1 x.toNat sF.bH.dflt;let av:=bj a2 x.toNat o;let aL:=(av.fst,av.snd.fst,av.snd.snd);let aw:=bu (bQ aL - bj (vL au) c.toNat (0:Rat)*bQ W);let ax:=(y.v.fst,y.v.snd.fst,y.v.snd.snd);let ay:=bj Y c.toNat o;let aM:=(ay.fst,ay.snd.fst,ay.snd.snd);let az:=bu (bQ aM*bQ W);let aN:=(az.fst,az.snd.fst,az.snd.snd);let P:=y.free.length;let aA:=bu (bQ ax+bQ aN);let aP:=(h (aF::aG::aH::aI::f sF Y::j y.v.fst::f z y.v.snd.fst::f z y.v.snd.snd::aJ) 219 10 false).same (h [a F.n,a F.m,g 1 F.k0 1,g 2 F.k1 3,f sF F.cost,j F.v.fst,f z F.v.snd.fst,f z F.v.snd.snd,g 3 F.k3 1,g 4 F.k4 1] 219 10 false);let aQ:=(d C J 3 false).same (d C F.basic 3 false)/\(d C y.free 3 false).same (d C F.free 3 false)/\R.same R/\bq.dead.same bq.dead/\ap.same ap/\True;let aO:=λ(u u_1:bq) ↦cn .i64 Z/\((L.same L/\(a r).same (a r)/\(a c).same (a c)/\an.same an/\ad.same ad/\a5.same a5/\aK.same aK/\True)/\aP/\u.same (d sF.bH F.ck 66 false)/\u_1.same (d sF F.bound 126 false)/\aQ)/\(e<=Z/\Z<=G)/\(G - Z).toNat<(G - x).toNat;e<=x/\x<=G->(decide (x<G)=true->(decide (x≠r)=true->y.k0=H/\e<=x/\x<(↑H:Int)/\y.k0=H/\x.toNat<H/\y.k1=I/\e<=x/\x<(↑I:Int)/\y.k1=I/\x.toNat<I/\(∃(l:List Rat),∃(b:Rat),∃(p:List Rat),∃(pb:Rat),(au=fL l/\aL=bu b/\U=fL p/\W=bu pb)/\(l.length=p.length/\l.length<=1000)/\(e<=c/\c<(↑l.length:Int))/\(∀(q:Rat),q∈l->Sz 10000000 q)/\(∀(q:Rat),q∈p->Sz 10000000 q)/\Sz 10000000 b/\Sz 10000000 pb)/\y.k0=H/\e<=x/\x<(↑H:Int)/\y.k0=H/\x.toNat<H/\y.k1=I/\e<=x/\x<(↑I:Int)/\y.k1=I/\x.toNat<I/\aO (d sF.bH (a1.set x.toNat (fL (j8 (vL au) c.toNat (vL U)))) 66 false) (d sF (a2.set x.toNat (aw.fst,aw.snd.fst,aw.snd.snd)) 126 false))/\(decide (x≠r)=false->aO (d sF.bH a1 66 false) (d sF a2 126 false)))/\(decide (x<G)=false->e<=c/\c<(↑Y.length:Int)/\c.toNat<Y.length/\(∃(l:List Rat),∃(b:Rat),∃(p:List Rat),∃(pb:Rat),(Y=fL l/\ax=bu b/\U=fL p/\W=bu pb)/\(l.length=p.length/\l.length<=1000)/\(e<=c/\c<(↑l.length:Int))/\(∀(q:Rat),q∈l->Sz 10000000 q)/\(∀(q:Rat),q∈p->Sz 10000000 q)/\Sz 10000000 b/\Sz 10000000 pb)/\(cB aM/\cB W)/\(cB ax/\cB aN)/\y.k0=H/\e<=r/\r<(↑H:Int)/\y.k0=H/\r.toNat<H/\y.k1=I/\e<=r/\r<(↑I:Int)/\y.k1=I/\r.toNat<I/\y.k4=P/\e<=c/\c<(↑P:Int)/\y.k4=P/\c.toNat<P/\y.k3=J.length/\e<=r/\r<(↑J.length:Int)/\y.k3=J.length/\r.toNat<J.length/\y.k3=J.length/\e<=r/\r<(↑J.length:Int)/\y.k3=J.length/\r.toNat<J.length/\y.k4=P/\e<=c/\c<(↑P:Int)/\y.k4=P/\c.toNat<P/\(SV.bJ []).same (SV.bJ [])/\(h (aF::aG::aH::aI::f sF (fL (j8 (vL Y) c.toNat (vL U)))::j aA.fst::f z aA.snd.fst::f z aA.snd.snd::aJ) 219 10 false).same (h [a E.n,a E.m,g 1 E.k0 1,g 2 E.k1 3,f sF E.cost,j E.v.fst,f z E.v.snd.fst,f z E.v.snd.snd,g 3 E.k3 1,g 4 E.k4 1] 219 10 false)/\(d sF.bH (a1.set r.toNat U) 66 false).same (d sF.bH E.ck 66 false)/\(d sF (a2.set r.toNat W) 126 false).same (d sF E.bound 126 false)/\(d C (J.set r.toNat (bj y.free c.toNat e)) 3 false).same (d C E.basic 3 false)/\(d C (y.free.set c.toNat (bj J r.toNat e)) 3 false).same (d C E.free 3 false)/\True))) (by kernel_rfl) ?_;conv=>zeta
 try simp only[sB]
 try simp only[bG]
 try simp only[vcs]
 obtain⟨⟨⟨n0,n1⟩,m0,m1⟩,hw,hz⟩:=id hok;have hkl:=hw.ck;have hbl:=hw.bound;have hbb:=hw.basic;have hfl:=hw.free;have hcl:=hw.cost;have hfm:=@Jm t.ck;have Jr:=@ft t.bound;have hrl:=hw.row r.toNat (by omega);have hcast:∀k:Nat,((k:Nat):Int).toNat=k:=λk=>Ψ k;have h1:(ι 1:Rat)=1:=rfl;have hR:bj (fM t.ck) r.toNat sF.bH.dflt=fL (bj t.ck r.toNat []):=Jn (by omega);have hA:bj (fL (bj t.ck r.toNat [])) c.toNat sF.dflt=bu (t.cf r.toNat c.toNat):=jl (by omega);have hB:bj (fL t.bound) r.toNat sF.dflt=bu (t.bd r.toNat):=jl (by omega);simp only[hR,hA,hB,jB,ez,hcast,h1];have hsA:=hok.cf (i:=r.toNat) (j:=c.toNat) (by omega) (by omega);have hsB:=hok.bd (i:=r.toNat) (by omega);have s1:Sz 1 (1:Rat):=by unfold Sz;decide
 have hsI:=I8 s1 hsA ha;have hsP:=ub hsB hsI;have hfr:=@ft (bj t.ck r.toNat []);have hsl:(oW (bj t.ck r.toNat []) (1 / t.cf r.toNat c.toNat)).length=n.toNat:=by unfold oW;rw[Ω];exact hrl
 have hfs:=@ft (oW (bj t.ck r.toNat []) (1 / t.cf r.toNat c.toNat));have hrow:∀{x y:List bM},x=y->(bq.row sF x 126 true).same (bq.row sF y 126 true):=by rintro _ _ rfl;rfl
 refine⟨by omega,by omega,r0,by omega,by omega,by omega,c0,by omega,by omega,⟨⟨dP s1 (by omega),dP hsA (by omega)⟩,ha⟩,by omega,by omega,by omega,by omega,by omega,r0,by omega,by omega,by omega,⟨⟨⟨by rw[hfl];rfl,trivial,by omega⟩,rfl,hrow (by rw[yn,hfs,hsl,hfl])⟩,by omega,by omega⟩,?_⟩;rintro j ⟨j0,j1⟩;have oG:=@ym (fL (oW (bj t.ck r.toNat []) (1 / t.cf r.toNat c.toNat))) j.toNat (false,([],[])) (by omega);refine⟨λhj=>?_,λhj=>?_⟩
 ·have hL:bj (fL (bj t.ck r.toNat [])) j.toNat sF.dflt=bu (t.cf r.toNat j.toNat):=jl (by omega);have hS:bj (fL (oW (bj t.ck r.toNat []) (1 / t.cf r.toNat c.toNat))) j.toNat (false,([],[]))=bu (t.cf r.toNat j.toNat*(1 / t.cf r.toNat c.toNat)):=by
   rw[jl (by omega),cV (by omega)];unfold oW Tb.cf;rw[δB,cV (l:=bj t.ck r.toNat []) (i:=j.toNat) (by omega)]
  simp only[hL,ez];refine⟨j0,by omega,by omega,⟨dP (hok.cf (by omega) (by omega)) (by omega),dP hsI (by omega)⟩,by omega,j0,by omega,by omega,by omega,by omega,hrow ?_,by omega,by omega⟩;rw[yp (by omega) hS.symm,show(j+1).toNat=j.toNat+1 by omega]
 ·have hset:(eQ (fL (oW (bj t.ck r.toNat []) (1 / t.cf r.toNat c.toNat))) j.toNat (false,([],[]))).set c.toNat (bu (1 / t.cf r.toNat c.toNat))=fL (kH (bj t.ck r.toNat []) c.toNat):=by
   rw[show j.toNat=(fL (oW (bj t.ck r.toNat []) (1 / t.cf r.toNat c.toNat))).length by omega,yo];exact acH (by omega)
  have hpl:(kH (bj t.ck r.toNat []) c.toNat).length=n.toNat:=by rw[RI];exact hrl
  have hfp:=@ft (kH (bj t.ck r.toNat []) c.toNat);simp only[hset,acI];have Tc:∀q∈kH (bj t.ck r.toNat []) c.toNat,Sz 10000000 q:=λq hq=>by
   obtain⟨k,hk,rfl⟩:=γa.1 hq;rw[List.mem_range] at hk;split;·exact hsI.mono (by omega)
   ·exact(ub (hok.cf (i:=r.toNat) (j:=k) (by omega) (by omega)) hsI).mono (by omega)
  refine⟨by omega,c0,by omega,by omega,by omega,by omega,r0,by omega,by omega,by omega,⟨dP hsB (by omega),dP hsI (by omega)⟩,by omega,⟨⟨⟨trivial,by omega⟩,rfl,rfl,rfl,rfl,rfl,rfl⟩,by omega,by omega⟩,?_⟩;rintro i ⟨i0,i1⟩;have ekl:(kW t r.toNat c.toNat i.toNat).ck.length=m.toNat:=by show(i6 _ _ _ _ _).length=_;rw[v7];exact hkl
  have ebl:(kW t r.toNat c.toNat i.toNat).bound.length=m.toNat:=by show(i6 _ _ _ _ _).length=_;rw[v7];exact hbl
  have efm:=@Jm (kW t r.toNat c.toNat i.toNat).ck;have efb:=@ft (kW t r.toNat c.toNat i.toNat).bound;have hfc:=@ft t.cost;have acM:∀{a b:Tb},a.ck.length=b.ck.length->a.bound.length=b.bound.length->a.cost=b.cost->a.value=b.value->a.basic.length=b.basic.length->a.free.length=b.free.length->
    (bq.cells [.si .i64 n,.si .i64 m,.ow 1 a.ck.length 1,.ow 2 a.bound.length 3,.row sF (fL a.cost),.sb (bu a.value).1,.row (.i .u32) (bu a.value).2.1,.row (.i .u32) (bu a.value).2.2,.ow 3 a.basic.length 1,.ow 4 a.free.length 1] 219 10 false).same
    (bq.cells [.si .i64 n,.si .i64 m,.ow 1 b.ck.length 1,.ow 2 b.bound.length 3,.row sF (fL b.cost),.sb (bu b.value).1,.row (.i .u32) (bu b.value).2.1,.row (.i .u32) (bu b.value).2.2,.ow 3 b.basic.length 1,.ow 4 b.free.length 1] 219 10 false):=λh1 h2 h3 h4 h5 h6=>by
   rw[h1,h2,h3,h4,h5,h6];rfl
  have Td:∀{x y:List (List bM)},x=y->(bq.row sF.bH x 66 false).same (bq.row sF.bH y 66 false):=by rintro _ _ rfl;rfl
  have Tf:∀{x y:List bM},x=y->(bq.row sF x 126 false).same (bq.row sF y 126 false):=by rintro _ _ rfl;rfl
  have Ti:∀{x y:List Int},x=y->(bq.row (.i .i64) x 3 false).same (bq.row (.i .i64) y 3 false):=by rintro _ _ rfl;rfl
  refine⟨λhi=>⟨λhir=>?_,λhir=>?_⟩,λhi=>?_⟩
  ·have hRi:bj (fM (kW t r.toNat c.toNat i.toNat).ck) i.toNat sF.bH.dflt=fL (bj t.ck i.toNat []):=by
    rw[Jn (by omega)];congr 1;exact S5 (by omega)
   have hBi:bj (fL (kW t r.toNat c.toNat i.toNat).bound) i.toNat sF.dflt=bu (t.bd i.toNat):=by
    rw[jl (by omega)];congr 1;exact S5 (by omega)
   have hli:=hw.row i.toNat (by omega);simp only[hRi,hBi,kJ,ez];refine⟨by omega,i0,by omega,by omega,by omega,by omega,i0,by omega,by omega,by omega,⟨bj t.ck i.toNat [],t.bd i.toNat,kH (bj t.ck r.toNat []) c.toNat,t.bd r.toNat*(1 / t.cf r.toNat c.toNat),⟨rfl,rfl,rfl,rfl⟩,⟨by omega,by omega⟩,⟨c0,by omega⟩,λq hq=>?_,Tc,(hok.bd (by omega)).mono (by omega),hsP.mono (by omega)⟩,by omega,i0,by omega,by omega,by omega,by omega,i0,by omega,by omega,by omega,by omega,⟨acM ?_ ?_ rfl rfl rfl rfl,Td ?_,Tf ?_,rfl,rfl⟩,by omega,by omega⟩;·exact(hz.1 _ (dj (d:=[]) (by omega)) q hq).mono (by omega)
   ·show(i6 _ _ _ _ _).length=(i6 _ _ _ _ _).length;rw[v7,v7]
   ·show(i6 _ _ _ _ _).length=(i6 _ _ _ _ _).length;rw[v7,v7]
   ·rw[Ta,show(i+1).toNat=i.toNat+1 by omega];congr 1;exact S7 (by omega) (by omega)
   ·rw[yq,show(i+1).toNat=i.toNat+1 by omega];congr 1;exact S7 (f:=t.bd) (g:=λk=>t.bd k - t.cf k c.toNat*(t.bd r.toNat*(1 / t.cf r.toNat c.toNat))) (by omega) (by omega)
  ·have e:kW t r.toNat c.toNat (i+1).toNat=kW t r.toNat c.toNat i.toNat:=by
    rw[show(i+1).toNat=r.toNat+1 by omega,show i.toNat=r.toNat by omega];unfold kW;rw[S8,S8]
   rw[e];refine⟨?_,⟨rfl,rfl,rfl,rfl,rfl⟩,?_,?_⟩<;>omega
  ·have Tj:=hok.cs (j:=c.toNat) (by omega);have hC:bj (fL t.cost) c.toNat sF.dflt=bu (t.cs c.toNat):=jl (by omega);have hcc:(kW t r.toNat c.toNat i.toNat).cost=t.cost:=rfl;have hvv:(kW t r.toNat c.toNat i.toNat).value=t.value:=rfl;have hff:(kW t r.toNat c.toNat i.toNat).free=t.free:=rfl;have hbs:(kW t r.toNat c.toNat i.toNat).basic=t.basic:=rfl;simp only[hC,hcc,hvv,hff,hbs,kJ,ez];refine⟨c0,by omega,by omega,⟨t.cost,t.value,kH (bj t.ck r.toNat []) c.toNat,t.bd r.toNat*(1 / t.cf r.toNat c.toNat),⟨rfl,rfl,rfl,rfl⟩,⟨by omega,by omega⟩,⟨c0,by omega⟩,λq hq=>(hz.2.2.1 q hq).mono (by omega),Tc,hz.2.2.2.mono (by omega),hsP.mono (by omega)⟩,⟨dP Tj (by omega),dP hsP (by omega)⟩,⟨dP hz.2.2.2 (by omega),dP (ub Tj hsP) (by omega)⟩,
    by omega,r0,by omega,by omega,by omega,by omega,r0,by omega,by omega,by omega,c0,by omega,by omega,r0,by omega,by omega,r0,by omega,by omega,c0,by omega,by omega,?_,Td ?_,Tf ?_,Ti rfl,Ti rfl⟩
   ·have hpw:=RJ (r:=r.toNat) (c:=c.toNat) hw;rw[ekl,ebl,hbb,hfl,hpw.ck,hpw.bound,hpw.basic,hpw.free];rfl
   ·rw[Ta,show i.toNat=t.ck.length by omega];congr 1;exact S9 (by omega)
   ·rw[yq,show i.toNat=t.bound.length by omega];congr 1;exact S9 (by omega)
def okO (n m:Nat) (t:Tb):Prop:=∃a M G,Small n m M G a/\Run n m a t/\j9 m t
theorem acQ {n m:Nat} {t:Tb} (h:okO n m t):fc n m (uk n m t) t=true:=by
 obtain⟨e,M,G,c,b,a⟩:=h;have d:=Jl b a;unfold uk;grind
noncomputable def JP:dF:=uh 140 Unit .nil (λn m t _=>okO n.toNat m.toNat t) (λn m t _=> .bJ [.si .i64 (if eA (lastT n.toNat m.toNat t) n.toNat<0 then 0 else eA (lastT n.toNat m.toNat t) n.toNat),.sb (decide (eA (lastT n.toNat m.toNat t) n.toNat<0))]) (λn m t _=>lastT n.toNat m.toNat t)
def tS (t:Tb) (s:cq):Tb:=match DY s.o with
 |some x=>x.t
 |none=>t
noncomputable def acR (n m:Int) (t:Tb):Nat->cC
 |1=> .inv Tb (λx=>⟨[(0,.ptr 0 0 10)],(bG n m x).gI⟩) (tS t) (λx=>okO n.toNat m.toNat x/\lastT n.toNat m.toNat x=lastT n.toNat m.toNat t/\fc n.toNat m.toNat (uk n.toNat m.toNat t) x=true) (λx=>yc n.toNat m.toNat (uk n.toNat m.toNat t) x) λ_ _=> .look
 |_=> .look
theorem acS {n m:Int} {t:Tb} (h:okO n.toNat m.toNat t) (e:0<=n/\n<=1000) (f:0<=m/\m<=1000):kK n m t:=by
 obtain⟨c,M,G,a,b,d⟩:=h;grind[SD]
theorem h402:dZ Tryz.prog JP:=by
 refine lp (L:=[]) (W:=[Jp,Jq,r408]) JP (λa=>acR a.1.n a.1.m a.1.t) (by simpa using⟨h411,h412,h408⟩) (by simp) ?_;rintro⟨x,u⟩ ⟨n,m,t,hx,hok,hd⟩;simp only at hx hd;subst hx;refine bO (let a:=bq.row;let b:=γe .i64;let c:=γS;let d:=Θ;let e:=bq.cells;let f:=(0:Int);let g:=γw;let h:=SV.bJ;let I:=γP 0 0 10;let D:=(bG n m t).n;let E:=(bG n m t).m;let r:=bp.i .u32;let F:=(bG n m t).t;let l:=bG D E F;let o:=bp.i .i64;let k:=D.toNat;let s:=E.toNat;let B:=lastT k s F;let G:=uk k s F;let K:=h [b (if eA B k<f then f else eA B k),g (decide (eA B k<f))];let p:=bG D E B;let L:=e [b p.n,b p.m,c 1 p.k0 1,c 2 p.k1 3,d sF p.cost,g p.v.fst,d r p.v.snd.fst,d r p.v.snd.snd,c 3 p.k3 1,c 4 p.k4 1] 219 10 false;let M:=a sF.bH p.ck 66 false;let N:=a sF p.bound 126 false;let O:=a o p.basic 3 false;let P:=a o p.free 3 false;(((I.same I/\True)/\(e [b D,b E,c 1 (bG n m t).k0 1,c 2 (bG n m t).k1 3,d sF (bG n m t).cost,g (bG n m t).v.fst,d r (bG n m t).v.snd.fst,d r (bG n m t).v.snd.snd,c 3 (bG n m t).k3 1,c 4 (bG n m t).k4 1] 219 10 false).same (e [b l.n,b l.m,c 1 l.k0 1,c 2 l.k1 3,d sF l.cost,g l.v.fst,d r l.v.snd.fst,d r l.v.snd.snd,c 3 l.k3 1,c 4 l.k4 1] 219 10 false)/\(a sF.bH (bG n m t).ck 66 false).same (a sF.bH l.ck 66 false)/\(a sF (bG n m t).bound 126 false).same (a sF l.bound 126 false)/\(a o (bG n m t).basic 3 false).same (a o l.basic 3 false)/\(a o (bG n m t).free 3 false).same (a o l.free 3 false)/\True)/\okO k s F/\B=B/\fc k s G F=true)/\∀(x:Tb),let y:=bG D E x;let z:=eA y.t y.n.toNat;let Q:=decide (z<f);let j:=bG y.n y.m y.t;let H:=dV j.t z.toNat j.m.toNat;let R:=decide (H<f);let C:=bG j.n j.m j.t;let S:=fH C.t H.toNat z.toNat;let A:=bG C.n C.m S;let q:=bG D E A.t;let T:=λ(u u_1:Int) (u_2 u_3:Tb) (u_4:bq) ↦let J:=bG u u_1 u_2;let U:=bG J.n J.m J.t;let w:=bG U.n U.m u_3;(e [b w.n,b w.m,c 1 w.k0 1,c 2 w.k1 3,d sF w.cost,g w.v.fst,d r w.v.snd.fst,d r w.v.snd.snd,c 3 w.k3 1,c 4 w.k4 1] 219 10 false).same u_4;okO k s x/\lastT k s x=B/\fc k s G x=true->(∃(n:Int),∃(m:Int),∃(t:Tb),y=bG n m t/\kK n m t/\True)/\(Q=true->(h [γx .i64 0,δa true]).same K/\(e [b j.n,b j.m,c 1 j.k0 1,c 2 j.k1 3,d sF j.cost,g j.v.fst,d r j.v.snd.fst,d r j.v.snd.snd,c 3 j.k3 1,c 4 j.k4 1] 219 10 false).same L/\(a sF.bH j.ck 66 false).same M/\(a sF j.bound 126 false).same N/\(a o j.basic 3 false).same O/\(a o j.free 3 false).same P/\True)/\(Q=false->(∃(n:Int),∃(m:Int),∃(t:Tb),j=bG n m t/\kK n m t/\f<=z/\z<n)/\(R=true->(h [b z,δa false]).same K/\T D E x j.t L/\(a sF.bH C.ck 66 false).same M/\(a sF C.bound 126 false).same N/\(a o C.basic 3 false).same O/\(a o C.free 3 false).same P/\True)/\(R=false->(∃(n:Int),∃(m:Int),∃(t:Tb),C=bG n m t/\kK n m t/\(f<=H/\H<m)/\(f<=z/\z<n)/\t.cf H.toNat z.toNat≠(0:Rat))/\0=0/\((I.same I/\True)/\T y.n y.m y.t S (e [b q.n,b q.m,c 1 q.k0 1,c 2 q.k1 3,d sF q.cost,g q.v.fst,d r q.v.snd.fst,d r q.v.snd.snd,c 3 q.k3 1,c 4 q.k4 1] 219 10 false)/\(a sF.bH A.ck 66 false).same (a sF.bH q.ck 66 false)/\(a sF A.bound 126 false).same (a sF q.bound 126 false)/\(a o A.basic 3 false).same (a o q.basic 3 false)/\(a o A.free 3 false).same (a o q.free 3 false)/\True)/\(okO k s A.t/\lastT k s A.t=B/\fc k s G A.t=true)/\yc k s G A.t<yc k s G x))) (by kernel_rfl) ?_;simp only[abO,sB,R1,R7];try simp only[vcs]
 obtain⟨⟨hn,hm⟩,hw,hz⟩:=id hok;refine⟨⟨hd,acQ hd⟩,?_⟩;rintro x ⟨hx,hl,he⟩;have Ej:=acS hx hn hm;have hs:stepT n.toNat m.toNat x=if eA x n.toNat<0 then none else if dV x (eA x n.toNat).toNat m.toNat<0 then none else some (fH x (dV x (eA x n.toNat).toNat m.toNat).toNat (eA x n.toNat).toNat):=rfl;have hwx:=Ej.2.1;have fin:∀{y:Tb},y=lastT n.toNat m.toNat t->bG n m y=bG n m (lastT n.toNat m.toNat t):=by rintro _ rfl;rfl
 refine⟨⟨n,m,x,rfl,Ej⟩,λh0=>?_,λh0=>?_⟩
 ·rw[if_pos h0] at hs;have e:=SJ hs;rw[hl] at e;rw[<-e] at h0 ⊢;rw[if_pos h0,decide_eq_true h0];exact⟨⟨rfl,rfl⟩,rfl,rfl,rfl,rfl,rfl⟩
 ·have h0':¬eA x n.toNat<0:=h0;rw[if_neg h0'] at hs;rcases @ug x n.toNat with⟨e1,e2⟩|⟨c,e1,e2,e3,e4⟩;·omega
  ·refine⟨⟨n,m,x,rfl,Ej,by omega,by omega⟩,λh1=>?_,λh1=>?_⟩
   ·rw[if_pos h1] at hs;have e:=SJ hs;rw[hl] at e;rw[e,if_neg h0',decide_eq_false h0'];exact⟨⟨rfl,rfl⟩,rfl,rfl,rfl,rfl,rfl⟩
   ·have h1':¬dV x (eA x n.toNat).toNat m.toNat<0:=h1;rw[if_neg h1'] at hs;rcases @vT x (eA x n.toNat).toNat m.toNat with⟨l1,l2⟩|⟨r,l1,l2,l3,l4⟩;·omega
    ·refine⟨⟨n,m,x,rfl,Ej,⟨by omega,by omega⟩,⟨by omega,by omega⟩,?_⟩,?_⟩;·rw[l1,Ψ];grind
     ·obtain⟨t0,M,G,g1,g2,g3⟩:=hx;have hsr:=Jj g2 g3 hs;have acT:=Jl g2 g3;refine⟨⟨⟨t0,M,G,g1,hsr.1,hsr.2⟩,?_,RZ he hs⟩,left_step he hs⟩;rw[acj acT hs,hl]
def fZ (t:Tb) (n:Nat):Nat->List Rat
 |0=>δ n 0
 |k+1=>if t.bv k<n then(fZ t n k).set (t.bv k).toNat (t.bd k) else fZ t n k
def jm (t:Tb) (n m:Nat):Nat->List Rat
 |0=>δ m 0
 |k+1=>if(n:Int)<=t.fv k/\t.fv k<n+m then(jm t n m k).set (t.fv k - n).toNat (-(t.cs k)) else jm t n m k
theorem Ek {t:Tb} {n:Nat}:∀{k:Nat},(fZ t n k).length=n
 |0=>by simp[fZ];|k+1=>by
  have:=@Ek t n k;grind[fZ]
theorem Em {t:Tb} {n m:Nat}:∀{k:Nat},(jm t n m k).length=m
 |0=>by simp[jm];|k+1=>by
  have:=@Em t n m k;grind[jm]
def En:dF:=uh 141 Unit .nil (λ_ _ t _=>∀v∈t.basic,0<=v) (λn m t _=> .row sF (fL (fZ t n.toNat m.toNat))) (λ_ _ t _=>t)
def acU (n m:Int) (t:Tb):Nat->cC
 |3=> .inv Int (λi=>⟨[(0,.ptr 0 0 10),(3,.ow 5 n.toNat 3),(14,.ow 3 t.basic.length 1),(15,.si .i64 t.basic.length),(16,.si .i64 i)],(bG n m t).gI++[.row sF (fL (fZ t n.toNat i.toNat)) 126 false]⟩)
   (λs=>iS s 16) (λi=>0<=i/\i<=m) (λi=>(m - i).toNat) λ_ _=> .look
 |_=> .look
theorem h403:dZ Tryz.prog En:=by
 refine lp (L:=[]) (W:=[r413]) En (λa=>acU a.1.n a.1.m a.1.t) (by simpa using h413) (by simp) ?_;rintro⟨x,u⟩ ⟨n,m,t,hx,hok,hd⟩;simp only at hx hd;subst hx;refine bO (let a:=bq.row;let b:=γe .i64;let c:=(0:Int);let d:=Θ;let e:=γS;let p:=(bG n m t).n;let B:=γP 0 0 10;let g:=p.toNat;let C:=e 5 g 3;let J:=e 3 (bG n m t).k3 1;let k:=(bG n m t).t;let q:=k.basic.length;let G:=e 3 q 1;let H:=b (↑q:Int);let h:=(bG n m t).m;let D:=bp.i .u32;let f:=bG p h k;let r:=bq.cells [b f.n,b f.m,e 1 f.k0 1,e 2 f.k1 3,d sF f.cost,γw f.v.fst,d D f.v.snd.fst,d D f.v.snd.snd,e 3 f.k3 1,e 4 f.k4 1] 219 10 false;let s:=a sF.bH f.ck 66 false;let w:=a sF f.bound 126 false;let E:=bp.i .i64;let l:=f.basic;let y:=a E l 3 false;let z:=a E f.free 3 false;let F:=f.bound.length;(c<=p/\p<=(1000:Int))/\(((B.same B/\C.same C/\J.same G/\(b (↑(bG n m t).k3:Int)).same H/\(γx .i64 0).same (b 0)/\True)/\(bq.cells [b p,b h,e 1 (bG n m t).k0 1,e 2 (bG n m t).k1 3,d sF (bG n m t).cost,γw (bG n m t).v.fst,d D (bG n m t).v.snd.fst,d D (bG n m t).v.snd.snd,J,e 4 (bG n m t).k4 1] 219 10 false).same r/\(a sF.bH (bG n m t).ck 66 false).same s/\(a sF (bG n m t).bound 126 false).same w/\(a E (bG n m t).basic 3 false).same y/\(a E (bG n m t).free 3 false).same z/\(a sF (fL (δ g (0:Rat))) 126 false).same (a sF (fL (fZ k g 0)) 126 false)/\True)/\c<=c/\c<=h)/\∀(x:Int),let o:=x+(1:Int);let K:=b o;let L:=decide (x<(↑q:Int));let A:=bj l x.toNat c;let M:=decide (A<f.n);let j:=fL (fZ k g x.toNat);let I:=bj f.bound x.toNat sF.dflt;let N:=λ(u:bq) ↦cn .i64 o/\((B.same B/\C.same C/\G.same G/\H.same H/\K.same K/\True)/\r.same r/\s.same s/\w.same w/\y.same y/\z.same z/\u.same (a sF (fL (fZ k g o.toNat)) 126 false)/\True)/\(c<=o/\o<=h)/\(h - o).toNat<(h - x).toNat;c<=x/\x<=h->(L=true->q=l.length/\c<=x/\x<(↑l.length:Int)/\q=l.length/\x.toNat<l.length/\(M=true->f.k1=F/\c<=x/\x<(↑F:Int)/\f.k1=F/\x.toNat<F/\g=j.length/\c<=A/\A<(↑j.length:Int)/\g=j.length/\A.toNat<j.length/\N (a sF (j.set A.toNat (I.fst,I.snd.fst,I.snd.snd)) 126 false))/\(M=false->N (a sF j 126 false)))/\(L=false->g=j.length/\(d sF j).same (d sF (fL (fZ k g h.toNat)))/\r.same r/\s.same s/\w.same w/\y.same y/\z.same z/\True)) (by kernel_rfl) ?_;simp only[sB];try simp only[bG]
 simp only[vcs];obtain⟨⟨⟨n0,n1⟩,m0,m1⟩,hw,hz⟩:=id hok;have hbb:=hw.basic;have hbl:=hw.bound;have Jr:=@ft t.bound;have hbv:∀k:Nat,bj t.basic k 0=t.bv k:=λk=>rfl;have hrow:∀{x y:List bM},x=y->(bq.row sF x 126 false).same (bq.row sF y 126 false):=by rintro _ _ rfl;rfl
 refine⟨⟨n0,n1⟩,⟨hrow rfl,by omega,by omega⟩,?_⟩;rintro i ⟨i0,i1⟩;have hpl:=@Ek t n.toNat i.toNat;have hfp:=@ft (fZ t n.toNat i.toNat);refine⟨λhi=>?_,λhi=>⟨by omega,by rw[show i.toNat=m.toNat by omega]⟩⟩;have hv:=hd _ (Ax hw (show i.toNat<m.toNat by omega));have hB:bj (fL t.bound) i.toNat sF.dflt=bu (t.bd i.toNat):=jl (by omega);have hs:fZ t n.toNat (i+1).toNat=if t.bv i.toNat<n.toNat then(fZ t n.toNat i.toNat).set (t.bv i.toNat).toNat (t.bd i.toNat) else fZ t n.toNat i.toNat:=by
  rw[show(i+1).toNat=i.toNat+1 by omega];rfl
 simp only[hbv,hB,jB,hs];refine⟨i0,hi,by omega,λhlt=>⟨by omega,i0,by omega,by omega,by omega,by omega,hv,by omega,by omega,by omega,by omega,hrow ?_,by omega,by omega⟩,λhlt=>⟨by omega,hrow ?_,by omega,by omega⟩⟩;·rw[yq,if_pos (by omega)]
 ·rw[if_neg (by omega)]
def Eo:dF:=uh 143 Unit .nil (λ_ _ t _=>True) (λn m t _=> .row sF (fL (jm t n.toNat m.toNat n.toNat))) (λ_ _ t _=>t)
def acV (n m:Int) (t:Tb):Nat->cC
 |3=> .inv Int (λi=>⟨[(0,.ptr 0 0 10),(3,.ow 5 m.toNat 3),(14,.ow 4 t.free.length 1),(15,.si .i64 t.free.length),(16,.si .i64 i)],(bG n m t).gI++[.row sF (fL (jm t n.toNat m.toNat i.toNat)) 126 false]⟩)
   (λs=>iS s 16) (λi=>0<=i/\i<=n) (λi=>(n - i).toNat) λ_ _=> .look
 |_=> .look
theorem h405:dZ Tryz.prog Eo:=by
 refine lp (L:=[x5]) (W:=[r413]) Eo (λa=>acV a.1.n a.1.m a.1.t) (by simpa using h413) (by simpa using h130) ?_;rintro⟨x,u⟩ ⟨n,m,t,hx,hok,hd⟩;simp only at hx hd;subst hx;refine bO (let a:=bq.row;let b:=γe .i64;let c:=(0:Int);let d:=Θ;let e:=γS;let f:=cn .i64;let A:=(bG n m t).m;let u:=γP 0 0 10;let k:=A.toNat;let w:=e 5 k 3;let M:=e 4 (bG n m t).k4 1;let y:=(bG n m t).t;let B:=y.free.length;let C:=e 4 B 1;let D:=b (↑B:Int);let h:=(bG n m t).n;let G:=bp.i .u32;let g:=bG h A y;let o:=bq.cells [b g.n,b g.m,e 1 g.k0 1,e 2 g.k1 3,d sF g.cost,γw g.v.fst,d G g.v.snd.fst,d G g.v.snd.snd,e 3 g.k3 1,e 4 g.k4 1] 219 10 false;let p:=a sF.bH g.ck 66 false;let q:=a sF g.bound 126 false;let H:=bp.i .i64;let r:=a H g.basic 3 false;let z:=g.free;let s:=a H z 3 false;let E:=h.toNat;(c<=A/\A<=(1000:Int))/\(((u.same u/\w.same w/\M.same C/\(b (↑(bG n m t).k4:Int)).same D/\(γx .i64 0).same (b 0)/\True)/\(bq.cells [b h,b A,e 1 (bG n m t).k0 1,e 2 (bG n m t).k1 3,d sF (bG n m t).cost,γw (bG n m t).v.fst,d G (bG n m t).v.snd.fst,d G (bG n m t).v.snd.snd,e 3 (bG n m t).k3 1,M] 219 10 false).same o/\(a sF.bH (bG n m t).ck 66 false).same p/\(a sF (bG n m t).bound 126 false).same q/\(a H (bG n m t).basic 3 false).same r/\(a H (bG n m t).free 3 false).same s/\(a sF (fL (δ k (0:Rat))) 126 false).same (a sF (fL (jm y E k 0)) 126 false)/\True)/\c<=c/\c<=h)/\∀(x:Int),let j:=x+(1:Int);let I:=b j;let l:=fL (jm y E k x.toNat);let N:=a sF (fL (jm y E k j.toNat)) 126 false;let O:=decide (x<(↑B:Int));let J:=bj z x.toNat c;let P:=decide (g.n<=J);let Q:=decide (J<g.n+g.m);let F:=J - g.n;let K:=bj g.cost x.toNat sF.dflt;let L:=(K.fst,K.snd.fst,K.snd.snd);let R:=(bu (-bQ L)).snd;let S:=f j/\((u.same u/\w.same w/\C.same C/\D.same D/\I.same I/\True)/\o.same o/\p.same p/\q.same q/\r.same r/\s.same s/\(a sF l 126 false).same N/\True)/\(c<=j/\j<=h)/\(h - j).toNat<(h - x).toNat;c<=x/\x<=h->(O=true->B=z.length/\c<=x/\x<(↑z.length:Int)/\B=z.length/\x.toNat<z.length/\(P=true->f (g.n+g.m)/\(Q=true->f F/\c<=x/\x<(↑g.cost.length:Int)/\x.toNat<g.cost.length/\cB L/\k=l.length/\c<=F/\F<(↑l.length:Int)/\k=l.length/\F.toNat<l.length/\f j/\((u.same u/\w.same w/\C.same C/\D.same D/\I.same I/\True)/\o.same o/\p.same p/\q.same q/\r.same r/\s.same s/\(a sF (l.set F.toNat ((bu (-bQ L)).fst,R.fst,R.snd)) 126 false).same N/\True)/\(c<=j/\j<=h)/\(h - j).toNat<(h - x).toNat)/\(Q=false->S))/\(P=false->S))/\(O=false->k=l.length/\(d sF l).same (d sF (fL (jm y E k E)))/\o.same o/\p.same p/\q.same q/\r.same r/\s.same s/\True)) (by kernel_rfl) ?_;simp only[sB];try simp only[bG]
 simp only[vcs];obtain⟨⟨⟨n0,n1⟩,m0,m1⟩,hw,hz⟩:=id hok;have hfl:=hw.free;have hcl:=hw.cost;have hfc:=@ft t.cost;have DZ:∀k:Nat,bj t.free k 0=t.fv k:=λk=>rfl;have hrow:∀{x y:List bM},x=y->(bq.row sF x 126 false).same (bq.row sF y 126 false):=by rintro _ _ rfl;rfl
 refine⟨⟨m0,m1⟩,⟨hrow rfl,by omega,by omega⟩,?_⟩;rintro i ⟨i0,i1⟩;have hpl:=@Em t n.toNat m.toNat i.toNat;have hfp:=@ft (jm t n.toNat m.toNat i.toNat);refine⟨λhi=>?_,λhi=>⟨by omega,by rw[show i.toNat=n.toNat by omega]⟩⟩;have hC:bj (fL t.cost) i.toNat sF.dflt=bu (t.cs i.toNat):=jl (by omega);have hs:jm t n.toNat m.toNat (i+1).toNat=if(n.toNat:Int)<=t.fv i.toNat/\t.fv i.toNat<n.toNat+m.toNat then(jm t n.toNat m.toNat i.toNat).set (t.fv i.toNat - n.toNat).toNat (-(t.cs i.toNat)) else jm t n.toNat m.toNat i.toNat:=by
  rw[show(i+1).toNat=i.toNat+1 by omega];rfl
 simp only[DZ,hC,jB,hs,ez];refine⟨i0,hi,by omega,λh1=>⟨by omega,λh2=>⟨by omega,i0,by omega,by omega,dP (hok.cs (by omega)) (by omega),by omega,by omega,by omega,by omega,by omega,by omega,hrow ?_,by omega,by omega⟩,λh2=>⟨by omega,hrow ?_,by omega,by omega⟩⟩,λh1=>⟨by omega,hrow ?_,by omega,by omega⟩⟩;·rw[yq,if_pos (by omega),show(n.toNat:Int)=n by omega]
 ·rw[if_neg (by omega)]
 ·rw[if_neg (by omega)]
@[reducible] def sR:bp:=.pair (.bH sF) sF
abbrev sG:=List bM×List (List bM×bM)
def yr:qm sG where
 put a:=.agg [.row sF a.1,.row sR a.2];dec
  | .agg [r,v]=>match jf sF r,jf sR v with
   |some c,some v=>some (c,v)
   |_,_=>none
  |_=>none;ok v a h:=by
  grind[SV.g,gL,oL]
 inj a b h:=by
  obtain⟨c,v⟩:=a;obtain⟨f,i⟩:=b;simp only[SV.g,gL,AV.agg.injEq,List.cons.injEq,and_true,AV.sl.injEq] at h;have e:=lM sF h.1.1 h.1.2;have d:=lM sR h.2.1 h.2.2;rw[e,d]
def iP (x:bM):Prop:=(bz x.2.1/\bz x.2.2)/\x.2.1.length<=10000000/\x.2.2.length<=10000000
def JQ:bL:=⟨169,List bM,.one (dM sF),λl=>(show List bM from l).length<=1000/\∀x∈(show List bM from l),iP x,λl=> .sb ((show List bM from l).all okF)⟩
def acW (l:List bM):Nat->cC
 |2=> .inv Int (λi=>⟨[(5,.row sF l),(6,.si .i64 l.length),(7,.si .i64 i)],[]⟩)
   (λs=>iS s 7) (λi=>(0<=i/\i<=l.length)/\(l.take i.toNat).all okF=true) (λi=>(l.length - i).toNat) λ_ _=> .look
 |_=> .look
theorem h406:Holds Tryz.prog JQ:=by
 refine cF (L:=[ua]) JQ acW (by simpa using h407) ?_;rintro(l:List bM) ⟨(hl:l.length<=1000),(hx:∀x∈l,iP x)⟩;refine bO (let a:=(0:Int);let b:=γe .i64;let c:=Θ;let d:=(↑l.length:Int);let g:=b d;((((c sF l).same (c sF l)/\(b (↑l.length:Int)).same g/\(γx .i64 0).same (b 0)/\True)/\True)/\(a<=a/\a<=d)/\true=true)/\∀(x:Int),let e:=bj l x.toNat sF.dflt;let f:=x+(1:Int);let h:=b f;let i:=λ(u:Bool) ↦(!okF (e.fst,e.snd.fst,e.snd.snd))=u;(a<=x/\x<=d)/\(ω x.toNat l).all okF=true->(decide (x<d)=true->a<=x/\x<(↑l.length:Int)/\x.toNat<l.length/\((bz e.snd.fst/\bz e.snd.snd)/\γf e.snd.fst<=10000000/\γf e.snd.snd<=10000000)/\(i true->(δa false).same (γw (l.all okF)))/\(i false->cn .i64 f/\(((c sF l).same (c sF l)/\g.same g/\h.same h/\True)/\True)/\((a<=f/\f<=d)/\(ω f.toNat l).all okF=true)/\(d - f).toNat<(d - x).toNat))/\(decide (x<d)=false->(δa true).same (γw (l.all okF)))) (by kernel_rfl) ?_;simp only[vcs];refine⟨⟨by omega,by omega⟩,?_⟩;rintro i ⟨⟨i0,i1⟩,hall⟩;refine⟨λhi=>?_,λhi=>?_⟩
 ·have hm:=dj (d:=sF.dflt) (show i.toNat<l.length by omega);have et:=kC (d:=sF.dflt) i0 hi;have h1:=hx _ hm;have h2:okF ((bj l i.toNat sF.dflt).1,(bj l i.toNat sF.dflt).2.1,(bj l i.toNat sF.dflt).2.2)=okF (bj l i.toNat sF.dflt):=rfl;rw[h2];refine⟨i0,hi,by omega,⟨h1.1,h1.2.1,h1.2.2⟩,λhf=>?_,λht=>⟨by omega,⟨⟨by omega,by omega⟩,?_⟩,by omega⟩⟩
  ·symm;rw[γ7];intro ha;rw[κ.1 ha _ hm] at hf;cases hf
  ·rw[et,List.all_append,hall];simp[ht]
 ·rw[show i.toNat=l.length by omega,π] at hall;exact hall.symm
def JR:bL:=⟨136,sG,.one yr,λa=>(a.1.length<=160/\a.2.length<=40)/\(∀x∈a.1,iP x/\okF x=true)/\∀r∈a.2,r.1.length=a.1.length/\(∀x∈r.1,iP x/\okF x=true)/\iP r.2/\okF r.2=true,λ_=> .si .i64 0⟩
def acX (a:sG):Nat->cC
 |6=> .inv Int (λi=>⟨[(1,.ptr 0 0 2),(20,.row sR a.2),(21,.si .i64 a.2.length),(22,.si .i64 i)],[.cells [.row sF a.1,.row sR a.2] 172 2 false]⟩)
   (λs=>iS s 22) (λi=>0<=i/\i<=a.2.length) (λi=>(a.2.length - i).toNat) λ_ _=> .look
 |_=> .look
theorem h398:Holds Tryz.prog JR:=by
 refine cF (L:=[JQ,ua]) JR acX (by simpa using⟨h406,h407⟩) ?_;rintro⟨g,rs⟩ ⟨⟨hl1,hl2⟩,hg,hr⟩;simp only at hl1 hl2 hg hr;refine bO (let a:=γx .i64;let b:=(0:Int);let c:=γe .i64;let d:=γx .i64 0;let q:=decide ((160:Int)<(↑g.length:Int));let e:=c 0;let m:=(↑rs.length:Int);let r:=decide ((40:Int)<m);let k:=γP 0 0 2;let i:=Θ sR rs;let f:=(↑rs.length:Int);let n:=c f;let l:=bq.cells [Θ sF g,i] 172 2 false;(q=true->(a 3).same e)/\(q=false->(r=true->(a 3).same e)/\(r=false->(g.length<=1000/\∀(x:bM),x∈g->iP x)/\((!g.all okF)=true->(a 2).same e)/\((!g.all okF)=false->(((k.same k/\i.same i/\(c m).same n/\(a 0).same e/\True)/\l.same l/\True)/\b<=b/\b<=f)/\∀(x:Int),let h:=bj rs x.toNat sR.dflt;let o:=h.snd.snd.fst;let p:=h.snd.snd.snd;let s:=!List.all h.fst okF;let j:=x+(1:Int);let t:=c j;let v:=λ(u:Bool) ↦(!okF (h.snd.fst,o,p))=u;let w:=λ(u:Bool) ↦decide ((↑(γf h.fst):Int)≠(↑g.length:Int))=u;b<=x/\x<=f->(decide (x<f)=true->b<=x/\x<m/\x.toNat<rs.length/\(w true->(a 2).same e)/\(w false->(γf h.fst<=1000/\∀(x:bM),x∈h.fst->iP x)/\(s=true->(a 2).same e)/\(s=false->((bz o/\bz p)/\γf o<=10000000/\γf p<=10000000)/\(v true->(a 2).same e)/\(v false->cn .i64 j/\((k.same k/\i.same i/\n.same n/\t.same t/\True)/\l.same l/\True)/\(b<=j/\j<=f)/\(f - j).toNat<(f - x).toNat))))/\(decide (x<f)=false->(a 0).same e))))) (by kernel_rfl) ?_;simp only[vcs];have hall:∀{l:List bM},(∀x∈l,iP x/\okF x=true)->l.all okF=true:=λh=>κ.2 λx hx=>(h x hx).2;refine⟨λh=>by omega,λ_=>⟨λh=>by omega,λ_=>⟨⟨by omega,λx hx=>(hg x hx).1⟩,λh=>(by rw[hall hg] at h;cases h),λ_=>⟨⟨by omega,by omega⟩,?_⟩⟩⟩⟩;rintro i ⟨i0,i1⟩;refine⟨λhi=>?_,λ_=>trivial⟩;have hm:=hr _ (dj (d:=sR.dflt) (show i.toNat<rs.length by omega));have h2:okF ((bj rs i.toNat sR.dflt).2.1,(bj rs i.toNat sR.dflt).2.2.1,(bj rs i.toNat sR.dflt).2.2.2)=okF (bj rs i.toNat sR.dflt).2:=rfl;rw[h2];refine⟨i0,hi,by omega,λh=>absurd (by rw[hm.1]) h,λ_=>⟨⟨by have:=hm.1;omega,λx hx=>(hm.2.1 x hx).1⟩,λh=>?_,λ_=>⟨⟨hm.2.2.1.1,hm.2.2.1.2.1,hm.2.2.1.2.2⟩,λh=>?_,λ_=>⟨by omega,⟨by omega,by omega⟩,by omega⟩⟩⟩⟩
 ·have:=hall hm.2.1;rw[show List.all (bj rs i.toNat sR.dflt).1 okF=true from this] at h;cases h
 ·rw[hm.2.2.2] at h;cases h
def AK (a:sG):nq:=⟨a.1.length,a.2.length,a.2.length,a.2.length,a.2.length,a.1.length,a.2.map (·.1),a.2.map (·.2),δ a.1.length (bu 0),bu 0,(dH a.2.length).map λi=>a.1.length+i,dH a.1.length⟩
def JS:dF where
 f:=137;α:=sG;put a:=[yr.put a];st _:=[];dec v o:=match v,o with
  |[v],[]=>yr.dec v
  |_,_=>none;ok v o a h:=by
  split at h;·exact⟨by simp only[gL,yr.ok _ _ h],rfl⟩
  ·cases h
 inj a b h _:=yr.inj a b (by simpa[gL] using h);dom a:=a.1.length<=1000/\a.2.length<=1000/\∀r∈a.2,r.1.length<=1000;res a:=.ptr 0 0 10;out a:=(AK a).gI
def Tm (a:sG) (k0 k1 k2 k3 k4:Nat) (co:List (List bM)) (bo ct:List bM) (ba fr:List Int):bZ:=
 [.cells [.row sF a.1,.row sR a.2] 172 2 false,.cells [.si .i64 a.1.length,.si .i64 a.2.length,.ow 2 k0 1,.ow 3 k1 3,.ow 4 k2 3,.sb (bu 0).1,.row (.i .u32) (bu 0).2.1,.row (.i .u32) (bu 0).2.2,.ow 5 k3 1,.ow 6 k4 1] 219 10 false,
  .row (.bH sF) co 66 false,.row sF bo 126 false,.row sF ct 126 true,.row (.i .i64) ba 3 false,.row (.i .i64) fr 3 false]
def acY (a:sG):Nat->cC
 |3=> .inv Int (λj=>⟨[(1,.ptr 0 0 2),(3,.ptr 1 0 10),(18,.si .i64 a.1.length),(19,.si .i64 j)],Tm a 0 0 j.toNat 0 j.toNat [] [] (δ j.toNat (bu 0)) [] (dH j.toNat)⟩)
   (λs=>iS s 19) (λj=>0<=j/\j<=a.1.length) (λj=>(a.1.length - j).toNat) λ_ _=> .look
 |9=> .inv Int (λi=>⟨[(3,.ptr 1 0 10),(44,.row sR a.2),(45,.si .i64 a.2.length),(46,.si .i64 i)],Tm a i.toNat i.toNat a.1.length i.toNat a.1.length ((a.2.take i.toNat).map (·.1)) ((a.2.take i.toNat).map (·.2)) (δ a.1.length (bu 0)) ((dH i.toNat).map λi=>a.1.length+i) (dH a.1.length)⟩)
   (λs=>iS s 46) (λi=>0<=i/\i<=a.2.length) (λi=>(a.2.length - i).toNat) λ_ _=> .look
 |_=> .look
theorem h399:dZ Tryz.prog JS:=by
 refine Ht (L:=[nY]) (W:=[]) JS (λ_=>none) acY (by simp) (by simpa using h94) ?_;rintro⟨g,rs⟩ ⟨hg,hr,hrr⟩;simp only at hg hr hrr;refine bO (let a:=bq.row;let c:=γS;let d:=bq.cells;let e:=(0:Int);let f:=γe .i64;let h:=(-9223372036854775808:Int);let j:=Θ;let k:=(9223372036854775807:Int);let l:=γx .i64 0;let o:=cn .i64;let p:=γP;let V:=p 0 0 2;let w:=p 1 0 10;let a6:=f (↑g.length:Int);let r:=(↑g.length:Int);let s:=f r;let N:=j sR rs;let y:=d [j sF g,N] 172 2 false;let a7:=f (↑rs.length:Int);let G:=c 2 0 1;let H:=c 3 0 3;let a8:=c 4 0 3;let I:=bu (ι e);let z:=bp.i .u32;let O:=c 5 0 1;let a9:=[O,c 6 0 1];let A:=(↑rs.length:Int);let t:=f A;let J:=bu (0:Rat);let B:=γw J.fst;let C:=j z J.snd.fst;let D:=j z J.snd.snd;let P:=bp.b.pair (z.bH.pair z.bH);let Q:=a sF.bH [] 66 false;let R:=a sF [] 126 false;let u:=bp.i .i64;let F:=a u [] 3 false;let a1:=c 4 g.length 3;let a2:=[c 6 g.length 1];let a3:=δ g.length J;let a4:=a sF a3 126 true;let W:=a u (dH g.length) 3 false;let aa:=p 0 0 10;let q:=AK (g,rs);(h<=e/\e<=k)/\(((V.same V/\w.same w/\a6.same s/\(l).same (f 0)/\True)/\y.same y/\(d (a6::a7::G::H::a8::γw I.fst::j z I.snd.fst::j z I.snd.snd::a9) 219 10 false).same (d (s::t::G::H::a8::B::C::D::a9) 219 10 false)/\(a P.bH [] 66 false).same Q/\(a P [] 126 false).same R/\(a P [] 126 true).same (a sF [] 126 true)/\F.same F/\F.same (a u (dH 0) 3 false)/\True)/\e<=e/\e<=r)/\∀(x:Int),let S:=dH x.toNat;let ab:=S.length+1;let X:=δ x.toNat J;let ac:=X.length+1;let K:=x+(1:Int);let ad:=f K;let ae:=X++[(I.fst,I.snd.fst,I.snd.snd)];let Y:=K.toNat;e<=x/\x<=r->(decide (x<r)=true->1=1/\x.toNat=S.length/\ab*8<=140737488355328/\ab<=1000000000000/\(h<=e/\e<=k)/\1=1/\x.toNat=X.length/\ac*56<=140737488355328/\ac<=1000000000000/\o K/\((V.same V/\w.same w/\s.same s/\ad.same ad/\True)/\y.same y/\(d [s,t,G,H,c 4 ae.length 3,B,C,D,O,c 6 (S++[x]).length 1] 219 10 false).same (d [s,t,G,H,c 4 Y 3,B,C,D,O,c 6 Y 1] 219 10 false)/\Q.same Q/\R.same R/\(a P ae 126 true).same (a sF (δ Y J) 126 true)/\F.same F/\(a u (S++[x]) 3 false).same (a u (dH Y) 3 false)/\True)/\(e<=K/\K<=r)/\(r - K).toNat<(r - x).toNat)/\(decide (x<r)=false->(((w.same w/\N.same N/\a7.same t/\(l).same (f 0)/\True)/\y.same y/\(d [s,t,G,H,c 4 x.toNat 3,B,C,D,O,c 6 x.toNat 1] 219 10 false).same (d (s::t::G::H::a1::B::C::D::O::a2) 219 10 false)/\Q.same Q/\R.same R/\(a sF X 126 true).same a4/\F.same F/\(a u S 3 false).same W/\True)/\e<=e/\e<=A)/\∀(x:Int),let T:=bj rs x.toNat sR.dflt;let E:=γf T.fst;let af:=ω x.toNat rs;let Z:=γc (λx ↦x.fst) af;let a5:=Z.length+1;let a0:=γc (λx ↦x.snd) af;let ag:=a0.length+1;let U:=γc (λi ↦(↑(g,rs).fst.length:Int)+i) (dH x.toNat);let ah:=U.length+1;let L:=x+(1:Int);let ai:=f L;let aj:=a0++[(T.snd.fst,T.snd.snd.fst,T.snd.snd.snd)];let M:=L.toNat;e<=x/\x<=A->(decide (x<A)=true->e<=x/\x<(↑rs.length:Int)/\x.toNat<rs.length/\0=0/\(0+E)*56<=140737488355328/\0+E<=1000000000000/\x.toNat=Z.length/\a5*24<=140737488355328/\a5<=1000000000000/\E=E/\E=E/\E=E/\1=1/\x.toNat=a0.length/\ag*56<=140737488355328/\ag<=1000000000000/\o (r+x)/\1=1/\x.toNat=U.length/\ah*8<=140737488355328/\ah<=1000000000000/\o L/\((w.same w/\N.same N/\t.same t/\ai.same ai/\True)/\y.same y/\(d (s::t::c 2 a5 1::c 3 aj.length 3::a1::B::C::D::c 5 (U++[r+x]).length 1::a2) 219 10 false).same (d (s::t::c 2 M 1::c 3 M 3::a1::B::C::D::c 5 M 1::a2) 219 10 false)/\(a sF.bH (Z++[T.fst]) 66 false).same (a sF.bH (γc (λx ↦x.fst) (ω M rs)) 66 false)/\(a P aj 126 false).same (a sF (γc (λx ↦x.snd) (ω M rs)) 126 false)/\a4.same a4/\(a u (U++[r+x]) 3 false).same (a u (γc (λi ↦(↑(g,rs).fst.length:Int)+i) (dH M)) 3 false)/\W.same W/\True)/\(e<=L/\L<=A)/\(A - L).toNat<(A - x).toNat)/\(decide (x<A)=false->g.length=a3.length/\aa.same aa/\(d [s,t,c 1 x.toNat 1,c 2 x.toNat 3,j sF a3,B,C,D,c 3 x.toNat 1,c 4 g.length 1] 219 10 false).same (d [f q.n,f q.m,c 1 q.k0 1,c 2 q.k1 3,j sF q.cost,γw q.v.fst,j z q.v.snd.fst,j z q.v.snd.snd,c 3 q.k3 1,c 4 q.k4 1] 219 10 false)/\(a sF.bH Z 66 false).same (a sF.bH q.ck 66 false)/\(a sF a0 126 false).same (a sF q.bound 126 false)/\(a u U 3 false).same (a u q.basic 3 false)/\W.same (a u q.free 3 false)/\True))) (by kernel_rfl) ?_;simp only[vcs];have h0:(ι 0:Rat)=0:=rfl;simp only[h0,jB];have hcell:∀{a b a' b' c d e a2 b2 c2 d2 e2:Nat},a=a2->b=b2->c=c2->d=d2->e=e2->(bq.cells [.si .i64 a',.si .i64 b',.ow 2 a 1,.ow 3 b 3,.ow 4 c 3,.sb (bu 0).1,.row (.i .u32) (bu 0).2.1,.row (.i .u32) (bu 0).2.2,.ow 5 d 1,.ow 6 e 1] 219 10 false).same
   (bq.cells [.si .i64 a',.si .i64 b',.ow 2 a2 1,.ow 3 b2 3,.ow 4 c2 3,.sb (bu 0).1,.row (.i .u32) (bu 0).2.1,.row (.i .u32) (bu 0).2.2,.ow 5 d2 1,.ow 6 e2 1] 219 10 false):=by
  rintro _ _ _ _ _ _ _ _ _ _ _ _ rfl rfl rfl rfl rfl;rfl
 have hrF:∀{x y:List bM},x=y->(bq.row sF x 126 false).same (bq.row sF y 126 false):=by rintro _ _ rfl;rfl
 have uq:∀{x y:List bM},x=y->(bq.row sF x 126 true).same (bq.row sF y 126 true):=by rintro _ _ rfl;rfl
 have hrM:∀{x y:List (List bM)},x=y->(bq.row (.bH sF) x 66 false).same (bq.row (.bH sF) y 66 false):=by rintro _ _ rfl;rfl
 have ly:∀{x y:List Int},x=y->(bq.row (.i .i64) x 3 false).same (bq.row (.i .i64) y 3 false):=by rintro _ _ rfl;rfl
 have hcast:∀k:Nat,((k:Nat):Int).toNat=k:=λk=>Ψ k;refine⟨by omega,⟨⟨rfl,ly rfl⟩,by omega,by omega⟩,?_⟩;rintro j ⟨j0,j1⟩;have l1:=@gG j.toNat;have l2:(δ j.toNat (bu 0)).length=j.toNat:=γk;refine⟨λhj=>?_,λhj=>?_⟩
 ·have e1:dH j.toNat++[j]=dH (j+1).toNat:=by
   rw[show(j+1).toNat=j.toNat+1 by omega,vI,show((j.toNat:Nat):Int)=j by omega]
  have e2:δ j.toNat (bu 0)++[bu 0]=δ (j+1).toNat (bu 0):=by
   rw[show(j+1).toNat=j.toNat+1 by omega,List.replicate_succ']
  rw[e1,e2,gG,γk];rw[gG,γk];refine⟨rfl,?_,?_,?_,rfl,?_,?_,?_,⟨hcell rfl rfl rfl rfl rfl,uq rfl,ly rfl⟩,?_,?_⟩<;>omega
 ·rw[show j.toNat=g.length by omega];refine⟨⟨⟨hcell rfl rfl rfl rfl rfl,uq rfl,ly rfl⟩,by omega,by omega⟩,?_⟩;rintro i ⟨i0,i1⟩;have l3:(γc (λx:List bM×bM=>x.1) (ω i.toNat rs)).length=i.toNat:=by rw[Ω,γq];omega
  have l4:(γc (λx:List bM×bM=>x.2) (ω i.toNat rs)).length=i.toNat:=by rw[Ω,γq];omega
  have l5:(γc (λi:Int=>(g.length:Int)+i) (dH i.toNat)).length=i.toNat:=by rw[Ω,gG]
  refine⟨λhi=>?_,λhi=>?_⟩
  ·have hm:=hrr _ (dj (d:=sR.dflt) (show i.toNat<rs.length by omega));have et:=kC (d:=sR.dflt) i0 hi;have e1:γc (λx:List bM×bM=>x.1) (ω i.toNat rs)++[(bj rs i.toNat sR.dflt).1]=γc (λx:List bM×bM=>x.1) (ω (i+1).toNat rs):=by rw[et,γb];rfl
   have e2:γc (λx:List bM×bM=>x.2) (ω i.toNat rs)++[(bj rs i.toNat sR.dflt).2]=γc (λx:List bM×bM=>x.2) (ω (i+1).toNat rs):=by rw[et,γb];rfl
   have e3:γc (λi:Int=>(g.length:Int)+i) (dH i.toNat)++[(g.length:Int)+i]=γc (λi:Int=>(g.length:Int)+i) (dH (i+1).toNat):=by
    rw[show(i+1).toNat=i.toNat+1 by omega,vI,γb,show((i.toNat:Nat):Int)=i by omega];rfl
   have l6:(γc (λx:List bM×bM=>x.2) (ω (i+1).toNat rs)).length=(i+1).toNat:=by rw[Ω,γq];omega
   have l7:(γc (λi:Int=>(g.length:Int)+i) (dH (i+1).toNat)).length=(i+1).toNat:=by rw[Ω,gG]
   refine⟨i0,hi,by omega,by omega,by omega,l3.symm,by omega,by omega,l4.symm,by omega,by omega,by omega,l5.symm,by omega,by omega,by omega,⟨hcell ?_ ?_ rfl ?_ rfl,hrM e1,hrF e2,ly e3⟩,by omega,by omega⟩;·omega
   ·exact(congrArg γf e2).trans l6
   ·exact(congrArg γf e3).trans l7
  ·have e:i.toNat=rs.length:=by omega
   rw[e,π];exact⟨γk.symm,rfl,rfl,rfl,rfl,rfl⟩
def r400:dF:=uh 138 Unit .nil (λ_ m t _=>j9 m.toNat t) (λ_ _ _ _=> .bJ [.sc (.slice none 0 0),.sb true]) (λ_ _ t _=>t)
def ac1 (n m:Int) (t:Tb):Nat->cC
 |3=> .inv Int (λi=>⟨[(0,.ptr 0 0 10),(4,.si .i64 (-1)),(12,.ow 2 t.bound.length 3),(13,.si .i64 t.bound.length),(14,.si .i64 i)],(bG n m t).gI⟩)
   (λs=>iS s 14) (λi=>0<=i/\i<=m) (λi=>(m - i).toNat) λ_ _=> .look
 |_=> .look
theorem h400:dZ Tryz.prog r400:=by
 refine lp (L:=[sx]) (W:=[]) r400 (λa=>ac1 a.1.n a.1.m a.1.t) (by simp) (by simpa using h99) ?_;rintro⟨x,u⟩ ⟨n,m,t,hx,hok,hd⟩;simp only at hx hd;subst hx;refine bO (let a:=γe .i64;let b:=bq.row;let c:=(0:Int);let d:=γS;let e:=Θ;let f:=(-1:Int);let w:=γP 0 0 10;let A:=a f;let E:=d 2 (bG n m t).k1 3;let k:=(bG n m t).t.bound.length;let B:=d 2 k 3;let C:=a (↑k:Int);let j:=(bG n m t).m;let y:=bp.i .u32;let g:=bG (bG n m t).n j (bG n m t).t;let l:=bq.cells [a g.n,a g.m,d 1 g.k0 1,d 2 g.k1 3,e sF g.cost,γw g.v.fst,e y g.v.snd.fst,e y g.v.snd.snd,d 3 g.k3 1,d 4 g.k4 1] 219 10 false;let o:=b sF.bH g.ck 66 false;let p:=b sF g.bound 126 false;let z:=bp.i .i64;let q:=b z g.basic 3 false;let r:=b z g.free 3 false;let h:=g.bound.length;let F:=SV.sc (Value.slice none 0 0);(((w.same w/\(γx .i64 f).same A/\E.same B/\(a (↑(bG n m t).k1:Int)).same C/\(γx .i64 0).same (a 0)/\True)/\(bq.cells [a (bG n m t).n,a j,d 1 (bG n m t).k0 1,E,e sF (bG n m t).cost,γw (bG n m t).v.fst,e y (bG n m t).v.snd.fst,e y (bG n m t).v.snd.snd,d 3 (bG n m t).k3 1,d 4 (bG n m t).k4 1] 219 10 false).same l/\(b sF.bH (bG n m t).ck 66 false).same o/\(b sF (bG n m t).bound 126 false).same p/\(b z (bG n m t).basic 3 false).same q/\(b z (bG n m t).free 3 false).same r/\True)/\c<=c/\c<=j)/\∀(x:Int),let D:=bj g.bound x.toNat sF.dflt;let G:=(D.fst,D.snd.fst,D.snd.snd);let s:=x+(1:Int);let H:=a s;let I:=decide (x<(↑k:Int));let J:=λ(u:Bool) ↦decide (jA (bQ G)<c)=u;let K:=λ(u:SV) ↦cn .i64 s/\((w.same w/\u.same A/\B.same B/\C.same C/\H.same H/\True)/\l.same l/\o.same o/\p.same p/\q.same q/\r.same r/\True)/\(c<=s/\s<=j)/\(j - s).toNat<(j - x).toNat;c<=x/\x<=j->(I=true->k=h/\c<=x/\x<(↑h:Int)/\k=h/\x.toNat<h/\cB G/\(J true->(true=true->K (a x))/\(true=false->g.k1=h/\c<=f/\f<(↑h:Int)/\g.k1=h/\0<h/\False))/\(J false->K A))/\(I=false->(true=true->(SV.bJ [F,δa true]).same (SV.bJ [F,γw true])/\l.same l/\o.same o/\p.same p/\q.same q/\r.same r/\True)/\(true=false->False))) (by kernel_rfl) ?_;simp only[sB];try simp only[bG]
 simp only[vcs];obtain⟨⟨⟨n0,n1⟩,m0,m1⟩,hw,hz⟩:=id hok;have hbl:=hw.bound;have Jr:=@ft t.bound;refine⟨⟨by omega,by omega⟩,?_⟩;rintro i ⟨i0,i1⟩;refine⟨λhi=>?_,λhi=>⟨λ_=>trivial,λh=>by cases h⟩⟩;have hB:bj (fL t.bound) i.toNat sF.dflt=bu (t.bd i.toNat):=jl (by omega);have hpos:=hd i.toNat (by omega);have hneg:¬jA (t.bd i.toNat)<0:=λh=>by have:=Az.1 h;grind
 simp only[hB,jB,ez];exact⟨by omega,i0,by omega,by omega,by omega,dP (hok.bd (by omega)) (by omega),λh=>absurd h hneg,λ_=>⟨by omega,by omega,by omega⟩⟩
def JU:dF:=uh 139 (List bM) (.one (dM sF)) (λn m t a=>∃g:List Rat,a=fL g/\g.length=n.toNat/\t.free=dH n.toNat/\∀v∈t.basic,n<=v) (λ_ _ _ _=> .bJ []) (λ_ _ t a=>{t with cost:=vL a,value:=0})
def ac2 (n m:Int) (t:Tb) (a:List bM):Nat->cC
 |3=> .inv Int (λj=>⟨[(0,.ptr 0 0 10),(1,.row sF a),(4,.ow 5 n.toNat 3),(24,.ow 4 t.free.length 1),(25,.si .i64 t.free.length),(26,.si .i64 j)],(bG n m {t with value:=0}).gI++[.row sF (eQ a j.toNat (false,([],[]))) 126 true]⟩)
   (λs=>iS s 26) (λi=>0<=i/\i<=n) (λi=>(n - i).toNat) λ_ _=> .look
 |10=> .inv Int (λi=>⟨[(0,.ptr 0 0 10),(1,.row sF a),(4,.ow 5 n.toNat 3),(52,.ow 3 t.basic.length 1),(53,.si .i64 t.basic.length),(54,.si .i64 i)],(bG n m {t with value:=0}).gI++[.row sF a 126 true]⟩)
   (λs=>iS s 54) (λi=>0<=i/\i<=m) (λi=>(m - i).toNat) λ_ _=> .look
 |_=> .look
theorem h401:dZ Tryz.prog JU:=by
 refine lp (L:=[nY]) (W:=[]) JU (λa=>ac2 a.1.n a.1.m a.1.t a.2) (by simp) (by simpa using h94) ?_;rintro⟨x,a⟩ ⟨n,m,t,hx,hok,g,ha,hgl,hfr,hbs⟩;simp only at hx ha;subst hx ha;refine bO (let a:=(0:Int);let c:=γe .i64;let d:=bq.row;let e:=γS;let f:=(-9223372036854775808:Int);let h:=Θ;let j:=(9223372036854775807:Int);let k:=bq.cells;let l:=γx .i64 0;let w:=(↑(bG n m t).k4:Int);let y:=γP 0 0 10;let s:=h sF (fL g);let p:=(bG n m t).n;let F:=e 5 p.toNat 3;let a0:=e 4 (bG n m t).k4 1;let r:=(bG n m t).t;let N:=r.free.length;let U:=e 4 N 1;let V:=c (↑N:Int);let z:=(bG n m t).m;let H:=bu (ι a);let A:=bp.i .u32;let o:=bG p z (Tb.mk r.ck r.bound r.cost (0:Rat) r.basic r.free);let a1:=c o.n;let a2:=c o.m;let a3:=e 1 o.k0 1;let a4:=e 2 o.k1 3;let a5:=e 3 o.k3 1;let a6:=[γw o.v.fst,h A o.v.snd.fst,h A o.v.snd.snd,a5,e 4 o.k4 1];let G:=k (a1::a2::a3::a4::h sF o.cost::a6) 219 10 false;let B:=d sF.bH o.ck 66 false;let C:=d sF o.bound 126 false;let I:=bp.i .i64;let J:=o.basic;let D:=d I J 3 false;let E:=d I o.free 3 false;let R:=(false,[],[]);let S:=o.free.length;let z29:Nat:=(fL g).length;let O:=r.basic.length;let W:=e 3 O 1;let X:=c (↑O:Int);let Y:=d sF (fL g) 126 true;let q:=bG p z (Tb.mk r.ck r.bound (vL (fL g)) (0:Rat) r.basic r.free);(f<=a/\a<=j)/\a<=w/\w<=w/\w*(56:Int)<=(140737488355328:Int)/\w<=(1000000000000:Int)/\(((y.same y/\s.same s/\(e 5 w.toNat 3).same F/\a0.same U/\(c w).same V/\(l).same (c 0)/\True)/\(k [c p,c z,e 1 (bG n m t).k0 1,e 2 (bG n m t).k1 3,h sF (bG n m t).cost,γw H.fst,h A H.snd.fst,h A H.snd.snd,e 3 (bG n m t).k3 1,a0] 219 10 false).same G/\(d sF.bH (bG n m t).ck 66 false).same B/\(d sF (bG n m t).bound 126 false).same C/\(d I (bG n m t).basic 3 false).same D/\(d I (bG n m t).free 3 false).same E/\(d (bp.b.pair (A.bH.pair A.bH)) (δ w.toNat R) 126 true).same (d sF (eQ (fL g) 0 R) 126 true)/\True)/\a<=a/\a<=p)/\∀(x:Int),let K:=x+(1:Int);let a7:=c K;let a8:=decide (x<(↑N:Int));let L:=eQ (fL g) x.toNat R;let P:=bj o.free x.toNat a;let a9:=decide (P<o.n);let M:=L.set x.toNat (H.fst,H.snd.fst,H.snd.snd);let Z:=bj (fL g) P.toNat sF.dflt;let aa:=λ(u:List (Bool×List Int×List Int)) ↦cn .i64 K/\((y.same y/\s.same s/\F.same F/\U.same U/\V.same V/\a7.same a7/\True)/\G.same G/\B.same B/\C.same C/\D.same D/\E.same E/\(d sF u 126 true).same (d sF (eQ (fL g) K.toNat R) 126 true)/\True)/\(a<=K/\K<=p)/\(p - K).toNat<(p - x).toNat;a<=x/\x<=p->(a8=true->N=S/\a<=x/\x<(↑S:Int)/\N=S/\x.toNat<S/\(f<=a/\a<=j)/\p.toNat=L.length/\a<=x/\x<(↑L.length:Int)/\p.toNat=L.length/\x.toNat<L.length/\(a9=true->a<=P/\P<(↑z29:Int)/\P.toNat<z29/\p.toNat=M.length/\a<=x/\x<(↑M.length:Int)/\p.toNat=M.length/\x.toNat<M.length/\aa (M.set x.toNat (Z.fst,Z.snd.fst,Z.snd.snd)))/\(a9=false->aa M))/\(a8=false->(((y.same y/\s.same s/\F.same F/\a5.same W/\(c (↑o.k3:Int)).same X/\(l).same (c 0)/\True)/\G.same G/\B.same B/\C.same C/\D.same D/\E.same E/\(d sF L 126 true).same Y/\True)/\a<=a/\a<=z)/\∀(x:Int),let ab:=decide (x<(↑O:Int));let T:=bj J x.toNat a;let ac:=decide (o.n<=T);let Q:=x+(1:Int);let ad:=c Q;a<=x/\x<=z->(ab=true->O=J.length/\a<=x/\x<(↑J.length:Int)/\O=J.length/\x.toNat<J.length/\(ac=true->cn .i64 Q/\((y.same y/\s.same s/\F.same F/\W.same W/\X.same X/\ad.same ad/\True)/\G.same G/\B.same B/\C.same C/\D.same D/\E.same E/\Y.same Y/\True)/\(a<=Q/\Q<=z)/\(z - Q).toNat<(z - x).toNat)/\(ac=false->a<=T/\T<(↑z29:Int)/\T.toNat<z29/\False))/\(ab=false->p.toNat=z29/\(SV.bJ []).same (SV.bJ [])/\(k (a1::a2::a3::a4::s::a6) 219 10 false).same (k [c q.n,c q.m,e 1 q.k0 1,e 2 q.k1 3,h sF q.cost,γw q.v.fst,h A q.v.snd.fst,h A q.v.snd.snd,e 3 q.k3 1,e 4 q.k4 1] 219 10 false)/\B.same (d sF.bH q.ck 66 false)/\C.same (d sF q.bound 126 false)/\D.same (d I q.basic 3 false)/\E.same (d I q.free 3 false)/\True))) (by kernel_rfl) ?_;simp only[sB];try simp only[bG]
 simp only[vcs];obtain⟨⟨⟨n0,n1⟩,m0,m1⟩,hw,hz⟩:=id hok;have hbb:=hw.basic;have hfl:=hw.free;have hfg:=@ft g;have h0:(ι 0:Rat)=0:=rfl;have hrow:∀{x y:List bM},x=y->(bq.row sF x 126 true).same (bq.row sF y 126 true):=by rintro _ _ rfl;rfl
 simp only[h0,jB];refine⟨by omega,by omega,by omega,by omega,by omega,⟨⟨?_,?_,?_⟩,by omega,by omega⟩,?_⟩;·rw[hfl];rfl
 ·rfl
 ·exact hrow (by rw[yn,hfg,hgl,hfl];rfl)
 rintro j ⟨j0,j1⟩;have oG:=@ym (fL g) j.toNat (false,([],[])) (by omega);refine⟨λhj=>?_,λhj=>?_⟩
 ·have hv:bj t.free j.toNat 0=j:=by rw[hfr,JC (by omega)];omega
  rw[hv];have hset:((eQ (fL g) j.toNat (false,([],[]))).set j.toNat (bu 0)).set j.toNat (bj (fL g) j.toNat sF.dflt)=eQ (fL g) (j+1).toNat (false,([],[])):=by
   have e:=yp (d:=fL g) (j:=j.toNat) (z:=(false,([],[]))) (x:=bj (fL g) j.toNat sF.dflt) (by omega) rfl;rw[List.set_set,show(j+1).toNat=j.toNat+1 by omega];exact e
  rw[τ];exact⟨j0,by omega,by omega,by omega,by omega,j0,by omega,by omega,by omega,λ_=>⟨j0,by omega,by omega,by omega,j0,by omega,by omega,by omega,by omega,hrow hset,by omega,by omega⟩,λh=>(h (by omega)).elim⟩
 ·have e:j.toNat=(fL g).length:=by omega
  rw[e,yo];refine⟨⟨hrow rfl,by omega,by omega⟩,?_⟩;rintro i ⟨i0,i1⟩;refine⟨λhi=>⟨i0,hi,by omega,λ_=>⟨by omega,by omega,by omega⟩,λh=>absurd (hbs _ (dj (by omega))) h⟩,λhi=>⟨by omega,?_⟩⟩;rw[kJ];rfl
abbrev Lp:=List Rat×List (List Rat×Rat)
def iE (a:Lp):sG:=(fL a.1,a.2.map λr=>(fL r.1,bu r.2))
def kX (a:Lp):Tb:=⟨a.2.map (·.1),a.2.map (·.2),a.1,0,(dH a.2.length).map λi=>a.1.length+i,dH a.1.length⟩
def rA (a:Lp):Tb:={kX a with cost:=δ a.1.length 0}
theorem ac3 {a:Lp}:AK (iE a)=bG a.1.length a.2.length (rA a):=by
 unfold AK iE bG rA kX;simp_all[gG,fM,fL]
structure AL (a:Lp):Prop where
 n:a.1.length<=160
 m:a.2.length<=40
 small:∃M G,Small a.1.length a.2.length M G (kX a)
 ya:j9 a.2.length (kX a)
 bnd:∃B,∀x z,(kX a).holds a.1.length a.2.length x z->(∀v∈(kX a).basic++(kX a).free,0<=x v)->z<=B
noncomputable def nA (a:Lp):Tb:=lastT a.1.length a.2.length (kX a)
theorem ac4 {a:Lp} (h:AL a):okO a.1.length a.2.length (kX a):=by
 obtain⟨M,G,b⟩:=h.small;exact⟨kX a,M,G,b,Run.refl b.wf b.nd,h.ya⟩
theorem ac5 {a:Lp} (h:AL a):Run a.1.length a.2.length (kX a) (nA a)/\j9 a.2.length (nA a)/\eA (nA a) a.1.length<0:=by
 obtain⟨M,G,c⟩:=h.small;obtain⟨B,d⟩:=h.bnd;have b:=Run.refl c.wf c.nd;have:=JA b h.ya;exact⟨this.1,this.2.1,SK b h.ya d⟩
noncomputable def JV:bL:=⟨106,sG,.one yr,λx=>∃a:Lp,x=iE a/\AL a,λx=>
 let a:Lp:=(vL x.1,x.2.map λr=>(vL r.1,bQ r.2));.bJ [.agg [.si .i64 1,.sb (bu (nA a).value).1,.row (.i .u32) (bu (nA a).value).2.1,.row (.i .u32) (bu (nA a).value).2.2,.row sF (fL (fZ (nA a) a.1.length a.2.length)),.row sF (fL (jm (nA a) a.1.length a.2.length a.1.length)),.row sF []],.si .i64 0]⟩
theorem ac6 {a:Lp}:((vL (iE a).1,(iE a).2.map λr=>(vL r.1,bQ r.2)):Lp)=a:=by
 obtain⟨g,b⟩:=a;unfold iE;simp only[kJ,δg];congr 1;conv=>rhs;rw[<-List.map_id b]
 refine List.map_congr_left λr _=>?_;grind[kJ,ez]
theorem ac7 {a:Lp}:((iE a).1,(iE a).2)=iE a:=rfl
theorem Tn {a:Lp}:vL (iE a).1=a.1:=kJ _
theorem Tq {a:Lp}:(iE a).2.map (λr=>(vL r.1,bQ r.2))=a.2:=congrArg Prod.snd (@ac6 a)
theorem ac8 {a:Lp}:({ck:=(rA a).ck,bound:=(rA a).bound,cost:=a.1,value:=0,basic:=(rA a).basic,free:=(rA a).free}:Tb)=kX a:=rfl
theorem ac9 {a:Lp}:(iE a).1.length=a.1.length:=ft
theorem ada {a:Lp}:(iE a).2.length=a.2.length:=Ω _
theorem Tt {q:Rat} (h:Sz 1000000 q):iP (bu q)/\okF (bu q)=true:=by
 obtain⟨e1,⟨u1,_,v1⟩,⟨u2,_,v2⟩⟩:=lu q;obtain⟨m1,m2⟩:=oQ h;refine⟨⟨⟨u1,u2⟩,by omega,by omega⟩,?_⟩;unfold okF;rw[ez];exact decide_eq_true rfl
theorem adb {o:Store} {d:Nat} {acc:List Nat} {l:List bM}:cT o d (γc (λx:bM=>dB bp.b x.1++dB ((bp.i .u32).bH.pair (bp.i .u32).bH) x.2) l).flatten acc=acc:=zC λa c=>mT (s:=sF) (l:=l) c
theorem ade {o:Store} {d:Nat} {acc:List Nat} {l:List (List bM)}:cT o d (γc (λx:List bM=>[ζS (γf x) (ζN (dB sF) x)]) l).flatten acc=acc:=zC λa b=>mT (s:=sF.bH) (l:=l) b
theorem adf {o:Store} {d:Nat} {acc:List Nat} {l:List Int}:cT o d (γc (λx:Int=>γc δd (dJ (bp.i .i64) x)) l).flatten acc=acc:=zC λa b=>mT (s:=bp.i .i64) (l:=l) b
theorem h395:Holds Tryz.prog JV:=by
 refine Y2 (L:=[JR]) (W:=gB [JS,r400,JU,JP,En,Eo]) JV (λf=>Nat.beq f En.f||Nat.beq f Eo.f) lk (ln (by simpa using⟨h399,h400,h401,h402,h403,h405⟩)) (by simpa using h398) ?_;rintro x ⟨a,hx,hok⟩;subst hx;refine bO (let c:=Θ;let d:=bq.row;let e:=γe .i64;let f:=γS;let h:=bq.cells;let j:=γx .i64;let k:=(0:Int);let l:=γw;let o:=δa false;let p:=SV.agg;let q:=SV.bJ;let B:=(iE a).fst;let C:=(iE a).snd;let J:=h [c sF B,c sR C] 172 2 false;let Q:=j 0;let a1:=Value.slice none 0 0;let G:=SV.sc a1;let K:=h [Q,o,G,G,G,G,G] 176 7 false;let L:=AK (B,C);let D:=bG L.n L.m L.t;let E:=bG D.n D.m (Tb.mk D.t.ck D.t.bound (vL B) (0:Rat) D.t.basic D.t.free);let a2:=lastT E.n.toNat E.m.toNat E.t;let s:=bG E.n E.m a2;let y:=bp.i .u32;let M:=s.v.snd.fst;let N:=s.v.snd.snd;let w:=bG s.n s.m s.t;let R:=w.v.snd.fst;let S:=w.v.snd.snd;let a3:=h [e w.n,e w.m,f 3 w.k0 1,f 4 w.k1 3,c sF w.cost,l w.v.fst,c y R,c y S,f 5 w.k3 1,f 6 w.k4 1] 219 10 false;let a4:=d sF.bH w.ck 66 false;let a5:=d sF w.bound 126 false;let z:=bp.i .i64;let a6:=d z w.basic 3 false;let a7:=d z w.free 3 false;let F:=c z [];let U:=γc (λ(r:List bM×bM) ↦(vL r.fst,bQ r.snd)) C;let H:=nA (vL B,U);let z31:Nat:=(vL B).length;let a8:=e 0;let a9:=q [p [e 1,l (bu H.value).fst,c y (bu H.value).snd.fst,c y (bu H.value).snd.snd,c sF (fL (fZ H z31 U.length)),c sF (fL (jm H z31 U.length z31)),c sF []],a8];let A:=bG w.n w.m w.t;let aa:=bR.cells [ζS B.length (γc (λ(x:sF.T) ↦dB bp.b x.fst++dB (y.bH.pair y.bH) x.snd) B).flatten,ζS C.length (γc (λ(x:sR.T) ↦dB sF.bH x.fst++dB sF x.snd) C).flatten] 172 2 false;let I:=δd a1;let ab:=bR.cells [δd (Value.int .i64 k),δd (Value.bool false),I,I,I,I,I] 176 7 false;let ac:=(γc (λ(x:sF.bH.T) ↦[ζS (γf x) (ζN (dB sF) x)]) s.ck).flatten;let ad:=(γc (λ(x:sF.T) ↦dB bp.b x.fst++dB (y.bH.pair y.bH) x.snd) s.bound).flatten;let ae:=(γc (λ(x:z.T) ↦γc δd (dJ z x)) s.basic).flatten;let af:=(γc (λ(x:z.T) ↦γc δd (dJ z x)) s.free).flatten;let O:=[aa,ab,bR.cells [δd (Value.int .i64 s.n),δd (Value.int .i64 s.m),ζV 3 0 s.k0 (s.k0*1),ζV 4 0 s.k1 (s.k1*3),ζS s.cost.length (γc (λ(x:sF.T) ↦dB bp.b x.fst++dB (y.bH.pair y.bH) x.snd) s.cost).flatten,δd (Value.bool s.v.fst),ζS M.length (γc (λ(x:y.T) ↦γc δd (dJ y x)) M).flatten,ζS N.length (γc (λ(x:y.T) ↦γc δd (dJ y x)) N).flatten,ζV 5 0 s.k3 (s.k3*1),ζV 6 0 s.k4 (s.k4*1)] 219 10 false,bR.cells ac 66 1 false,bR.cells ad 126 3 false,bR.cells ae 3 1 false,bR.cells af 3 1 false];let ag:=[2,3];let V:=cT O (nat_lit 396) ac ag;let W:=if ζv 4 V=true then V else cT O (nat_lit 395) ad (V++[4]);let X:=if ζv 5 W=true then W else cT O (nat_lit 390) ae (W++[5]);let ah:=(γc (λ(x:sF.bH.T) ↦[ζS (γf x) (ζN (dB sF) x)]) w.ck).flatten;let ai:=(γc (λ(x:sF.T) ↦dB bp.b x.fst++dB (y.bH.pair y.bH) x.snd) w.bound).flatten;let aj:=(γc (λ(x:z.T) ↦γc δd (dJ z x)) w.basic).flatten;let ak:=(γc (λ(x:z.T) ↦γc δd (dJ z x)) w.free).flatten;let P:=[aa,ab,bR.cells [δd (Value.int .i64 w.n),δd (Value.int .i64 w.m),ζV 3 0 w.k0 (w.k0*1),ζV 4 0 w.k1 (w.k1*3),ζS w.cost.length (γc (λ(x:sF.T) ↦dB bp.b x.fst++dB (y.bH.pair y.bH) x.snd) w.cost).flatten,δd (Value.bool w.v.fst),ζS R.length (γc (λ(x:y.T) ↦γc δd (dJ y x)) R).flatten,ζS S.length (γc (λ(x:y.T) ↦γc δd (dJ y x)) S).flatten,ζV 5 0 w.k3 (w.k3*1),ζV 6 0 w.k4 (w.k4*1)] 219 10 false,bR.cells ah 66 1 false,bR.cells ai 126 3 false,bR.cells aj 3 1 false,bR.cells ak 3 1 false];let Y:=cT P (nat_lit 396) ah ag;let Z:=if ζv 4 Y=true then Y else cT P (nat_lit 395) ai (Y++[4]);let a0:=if ζv 5 Z=true then Z else cT P (nat_lit 390) aj (Z++[5]);let al:=J.same J/\K.same K/\(h [e s.n,e s.m,f 3 s.k0 1,f 4 s.k1 3,c sF s.cost,l s.v.fst,c y M,c y N,f 5 s.k3 1,f 6 s.k4 1] 219 10 false).same a3/\(d sF.bH s.ck 66 false).same a4/\(d sF s.bound 126 false).same a5/\(d z s.basic 3 false).same a6/\(d z s.free 3 false).same a7/\True;let am:=∃(n:Int),∃(m:Int),∃(t:Tb),s=bG n m t/\kK n m t/\∀(v:Int),v∈t.basic->k<=v;let an:=λ(u:Bool) ↦(!decide (eA a2 E.n.toNat<k))=u;let ao:=λ(u:Int) (u_1:SV) ↦false=true->(q [p [j u,o,F,F,F,F,F],u_1]).same a9;((B.length<=160/\C.length<=40)/\(∀(x:bM),x∈B->iP x/\okF x=true)/\∀(r:List bM×bM),r∈C->r.fst.length=B.length/\(∀(x:bM),x∈r.fst->iP x/\okF x=true)/\iP r.snd/\okF r.snd=true)/\ao k a8/\(false=false->(B.length<=1000/\C.length<=1000/\∀(r:List bM×bM),r∈C->r.fst.length<=1000)/\(∃(n:Int),∃(m:Int),∃(t:Tb),L=bG n m t/\kK n m t/\j9 m.toNat t)/\ao (2:Int) Q/\(false=false->(∃(n:Int),∃(m:Int),∃(t:Tb),D=bG n m t/\kK n m t/\∃(g:List Rat),B=fL g/\g.length=n.toNat/\t.free=dH n.toNat/\∀(v:Int),v∈t.basic->n<=v)/\(∃(n:Int),∃(m:Int),∃(t:Tb),E=bG n m t/\kK n m t/\okO n.toNat m.toNat t)/\(an true->am/\al/\False)/\(an false->am/\al/\(∃(n:Int),∃(m:Int),∃(t:Tb),w=bG n m t/\kK n m t/\True)/\(J.same J/\K.same K/\a3.same (h [e A.n,e A.m,f 3 A.k0 1,f 4 A.k1 3,c sF A.cost,l A.v.fst,c y A.v.snd.fst,c y A.v.snd.snd,f 5 A.k3 1,f 6 A.k4 1] 219 10 false)/\a4.same (d sF.bH A.ck 66 false)/\a5.same (d sF A.bound 126 false)/\a6.same (d z A.basic 3 false)/\a7.same (d z A.free 3 false)/\True)/\if(((if ζv 6 X=true then X else cT O (nat_lit 389) af (X++[6])).all λ(i:Nat) ↦decide (i<7))&&(((if ζv 6 a0=true then a0 else cT P (nat_lit 389) ak (a0++[6])).all λ(i:Nat) ↦decide (i<7))&&true))=true then(q [p [j 1,l s.v.fst,c y M,c y N,c sF (fL (fZ s.t s.n.toNat s.m.toNat)),c sF (fL (jm w.t w.n.toNat w.m.toNat w.n.toNat)),F],Q]).same a9 else False)))) (by kernel_rfl) ?_;simp only[ac7,ac3,sB,R1,R7,Tn,Tq,ac8,ac9,ada,Ψ];try simp only[vcs]
 obtain⟨M,G,hs⟩:=hok.small;obtain⟨r1,r2,r3⟩:=ac5 hok;have hw:=hs.wf;have hz:=hs.vU (Run.refl hs.wf hs.nd);have hn:=hok.n;have hm:=hok.m;have hO:=ac4 hok;have k1:kK a.1.length a.2.length (kX a):=⟨⟨by omega,by omega⟩,by simpa using hw,hz⟩;have k0:kK a.1.length a.2.length (rA a):=by
  refine⟨⟨by omega,by omega⟩,⟨hw.ck,hw.row,hw.bound,by simp[rA],hw.basic,hw.free⟩,hz.1,hz.2.1,λq hq=>?_,hz.2.2.2⟩;rw[(List.mem_replicate.1 hq).2];exact hz.2.2.2
 have k2:kK a.1.length a.2.length (nA a):=SD hs (by simpa using r1) (by omega) (by omega);have hl:lastT a.1.length a.2.length (kX a)=nA a:=rfl;have JW:((a.1,a.2):Lp)=a:=rfl;simp only[hl,JW,adb,ade,adf];have mem2:∀i,i<a.2.length->bj a.2 i ([],0)∈a.2:=λi hi=>dj hi;have hrow:∀r∈a.2,r.1.length=a.1.length/\(∀q∈r.1,Sz 1000000 q)/\Sz 1000000 r.2:=λr hr=>by
  obtain⟨i,hi,rfl⟩:=γF hr;have h1:=hw.row i hi;have e:bj (kX a).ck i []=a.2[i].1:=by
   show bj (a.2.map (·.1)) i []=_;rw[cV (by rw[Ω];exact hi),δB]
  rw[e] at h1;refine⟨h1,hz.1 _ (γa.2 ⟨a.2[i],hr,rfl⟩),hz.2.1 _ (γa.2 ⟨a.2[i],hr,rfl⟩)⟩
 have hg:∀q∈a.1,Sz 1000000 q:=hz.2.2.1;have hF:∀{l:List Rat},(∀q∈l,Sz 1000000 q)->∀x∈fL l,iP x/\okF x=true:=λh x hx=>by
  obtain⟨q,hq,rfl⟩:=γa.1 hx;exact Tt (h q hq)
 have hdg:(∀x∈(iE a).1,iP x/\okF x=true)/\∀r∈(iE a).2,r.1.length=a.1.length/\(∀x∈r.1,iP x/\okF x=true)/\iP r.2/\okF r.2=true:=by
  refine⟨hF hg,λr hr=>?_⟩;obtain⟨r0,hr0,rfl⟩:=γa.1 hr;obtain⟨h1,h2,h3⟩:=hrow r0 hr0;exact⟨by rw[<-h1];exact ft,hF h2,Tt h3⟩
 have hb0:∀v∈(nA a).basic,0<=v:=λv hv=>by
  have:=r1.perm.mem_iff.1 (δF _ hv);simp only[kX,γh,γa,nk] at this;rcases this with⟨i,hi,rfl⟩|h;·omega
  ·exact h.1
 have hbn:∀v∈(rA a).basic,(a.1.length:Int)<=v:=λv hv=>by
  simp only[rA,kX,γa,nk] at hv;obtain⟨i,hi,rfl⟩:=hv;omega
 refine⟨⟨⟨hn,hm⟩,hdg.1,hdg.2⟩,λh=>(by cases h),λ_=>⟨⟨by omega,by omega,λr hr=>by have:=(hdg.2 r hr).1;omega⟩,⟨_,_,_,rfl,k0,by rw[Ψ];exact hok.ya⟩,λh=>(by cases h),λ_=>⟨⟨_,_,_,rfl,k0,a.1,rfl,by simp,rfl,hbn⟩,⟨_,_,_,rfl,k1,by simpa using hO⟩,λh=>absurd r3 h,λ_=>⟨⟨_,_,_,rfl,k2,hb0⟩,⟨_,_,_,rfl,k2⟩,?_⟩⟩⟩⟩;rw[if_pos (by decide)];rfl
theorem AO {f:List Int} {d:Int} {i:Int} (h:0<=i) (c:i<f.length):bC (f.take (i+1).toNat) d=bC (f.take i.toNat) d++if bj f i.toNat 0=d then[i] else[]:=by
 have a:(f.take (i+1).toNat).length=i.toNat+1:=by grind
 have b:(f.take i.toNat).length=i.toNat:=by grind
 unfold bC;rw[a,b,vI,List.filter_append];have e:∀{k:Nat} {m:Nat},k<m->m<=f.length->bj (f.take m) k 0=bj f k 0:=λ{k m} c j=>by
  grind[cV]
 congr 1
 ·refine List.filter_congr λx g=>?_;grind[nk]
 grind
def gp (f:List Int):Bool:=f.all λx=>decide (-1<=x)&&decide (x<=1)
def i7 (p:bn) (f:List Int):Int:=if bB p≠0 then bB p else if f.length≠p.offers.length then 3 else if gp f=true then 0 else 4
def Ep:bL:=⟨104,bn×List Int,.cons dE (.one (dM (.i .i64))),λa=>a.2.length<=1000000000000,λa=> .si .i64 (i7 a.1 a.2)⟩
def adg (p:bn) (f:List Int):Nat->cC
 |7=> .inv Int (λi=>⟨[(19,.row (.i .i64) f),(20,.si .i64 f.length),(21,.si .i64 i)],[.cells p.ss 27 20 false]⟩)
   (λs=>iS s 21) (λi=>(0<=i/\i<=f.length)/\gp (f.take i.toNat)=true) (λi=>(f.length - i).toNat) λ_ _=> .look
 |_=> .look
theorem h393:Holds Tryz.prog Ep:=by
 refine cF (L:=[qs]) Ep (λa=>adg a.1 a.2) (by grind[h79]) ?_;rintro⟨p,f⟩ (D:f.length<=1000000000000);refine bO (let a:=γe .i64;let d:=(0:Int);let g:=γx .i64;let v:=decide (bB p≠d);let e:=a (i7 p f);let q:=(↑f.length:Int);let r:=decide (q≠(↑p.offers.length:Int));let n:=Θ (bp.i .i64) f;let c:=(↑f.length:Int);let o:=a c;let w:=g 0;let m:=bq.cells (bn.ss p) 27 20 false;True/\(v=true->(a (bB p)).same e)/\(v=false->(r=true->(g 3).same e)/\(r=false->(((n.same n/\(a q).same o/\w.same (a 0)/\True)/\m.same m/\True)/\(d<=d/\d<=c)/\gp []=true)/\∀(x:Int),let s:=bj f x.toNat d;let l:=decide (s<(-1:Int));let j:=decide ((1:Int)<s);let b:=x+(1:Int);let k:=a b;(d<=x/\x<=c)/\gp (ω x.toNat f)=true->(decide (x<c)=true->d<=x/\x<q/\x.toNat<f.length/\(l=true->(g 4).same e)/\(l=false->(j=true->(g 4).same e)/\(j=false->cn .i64 b/\((n.same n/\o.same o/\k.same k/\True)/\m.same m/\True)/\((d<=b/\b<=c)/\gp (ω b.toNat f)=true)/\(c - b).toNat<(c - x).toNat)))/\(decide (x<c)=false->w.same e)))) (by kernel_rfl) ?_;simp only[vcs];refine⟨λh=>by simp[i7,h],λh=>?_⟩;have F:bB p=0:=Classical.not_not.1 h;refine⟨λy=>by
  grind[i7],λy=>⟨⟨⟨by omega,by omega⟩,rfl⟩,?_⟩⟩;have u:f.length=p.offers.length:=by omega
 rintro i ⟨⟨A,G⟩,g⟩;refine⟨λt=>?_,λt=>?_⟩
 ·have B:=dj (d:=0) (show i.toNat<f.length by omega);have H:=kC (d:=0) A t;have z:¬(-1<=bj f i.toNat 0/\bj f i.toNat 0<=1)->(4:Int)=i7 p f:=λE=>by
   have:gp f=false:=by
    rw[γ7];intro C;have:=κ.1 C _ B;grind
   grind[i7]
  grind[gp]
 ·rw[show i.toNat=f.length by omega,π] at g;grind[i7]
def gd (p:bn) (f:List Int):Int:=cu ((bC f 1).map (oI p))
theorem AP {p:bn} (c:bB p=0) {f:List Int} {k:Nat} (g:f.length=p.offers.length):0<=gd p (f.take k)/\gd p (f.take k)<=160000000:=by
 have a:=dN c;have e:=@um (f.take k) 1;have h:(f.take k).length<=f.length:=by grind
 have j:=@qw p a ((bC (f.take k) 1).map (oI p)) λx b=>by
  obtain⟨i,d,rfl⟩:=γa.1 b;have:=(kh.1 d).1;exact dj (by omega)
 have l:=a.2.1;grind[gd]
theorem Tv {p:bn} {f:List Int} {i:Int} (b:0<=i) (a:i<f.length):gd p (f.take (i+1).toNat)=gd p (f.take i.toNat)+if bj f i.toNat 0=1 then(oI p i).value else 0:=by
 unfold gd;rw[AO b a,γb,nU];grind[cu]
def jC (p:bn) (f:List Int):Lp:=((cH p f).cost,(dH (mF p)).map λr=>((bC f 0).map λi=>((dK p r (oI p i):Int):Rat),((df p r - cG p ((bC f 1).map (oI p)) r:Int):Rat)))
theorem Es {p:bn} {f:List Int}:kX (jC p f)=cH p f:=by
 simp_all[kX,jC,cH,dH]
def l8 (p:bn) (f:List Int) (j:Nat):List bM:=fL (((bC f 0).take j).map λi=>(((oI p i).value:Int):Rat))
def nB (p:bn) (f:List Int) (r:Int) (j:Nat):List bM:=fL (((bC f 0).take j).map λi=>((dK p r (oI p i):Int):Rat))
def nC (p:bn) (f:List Int) (k:Nat):List (List bM×bM):=(dH k).map λr=>(nB p f r (bC f 0).length,bu ((df p r - cG p ((bC f 1).map (oI p)) r:Int):Rat))
theorem Tz {p:bn} {f:List Int}:l8 p f (bC f 0).length=(iE (jC p f)).1:=by
 unfold l8;rw[π];rfl
theorem TA {p:bn} {f:List Int}:nC p f (mF p)=(iE (jC p f)).2:=by
 simp_all[nC,iE,jC,nB]
theorem JX {p:bn} {f:List Int} {j:Nat} (h:j<=(bC f 0).length):(l8 p f j).length=j:=by
 grind[l8,ft]
theorem TB {p:bn} {f:List Int} {r:Int} {j:Nat} (h:j<=(bC f 0).length):(nB p f r j).length=j:=by
 grind[nB,ft]
theorem TC {p:bn} {f:List Int} {k:Nat}:(nC p f k).length=k:=by
 grind[nC,gG]
theorem TD {l m:List Rat}:fL (l++m)=fL l++fL m:=γb
theorem adh {p:bn} {f:List Int} {j:Int} (a:0<=j) (h:j<(bC f 0).length):l8 p f (j+1).toNat=l8 p f j.toNat++[bu (((oI p (bj (bC f 0) j.toNat 0)).value:Int):Rat)]:=by
 unfold l8;rw[kC (d:=0) a h,γb,TD];rfl
theorem adi {p:bn} {f:List Int} {r j:Int} (a:0<=j) (h:j<(bC f 0).length):nB p f r (j+1).toNat=nB p f r j.toNat++[bu ((dK p r (oI p (bj (bC f 0) j.toNat 0)):Int):Rat)]:=by
 unfold nB;rw[kC (d:=0) a h,γb,TD];rfl
theorem adj {p:bn} {f:List Int} {r:Int} (a:0<=r):nC p f (r+1).toNat=nC p f r.toNat++[(nB p f r (bC f 0).length,bu ((df p r - cG p ((bC f 1).map (oI p)) r:Int):Rat))]:=by
 unfold nC;rw[show(r+1).toNat=r.toNat+1 by omega,vI,γb,show((r.toNat:Nat):Int)=r by omega];rfl
def ic (p:bn) (f:List Int):Bool:=fy p ((bC f 1).map (oI p))
def mE (p:bn) (f:List Int):List bM×(List (List bM×bM)×List Int):=if ic p f=true then((iE (jC p f)).1,((iE (jC p f)).2,bC f 0)) else([],([],[]))
theorem adk {p:bn} {f:List Int} (h:eT p f):AL (jC p f):=by
 have a:=dN h.1;have c:(jC p f).1.length=nF f:=by
  show((bC f 0).map _).length=_;simp_all
 have b:(jC p f).2.length=mF p:=by
  show((dH (mF p)).map _).length=_;grind[gG]
 have g:=@um f 0;have i:mF p=p.classes.length+12:=rfl;refine⟨?_,?_,?_,?_,?_⟩;·rw[c];have:=h.2.1;have:=a.2.1;grind
 ·rw[b];have:=a.1;omega
 ·grind[Es,Ec]
 ·grind[Es,JE]
 ·rw[c,b,Es];exact⟨_,λx z d e=>SQ h d e⟩
theorem adl {p:bn} {f:List Int}:nA (jC p f)=dq p f:=by
 have b:(jC p f).1.length=nF f:=by
  show((bC f 0).map _).length=_;simp_all
 have a:(jC p f).2.length=mF p:=by
  show((dH (mF p)).map _).length=_;grind[gG]
 grind[nA,dq,Es]
noncomputable def jP (p:bn) (f:List Int) (k:Nat):List Rat:=(dH f.length).map λi=>if bj f i.toNat 0=1 then 1 else if i∈(bC f 0).take k then bj (fZ (dq p f) (nF f) (mF p)) ((bC f 0).idxOf i) 0 else 0
noncomputable def ja (p:bn) (f:List Int):Rat:=((gd p f:Int):Rat)+(dq p f).value
noncomputable def gh (p:bn) (f:List Int):List Rat:=jm (dq p f) (nF f) (mF p) (nF f)
theorem yt {p:bn} {f:List Int} {k:Nat}:(jP p f k).length=f.length:=by
 grind[jP,gG]
theorem Et {p:bn} {f:List Int} {k i:Nat} (h:i<f.length):bj (jP p f k) i 0=if bj f i 0=1 then 1 else if(i:Int)∈(bC f 0).take k then bj (fZ (dq p f) (nF f) (mF p)) ((bC f 0).idxOf (i:Int)) 0 else 0:=by
 unfold jP;rw[JB (e:=0) (by grind[gG]),JC h,Ψ]
theorem adn {l m:List Rat} (a:l.length=m.length) (h:∀i,i<m.length->bj l i 0=bj m i 0):l=m:=δb a λi b c=>by
 grind[cV]
theorem ado {p:bn} {f:List Int} {k:Nat} (b:k<nF f):(jP p f k).set (bj (bC f 0) k 0).toNat (bj (fZ (dq p f) (nF f) (mF p)) k 0)=jP p f (k+1):=by
 have g:=kh.1 (dj (d:=0) b);refine adn (by grind[yt]) λi a=>?_;rw[yt] at a;have c:(bC f 0).idxOf (bj (bC f 0) k 0)=k:=oR (sD.imp λh=>by omega) b;have e:(bC f 0).take (k+1)=(bC f 0).take k++[bj (bC f 0) k 0]:=by simp_all[cV]
 rw[iN (by grind[yt]),Et a,Et a,e];grind
theorem adp {p:bn} {f:List Int} {i:Nat} (h:i<f.length):bj (jP p f 0) i 0=if bj f i 0=1 then 1 else 0:=by
 grind[Et]
def jQ (p:bn) (f:List Int):Bool:=decide (i7 p f=0)&&ic p f
noncomputable def kj (p:bn) (f:List Int):bM:=if jQ p f=true then bu (ja p f) else(false,([],[]))
noncomputable def qK (p:bn) (f:List Int):List bM:=if jQ p f=true then fL (gh p f) else[]
noncomputable def km (p:bn) (f:List Int):List bM:=if jQ p f=true then fL (jP p f (nF f)) else[]
noncomputable def adq (p:bn) (f:List Int):SV:=.agg [.sb (jQ p f),.sb (kj p f).1,.row (.i .u32) (kj p f).2.1,.row (.i .u32) (kj p f).2.2,.row sF (qK p f),.row sF (km p f)]
theorem Eu {t:List Int} {g:Int->Int}:∀{l:List Int},((l.filter λx=>decide (x∈t)).map g).sum=(l.map λx=>if x∈t then g x else 0).sum
 |[]=>rfl
 |x::l=>by
  simp only[List.filter_cons,ξ,δH];by_cases h:x∈t;·rw[if_pos (decide_eq_true h),if_pos h,ξ,δH,Eu]
  ·rw[if_neg (by simpa using h),if_neg h,Eu];omega
theorem Ew {t:List Int} {g:Int->Int}:∀{l:List Int},lW (λx=>((g x:Int):Rat)*(if x∈t then 1 else 0)) l=(((l.map λx=>if x∈t then g x else 0).sum:Int):Rat)
 |[]=>rfl
 |x::l=>by
  have:=@Ew t g l;simp only[lW,this,ξ,δH,Rat.intCast_add];congr 1;split<;>simp_all
theorem AQ {p:bn}:∀{l:List Int},cu (l.map (oI p))=(l.map λi=>(oI p i).value).sum
 |[]=>rfl
 |x::l=>by
  have:=@AQ p l;grind[cu]
section
variable {p:bn} {f t:List Int}
theorem TE (k:gp f=true) (u:f.length=p.offers.length) (e:eL p.offers.length t) (j:∀i∈t,bj f i.toNat 0≠ -1) (r:∀i∈bC f 1,i∈t) (g:Int->Int):
  (t.map g).sum=((bC f 1).map g).sum+((bC f 0).map λx=>if x∈t then g x else 0).sum:=by
 have l:t.Perm (bC f 1++(bC f 0).filter λx=>decide (x∈t)):=by
  refine(δs (yk e) ?_).2 λx=>?_
  ·rw[γu];refine⟨sD.imp λh=>by omega,(sD.sublist δm).imp λh=>by omega,λa s b o m=>?_⟩;grind[kh]
  ·rw[γh,List.mem_filter,decide_eq_true_eq];constructor
   ·intro c;have v:=e.2 x c;have q:=j x c;have n:=κ.1 k _ (dj (d:=0) (show x.toNat<f.length by omega));simp only[ζ,decide_eq_true_eq] at n;grind[kh]
   grind
 rw[JM (l.map g),γb,εU,Eu]
theorem sH (l:List Int) (r:Int):cG p (l.map (oI p)) r=(l.map λi=>dK p r (oI p i)).sum:=by
 unfold cG;rw[δg];rfl
theorem weak (h:eT p f) (s:gp f=true) (z:eL p.offers.length t) (a:fy p (t.map (oI p))=true) (u:∀i∈t,bj f i.toNat 0≠ -1) (A:∀i∈bC f 1,i∈t):((cu (t.map (oI p)):Int):Rat)<=ja p f:=by
 obtain⟨l,E,r⟩:=od h;have d:∀g:Int->Int,bN (nF f) (λj=>((g (bj (bC f 0) j 0):Int):Rat)*(if bj (bC f 0) j 0∈t then(1:Rat) else 0))=(((t.map g).sum - ((bC f 1).map g).sum:Int):Rat):=λg=>by
  have e:=@pH (λx=>((g x:Int):Rat)*(if x∈t then(1:Rat) else 0)) (bC f 0);rw[Ew] at e;rw[TE s h.2.1 z u A g];grind
 have q:=asg_holds (n:=nF f) (m:=mF p) (t:=cH p f) lx qJ (y:=λj=>if bj (bC f 0) j 0∈t then(1:Rat) else 0);have B:(cH p f).value+bN (nF f) (λj=>(cH p f).cs j*(if bj (bC f 0) j 0∈t then(1:Rat) else 0))=((cu (t.map (oI p)) - gd p f:Int):Rat):=by
  grind[cH,dn,AH,gd,AQ]
 rw[B] at q;have o:∀v∈(cH p f).basic++(cH p f).free,0<=jj (nF f) (cH p f) (λj=>if bj (bC f 0) j 0∈t then(1:Rat) else 0) v:=λv b=>by
  rcases γh.1 b with b|b
  ·obtain⟨i,k,rfl⟩:=yb lx b;rw[np lx qJ k,yg k,dn (g:=λj=>((dK p i (oI p (bj (bC f 0) j 0)):Int):Rat)*(if bj (bC f 0) j 0∈t then(1:Rat) else 0)) λj c=>by rw[yf k c],d λx=>dK p i (oI p x),<-sH,<-sH];have C:=nS.1 a i (by grind[cZ]);have w:0<=(df p i - cG p ((bC f 1).map (oI p)) i) - (cG p (t.map (oI p)) i - cG p ((bC f 1).map (oI p)) i):=by omega
   have D:=Ed w;simp_all
  grind[vS,lx,mB,qJ]
 have:=l.best r q λj c=>o _ (l.perm.mem_iff.1 (List.mem_append_right _ (vR l.wf c)));grind[ja]
end
theorem TF {t:Tb} {n j:Nat} (b:j<n):∀{k:Nat},(∀i,i<k->0<=t.bv i)->(∃i,i<k/\t.bv i=j/\bj (fZ t n k) j 0=t.bd i)\/((∀i,i<k->t.bv i≠j)/\bj (fZ t n k) j 0=0)
 |0,_=> .inr ⟨λi a=>by omega,by
   grind[fZ,cV]⟩
 |k+1,h=>by
  have e:=h k (by omega);have d:=@TF t n j b k λi a=>h i (by omega);unfold fZ;by_cases c:t.bv k<n
  ·rw[if_pos c,iN (by grind[Ek])];grind
  grind
theorem TG {t:Tb} {n m r:Nat} (a:r<m):∀{k:Nat},(∃j,j<k/\t.fv j=((n+r:Nat):Int)/\bj (jm t n m k) r 0= -(t.cs j))\/((∀j,j<k->t.fv j≠((n+r:Nat):Int))/\bj (jm t n m k) r 0=0)
 |0=> .inr ⟨λi d=>by omega,by
   grind[jm,cV]⟩
 |k+1=>by
  have c:=@TG t n m r a k;unfold jm;by_cases b:(n:Int)<=t.fv k/\t.fv k<n+m
  ·rw[if_pos b,iN (by grind[Em])];grind
  grind
theorem TI {n m:Nat} {t:Tb} (h:t.WF n m) (c:(t.basic++t.free).Nodup) {j:Nat} (a:j<n):ef t (t.fv j)=t.cs j:=by
 have b:j<t.free.length:=by rw[h.free];exact a
 unfold ef;rw[if_pos (vR h a),show t.free.idxOf (t.fv j)=j from oR (γu.1 c).2.1 b]
theorem adr {n m:Nat} {t:Tb} (h:t.WF n m) (b:(t.basic++t.free).Nodup) {j:Nat} (a:j<m):ef t (t.bv j)=0:=by
 unfold ef;rw[if_neg (Jg h b a)]
section
variable {p:bn} {f:List Int}
noncomputable def pK (p:bn) (f:List Int):Int->Rat:=jj (nF f) (dq p f) λ_=>0
theorem optX_holds (h:eT p f):(cH p f).holds (nF f) (mF p) (pK p f) (dq p f).value:=by
 obtain⟨a,_,_⟩:=od h;have b:=asg_holds a.wf a.fY (y:=λ_=>0);rw[dn (g:=λ_=>0) λj _=>by grind,hZ] at b;have c:=(a.mC _ _).1 b;rwa [show(dq p f).value+0=(dq p f).value by grind] at c
theorem JY (h:eT p f) {i:Nat} (b:i<mF p):pK p f ((dq p f).bv i)=(dq p f).bd i:=by
 obtain⟨a,_,_⟩:=od h;unfold pK;rw[np a.wf a.fY b,dn (g:=λ_=>0) λj _=>by grind,hZ];grind
theorem JZ (h:eT p f) {j:Nat} (b:j<nF f):pK p f ((dq p f).fv j)=0:=by
 obtain⟨a,_,_⟩:=od h;unfold pK;rw[mB a.wf a.fY b]
theorem Ey (h:eT p f) {v:Int} (a:v∈(cH p f).basic++(cH p f).free):(∃i,i<mF p/\(dq p f).bv i=v)\/∃j,j<nF f/\(dq p f).fv j=v:=by
 obtain⟨b,_,_⟩:=od h;rw[<-b.perm.mem_iff,γh] at a;rcases a with a|a;·exact .inl (yb b.wf a)
 ·exact .inr (vS b.wf a)
theorem J0 (h:eT p f) {v:Int} (c:v∈(cH p f).basic++(cH p f).free):0<=pK p f v:=by
 obtain⟨_,b,_⟩:=od h;rcases Ey h c with⟨i,a,rfl⟩|⟨j,d,rfl⟩
 ·rw[JY h a];exact b i a
 grind[JZ]
theorem J1 {j:Nat} (a:j<nF f):(j:Int)∈(cH p f).basic++(cH p f).free:=by
 have:=vR (n:=nF f) (m:=mF p) (t:=cH p f) lx a;grind[vY]
theorem ads (h:eT p f) {i:Nat} (b:i<mF p):0<=(dq p f).bv i:=by
 obtain⟨a,_,_⟩:=od h;have c:=a.perm.mem_iff.1 (δF _ (Ax a.wf b));grind[yb,lx,Ea,vS,vY]
theorem adt (h:eT p f) {j:Nat} (c:j<nF f):bj (fZ (dq p f) (nF f) (mF p)) j 0=pK p f j:=by
 rcases @TF (dq p f) (nF f) j c (mF p) λi b=>ads h b with⟨i,d,a,g⟩|⟨d,a⟩;·grind[JY]
 ·rw[a];rcases Ey h (J1 c) with⟨i,b,e⟩|⟨k,l,e⟩<;>grind[Ey,J1,JZ]
theorem adu (h:eT p f) {j:Nat} (a:j<nF f):pK p f j<=1:=by
 have:=SO h (optX_holds h) (λv b=>J0 h b) a;grind[vY]
theorem TJ (h:eT p f):(∀i,i<mF p->Sz 1000 ((dq p f).bd i))/\(∀j,j<nF f->Sz 1000 ((dq p f).cs j))/\Sz 1000 (dq p f).value:=have a:=(Ec h).SC (od h).1;⟨a.1,a.2.1,a.2.2.1⟩
theorem J2 (q:Rat) (h:q=0\/q=1):Sz 1000 q:=by
 have a:Sz 1 q:=by rcases h with rfl|rfl<;>exact⟨by decide,by decide⟩
 exact a.mono (by omega)
theorem adv (h:eT p f) {v:Int} (a:v∈(cH p f).basic++(cH p f).free):Sz 1000 (pK p f v):=by
 grind[Ey,JY,TJ,JZ,J2]
noncomputable def dC (p:bn) (f:List Int):List Rat:=jP p f (nF f)
theorem rB:(dC p f).length=f.length:=yt
theorem AS (h:eT p f) (c:gp f=true) {i:Nat} (b:i<f.length):(bj f i 0=1/\bj (dC p f) i 0=1)\/(bj f i 0= -1/\bj (dC p f) i 0=0)\/(bj f i 0=0/\(i:Int)∈bC f 0/\(bC f 0).idxOf (i:Int)<nF f/\bj (dC p f) i 0=pK p f ((bC f 0).idxOf (i:Int))):=by
 have g:=κ.1 c _ (dj (d:=0) b);simp only[ζ,decide_eq_true_eq] at g;unfold dC;rw[Et b,π];rcases(show bj f i 0=1\/bj f i 0= -1\/bj f i 0=0 by omega) with a|a|a;·simp_all
 ·simp_all[kh]
 ·have e:(i:Int)∈bC f 0:=kh.2 ⟨by omega,by simp_all⟩;have j:(bC f 0).idxOf (i:Int)<nF f:=εi e;simp_all[adt]
theorem Ez (h:eT p f) (a:gp f=true) {i:Nat} (b:i<f.length):0<=bj (dC p f) i 0/\bj (dC p f) i 0<=1/\Sz 1000 (bj (dC p f) i 0):=by
 rcases AS h a b with⟨_,e⟩|⟨_,e⟩|⟨_,_,c,e⟩;all_goals grind[J2,J0,J1,adu,adv]
theorem sJ (h:eT p f) (c:gp f=true) {i:Nat} (b:i<f.length) (d:0<bj (dC p f) i 0) (a:bj (dC p f) i 0<1):bj f i 0=0:=by
 grind[AS]
def eE (x:List Rat):List Int:=(dH x.length).filter λi=>decide (0<bj x i.toNat 0)
theorem yu {x:List Rat} {i:Int}:i∈eE x↔(0<=i/\i<x.length)/\0<bj x i.toNat 0:=by
 simp_all[eE,nk]
theorem TK {x:List Rat}:eL x.length (eE x):=⟨vJ.sublist δm,λi a=>(yu.1 a).1⟩
def mG (x:List Rat):Bool:=x.all λq=>decide (q.den=1)
theorem adw {q:Rat} (h:q.den=1):q=(q.num:Rat):=by
 grind[Rat.mkRat_self,Rat.mkRat_one]
theorem adx {q:Rat} (c:q.den=1) (b:0<=q) (a:q<=1):q=0\/q=1:=by
 rw[adw c] at b a ⊢;have f:0<=q.num:=by exact_mod_cast b
 have d:q.num<=1:=by exact_mod_cast a
 rcases(show q.num=0\/q.num=1 by omega) with e|e<;>simp_all
theorem ady {t:List Int} (a:gp f=true) (c:f.length=p.offers.length) (h:eL p.offers.length t) (b:∀i∈t,bj f i.toNat 0≠ -1) (d:∀i∈bC f 1,i∈t) (g:Int->Int):bN (nF f) (λj=>((g (bj (bC f 0) j 0):Int):Rat)*(if bj (bC f 0) j 0∈t then(1:Rat) else 0))=(((t.map g).sum - ((bC f 1).map g).sum:Int):Rat):=by
 have e:=@pH (λx=>((g x:Int):Rat)*(if x∈t then(1:Rat) else 0)) (bC f 0);rw[Ew] at e;rw[TE a c h b d g];grind
theorem TL (h:eT p f) (t:gp f=true) (F:mG (dC p f)=true):fy p ((eE (dC p f)).map (oI p))=true/\((cu ((eE (dC p f)).map (oI p)):Int):Rat)=ja p f:=by
 have n:=h.2.1;have z:=@rB p f;have q:∀i:Nat,i<f.length->bj (dC p f) i 0=0\/bj (dC p f) i 0=1:=λi o=>by
  obtain⟨O,J,_⟩:=Ez h t o;have:=κ.1 F _ (dj (d:=0) (show i<(dC p f).length by omega));simp_all[adx]
 have B:eL p.offers.length (eE (dC p f)):=by
  grind[TK]
 have A:∀i∈eE (dC p f),bj f i.toNat 0≠ -1:=λi x K=>by
  grind[yu,AS]
 have D:∀i∈bC f 1,i∈eE (dC p f):=λi x=>by
  grind[kh,yu,AS]
 have G:∀j,j<nF f->(if bj (bC f 0) j 0∈eE (dC p f) then(1:Rat) else 0)=pK p f ((cH p f).fv j):=λj c=>by
  obtain⟨C,L⟩:=yh h c;have E:(bC f 0).idxOf (bj (bC f 0) j 0)=j:=oR (sD.imp λh=>by omega) c;have M:((((bj (bC f 0) j 0).toNat:Nat)):Int)=bj (bC f 0) j 0:=by omega
  have e:bj (dC p f) (bj (bC f 0) j 0).toNat 0=pK p f j:=by
   grind[AS]
  rw[vY c,<-e];rcases q (bj (bC f 0) j 0).toNat (by omega) with l|l;·simp_all[yu]
  ·rw[l,if_pos];grind[yu]
 obtain⟨v,w⟩:=optX_holds h;have k:=ady t n B A D;refine⟨nS.2 λy b=>?_,?_⟩
 ·obtain⟨r,m⟩:∃r:Int,r=(y:Int):=⟨_,rfl⟩;rw[<-m] at b ⊢;have I:0<=r:=by omega
  have a:r.toNat<mF p:=by unfold cZ at b;grind
  have s:=v r.toNat a;rw[dn (g:=λj=>((dK p r (oI p (bj (bC f 0) j 0)):Int):Rat)*(if bj (bC f 0) j 0∈eE (dC p f) then(1:Rat) else 0)) λj c=>by grind[yf],k λi=>dK p r (oI p i),yg a,show((r.toNat:Nat):Int)=r by omega] at s;have N:=J0 h (δF _ (Ax lx a));rw[<-sH,<-sH] at s;have l:((cG p ((eE (dC p f)).map (oI p)) r - cG p ((bC f 1).map (oI p)) r:Int):Rat)<=((df p r - cG p ((bC f 1).map (oI p)) r:Int):Rat):=by grind
  have H:cG p ((eE (dC p f)).map (oI p)) r - cG p ((bC f 1).map (oI p)) r<=df p r - cG p ((bC f 1).map (oI p)) r:=by exact_mod_cast l
  omega
 ·have u:(cH p f).value=0:=rfl;rw[u,dn (g:=λj=>(((oI p (bj (bC f 0) j 0)).value:Int):Rat)*(if bj (bC f 0) j 0∈eE (dC p f) then(1:Rat) else 0)) λj c=>by grind[AH],k λi=>(oI p i).value] at w;grind[ja,gd,AQ]
theorem TM (h:eT p f) {x:Int->Rat} {z:Rat} (l:(cH p f).holds (nF f) (mF p) x z):z=(dq p f).value+(bN (mF p) (λk=>ef (dq p f) ((nF f+k:Nat):Int)*x ((nF f+k:Nat):Int))+bN (nF f) λj=>ef (dq p f) (j:Int)*x (j:Int)):=by
 obtain⟨a,_,_⟩:=od h;have i:=((a.mC _ _).2 l).2;have m:bN (nF f) (λj=>(dq p f).cs j*x ((dq p f).fv j))=lW (λv=>ef (dq p f) v*x v) ((dq p f).basic++(dq p f).free):=by
  rw[Au,pH,pH,a.wf.basic,a.wf.free];rw[dn (n:=mF p) (g:=λ_=>0) λk b=>by
   show ef (dq p f) ((dq p f).bv k)*x ((dq p f).bv k)=0;rw[adr a.wf a.fY b];grind,hZ];rw[dn (n:=nF f) (f:=λk=>ef (dq p f) (bj (dq p f).free k 0)*x (bj (dq p f).free k 0)) (g:=λj=>(dq p f).cs j*x ((dq p f).fv j)) λj e=>by
   show ef (dq p f) ((dq p f).fv j)*x ((dq p f).fv j)=_;rw[TI a.wf a.fY e]];grind
 have d:lW (λv=>ef (dq p f) v*x v) ((cH p f).basic++(cH p f).free)=bN (mF p) (λk=>ef (dq p f) ((nF f+k:Nat):Int)*x ((nF f+k:Nat):Int))+bN (nF f) λj=>ef (dq p f) (j:Int)*x (j:Int):=by
  have c:=@lx p f;rw[Au,pH,pH,c.basic,c.free];congr 1
  ·refine dn λk b=>?_;show ef (dq p f) ((cH p f).bv k)*x ((cH p f).bv k)=_;rw[Ea b]
  ·refine dn λk b=>?_;show ef (dq p f) ((cH p f).fv k)*x ((cH p f).fv k)=_;rw[vY b]
 rw[i,m,Jf a.perm,d]
theorem TN (h:eT p f) {v:Int}:ef (dq p f) v<=0:=by
 obtain⟨d,_,e⟩:=od h;unfold ef;split
 ·rename_i g;have k:(dq p f).free.idxOf v<nF f:=by rw[<-d.wf.free];grind
  rcases @ug (dq p f) (nF f) with⟨a,b⟩|⟨c,a,b,i,j⟩<;>grind
 ·decide
theorem EA (h:eT p f) {r:Nat} (g:r<mF p):bj (gh p f) r 0= -(ef (dq p f) ((nF f+r:Nat):Int)):=by
 obtain⟨a,_,_⟩:=od h;unfold gh;rcases @TG (dq p f) (nF f) (mF p) r g (nF f) with⟨j,c,b,i⟩|⟨c,b⟩;·rw[i,<-b,TI a.wf a.fY c]
 ·rw[b];unfold ef;rw[if_neg];·decide
  ·intro d;obtain⟨j,k,e⟩:=vS a.wf d;simp_all
theorem EB:(gh p f).length=mF p:=Em
theorem J3 (h:eT p f) {r:Nat} (a:r<mF p):0<=bj (gh p f) r 0/\Sz 1000 (bj (gh p f) r 0):=by
 obtain⟨c,_,_⟩:=od h;have d:=@TN p f h ((nF f+r:Nat):Int);refine⟨by grind[EA],?_⟩;rw[EA h a];refine An ?_;unfold ef;split
 ·rename_i b;exact(TJ h).2.1 _ (by have:=εi b;rw[c.wf.free] at this;exact this)
 grind[J2]
theorem TP (h:eT p f):(dq p f).value=bN (mF p) λr=>bj (gh p f) r 0*(cH p f).bd r:=by
 have c:=asg_holds (n:=nF f) (m:=mF p) (t:=cH p f) lx qJ (y:=λ_=>0);have a:=TM h c;have d:(cH p f).value=0:=rfl;rw[d,dn (n:=nF f) (f:=λj=>(cH p f).cs j*(λ_=>(0:Rat)) j) (g:=λ_=>0) λj _=>by grind,hZ] at a;rw[dn (n:=nF f) (f:=λj=>ef (dq p f) (j:Int)*jj (nF f) (cH p f) (λ_=>0) (j:Int)) (g:=λ_=>0) λj b=>by
  have e:=mB (n:=nF f) (m:=mF p) (t:=cH p f) lx qJ (y:=λ_=>0) b;grind[vY],hZ] at a;rw[dn (n:=mF p) (g:=λk=>(-1:Rat)*(bj (gh p f) k 0*(cH p f).bd k)) λk i=>by
  have e:=np (n:=nF f) (m:=mF p) (t:=cH p f) lx qJ (y:=λ_=>0) i;grind[Ea,hZ,EA],uf] at a;grind
theorem adz (h:eT p f) {j:Nat} (b:j<nF f):(cH p f).cs j<=bN (mF p) λr=>bj (gh p f) r 0*(cH p f).cf r j:=by
 have l:=asg_holds (n:=nF f) (m:=mF p) (t:=cH p f) lx qJ (y:=λi=>if i=j then 1 else 0);have a:=TM h l;have o:(cH p f).value=0:=rfl;rw[o,dn (n:=nF f) (f:=λi=>(cH p f).cs i*(if i=j then(1:Rat) else 0)) (g:=λi=>if i=j then(cH p f).cs j else 0) λi _=>by
  grind,uj b] at a;rw[dn (n:=nF f) (f:=λi=>ef (dq p f) (i:Int)*jj (nF f) (cH p f) (λi=>if i=j then 1 else 0) (i:Int)) (g:=λi=>if i=j then ef (dq p f) (j:Int) else 0) λi d=>by
  have e:=mB (n:=nF f) (m:=mF p) (t:=cH p f) lx qJ (y:=λi=>if i=j then(1:Rat) else 0) d;rw[vY d] at e;grind,uj b] at a;rw[dn (n:=mF p) (g:=λk=>bj (gh p f) k 0*(cH p f).cf k j - bj (gh p f) k 0*(cH p f).bd k) λk c=>by
  have e:=np (n:=nF f) (m:=mF p) (t:=cH p f) lx qJ (y:=λi=>if i=j then(1:Rat) else 0) c;rw[Ea c,dn (g:=λi=>if i=j then(cH p f).cf k j else 0) λi _=>by
   grind,uj b] at e;grind[EA],D8] at a;grind[TP,TN]
end
abbrev cQ:=Int×(Int×(Int×(Int×List bM)))
@[reducible] def bA:bp:=.pair (.i .i64) (.pair (.i .i64) (.pair (.i .i64) (.pair (.i .i64) (.bH sF))))
def zN:cQ:=(0,(0,(0,(0,[]))))
def EC:cQ:=(3,(0,(0,(0,[]))))
noncomputable def qL (p:bn) (f:List Int):cQ:=(1,(0,(0,(0,fL (gh p f)))))
def jR (k o:Int):cQ:=(2,(k,(o,(o+1,[]))))
structure dc where
 ch:List Int
 val:Int
 found:Bool
 prf:List cQ
 err:Int
def dX (en:Int->Bool) (s:dc) (a:Alloc):dc:=if s.val<a.value then⟨a.chosen,a.value,s.found||en a.value,s.prf,s.err⟩ else s
def mH (q:Rat):Rat:=if q<0 then -q else q
def jo (x:List Rat):Nat->Option (Int×Rat)
 |0=>none
 |k+1=>if 0<bj x k 0/\bj x k 0<1 then(match jo x k with
   |none=>some ((k:Int),mH (bj x k 0 - 1 / 2))
   |some (i,l)=>if mH (bj x k 0 - 1 / 2)<l then some ((k:Int),mH (bj x k 0 - 1 / 2)) else some (i,l)) else jo x k
def jD (x:List Rat):Option Int:=(jo x x.length).map (·.1)
theorem J4 {x:List Rat}:∀{k:Nat} {i:Int} {l:Rat},jo x k=some (i,l)->(0<=i/\i<k)/\(0<bj x i.toNat 0/\bj x i.toNat 0<1)/\l=mH (bj x i.toNat 0 - 1 / 2)
 |0,i,l,h=>by cases h;|k+1,i,l,h=>by
  unfold jo at h;have b:some ((k:Int),mH (bj x k 0 - 1 / 2))=some (i,l)->(0<bj x k 0/\bj x k 0<1)->(0<=i/\i<((k+1:Nat):Int))/\(0<bj x i.toNat 0/\bj x i.toNat 0<1)/\l=mH (bj x i.toNat 0 - 1 / 2):=λh f=>by
   grind
  have a:jo x k=some (i,l)->(0<=i/\i<((k+1:Nat):Int))/\(0<bj x i.toNat 0/\bj x i.toNat 0<1)/\l=mH (bj x i.toNat 0 - 1 / 2):=λh=>by
   obtain⟨c,d,e⟩:=J4 h;grind
  grind
theorem TQ {x:List Rat}:∀{k:Nat},jo x k=none->∀i,i<k->¬(0<bj x i 0/\bj x i 0<1)
 |0,_,i,a=>by omega;|k+1,h,i,a=>by
  unfold jo at h;split at h;·grind
  ·rename_i b;by_cases e:i=k;·simp_all
   ·exact TQ h i (by omega)
theorem sK {x:List Rat} {k:Int} (h:jD x=some k):(0<=k/\k<x.length)/\0<bj x k.toNat 0/\bj x k.toNat 0<1:=by
 unfold jD at h;obtain⟨⟨i,l⟩,b,a⟩:=Option.map_eq_some_iff.1 h;simp only at a;subst a;obtain⟨c,d,_⟩:=J4 b;simp_all
theorem adA {x:List Rat} (h:jD x=none):∀i,i<x.length->¬(0<bj x i 0/\bj x i 0<1):=TQ (Option.map_eq_none_iff.1 h)
noncomputable def oY (p:bn) (f:List Int):Alloc:=⟨eE (dC p f),cu ((eE (dC p f)).map (oI p))⟩
noncomputable def dm (p:bn) (en:Int->Bool) (s:dc) (f:List Int):dc:=if((s.val+1:Int):Rat)<=ja p f/\mG (dC p f)=true then dX en s (oY p f) else s
def gq (s:dc) (a k:Int):dc:={s with prf:=(s.prf++[zN,zN]).set a.toNat (jR k s.prf.length)}
noncomputable def fu (p:bn) (en:Int->Bool) (most:Int) (b:dc->Int->List Int->dc) (s:dc) (a:Int) (f:List Int):dc:=
 if s.err≠0\/s.found=true then s
 else if ic p f=false then {s with prf:=s.prf.set a.toNat EC}
 else if ja p f<(((dm p en s f).val+1:Int):Rat) then {dm p en s f with prf:=(dm p en s f).prf.set a.toNat (qL p f)}
 else match jD (dC p f) with
  |none=>{dm p en s f with err:=12}
  |some k=>if most<(dm p en s f).prf.length+2 then {dm p en s f with err:=12}
   else b (b (gq (dm p en s f) a k) ((dm p en s f).prf.length+1) (f.set k.toNat 1)) (dm p en s f).prf.length (f.set k.toNat (-1))
noncomputable def dG (p:bn) (en:Int->Bool) (most:Int):Nat->dc->Int->List Int->dc
 |0=>fu p en most λs _ _=>s
 |n+1=>fu p en most (dG p en most n)
structure eI (p:bn) (f:List Int):Prop where
 c:bB p=0
 l:f.length=p.offers.length
 r:gp f=true
theorem eI.ok {p:bn} {f:List Int} (h:eI p f) (a:ic p f=true):eT p f:=⟨h.c,h.l,a⟩
theorem eI.e {p:bn} {f:List Int} (h:eI p f):i7 p f=0:=by
 unfold i7;rw[if_neg (by simp[h.c]),if_neg (by simp[h.l]),if_pos h.r]
theorem eI.jQ {p:bn} {f:List Int} (h:eI p f):jQ p f=ic p f:=by
 unfold Go.Vi.jQ;rw[h.e];simp
theorem AW {f:List Int} {k:Nat} {d:Int} (h:gp f=true) (a: -1<=d/\d<=1):gp (f.set k d)=true:=by
 grind[gp]
theorem eI.set {p:bn} {f:List Int} (h:eI p f) {k:Nat} {d:Int} (a: -1<=d/\d<=1):eI p (f.set k d):=⟨h.c,by rw[τ];exact h.l,AW h.r a⟩
theorem l9 {f:List Int} {k d:Int} (i:0<=k/\k<f.length) (l:bj f k.toNat 0=0) (g:d≠0):nF f=nF (f.set k.toNat d)+1:=by
 have c:(bC f 0).Perm (k::bC (f.set k.toNat d) 0):=by
  refine(δs (sD.imp λh=>by omega) ?_).2 λx=>?_
  ·rw[List.nodup_cons];refine⟨λj=>?_,sD.imp λh=>by omega⟩;simp_all[kh,iN]
  ·rw[List.mem_cons,kh,kh,τ];constructor
   ·rintro⟨a,b⟩;by_cases e:x=k;·exact .inl e
    ·exact .inr ⟨a,by rw[iN (by omega),if_neg (by omega)];exact b⟩
   grind[iN]
 have:=c.length_eq;omega
theorem ED {en:Int->Bool} {s:dc} {a:Alloc}:(dX en s a).prf=s.prf/\(dX en s a).err=s.err/\s.val<=(dX en s a).val/\((dX en s a).val=s.val\/(dX en s a).val=a.value)/\((dX en s a).ch=s.ch\/(dX en s a).ch=a.chosen):=by
 grind[dX]
theorem EE {p:bn} {en:Int->Bool} {s:dc} {f:List Int}:(dm p en s f).prf=s.prf/\(dm p en s f).err=s.err/\s.val<=(dm p en s f).val/\((dm p en s f).val=s.val\/(dm p en s f).val=(oY p f).value)/\((dm p en s f).ch=s.ch\/(dm p en s f).ch=(oY p f).chosen):=by
 grind[dm,ED]
theorem adB {x:List Rat}:(eE x).length<=x.length:=by
 have:=List.length_filter_le (λi:Int=>decide (0<bj x i.toNat 0)) (dH x.length);rw[gG] at this;exact this
theorem adE {p:bn} {f:List Int} (b:f.length=p.offers.length):∀x∈(eE (dC p f)).map (oI p),x∈p.offers:=λx a=>by
 obtain⟨i,c,rfl⟩:=γa.1 a;have:=(yu.1 c).1;rw[rB,b] at this;exact dj (by omega)
theorem TR {p:bn} {f:List Int} (h:eI p f):0<=(oY p f).value/\(oY p f).value<=160000000/\(oY p f).chosen.length<=160:=by
 have a:=dN h.c;have b:=@qw p a ((eE (dC p f)).map (oI p)) (adE h.l);have d:=@adB (dC p f);rw[rB,h.l] at d;have e:=a.2.1;rw[Ω] at b;refine⟨b.1,?_,?_⟩
 ·show cu _<=_;omega
 ·show(eE (dC p f)).length<=160;omega
theorem AX {p:bn} (a:bB p=0) {c:List Int} (h:eL p.offers.length c):bW p c=0↔fy p (c.map (oI p))=true:=by
 simp_all[Eh,fV,dx,bW]
theorem v8 {p:bn} (a:bB p=0) {c:List Int} (h:eL p.offers.length c):de p c=cu (c.map (oI p)):=by
 simp_all[dx,Eh,de]
theorem rC {p:bn} {en:Int->Bool} {most:Int}:∀{n:Nat} {s:dc} {a:Int} {f:List Int},eI p f->s.prf.length<=(dG p en most n s a f).prf.length/\((dG p en most n s a f).prf.length<=most\/(dG p en most n s a f).prf.length=s.prf.length)/\s.val<=(dG p en most n s a f).val/\((dG p en most n s a f).val=s.val\/(dG p en most n s a f).val<=160000000)/\((dG p en most n s a f).ch=s.ch\/(dG p en most n s a f).ch.length<=160)/\((dG p en most n s a f).err=s.err\/(dG p en most n s a f).err=12):=by
 have d:∀{b:dc->Int->List Int->dc},(∀{s:dc} {a:Int} {f:List Int},eI p f->s.prf.length<=(b s a f).prf.length/\((b s a f).prf.length<=most\/(b s a f).prf.length=s.prf.length)/\s.val<=(b s a f).val/\((b s a f).val=s.val\/(b s a f).val<=160000000)/\((b s a f).ch=s.ch\/(b s a f).ch.length<=160)/\((b s a f).err=s.err\/(b s a f).err=12))->
   ∀{s:dc} {a:Int} {f:List Int},eI p f->s.prf.length<=(fu p en most b s a f).prf.length/\((fu p en most b s a f).prf.length<=most\/(fu p en most b s a f).prf.length=s.prf.length)/\s.val<=(fu p en most b s a f).val/\((fu p en most b s a f).val=s.val\/(fu p en most b s a f).val<=160000000)/\((fu p en most b s a f).ch=s.ch\/(fu p en most b s a f).ch.length<=160)/\((fu p en most b s a f).err=s.err\/(fu p en most b s a f).err=12):=by
  intro b c s a f h;obtain⟨v,j,E,l,r⟩:=@EE p en s f;obtain⟨H,A,L⟩:=TR h;have w:(dm p en s f).ch=s.ch\/(dm p en s f).ch.length<=160:=r.imp id λh=>by simp_all
  have x:(dm p en s f).val=s.val\/(dm p en s f).val<=160000000:=l.imp id λh=>by omega
  unfold fu;split;·simp_all
  split;·simp_all
  split;·simp_all
  split;·simp_all
  rename_i k J;split;·simp_all
  rename_i o;have F:(gq (dm p en s f) a k).prf.length=s.prf.length+2:=by
   simp_all[gq]
  obtain⟨D,K,u,z,e,t⟩:=@c (gq (dm p en s f) a k) ((dm p en s f).prf.length+1) (f.set k.toNat 1) (h.set (by omega));obtain⟨B,C,G,I,g,M⟩:=@c (b (gq (dm p en s f) a k) ((dm p en s f).prf.length+1) (f.set k.toNat 1)) (dm p en s f).prf.length (f.set k.toNat (-1)) (h.set (by omega));have i:(gq (dm p en s f) a k).val=(dm p en s f).val:=rfl;have m:(gq (dm p en s f) a k).ch=(dm p en s f).ch:=rfl;have q:(gq (dm p en s f) a k).err=(dm p en s f).err:=rfl;rw[v] at o;rw[i] at u z;rw[m] at e;rw[q,j] at t;refine⟨by omega,.inl (by omega),by omega,by omega,?_,?_⟩
  ·rcases g with g|g
   ·rw[g];rcases e with e|e<;>simp_all
   omega
  omega
 intro n;induction n with
 |zero=>exact d λ{s a f} _=>⟨Nat.le_refl _,.inr rfl,Int.le_refl _,.inl rfl,.inl rfl,.inl rfl⟩;|succ n y=>exact d λh=>y h
inductive jb (p:bn) (v:Int) (t:List cQ):Nat->List Int->Nat->Nat->Prop
 |bnd {a:Nat} {f:List Int} {lo:Nat}:t[a]?=some (qL p f)->ic p f=true->ja p f<((v+1:Int):Rat)->jb p v t a f lo lo
 |con {a:Nat} {f:List Int} {lo:Nat}:t[a]?=some EC->ic p f=false->jb p v t a f lo lo
 |sL {a:Nat} {f:List Int} {lo mid hi:Nat} {k:Int}:t[a]?=some (jR k lo)->a<lo->(0<=k/\k<f.length)->bj f k.toNat 0=0->jb p v t (lo+1) (f.set k.toNat 1) (lo+2) mid->jb p v t lo (f.set k.toNat (-1)) mid hi->jb p v t a f lo hi
section
variable {p:bn} {v v':Int} {t t':List cQ} {a lo hi:Nat} {f:List Int}
theorem jb.le (h:jb p v t a f lo hi):lo<=hi:=by
 induction h with
 |bnd _ _ _=>omega;|con _ _=>omega;|sL _ _ _ _ _ _ b c=>omega
theorem jb.mono (h:jb p v t a f lo hi) (q:v<=v') (e:∀i,i=a\/(lo<=i/\i<hi)->t'[i]?=t[i]?):jb p v' t' a f lo hi:=by
 induction h with
 |bnd c b d=>
  refine .bnd (by simp_all) b ?_;have:((v+1:Int):Rat)<=((v'+1:Int):Rat):=by exact_mod_cast (show v+1<=v'+1 by omega)
  grind;|con c b=>exact .con (by simp_all) b;|sL c b d l k g m j=>
  have o:=k.le;have n:=g.le;exact .sL (by simp_all) b d l (m λi hi=>e i (by omega)) (j λi hi=>e i (by omega))
def yv (f:List Int) (l:List Int):Prop:=(∀i∈l,bj f i.toNat 0≠ -1)/\∀i∈bC f 1,i∈l
theorem EF {l:List Int} {k d:Int} (g:0<=k/\k<f.length) (m:bj f k.toNat 0=0) (e:∀i∈l,0<=i) (h:yv f l) (j:(d=1/\k∈l)\/(d= -1/\k∉l)):yv (f.set k.toNat d) l:=by
 obtain⟨b,c⟩:=h;refine⟨λi a=>?_,λi a=>?_⟩<;>grind[iN,kh]
theorem TS {l m:List Int} (e:bB p=0) (f:∀i∈l,0<=i/\i<p.offers.length) (q:m.Nodup) (j:∀i∈m,i∈l) (o:l.Nodup) (h:fy p (l.map (oI p))=true):fy p (m.map (oI p))=true:=by
 refine nS.2 λr b=>?_;have d:=nS.1 h r b;have a:l.Perm (m++l.filter λi=>decide (i∉m)):=by
  grind
 have g:cG p (l.map (oI p)) r=cG p (m.map (oI p)) r+cG p ((l.filter λi=>decide (i∉m)).map (oI p)) r:=by
  rw[sH,sH,sH,JM (a.map _),γb,εU]
 have n:=@sf p r ((l.filter λi=>decide (i∉m)).map (oI p)) λx c=>by
  obtain⟨i,k,rfl⟩:=γa.1 c;simp_all[ki]
 omega
theorem jb.sound (h:jb p v t a f lo hi) (e:eI p f) {l:List Int} (d:eL p.offers.length l) (b:fy p (l.map (oI p))=true) (g:yv f l):cu (l.map (oI p))<=v:=by
 induction h with
 |bnd o n m=>
  have j:=weak (e.ok n) e.r d b g.1 g.2;have s:((cu (l.map (oI p)):Int):Rat)<((v+1:Int):Rat):=by grind
  have u:cu (l.map (oI p))<v+1:=by exact_mod_cast s
  omega;|con o n=>
  exfalso;have:=TS e.c d.2 (sD.imp λh=>by omega) g.2 (yk d) b;grind[ic];|@sL a f lo y hi k o n m j s u x w=>
  by_cases q:k∈l;·exact x (e.set (by omega)) (EF m j (λi hi=>(d.2 i hi).1) g (.inl ⟨rfl,q⟩))
  ·exact w (e.set (by omega)) (EF m j (λi hi=>(d.2 i hi).1) g (.inr ⟨rfl,q⟩))
end
theorem TT {p:bn} {en:Int->Bool} {most:Int}:∀{n:Nat} {s:dc} {a:Int} {f:List Int},eI p f->nF f<=n->(0<=a/\a<s.prf.length)->(dG p en most n s a f).err=0->(dG p en most n s a f).found=false->
  jb p (dG p en most n s a f).val (dG p en most n s a f).prf a.toNat f s.prf.length (dG p en most n s a f).prf.length/\(∀i:Nat,i<s.prf.length->i≠a.toNat->(dG p en most n s a f).prf[i]?=s.prf[i]?)/\s.err=0/\s.found=false:=by
 have y:∀{b:dc->Int->List Int->dc} {s:dc} {a:Int} {f:List Int},eI p f->(0<=a/\a<s.prf.length)->
   (∀{s:dc} {a:Int} {g:List Int},eI p g->nF f=nF g+1->(0<=a/\a<s.prf.length)->s.prf.length<=(b s a g).prf.length/\s.val<=(b s a g).val/\((b s a g).err=0->(b s a g).found=false->jb p (b s a g).val (b s a g).prf a.toNat g s.prf.length (b s a g).prf.length/\(∀i:Nat,i<s.prf.length->i≠a.toNat->(b s a g).prf[i]?=s.prf[i]?)/\s.err=0/\s.found=false))->
   (fu p en most b s a f).err=0->(fu p en most b s a f).found=false->jb p (fu p en most b s a f).val (fu p en most b s a f).prf a.toNat f s.prf.length (fu p en most b s a f).prf.length/\(∀i:Nat,i<s.prf.length->i≠a.toNat->(fu p en most b s a f).prf[i]?=s.prf[i]?)/\s.err=0/\s.found=false:=by
  intro b s a f t C q e c;obtain⟨D,e2,e3,e4,e5⟩:=@EE p en s f;have B:a.toNat<s.prf.length:=by omega
  unfold fu at e c ⊢;split at e;·simp_all
  rename_i x;have G:s.err=0/\s.found=false:=by simpa using x
  rw[if_neg x] at c ⊢;split at e
  ·rename_i m;rw[if_pos m];refine⟨?_,λi u j=>?_,G⟩
   ·rw[τ];exact .con (by simp_all) m
   ·show(s.prf.set a.toNat EC)[i]?=_;rw[δD (λh=>j h.symm)]
  rename_i m;rw[if_neg m] at c ⊢;have O:ic p f=true:=by simpa using m
  split at e
  ·rename_i w;rw[if_pos w];refine⟨?_,λi u j=>?_,G⟩
   ·rw[τ,D];refine .bnd ?_ O w;simp_all
   ·show((dm p en s f).prf.set a.toNat _)[i]?=_;rw[δD (λh=>j h.symm),D]
  rename_i w;rw[if_neg w] at c ⊢;cases A:jD (dC p f) with
  |none=>simp_all;|some k=>
  rw[A] at e c;simp only at e c ⊢;split at e;·simp at e
  rename_i Q;rw[if_neg Q] at c ⊢;obtain⟨l,K,L⟩:=sK A;rw[rB] at l;have v:bj f k.toNat 0=0:=sJ (t.ok O) t.r (by omega) K L;have n1:=l9 l v (d:=1) (by omega);have Y:=l9 l v (d:= -1) (by omega);have T:eI p (f.set k.toNat 1):=t.set (by omega);have f2:eI p (f.set k.toNat (-1)):=t.set (by omega);have S:(gq (dm p en s f) a k).prf.length=s.prf.length+2:=by
   simp_all[gq]
  rw[D] at e c ⊢;obtain⟨l1,v1,t1⟩:=@q (gq (dm p en s f) a k) ((s.prf.length:Int)+1) (f.set k.toNat 1) T n1 (by omega);generalize R:b (gq (dm p en s f) a k) ((s.prf.length:Int)+1) (f.set k.toNat 1)=I at*;obtain⟨l2,V,Z⟩:=@q I (s.prf.length:Int) (f.set k.toNat (-1)) f2 Y (by omega);generalize X:b I (s.prf.length:Int) (f.set k.toNat (-1))=P at*;obtain⟨N,F,U,w2⟩:=Z e c;obtain⟨J,H,w3,w4⟩:=t1 U w2;have M:∀i:Nat,i<s.prf.length+2->(gq (dm p en s f) a k).prf[i]?=if i=a.toNat then some (jR k s.prf.length) else(s.prf++[zN,zN])[i]?:=λi u=>by
   unfold gq;simp only[D];rw[List.getElem?_set];by_cases h:a.toNat=i;·simp_all
   ·rw[if_neg h,if_neg (λm=>h m.symm)]
  have E:((s.prf.length:Int)).toNat=s.prf.length:=by omega
  have z:((s.prf.length:Int)+1).toNat=s.prf.length+1:=by omega
  rw[E] at N F;rw[z] at J H;rw[S] at J H;have o:∀i:Nat,i<s.prf.length->P.prf[i]?=(gq (dm p en s f) a k).prf[i]?:=λi u=>by rw[F i (by omega) (by omega),H i (by omega) (by omega)]
  refine⟨.sL (k:=k) (mid:=I.prf.length) ?_ B l v ?_ N,λi u j=>?_,G⟩;·rw[o _ B,M _ (by omega),if_pos rfl]
  ·exact J.mono V λi u=>F i (by omega) (by omega)
  ·rw[o i u,M i (by omega),if_neg j,List.getElem?_append_left u]
 intro n;induction n with
 |zero=>
  intro s a f t W C e c;exact y t C (λ{s a g} _ h _=>by omega) e c;|succ n ih=>
  intro s a f t W C e c;refine y t C (λ{s a g} x m w=>?_) e c;have A:=@rC p en most n s a g x;exact⟨A.1,A.2.2.1,λe c=>ih x (by omega) w e c⟩
theorem TU {p:bn} {en:Int->Bool} {most:Int} {G:List Int->Int->Bool->Prop} (u:∀c w b q w',G c w b->bW p q=0->de p q=w'->w<w'->G q w' (b||en w')):
  ∀{n:Nat} {s:dc} {a:Int} {f:List Int},eI p f->G s.ch s.val s.found->G (dG p en most n s a f).ch (dG p en most n s a f).val (dG p en most n s a f).found:=by
 have k:∀{d:dc->Int->List Int->dc},(∀{s:dc} {a:Int} {f:List Int},eI p f->G s.ch s.val s.found->G (d s a f).ch (d s a f).val (d s a f).found)->
   ∀{s:dc} {a:Int} {f:List Int},eI p f->G s.ch s.val s.found->G (fu p en most d s a f).ch (fu p en most d s a f).val (fu p en most d s a f).found:=by
  intro d e s a f i j;unfold fu;split;·exact j
  split;·exact j
  rename_i t;have y:ic p f=true:=by simp_all
  have m:G (dm p en s f).ch (dm p en s f).val (dm p en s f).found:=by
   unfold dm;split
   ·rename_i A;unfold dX;split
    ·rename_i o;obtain⟨z,B⟩:=TL (i.ok y) i.r A.2;have g:eL p.offers.length (eE (dC p f)):=by
      have:=@TK (dC p f);rw[rB,i.l] at this;exact this
     refine u _ _ _ _ _ j ?_ ?_ o;·exact(AX i.c g).2 z
     ·exact v8 i.c g
    ·exact j
   ·exact j
  split;·exact m
  split;·exact m
  split;·exact m
  ·exact e (i.set (by omega)) (e (i.set (by omega)) m)
 intro n;induction n with
 |zero=>exact k λ_ h=>h;|succ n x=>exact k λv t=>x v t
theorem two_pow_pos (n:Nat):1<=2^n:=Nat.one_le_two_pow
theorem TV {p:bn} {en:Int->Bool} {most:Int}:∀{n:Nat} {s:dc} {a:Int} {f:List Int},eI p f->nF f<=n->s.err=0->((s.prf.length+2^(nF f+1):Nat):Int)<=most+2->(dG p en most n s a f).err=0/\(dG p en most n s a f).prf.length+2<=s.prf.length+2^(nF f+1):=by
 have l:∀{c:dc->Int->List Int->dc} {s:dc} {a:Int} {f:List Int},eI p f->s.err=0->((s.prf.length+2^(nF f+1):Nat):Int)<=most+2->
   (∀{s:dc} {a:Int} {g:List Int},eI p g->nF f=nF g+1->s.err=0->((s.prf.length+2^(nF g+1):Nat):Int)<=most+2->(c s a g).err=0/\(c s a g).prf.length+2<=s.prf.length+2^(nF g+1))->
   (fu p en most c s a f).err=0/\(fu p en most c s a f).prf.length+2<=s.prf.length+2^(nF f+1):=by
  intro c s a f b t u C;obtain⟨L,J,T,X,e5⟩:=@EE p en s f;have F:2<=2^(nF f+1):=by grind
  unfold fu;split;·omega
  split;·simp_all
  rename_i E N;have x:ic p f=true:=by simp_all
  split;·simp_all
  rename_i v;cases A:jD (dC p f) with
  |none=>
   exfalso;apply v;have o:mG (dC p f)=true:=by
    unfold mG;rw[κ];intro q H;obtain⟨i,B,rfl⟩:=γF H;have w:=adA A i B;obtain⟨M,I,_⟩:=Ez (b.ok x) b.r (show i<f.length by grind[rB]);rw[cV B] at w M I;rcases(show(dC p f)[i]=0\/(dC p f)[i]=1 by grind) with e|e<;>simp_all
   obtain⟨Y,K⟩:=TL (b.ok x) b.r o;have P:((oY p f).value:Rat)=ja p f:=K;by_cases D:((s.val+1:Int):Rat)<=ja p f
   ·have O:s.val<(oY p f).value:=by
     rw[<-P] at D;have:s.val+1<=(oY p f).value:=by exact_mod_cast D
     omega
    have:(dm p en s f).val=(oY p f).value:=by
     simp_all[dm,dX]
    grind
   grind;|some k=>
   simp only;obtain⟨j,z,y⟩:=sK A;rw[rB] at j;have m:bj f k.toNat 0=0:=sJ (b.ok x) b.r (by omega) z y;have n1:=l9 j m (d:=1) (by omega);have n2:=l9 j m (d:= -1) (by omega);have W:eI p (f.set k.toNat 1):=b.set (by omega);have Z:eI p (f.set k.toNat (-1)):=b.set (by omega);have V:(gq (dm p en s f) a k).prf.length=s.prf.length+2:=by
    grind[gq]
   have U:2^(nF f+1)=2^(nF (f.set k.toNat 1)+1)+2^(nF (f.set k.toNat 1)+1):=by
    grind
   have ne:nF (f.set k.toNat (-1))=nF (f.set k.toNat 1):=by omega
   have Q:2<=2^(nF (f.set k.toNat 1)+1):=by omega
   rw[if_neg (by rw[L];omega)];have S:(gq (dm p en s f) a k).err=0:=by show(dm p en s f).err=0;rw[J,t]
   grind
 intro n;induction n with
 |zero=>
  intro s a f b G t u;exact l b t u λ{s a g} _ h _ _=>by omega;|succ n R=>
  intro s a f b G t u;exact l b t u λ{s a g} E N v w=>R E (by omega) v w
end Go.Vi

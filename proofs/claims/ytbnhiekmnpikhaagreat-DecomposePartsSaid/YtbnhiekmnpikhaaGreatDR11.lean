import Derived.Test.YtbnhiekmnpikhaaGreatDR10
set_option maxRecDepth 100000
set_option maxHeartbeats 4000000
set_option linter.all false
open Bool renaming and_eq_true->θ
open Go.Vi.AV renaming sl->ζX,sc->δh,os->θb
open Go.Vi.SV renaming si->γf,row->Ψ,ow->γW,sb->γy,il->γv,ptr->γK,bl->δd
open Int renaming toNat_natCast->γm
open IntCast renaming intCast->κ
open List renaming range->ω,ext_getElem->γ8,getElem_set->εY,getElem_map->δD,getElem_range->εJ,replicate->δ,length_map->Θ,mem_map->Ω,take->Γ,length->γb,take_length->ψ,all_eq_true->χ,map->γd,length_replicate->γD,length_take->γx,map_append->γa,length_set->Φ,map_map->γ5,flatMap->ζ0,elem->ζJ,getElem_of_mem->γM,mem_append_left->εp,mem_append->γi,map_cons->π,sum_cons->ε1,perm_ext_iff_of_nodup->γ6,nodup_append->γs,filter_sublist->γS,sum_append->ζ6,idxOf_lt_length_of_mem->εk,getElem?_set_ne->δr
namespace Go.Vi
open Go.Proofs.YtbnhiekmnpikhaaGreat.Ir
open Go.Proofs
def r408:cU:=rZ 176 (Int×Int) (.cons (dX .i64) (.one (dX .i64))) (λn m t a=>(0<=a.1/\a.1<m)/\(0<=a.2/\a.2<n)/\t.cf a.1.toNat a.2.toNat≠0) (λ_ _ _ _=> .Gz []) (λ_ _ t a=>eX t a.1.toNat a.2.toNat)
def nw (l:List Rat) (q:Rat):List Rat:=l.map λx=>x*q
def fC (q:Rat):iZ:=.cells [.sb (nf q).1,.row (.i .u32) (nf q).2.1,.row (.i .u32) (nf q).2.2] 177 3 false
def gM {a:Type} (f g:Nat->a) (n r i:Nat):List a:=(ω n).map λk=>if k<i/\k≠r then g k else f k
theorem ta {a:Type} {f g:Nat->a} {n r i:Nat}:(gM f g n r i).length=n:=by simp[gM]
theorem LJ {a:Type} {l:List a} {g:Nat->a} {r:Nat} {d:a}:gM (λk=>bN l k d) g l.length r 0=l:=by
 refine γ8 ta λi b c=>?_;grind[gM,bN]
theorem LI {a:Type} {f g:Nat->a} {n r i:Nat} {d:a} (h:i<n):bN (gM f g n r i) i d=f i:=by
 simp_all[gM,o5]
theorem LH {a:Type} {f g:Nat->a} {n r i:Nat} (h:i<n) (d:i≠r):(gM f g n r i).set i (g i)=gM f g n r (i+1):=by
 refine γ8 (by simp[gM]) λk b c=>?_;have e:k<n:=by grind[gM]
 rw[εY];simp only[gM,δD,εJ];grind
theorem LG {a:Type} {f g:Nat->a} {n r:Nat}:gM f g n r (r+1)=gM f g n r r:=by
 unfold gM;grind
theorem Kk {a:Type} {f g:Nat->a} {n r:Nat} {x:a} (h:r<n):(gM f g n r n).set r x=(ω n).map λk=>if k=r then x else g k:=by
 refine γ8 (by simp[gM]) λk b c=>?_;have d:k<n:=by simp_all
 rw[εY];simp only[gM,δD,εJ];grind
theorem Kj {l:List (List Rat)} {i:Nat} {x:List Rat}:(fM l).set i (fL x)=fM (l.set i x):=by
 simp_all[fM]
theorem Tw {l:List Rat} {c:Nat} (h:c<l.length):(fL (nw l (1 / bN l c 0))).set c (nf (1 / bN l c 0))=fL (jS l c):=by
 rw[uI];congr 1;refine γ8 (by simp[nw,jS]) λk d e=>?_;have b:k<l.length:=by grind[jS]
 rw[εY];simp only[nw,jS,δD,εJ];by_cases a:c=k;·simp_all
 ·rw[if_neg a,if_neg λh=>a h.symm,b_ (i:=k) b]
def j8 (t:Tb) (r c i:Nat):Tb:={t with
 VJ:=gM (λk=>bN t.VJ k []) (λk=>ju (bN t.VJ k []) c (jS (bN t.VJ r []) c)) t.VJ.length r i
 bound:=gM t.bd (λk=>t.bd k - t.cf k c*(t.bd r*(1 / t.cf r c))) t.bound.length r i}
theorem Tv {t:Tb} {r c:Nat}:j8 t r c 0=t:=by
 unfold j8;have b:=@LJ (List Rat) t.VJ (λk=>ju (bN t.VJ k []) c (jS (bN t.VJ r []) c)) r [];have d:=@LJ Rat t.bound (λk=>t.bd k - t.cf k c*(t.bd r*(1 / t.cf r c))) r 0;have a:gM t.bd (λk=>t.bd k - t.cf k c*(t.bd r*(1 / t.cf r c))) t.bound.length r 0=t.bound:=d;rw[b,a]
def Tu (n m:Int) (t:Tb) (r c:Int):Nat->bG
 |3=> .inv Int (λj=>⟨[(0,.ptr 0 0 10),(1,.si .i64 r),(2,.si .i64 c),(6,.ptr 5 0 3),(8,.ow 6 n.toNat 3),(41,.row sF (fL (bN t.VJ r.toNat []))),(42,.si .i64 n),(43,.si .i64 j)],
   (FV n m t).fO++[fC (1 / t.cf r.toNat c.toNat),.row sF (dT (fL (nw (bN t.VJ r.toNat []) (1 / t.cf r.toNat c.toNat))) j.toNat (false,([],[]))) 177 true]⟩)
   (λs=>iS s 43) (λj=>0<=j/\j<=n) (λj=>(n - j).toNat) λ_ _=> .look
 |10=> .inv Int (λi=>⟨[(0,.ptr 0 0 10),(1,.si .i64 r),(2,.si .i64 c),(8,.row sF (fL (jS (bN t.VJ r.toNat []) c.toNat))),(11,.ptr 7 0 3),(72,.si .i64 m),(73,.si .i64 i)],
   (FV n m (j8 t r.toNat c.toNat i.toNat)).fO++[fC (1 / t.cf r.toNat c.toNat),.dead,fC (t.bd r.toNat*(1 / t.cf r.toNat c.toNat))]⟩)
   (λs=>iS s 73) (λj=>0<=j/\j<=m) (λj=>(m - j).toNat) λ_ _=> .look
 |_=> .look
theorem Ie:dA Tryz.prog r408:=by
 refine kq (L:=[mj,zT,wR,r417,sE]) (W:=[]) r408 (λa=>Tu a.1.n a.1.m a.1.t a.2.1 a.2.2) (by simp) (by simpa using⟨nH,yJ,tZ,H9,o8⟩) ?_;rintro⟨x,r,c⟩ ⟨n,m,t,hx,hok,⟨r0,r1⟩,⟨c0,c1⟩,ha⟩;simp only at hx r0 r1 c0 c1 ha;subst hx;refine NH (let a:=γf .i64;let d:=iZ.row;let e:=(0:Int);let f:=Ψ;let g:=γW;let h:=iZ.cells;let j:=γy;let k:=(1:Int);let o:=sF.bw;let s:=γv .i64 0;let w:=γK;let K:=(FV n m t).VJ;let a0:=bN K r.toNat sF.qE.bw;let af:=nf (κ k);let aB:=(af.1,af.2.1,af.2.2);let ag:=bN a0 c.toNat o;let ah:=(ag.1,ag.2.1,ag.2.2);let Q:=(↑(FV n m t).k4:Int);let L:=w 0 0 10;let a3:=w 5 0 3;let A:=(FV n m t).n;let ai:=g 6 A.toNat 3;let M:=(FV n m t).t;let S:=bN M.VJ r.toNat [];let aj:=f sF (fL S);let a4:=a A;let G:=(FV n m t).m;let a5:=a G;let z:=ew.i .u32;let B:=FV A G M;let a6:=h [a B.n,a B.m,g 1 B.k0 1,g 2 B.k1 3,f sF B.cost,j B.v.1,f z B.v.2.1,f z B.v.2.2,g 3 B.k3 1,g 4 B.k4 1] 261 10 false;let a7:=d sF.qE B.VJ 106 false;let a8:=d sF B.bound 177 false;let C:=ew.i .i64;let a9:=d C B.basic 3 false;let aa:=d C B.free 3 false;let ak:=nf (TL aB / TL ah);let N:=(1:Rat) / M.cf r.toNat c.toNat;let R:=h [j (nf N).1,f z (nf N).2.1,f z (nf N).2.2] 177 3 false;let ab:=(false,[],[]);let al:=fL (nw S N);let T:=((nf N).1,(nf N).2.1,(nf N).2.2);let ac:=B.bound.length;let am:=bN B.bound r.toNat o;let aC:=(am.1,am.2.1,am.2.2);let U:=fL (jS S c.toNat);let an:=f sF U;let ad:=w 7 0 3;let D:=FV A G (j8 M r.toNat c.toNat 0);let ao:=nf (TL aC*TL T);let V:=nf (M.bd r.toNat*N);let ap:=h [j V.1,f z V.2.1,f z V.2.2] 177 3 false;let W:=(V.1,V.2.1,V.2.2);let E:=FV A G (eX M r.toNat c.toNat);((-9223372036854775808:Int)<=k/\k<=(9223372036854775807:Int))/\(FV n m t).k0=K.length/\e<=r/\r<(↑K.length:Int)/\(FV n m t).k0=K.length/\r.toNat<K.length/\e<=c/\c<(↑a0.length:Int)/\c.toNat<a0.length/\((bL aB/\bL ah)/\TL ah≠(0:Rat))/\e<=Q/\Q<=Q/\Q*(56:Int)<=(140737488355328:Int)/\Q<=(1000000000000:Int)/\(FV n m t).k0=K.length/\e<=r/\r<(↑K.length:Int)/\(FV n m t).k0=K.length/\r.toNat<K.length/\(((L.bi L/\(a r).bi (a r)/\(a c).bi (a c)/\a3.bi a3/\(g 6 Q.toNat 3).bi ai/\(f sF a0).bi aj/\(a (↑a0.length:Int)).bi a4/\(s).bi (a 0)/\True)/\(h [a4,a5,g 1 (FV n m t).k0 1,g 2 (FV n m t).k1 3,f sF (FV n m t).cost,j (FV n m t).v.1,f z (FV n m t).v.2.1,f z (FV n m t).v.2.2,g 3 (FV n m t).k3 1,g 4 (FV n m t).k4 1] 261 10 false).bi a6/\(d sF.qE K 106 false).bi a7/\(d sF (FV n m t).bound 177 false).bi a8/\(d C (FV n m t).basic 3 false).bi a9/\(d C (FV n m t).free 3 false).bi aa/\(h [j ak.1,f z ak.2.1,f z ak.2.2] 177 3 false).bi R/\(d (ew.b.pair (z.qE.pair z.qE)) (δ Q.toNat ab) 177 true).bi (d sF (dT al 0 ab) 177 true)/\True)/\e<=e/\e<=A)/\∀(x:Int),let aq:=bN (fL S) x.toNat o;let aD:=(aq.1,aq.2.1,aq.2.2);let ae:=dT al x.toNat ab;let O:=ae.length;let X:=x+k;let aE:=a X;let ar:=nf (TL aD*TL T);e<=x/\x<=A->(decide (x<A)=true->e<=x/\x<(↑(fL S).length:Int)/\x.toNat<(fL S).length/\(bL aD/\bL T)/\A.toNat=O/\e<=x/\x<(↑O:Int)/\A.toNat=O/\x.toNat<O/\VI .i64 X/\((L.bi L/\(a r).bi (a r)/\(a c).bi (a c)/\a3.bi a3/\ai.bi ai/\aj.bi aj/\a4.bi a4/\aE.bi aE/\True)/\a6.bi a6/\a7.bi a7/\a8.bi a8/\a9.bi a9/\aa.bi aa/\R.bi R/\(d sF (ae.set x.toNat (ar.1,ar.2.1,ar.2.2)) 177 true).bi (d sF (dT al X.toNat ab) 177 true)/\True)/\(e<=X/\X<=A)/\(A - X).toNat<(A - x).toNat)/\(decide (x<A)=false->A.toNat=O/\e<=c/\c<(↑O:Int)/\A.toNat=O/\c.toNat<O/\B.k1=ac/\e<=r/\r<(↑ac:Int)/\B.k1=ac/\r.toNat<ac/\(bL aC/\bL T)/\A.toNat=(ae.set c.toNat T).length/\(((L.bi L/\(a r).bi (a r)/\(a c).bi (a c)/\(f sF (ae.set c.toNat T)).bi an/\ad.bi ad/\(a (↑B.k0:Int)).bi a5/\(s).bi (a 0)/\True)/\a6.bi (h [a D.n,a D.m,g 1 D.k0 1,g 2 D.k1 3,f sF D.cost,j D.v.1,f z D.v.2.1,f z D.v.2.2,g 3 D.k3 1,g 4 D.k4 1] 261 10 false)/\a7.bi (d sF.qE D.VJ 106 false)/\a8.bi (d sF D.bound 177 false)/\a9.bi (d C D.basic 3 false)/\aa.bi (d C D.free 3 false)/\R.bi R/\iZ.dead.bi iZ.dead/\(h [j ao.1,f z ao.2.1,f z ao.2.2] 177 3 false).bi ap/\True)/\e<=e/\e<=G)/\∀(x:Int),let y:=FV A G (j8 M r.toNat c.toNat x.toNat);let aF:=a y.n;let aG:=a y.m;let aH:=g 1 y.k0 1;let aI:=g 2 y.k1 3;let Y:=y.cost;let aJ:=[g 3 y.k3 1,g 4 y.k4 1];let Z:=x+k;let F:=FV A G (j8 M r.toNat c.toNat Z.toNat);let J:=y.basic;let aK:=a Z;let a1:=y.VJ;let H:=a1.length;let a2:=y.bound;let I:=a2.length;let au:=bN a1 x.toNat sF.qE.bw;let av:=bN a2 x.toNat o;let aL:=(av.1,av.2.1,av.2.2);let aw:=nf (TL aL - bN (vL au) c.toNat (0:Rat)*TL W);let ax:=(y.v.1,y.v.2.1,y.v.2.2);let ay:=bN Y c.toNat o;let aM:=(ay.1,ay.2.1,ay.2.2);let az:=nf (TL aM*TL W);let aN:=(az.1,az.2.1,az.2.2);let P:=y.free.length;let aA:=nf (TL ax+TL aN);let aP:=(h (aF::aG::aH::aI::f sF Y::j y.v.1::f z y.v.2.1::f z y.v.2.2::aJ) 261 10 false).bi (h [a F.n,a F.m,g 1 F.k0 1,g 2 F.k1 3,f sF F.cost,j F.v.1,f z F.v.2.1,f z F.v.2.2,g 3 F.k3 1,g 4 F.k4 1] 261 10 false);let aQ:=(d C J 3 false).bi (d C F.basic 3 false)/\(d C y.free 3 false).bi (d C F.free 3 false)/\R.bi R/\iZ.dead.bi iZ.dead/\ap.bi ap/\True;let aO:=λ(u u_1:iZ) ↦VI .i64 Z/\((L.bi L/\(a r).bi (a r)/\(a c).bi (a c)/\an.bi an/\ad.bi ad/\a5.bi a5/\aK.bi aK/\True)/\aP/\u.bi (d sF.qE F.VJ 106 false)/\u_1.bi (d sF F.bound 177 false)/\aQ)/\(e<=Z/\Z<=G)/\(G - Z).toNat<(G - x).toNat;e<=x/\x<=G->(decide (x<G)=true->(decide (x≠r)=true->y.k0=H/\e<=x/\x<(↑H:Int)/\y.k0=H/\x.toNat<H/\y.k1=I/\e<=x/\x<(↑I:Int)/\y.k1=I/\x.toNat<I/\(∃(l:List Rat),∃(b:Rat),∃(p:List Rat),∃(pb:Rat),(au=fL l/\aL=nf b/\U=fL p/\W=nf pb)/\(l.length=p.length/\l.length<=1000)/\(e<=c/\c<(↑l.length:Int))/\(∀(q:Rat),q∈l->Sz 10000000 q)/\(∀(q:Rat),q∈p->Sz 10000000 q)/\Sz 10000000 b/\Sz 10000000 pb)/\y.k0=H/\e<=x/\x<(↑H:Int)/\y.k0=H/\x.toNat<H/\y.k1=I/\e<=x/\x<(↑I:Int)/\y.k1=I/\x.toNat<I/\aO (d sF.qE (a1.set x.toNat (fL (ju (vL au) c.toNat (vL U)))) 106 false) (d sF (a2.set x.toNat (aw.1,aw.2.1,aw.2.2)) 177 false))/\(decide (x≠r)=false->aO (d sF.qE a1 106 false) (d sF a2 177 false)))/\(decide (x<G)=false->e<=c/\c<(↑Y.length:Int)/\c.toNat<Y.length/\(∃(l:List Rat),∃(b:Rat),∃(p:List Rat),∃(pb:Rat),(Y=fL l/\ax=nf b/\U=fL p/\W=nf pb)/\(l.length=p.length/\l.length<=1000)/\(e<=c/\c<(↑l.length:Int))/\(∀(q:Rat),q∈l->Sz 10000000 q)/\(∀(q:Rat),q∈p->Sz 10000000 q)/\Sz 10000000 b/\Sz 10000000 pb)/\(bL aM/\bL W)/\(bL ax/\bL aN)/\y.k0=H/\e<=r/\r<(↑H:Int)/\y.k0=H/\r.toNat<H/\y.k1=I/\e<=r/\r<(↑I:Int)/\y.k1=I/\r.toNat<I/\y.k4=P/\e<=c/\c<(↑P:Int)/\y.k4=P/\c.toNat<P/\y.k3=J.length/\e<=r/\r<(↑J.length:Int)/\y.k3=J.length/\r.toNat<J.length/\y.k3=J.length/\e<=r/\r<(↑J.length:Int)/\y.k3=J.length/\r.toNat<J.length/\y.k4=P/\e<=c/\c<(↑P:Int)/\y.k4=P/\c.toNat<P/\(SV.Gz []).bi (SV.Gz [])/\(h (aF::aG::aH::aI::f sF (fL (ju (vL Y) c.toNat (vL U)))::j aA.1::f z aA.2.1::f z aA.2.2::aJ) 261 10 false).bi (h [a E.n,a E.m,g 1 E.k0 1,g 2 E.k1 3,f sF E.cost,j E.v.1,f z E.v.2.1,f z E.v.2.2,g 3 E.k3 1,g 4 E.k4 1] 261 10 false)/\(d sF.qE (a1.set r.toNat U) 106 false).bi (d sF.qE E.VJ 106 false)/\(d sF (a2.set r.toNat W) 177 false).bi (d sF E.bound 177 false)/\(d C (J.set r.toNat (bN y.free c.toNat e)) 3 false).bi (d C E.basic 3 false)/\(d C (y.free.set c.toNat (bN J r.toNat e)) 3 false).bi (d C E.free 3 false)/\True))) (by kernel_rfl) ?_;conv=>zeta
 try simp only[qK]
 try simp only[FV]
 try simp only[vcs]
 obtain⟨⟨⟨n0,n1⟩,m0,m1⟩,hw,hz⟩:=id hok;have hkl:=hw.VJ;have hbl:=hw.bound;have hbb:=hw.basic;have hfl:=hw.free;have hcl:=hw.cost;have hfm:=@E6 t.VJ;have hfb:=@eA t.bound;have hrl:=hw.row r.toNat (by omega);have hcast:∀k:Nat,((k:Nat):Int).toNat=k:=λk=>γm k;have h1:(κ 1:Rat)=1:=rfl;have hR:bN (fM t.VJ) r.toNat sF.qE.bw=fL (bN t.VJ r.toNat []):=E5 (by omega);have hA:bN (fL (bN t.VJ r.toNat [])) c.toNat sF.bw=nf (t.cf r.toNat c.toNat):=iD (by omega);have hB:bN (fL t.bound) r.toNat sF.bw=nf (t.bd r.toNat):=iD (by omega);simp only[hR,hA,hB,iX,dH,hcast,h1];have hsA:=hok.cf (i:=r.toNat) (j:=c.toNat) (by omega) (by omega);have hsB:=hok.bd (i:=r.toNat) (by omega);have s1:Sz 1 (1:Rat):=by unfold Sz;decide
 have hsI:=EA s1 hsA ha;have hsP:=sd hsB hsI;have hfr:=@eA (bN t.VJ r.toNat []);have hsl:(nw (bN t.VJ r.toNat []) (1 / t.cf r.toNat c.toNat)).length=n.toNat:=by unfold nw;rw[Θ];exact hrl
 have hfs:=@eA (nw (bN t.VJ r.toNat []) (1 / t.cf r.toNat c.toNat));have hrow:∀{x y:List NG},x=y->(iZ.row sF x 177 true).bi (iZ.row sF y 177 true):=by rintro _ _ rfl;rfl
 refine⟨by omega,by omega,r0,by omega,by omega,by omega,c0,by omega,by omega,⟨⟨c_ s1 (by omega),c_ hsA (by omega)⟩,ha⟩,by omega,by omega,by omega,by omega,by omega,r0,by omega,by omega,by omega,⟨⟨⟨by rw[hfl];rfl,trivial,by omega⟩,rfl,hrow (by rw[uL,hfs,hsl,hfl])⟩,by omega,by omega⟩,?_⟩;rintro j ⟨j0,j1⟩;have hru:=@uM (fL (nw (bN t.VJ r.toNat []) (1 / t.cf r.toNat c.toNat))) j.toNat (false,([],[])) (by omega);refine⟨λhj=>?_,λhj=>?_⟩
 ·have hL:bN (fL (bN t.VJ r.toNat [])) j.toNat sF.bw=nf (t.cf r.toNat j.toNat):=iD (by omega);have hS:bN (fL (nw (bN t.VJ r.toNat []) (1 / t.cf r.toNat c.toNat))) j.toNat (false,([],[]))=nf (t.cf r.toNat j.toNat*(1 / t.cf r.toNat c.toNat)):=by
   rw[iD (by omega),b_ (by omega)];unfold nw Tb.cf;rw[δD,b_ (l:=bN t.VJ r.toNat []) (i:=j.toNat) (by omega)]
  simp only[hL,dH];refine⟨j0,by omega,by omega,⟨c_ (hok.cf (by omega) (by omega)) (by omega),c_ hsI (by omega)⟩,by omega,j0,by omega,by omega,by omega,by omega,hrow ?_,by omega,by omega⟩;rw[uJ (by omega) hS.symm,show(j+1).toNat=j.toNat+1 by omega]
 ·have hset:(dT (fL (nw (bN t.VJ r.toNat []) (1 / t.cf r.toNat c.toNat))) j.toNat (false,([],[]))).set c.toNat (nf (1 / t.cf r.toNat c.toNat))=fL (jS (bN t.VJ r.toNat []) c.toNat):=by
   rw[show j.toNat=(fL (nw (bN t.VJ r.toNat []) (1 / t.cf r.toNat c.toNat))).length by omega,uK];exact Tw (by omega)
  have hpl:(jS (bN t.VJ r.toNat []) c.toNat).length=n.toNat:=by rw[K7];exact hrl
  have hfp:=@eA (jS (bN t.VJ r.toNat []) c.toNat);simp only[hset,Tv];have aLc:∀q∈jS (bN t.VJ r.toNat []) c.toNat,Sz 10000000 q:=λq hq=>by
   obtain⟨k,hk,rfl⟩:=Ω.1 hq;rw[List.mem_range] at hk;split;·exact hsI.mono (by omega)
   ·exact(sd (hok.cf (i:=r.toNat) (j:=k) (by omega) (by omega)) hsI).mono (by omega)
  refine⟨by omega,c0,by omega,by omega,by omega,by omega,r0,by omega,by omega,by omega,⟨c_ hsB (by omega),c_ hsI (by omega)⟩,by omega,⟨⟨⟨trivial,by omega⟩,rfl,rfl,rfl,rfl,rfl,rfl⟩,by omega,by omega⟩,?_⟩;rintro i ⟨i0,i1⟩;have ekl:(j8 t r.toNat c.toNat i.toNat).VJ.length=m.toNat:=by show(gM _ _ _ _ _).length=_;rw[ta];exact hkl
  have ebl:(j8 t r.toNat c.toNat i.toNat).bound.length=m.toNat:=by show(gM _ _ _ _ _).length=_;rw[ta];exact hbl
  have efm:=@E6 (j8 t r.toNat c.toNat i.toNat).VJ;have efb:=@eA (j8 t r.toNat c.toNat i.toNat).bound;have hfc:=@eA t.cost;have aUf:∀{a b:Tb},a.VJ.length=b.VJ.length->a.bound.length=b.bound.length->a.cost=b.cost->a.value=b.value->a.basic.length=b.basic.length->a.free.length=b.free.length->
    (iZ.cells [.si .i64 n,.si .i64 m,.ow 1 a.VJ.length 1,.ow 2 a.bound.length 3,.row sF (fL a.cost),.sb (nf a.value).1,.row (.i .u32) (nf a.value).2.1,.row (.i .u32) (nf a.value).2.2,.ow 3 a.basic.length 1,.ow 4 a.free.length 1] 261 10 false).bi
    (iZ.cells [.si .i64 n,.si .i64 m,.ow 1 b.VJ.length 1,.ow 2 b.bound.length 3,.row sF (fL b.cost),.sb (nf b.value).1,.row (.i .u32) (nf b.value).2.1,.row (.i .u32) (nf b.value).2.2,.ow 3 b.basic.length 1,.ow 4 b.free.length 1] 261 10 false):=λh1 h2 h3 h4 h5 h6=>by
   rw[h1,h2,h3,h4,h5,h6];rfl
  have aLd:∀{x y:List (List NG)},x=y->(iZ.row sF.qE x 106 false).bi (iZ.row sF.qE y 106 false):=by rintro _ _ rfl;rfl
  have aLe:∀{x y:List NG},x=y->(iZ.row sF x 177 false).bi (iZ.row sF y 177 false):=by rintro _ _ rfl;rfl
  have aLf:∀{x y:List Int},x=y->(iZ.row (.i .i64) x 3 false).bi (iZ.row (.i .i64) y 3 false):=by rintro _ _ rfl;rfl
  refine⟨λhi=>⟨λhir=>?_,λhir=>?_⟩,λhi=>?_⟩
  ·have hRi:bN (fM (j8 t r.toNat c.toNat i.toNat).VJ) i.toNat sF.qE.bw=fL (bN t.VJ i.toNat []):=by
    rw[E5 (by omega)];congr 1;exact LI (by omega)
   have hBi:bN (fL (j8 t r.toNat c.toNat i.toNat).bound) i.toNat sF.bw=nf (t.bd i.toNat):=by
    rw[iD (by omega)];congr 1;exact LI (by omega)
   have hli:=hw.row i.toNat (by omega);simp only[hRi,hBi,jR,dH];refine⟨by omega,i0,by omega,by omega,by omega,by omega,i0,by omega,by omega,by omega,⟨bN t.VJ i.toNat [],t.bd i.toNat,jS (bN t.VJ r.toNat []) c.toNat,t.bd r.toNat*(1 / t.cf r.toNat c.toNat),⟨rfl,rfl,rfl,rfl⟩,⟨by omega,by omega⟩,⟨c0,by omega⟩,λq hq=>?_,aLc,(hok.bd (by omega)).mono (by omega),hsP.mono (by omega)⟩,by omega,i0,by omega,by omega,by omega,by omega,i0,by omega,by omega,by omega,by omega,⟨aUf ?_ ?_ rfl rfl rfl rfl,aLd ?_,aLe ?_,rfl,rfl⟩,by omega,by omega⟩;·exact(hz.1 _ (cE (d:=[]) (by omega)) q hq).mono (by omega)
   ·show(gM _ _ _ _ _).length=(gM _ _ _ _ _).length;rw[ta,ta]
   ·show(gM _ _ _ _ _).length=(gM _ _ _ _ _).length;rw[ta,ta]
   ·rw[Kj,show(i+1).toNat=i.toNat+1 by omega];congr 1;exact LH (by omega) (by omega)
   ·rw[uI,show(i+1).toNat=i.toNat+1 by omega];congr 1;exact LH (f:=t.bd) (g:=λk=>t.bd k - t.cf k c.toNat*(t.bd r.toNat*(1 / t.cf r.toNat c.toNat))) (by omega) (by omega)
  ·have e:j8 t r.toNat c.toNat (i+1).toNat=j8 t r.toNat c.toNat i.toNat:=by
    rw[show(i+1).toNat=r.toNat+1 by omega,show i.toNat=r.toNat by omega];unfold j8;rw[LG,LG]
   rw[e];refine⟨?_,⟨rfl,rfl,rfl,rfl,rfl⟩,?_,?_⟩<;>omega
  ·have hsC:=hok.cs (j:=c.toNat) (by omega);have hC:bN (fL t.cost) c.toNat sF.bw=nf (t.cs c.toNat):=iD (by omega);have hcc:(j8 t r.toNat c.toNat i.toNat).cost=t.cost:=rfl;have hvv:(j8 t r.toNat c.toNat i.toNat).value=t.value:=rfl;have hff:(j8 t r.toNat c.toNat i.toNat).free=t.free:=rfl;have hbs:(j8 t r.toNat c.toNat i.toNat).basic=t.basic:=rfl;simp only[hC,hcc,hvv,hff,hbs,jR,dH];refine⟨c0,by omega,by omega,⟨t.cost,t.value,jS (bN t.VJ r.toNat []) c.toNat,t.bd r.toNat*(1 / t.cf r.toNat c.toNat),⟨rfl,rfl,rfl,rfl⟩,⟨by omega,by omega⟩,⟨c0,by omega⟩,λq hq=>(hz.2.2.1 q hq).mono (by omega),aLc,hz.2.2.2.mono (by omega),hsP.mono (by omega)⟩,⟨c_ hsC (by omega),c_ hsP (by omega)⟩,⟨c_ hz.2.2.2 (by omega),c_ (sd hsC hsP) (by omega)⟩,
    by omega,r0,by omega,by omega,by omega,by omega,r0,by omega,by omega,by omega,c0,by omega,by omega,r0,by omega,by omega,r0,by omega,by omega,c0,by omega,by omega,?_,aLd ?_,aLe ?_,aLf rfl,aLf rfl⟩
   ·have hpw:=K6 (r:=r.toNat) (c:=c.toNat) hw;rw[ekl,ebl,hbb,hfl,hpw.VJ,hpw.bound,hpw.basic,hpw.free];rfl
   ·rw[Kj,show i.toNat=t.VJ.length by omega];congr 1;exact Kk (by omega)
   ·rw[uI,show i.toNat=t.bound.length by omega];congr 1;exact Kk (by omega)
def qc (n m:Nat) (t:Tb):Prop:=∃a M G,Small n m M G a/\dm n m a t/\jt m t
theorem Tt {n m:Nat} {t:Tb} (h:qc n m t):ek n m (rj n m t) t=true:=by
 obtain⟨e,M,G,c,b,a⟩:=h;have d:=E7 b a;unfold rj;grind
noncomputable def Dx:cU:=rZ 160 Unit .nil (λn m t _=>qc n.toNat m.toNat t) (λn m t _=> .Gz [.si .i64 (if dG (cu n.toNat m.toNat t) n.toNat<0 then 0 else dG (cu n.toNat m.toNat t) n.toNat),.sb (decide (dG (cu n.toNat m.toNat t) n.toNat<0))]) (λn m t _=>cu n.toNat m.toNat t)
def tS (t:Tb) (s:VK):Tb:=match zS s.o with
 |some x=>x.t
 |none=>t
noncomputable def Ts (n m:Int) (t:Tb):Nat->bG
 |1=> .inv Tb (λx=>⟨[(0,.ptr 0 0 10)],(FV n m x).fO⟩) (tS t) (λx=>qc n.toNat m.toNat x/\cu n.toNat m.toNat x=cu n.toNat m.toNat t/\ek n.toNat m.toNat (rj n.toNat m.toNat t) x=true) (λx=>vV n.toNat m.toNat (rj n.toNat m.toNat t) x) λ_ _=> .look
 |_=> .look
theorem Tq {n m:Int} {t:Tb} (h:qc n.toNat m.toNat t) (e:0<=n/\n<=1000) (f:0<=m/\m<=1000):jK n m t:=by
 obtain⟨c,M,G,a,b,d⟩:=h;grind[Lk]
theorem Ii:dA Tryz.prog Dx:=by
 refine kq (L:=[]) (W:=[E3,E2,r408]) Dx (λa=>Ts a.1.n a.1.m a.1.t) (by simpa using⟨Ic,Ib,Ie⟩) (by simp) ?_;rintro⟨x,u⟩ ⟨n,m,t,hx,hok,hd⟩;simp only at hx hd;subst hx;refine NH (let a:=iZ.row;let b:=γf .i64;let c:=γW;let d:=Ψ;let e:=iZ.cells;let f:=(0:Int);let g:=γy;let h:=SV.Gz;let I:=γK 0 0 10;let D:=(FV n m t).n;let E:=(FV n m t).m;let r:=ew.i .u32;let F:=(FV n m t).t;let l:=FV D E F;let o:=ew.i .i64;let k:=D.toNat;let s:=E.toNat;let B:=cu k s F;let G:=rj k s F;let K:=h [b (if dG B k<f then f else dG B k),g (decide (dG B k<f))];let p:=FV D E B;let L:=e [b p.n,b p.m,c 1 p.k0 1,c 2 p.k1 3,d sF p.cost,g p.v.1,d r p.v.2.1,d r p.v.2.2,c 3 p.k3 1,c 4 p.k4 1] 261 10 false;let M:=a sF.qE p.VJ 106 false;let N:=a sF p.bound 177 false;let O:=a o p.basic 3 false;let P:=a o p.free 3 false;(((I.bi I/\True)/\(e [b D,b E,c 1 (FV n m t).k0 1,c 2 (FV n m t).k1 3,d sF (FV n m t).cost,g (FV n m t).v.1,d r (FV n m t).v.2.1,d r (FV n m t).v.2.2,c 3 (FV n m t).k3 1,c 4 (FV n m t).k4 1] 261 10 false).bi (e [b l.n,b l.m,c 1 l.k0 1,c 2 l.k1 3,d sF l.cost,g l.v.1,d r l.v.2.1,d r l.v.2.2,c 3 l.k3 1,c 4 l.k4 1] 261 10 false)/\(a sF.qE (FV n m t).VJ 106 false).bi (a sF.qE l.VJ 106 false)/\(a sF (FV n m t).bound 177 false).bi (a sF l.bound 177 false)/\(a o (FV n m t).basic 3 false).bi (a o l.basic 3 false)/\(a o (FV n m t).free 3 false).bi (a o l.free 3 false)/\True)/\qc k s F/\B=B/\ek k s G F=true)/\∀(x:Tb),let y:=FV D E x;let z:=dG y.t y.n.toNat;let Q:=decide (z<f);let j:=FV y.n y.m y.t;let H:=dj j.t z.toNat j.m.toNat;let R:=decide (H<f);let C:=FV j.n j.m j.t;let S:=eX C.t H.toNat z.toNat;let A:=FV C.n C.m S;let q:=FV D E A.t;let T:=λ(u u_1:Int) (u_2 u_3:Tb) (u_4:iZ) ↦let J:=FV u u_1 u_2;let U:=FV J.n J.m J.t;let w:=FV U.n U.m u_3;(e [b w.n,b w.m,c 1 w.k0 1,c 2 w.k1 3,d sF w.cost,g w.v.1,d r w.v.2.1,d r w.v.2.2,c 3 w.k3 1,c 4 w.k4 1] 261 10 false).bi u_4;qc k s x/\cu k s x=B/\ek k s G x=true->(∃(n:Int),∃(m:Int),∃(t:Tb),y=FV n m t/\jK n m t/\True)/\(Q=true->(h [γv .i64 0,δd true]).bi K/\(e [b j.n,b j.m,c 1 j.k0 1,c 2 j.k1 3,d sF j.cost,g j.v.1,d r j.v.2.1,d r j.v.2.2,c 3 j.k3 1,c 4 j.k4 1] 261 10 false).bi L/\(a sF.qE j.VJ 106 false).bi M/\(a sF j.bound 177 false).bi N/\(a o j.basic 3 false).bi O/\(a o j.free 3 false).bi P/\True)/\(Q=false->(∃(n:Int),∃(m:Int),∃(t:Tb),j=FV n m t/\jK n m t/\f<=z/\z<n)/\(R=true->(h [b z,δd false]).bi K/\T D E x j.t L/\(a sF.qE C.VJ 106 false).bi M/\(a sF C.bound 177 false).bi N/\(a o C.basic 3 false).bi O/\(a o C.free 3 false).bi P/\True)/\(R=false->(∃(n:Int),∃(m:Int),∃(t:Tb),C=FV n m t/\jK n m t/\(f<=H/\H<m)/\(f<=z/\z<n)/\t.cf H.toNat z.toNat≠(0:Rat))/\0=0/\((I.bi I/\True)/\T y.n y.m y.t S (e [b q.n,b q.m,c 1 q.k0 1,c 2 q.k1 3,d sF q.cost,g q.v.1,d r q.v.2.1,d r q.v.2.2,c 3 q.k3 1,c 4 q.k4 1] 261 10 false)/\(a sF.qE A.VJ 106 false).bi (a sF.qE q.VJ 106 false)/\(a sF A.bound 177 false).bi (a sF q.bound 177 false)/\(a o A.basic 3 false).bi (a o q.basic 3 false)/\(a o A.free 3 false).bi (a o q.free 3 false)/\True)/\(qc k s A.t/\cu k s A.t=B/\ek k s G A.t=true)/\vV k s G A.t<vV k s G x))) (by kernel_rfl) ?_;simp only[Uz,qK,Lo,Ln];try simp only[vcs]
 obtain⟨⟨hn,hm⟩,hw,hz⟩:=id hok;refine⟨⟨hd,Tt hd⟩,?_⟩;rintro x ⟨hx,hl,he⟩;have azO:=Tq hx hn hm;have hs:stepT n.toNat m.toNat x=if dG x n.toNat<0 then none else if dj x (dG x n.toNat).toNat m.toNat<0 then none else some (eX x (dj x (dG x n.toNat).toNat m.toNat).toNat (dG x n.toNat).toNat):=rfl;have hwx:=azO.2.1;have fin:∀{y:Tb},y=cu n.toNat m.toNat t->FV n m y=FV n m (cu n.toNat m.toNat t):=by rintro _ rfl;rfl
 refine⟨⟨n,m,x,rfl,azO⟩,λh0=>?_,λh0=>?_⟩
 ·rw[if_pos h0] at hs;have e:=Lf hs;rw[hl] at e;rw[<-e] at h0 ⊢;rw[if_pos h0,decide_eq_true h0];exact⟨⟨rfl,rfl⟩,rfl,rfl,rfl,rfl,rfl⟩
 ·have h0':¬dG x n.toNat<0:=h0;rw[if_neg h0'] at hs;rcases @r_ x n.toNat with⟨e1,e2⟩|⟨c,e1,e2,e3,e4⟩;·omega
  ·refine⟨⟨n,m,x,rfl,azO,by omega,by omega⟩,λh1=>?_,λh1=>?_⟩
   ·rw[if_pos h1] at hs;have e:=Lf hs;rw[hl] at e;rw[e,if_neg h0',decide_eq_false h0'];exact⟨⟨rfl,rfl⟩,rfl,rfl,rfl,rfl,rfl⟩
   ·have h1':¬dj x (dG x n.toNat).toNat m.toNat<0:=h1;rw[if_neg h1'] at hs;rcases @sD x (dG x n.toNat).toNat m.toNat with⟨l1,l2⟩|⟨r,l1,l2,l3,l4⟩;·omega
    ·refine⟨⟨n,m,x,rfl,azO,⟨by omega,by omega⟩,⟨by omega,by omega⟩,?_⟩,?_⟩;·rw[l1,γm];grind
     ·obtain⟨t0,M,G,g1,g2,g3⟩:=hx;have hsr:=Ez g2 g3 hs;have aUm:=E7 g2 g3;refine⟨⟨⟨t0,M,G,g1,hsr.1,hsr.2⟩,?_,Lq he hs⟩,nG he hs⟩;rw[UT aUm hs,hl]
def fm (t:Tb) (n:Nat):Nat->List Rat
 |0=>δ n 0
 |k+1=>if t.bv k<n then(fm t n k).set (t.bv k).toNat (t.bd k) else fm t n k
def ix (t:Tb) (n m:Nat):Nat->List Rat
 |0=>δ m 0
 |k+1=>if(n:Int)<=t.fv k/\t.fv k<n+m then(ix t n m k).set (t.fv k - n).toNat (-(t.cs k)) else ix t n m k
theorem zL {t:Tb} {n:Nat}:∀{k:Nat},(fm t n k).length=n
 |0=>by simp[fm];|k+1=>by
  have:=@zL t n k;grind[fm]
theorem zK {t:Tb} {n m:Nat}:∀{k:Nat},(ix t n m k).length=m
 |0=>by simp[ix];|k+1=>by
  have:=@zK t n m k;grind[ix]
def zJ:cU:=rZ 161 Unit .nil (λ_ _ t _=>∀v∈t.basic,0<=v) (λn m t _=> .row sF (fL (fm t n.toNat m.toNat))) (λ_ _ t _=>t)
def Tp (n m:Int) (t:Tb):Nat->bG
 |3=> .inv Int (λi=>⟨[(0,.ptr 0 0 10),(3,.ow 5 n.toNat 3),(14,.ow 3 t.basic.length 1),(15,.si .i64 t.basic.length),(16,.si .i64 i)],(FV n m t).fO++[.row sF (fL (fm t n.toNat i.toNat)) 177 false]⟩)
   (λs=>iS s 16) (λi=>0<=i/\i<=m) (λi=>(m - i).toNat) λ_ _=> .look
 |_=> .look
theorem Ih:dA Tryz.prog zJ:=by
 refine kq (L:=[]) (W:=[r413]) zJ (λa=>Tp a.1.n a.1.m a.1.t) (by simpa using yK) (by simp) ?_;rintro⟨x,u⟩ ⟨n,m,t,hx,hok,hd⟩;simp only at hx hd;subst hx;refine NH (let a:=iZ.row;let b:=γf .i64;let c:=(0:Int);let d:=Ψ;let e:=γW;let p:=(FV n m t).n;let B:=γK 0 0 10;let g:=p.toNat;let C:=e 5 g 3;let J:=e 3 (FV n m t).k3 1;let k:=(FV n m t).t;let q:=k.basic.length;let G:=e 3 q 1;let H:=b (↑q:Int);let h:=(FV n m t).m;let D:=ew.i .u32;let f:=FV p h k;let r:=iZ.cells [b f.n,b f.m,e 1 f.k0 1,e 2 f.k1 3,d sF f.cost,γy f.v.1,d D f.v.2.1,d D f.v.2.2,e 3 f.k3 1,e 4 f.k4 1] 261 10 false;let s:=a sF.qE f.VJ 106 false;let w:=a sF f.bound 177 false;let E:=ew.i .i64;let l:=f.basic;let y:=a E l 3 false;let z:=a E f.free 3 false;let F:=f.bound.length;(c<=p/\p<=(1000:Int))/\(((B.bi B/\C.bi C/\J.bi G/\(b (↑(FV n m t).k3:Int)).bi H/\(γv .i64 0).bi (b 0)/\True)/\(iZ.cells [b p,b h,e 1 (FV n m t).k0 1,e 2 (FV n m t).k1 3,d sF (FV n m t).cost,γy (FV n m t).v.1,d D (FV n m t).v.2.1,d D (FV n m t).v.2.2,J,e 4 (FV n m t).k4 1] 261 10 false).bi r/\(a sF.qE (FV n m t).VJ 106 false).bi s/\(a sF (FV n m t).bound 177 false).bi w/\(a E (FV n m t).basic 3 false).bi y/\(a E (FV n m t).free 3 false).bi z/\(a sF (fL (δ g (0:Rat))) 177 false).bi (a sF (fL (fm k g 0)) 177 false)/\True)/\c<=c/\c<=h)/\∀(x:Int),let o:=x+(1:Int);let K:=b o;let L:=decide (x<(↑q:Int));let A:=bN l x.toNat c;let M:=decide (A<f.n);let j:=fL (fm k g x.toNat);let I:=bN f.bound x.toNat sF.bw;let N:=λ(u:iZ) ↦VI .i64 o/\((B.bi B/\C.bi C/\G.bi G/\H.bi H/\K.bi K/\True)/\r.bi r/\s.bi s/\w.bi w/\y.bi y/\z.bi z/\u.bi (a sF (fL (fm k g o.toNat)) 177 false)/\True)/\(c<=o/\o<=h)/\(h - o).toNat<(h - x).toNat;c<=x/\x<=h->(L=true->q=l.length/\c<=x/\x<(↑l.length:Int)/\q=l.length/\x.toNat<l.length/\(M=true->f.k1=F/\c<=x/\x<(↑F:Int)/\f.k1=F/\x.toNat<F/\g=j.length/\c<=A/\A<(↑j.length:Int)/\g=j.length/\A.toNat<j.length/\N (a sF (j.set A.toNat (I.1,I.2.1,I.2.2)) 177 false))/\(M=false->N (a sF j 177 false)))/\(L=false->g=j.length/\(d sF j).bi (d sF (fL (fm k g h.toNat)))/\r.bi r/\s.bi s/\w.bi w/\y.bi y/\z.bi z/\True)) (by kernel_rfl) ?_;simp only[qK];try simp only[FV]
 simp only[vcs];obtain⟨⟨⟨n0,n1⟩,m0,m1⟩,hw,hz⟩:=id hok;have hbb:=hw.basic;have hbl:=hw.bound;have hfb:=@eA t.bound;have hbv:∀k:Nat,bN t.basic k 0=t.bv k:=λk=>rfl;have hrow:∀{x y:List NG},x=y->(iZ.row sF x 177 false).bi (iZ.row sF y 177 false):=by rintro _ _ rfl;rfl
 refine⟨⟨n0,n1⟩,⟨hrow rfl,by omega,by omega⟩,?_⟩;rintro i ⟨i0,i1⟩;have hpl:=@zL t n.toNat i.toNat;have hfp:=@eA (fm t n.toNat i.toNat);refine⟨λhi=>?_,λhi=>⟨by omega,by rw[show i.toNat=m.toNat by omega]⟩⟩;have hv:=hd _ (wX hw (show i.toNat<m.toNat by omega));have hB:bN (fL t.bound) i.toNat sF.bw=nf (t.bd i.toNat):=iD (by omega);have hs:fm t n.toNat (i+1).toNat=if t.bv i.toNat<n.toNat then(fm t n.toNat i.toNat).set (t.bv i.toNat).toNat (t.bd i.toNat) else fm t n.toNat i.toNat:=by
  rw[show(i+1).toNat=i.toNat+1 by omega];rfl
 simp only[hbv,hB,iX,hs];refine⟨i0,hi,by omega,λhlt=>⟨by omega,i0,by omega,by omega,by omega,by omega,hv,by omega,by omega,by omega,by omega,hrow ?_,by omega,by omega⟩,λhlt=>⟨by omega,hrow ?_,by omega,by omega⟩⟩;·rw[uI,if_pos (by omega)]
 ·rw[if_neg (by omega)]
def zI:cU:=rZ 163 Unit .nil (λ_ _ t _=>True) (λn m t _=> .row sF (fL (ix t n.toNat m.toNat n.toNat))) (λ_ _ t _=>t)
def To (n m:Int) (t:Tb):Nat->bG
 |3=> .inv Int (λi=>⟨[(0,.ptr 0 0 10),(3,.ow 5 m.toNat 3),(14,.ow 4 t.free.length 1),(15,.si .i64 t.free.length),(16,.si .i64 i)],(FV n m t).fO++[.row sF (fL (ix t n.toNat m.toNat i.toNat)) 177 false]⟩)
   (λs=>iS s 16) (λi=>0<=i/\i<=n) (λi=>(n - i).toNat) λ_ _=> .look
 |_=> .look
theorem Ig:dA Tryz.prog zI:=by
 refine kq (L:=[vW]) (W:=[r413]) zI (λa=>To a.1.n a.1.m a.1.t) (by simpa using yK) (by simpa using qW) ?_;rintro⟨x,u⟩ ⟨n,m,t,hx,hok,hd⟩;simp only at hx hd;subst hx;refine NH (let a:=iZ.row;let b:=γf .i64;let c:=(0:Int);let d:=Ψ;let e:=γW;let f:=VI .i64;let A:=(FV n m t).m;let u:=γK 0 0 10;let k:=A.toNat;let w:=e 5 k 3;let M:=e 4 (FV n m t).k4 1;let y:=(FV n m t).t;let B:=y.free.length;let C:=e 4 B 1;let D:=b (↑B:Int);let h:=(FV n m t).n;let G:=ew.i .u32;let g:=FV h A y;let o:=iZ.cells [b g.n,b g.m,e 1 g.k0 1,e 2 g.k1 3,d sF g.cost,γy g.v.1,d G g.v.2.1,d G g.v.2.2,e 3 g.k3 1,e 4 g.k4 1] 261 10 false;let p:=a sF.qE g.VJ 106 false;let q:=a sF g.bound 177 false;let H:=ew.i .i64;let r:=a H g.basic 3 false;let z:=g.free;let s:=a H z 3 false;let E:=h.toNat;(c<=A/\A<=(1000:Int))/\(((u.bi u/\w.bi w/\M.bi C/\(b (↑(FV n m t).k4:Int)).bi D/\(γv .i64 0).bi (b 0)/\True)/\(iZ.cells [b h,b A,e 1 (FV n m t).k0 1,e 2 (FV n m t).k1 3,d sF (FV n m t).cost,γy (FV n m t).v.1,d G (FV n m t).v.2.1,d G (FV n m t).v.2.2,e 3 (FV n m t).k3 1,M] 261 10 false).bi o/\(a sF.qE (FV n m t).VJ 106 false).bi p/\(a sF (FV n m t).bound 177 false).bi q/\(a H (FV n m t).basic 3 false).bi r/\(a H (FV n m t).free 3 false).bi s/\(a sF (fL (δ k (0:Rat))) 177 false).bi (a sF (fL (ix y E k 0)) 177 false)/\True)/\c<=c/\c<=h)/\∀(x:Int),let j:=x+(1:Int);let I:=b j;let l:=fL (ix y E k x.toNat);let N:=a sF (fL (ix y E k j.toNat)) 177 false;let O:=decide (x<(↑B:Int));let J:=bN z x.toNat c;let P:=decide (g.n<=J);let Q:=decide (J<g.n+g.m);let F:=J - g.n;let K:=bN g.cost x.toNat sF.bw;let L:=(K.1,K.2.1,K.2.2);let R:=(nf (-TL L)).2;let S:=f j/\((u.bi u/\w.bi w/\C.bi C/\D.bi D/\I.bi I/\True)/\o.bi o/\p.bi p/\q.bi q/\r.bi r/\s.bi s/\(a sF l 177 false).bi N/\True)/\(c<=j/\j<=h)/\(h - j).toNat<(h - x).toNat;c<=x/\x<=h->(O=true->B=z.length/\c<=x/\x<(↑z.length:Int)/\B=z.length/\x.toNat<z.length/\(P=true->f (g.n+g.m)/\(Q=true->f F/\c<=x/\x<(↑g.cost.length:Int)/\x.toNat<g.cost.length/\bL L/\k=l.length/\c<=F/\F<(↑l.length:Int)/\k=l.length/\F.toNat<l.length/\f j/\((u.bi u/\w.bi w/\C.bi C/\D.bi D/\I.bi I/\True)/\o.bi o/\p.bi p/\q.bi q/\r.bi r/\s.bi s/\(a sF (l.set F.toNat ((nf (-TL L)).1,R.1,R.2)) 177 false).bi N/\True)/\(c<=j/\j<=h)/\(h - j).toNat<(h - x).toNat)/\(Q=false->S))/\(P=false->S))/\(O=false->k=l.length/\(d sF l).bi (d sF (fL (ix y E k E)))/\o.bi o/\p.bi p/\q.bi q/\r.bi r/\s.bi s/\True)) (by kernel_rfl) ?_;simp only[qK];try simp only[FV]
 simp only[vcs];obtain⟨⟨⟨n0,n1⟩,m0,m1⟩,hw,hz⟩:=id hok;have hfl:=hw.free;have hcl:=hw.cost;have hfc:=@eA t.cost;have hfv:∀k:Nat,bN t.free k 0=t.fv k:=λk=>rfl;have hrow:∀{x y:List NG},x=y->(iZ.row sF x 177 false).bi (iZ.row sF y 177 false):=by rintro _ _ rfl;rfl
 refine⟨⟨m0,m1⟩,⟨hrow rfl,by omega,by omega⟩,?_⟩;rintro i ⟨i0,i1⟩;have hpl:=@zK t n.toNat m.toNat i.toNat;have hfp:=@eA (ix t n.toNat m.toNat i.toNat);refine⟨λhi=>?_,λhi=>⟨by omega,by rw[show i.toNat=n.toNat by omega]⟩⟩;have hC:bN (fL t.cost) i.toNat sF.bw=nf (t.cs i.toNat):=iD (by omega);have hs:ix t n.toNat m.toNat (i+1).toNat=if(n.toNat:Int)<=t.fv i.toNat/\t.fv i.toNat<n.toNat+m.toNat then(ix t n.toNat m.toNat i.toNat).set (t.fv i.toNat - n.toNat).toNat (-(t.cs i.toNat)) else ix t n.toNat m.toNat i.toNat:=by
  rw[show(i+1).toNat=i.toNat+1 by omega];rfl
 simp only[hfv,hC,iX,hs,dH];refine⟨i0,hi,by omega,λh1=>⟨by omega,λh2=>⟨by omega,i0,by omega,by omega,c_ (hok.cs (by omega)) (by omega),by omega,by omega,by omega,by omega,by omega,by omega,hrow ?_,by omega,by omega⟩,λh2=>⟨by omega,hrow ?_,by omega,by omega⟩⟩,λh1=>⟨by omega,hrow ?_,by omega,by omega⟩⟩;·rw[uI,if_pos (by omega),show(n.toNat:Int)=n by omega]
 ·rw[if_neg (by omega)]
 ·rw[if_neg (by omega)]
@[reducible] def sR:ew:=.pair (.qE sF) sF
abbrev qO:=List NG×List (List NG×NG)
def uH:o7 qO where
 put a:=.agg [.row sF a.1,.row sR a.2];dec
  | .agg [r,v]=>match iJ sF r,iJ sR v with
   |some c,some v=>some (c,v)
   |_,_=>none
  |_=>none;ok v a h:=by
  grind[SV.g,gL,ng]
 inj a b h:=by
  obtain⟨c,v⟩:=a;obtain⟨f,i⟩:=b;simp only[SV.g,gL,AV.agg.injEq,List.cons.injEq,and_true,AV.sl.injEq] at h;have e:=ku sF h.1.1 h.1.2;have d:=ku sR h.2.1 h.2.2;rw[e,d]
def gK (x:NG):Prop:=(ou x.2.1/\ou x.2.2)/\x.2.1.length<=10000000/\x.2.2.length<=10000000
def Dw:M9:=⟨175,List NG,.one (cL sF),λl=>(show List NG from l).length<=1000/\∀x∈(show List NG from l),gK x,λl=> .sb ((show List NG from l).all okF)⟩
def Tn (l:List NG):Nat->bG
 |2=> .inv Int (λi=>⟨[(5,.row sF l),(6,.si .i64 l.length),(7,.si .i64 i)],[]⟩)
   (λs=>iS s 7) (λi=>(0<=i/\i<=l.length)/\(l.take i.toNat).all okF=true) (λi=>(l.length - i).toNat) λ_ _=> .look
 |_=> .look
theorem If:Holds Tryz.prog Dw:=by
 refine bI (L:=[sf]) Dw Tn (by grind[nE]) ?_;rintro(l:List NG) ⟨(q:l.length<=1000),(n:∀x∈l,gK x)⟩;refine NH (let d:=(0:Int);let e:=γf .i64;let g:=Ψ;let a:=(↑l.length:Int);let f:=e a;((((g sF l).bi (g sF l)/\(e (↑l.length:Int)).bi f/\(γv .i64 0).bi (e 0)/\True)/\True)/\(d<=d/\d<=a)/\true=true)/\∀(x:Int),let b:=bN l x.toNat sF.bw;let c:=x+(1:Int);let k:=e c;let m:=λ(u:Bool) ↦(!okF (b.1,b.2.1,b.2.2))=u;(d<=x/\x<=a)/\(Γ x.toNat l).all okF=true->(decide (x<a)=true->d<=x/\x<(↑l.length:Int)/\x.toNat<l.length/\((ou b.2.1/\ou b.2.2)/\γb b.2.1<=10000000/\γb b.2.2<=10000000)/\(m true->(δd false).bi (γy (l.all okF)))/\(m false->VI .i64 c/\(((g sF l).bi (g sF l)/\f.bi f/\k.bi k/\True)/\True)/\((d<=c/\c<=a)/\(Γ c.toNat l).all okF=true)/\(a - c).toNat<(a - x).toNat))/\(decide (x<a)=false->(δd true).bi (γy (l.all okF)))) (by kernel_rfl) ?_;simp only[vcs];refine⟨⟨by omega,by omega⟩,?_⟩;rintro i ⟨⟨j,t⟩,e⟩;refine⟨λh=>?_,λh=>?_⟩
 ·have p:=cE (d:=sF.bw) (show i.toNat<l.length by omega);have r:=jj (d:=sF.bw) j h;have g:=n _ p;have o:okF ((bN l i.toNat sF.bw).1,(bN l i.toNat sF.bw).2.1,(bN l i.toNat sF.bw).2.2)=okF (bN l i.toNat sF.bw):=rfl;rw[o];refine⟨j,h,by omega,⟨g.1,g.2.1,g.2.2⟩,λs=>?_,λv=>⟨by omega,⟨⟨by omega,by omega⟩,?_⟩,by omega⟩⟩;all_goals grind
 ·rw[show i.toNat=l.length by omega,ψ] at e;simp_all
def Dv:M9:=⟨156,qO,.one uH,λa=>(a.1.length<=160/\a.2.length<=40)/\(∀x∈a.1,gK x/\okF x=true)/\∀r∈a.2,r.1.length=a.1.length/\(∀x∈r.1,gK x/\okF x=true)/\gK r.2/\okF r.2=true,λ_=> .si .i64 0⟩
def Tm (a:qO):Nat->bG
 |6=> .inv Int (λi=>⟨[(1,.ptr 0 0 2),(20,.row sR a.2),(21,.si .i64 a.2.length),(22,.si .i64 i)],[.cells [.row sF a.1,.row sR a.2] 217 2 false]⟩)
   (λs=>iS s 22) (λi=>0<=i/\i<=a.2.length) (λi=>(a.2.length - i).toNat) λ_ _=> .look
 |_=> .look
theorem Im:Holds Tryz.prog Dv:=by
 refine bI (L:=[Dw,sf]) Dv Tm (by simpa using⟨If,nE⟩) ?_;rintro⟨g,rs⟩ ⟨⟨hl1,hl2⟩,hg,hr⟩;simp only at hl1 hl2 hg hr;refine NH (let a:=γv .i64;let b:=(0:Int);let c:=γf .i64;let d:=γv .i64 0;let q:=decide ((160:Int)<(↑g.length:Int));let e:=c 0;let m:=(↑rs.length:Int);let r:=decide ((40:Int)<m);let k:=γK 0 0 2;let i:=Ψ sR rs;let f:=(↑rs.length:Int);let n:=c f;let l:=iZ.cells [Ψ sF g,i] 217 2 false;(q=true->(a 3).bi e)/\(q=false->(r=true->(a 3).bi e)/\(r=false->(g.length<=1000/\∀(x:NG),x∈g->gK x)/\((!g.all okF)=true->(a 2).bi e)/\((!g.all okF)=false->(((k.bi k/\i.bi i/\(c m).bi n/\(a 0).bi e/\True)/\l.bi l/\True)/\b<=b/\b<=f)/\∀(x:Int),let h:=bN rs x.toNat sR.bw;let o:=h.2.2.1;let p:=h.2.2.2;let s:=!List.all h.1 okF;let j:=x+(1:Int);let t:=c j;let v:=λ(u:Bool) ↦(!okF (h.2.1,o,p))=u;let w:=λ(u:Bool) ↦decide ((↑(γb h.1):Int)≠(↑g.length:Int))=u;b<=x/\x<=f->(decide (x<f)=true->b<=x/\x<m/\x.toNat<rs.length/\(w true->(a 2).bi e)/\(w false->(γb h.1<=1000/\∀(x:NG),x∈h.1->gK x)/\(s=true->(a 2).bi e)/\(s=false->((ou o/\ou p)/\γb o<=10000000/\γb p<=10000000)/\(v true->(a 2).bi e)/\(v false->VI .i64 j/\((k.bi k/\i.bi i/\n.bi n/\t.bi t/\True)/\l.bi l/\True)/\(b<=j/\j<=f)/\(f - j).toNat<(f - x).toNat))))/\(decide (x<f)=false->(a 0).bi e))))) (by kernel_rfl) ?_;simp only[vcs];have hall:∀{l:List NG},(∀x∈l,gK x/\okF x=true)->l.all okF=true:=λh=>χ.2 λx hx=>(h x hx).2;refine⟨λh=>by omega,λ_=>⟨λh=>by omega,λ_=>⟨⟨by omega,λx hx=>(hg x hx).1⟩,λh=>(by rw[hall hg] at h;cases h),λ_=>⟨⟨by omega,by omega⟩,?_⟩⟩⟩⟩;rintro i ⟨i0,i1⟩;refine⟨λhi=>?_,λ_=>trivial⟩;have hm:=hr _ (cE (d:=sR.bw) (show i.toNat<rs.length by omega));have h2:okF ((bN rs i.toNat sR.bw).2.1,(bN rs i.toNat sR.bw).2.2.1,(bN rs i.toNat sR.bw).2.2.2)=okF (bN rs i.toNat sR.bw).2:=rfl;rw[h2];refine⟨i0,hi,by omega,λh=>absurd (by rw[hm.1]) h,λ_=>⟨⟨by have:=hm.1;omega,λx hx=>(hm.2.1 x hx).1⟩,λh=>?_,λ_=>⟨⟨hm.2.2.1.1,hm.2.2.1.2.1,hm.2.2.1.2.2⟩,λh=>?_,λ_=>⟨by omega,⟨by omega,by omega⟩,by omega⟩⟩⟩⟩
 ·have:=hall hm.2.1;rw[show List.all (bN rs i.toNat sR.bw).1 okF=true from this] at h;cases h
 ·rw[hm.2.2.2] at h;cases h
def wO (a:qO):l9:=⟨a.1.length,a.2.length,a.2.length,a.2.length,a.2.length,a.1.length,a.2.map (·.1),a.2.map (·.2),δ a.1.length (nf 0),nf 0,(bP a.2.length).map λi=>a.1.length+i,bP a.1.length⟩
def Du:cU where
 f:=157;α:=qO;put a:=[uH.put a];st _:=[];dec v o:=match v,o with
  |[v],[]=>uH.dec v
  |_,_=>none;ok v o a h:=by
  split at h;·exact⟨by simp only[gL,uH.ok _ _ h],rfl⟩
  ·cases h
 inj a b h _:=uH.inj a b (by simpa[gL] using h);dom a:=a.1.length<=1000/\a.2.length<=1000/\∀r∈a.2,r.1.length<=1000;res a:=.ptr 0 0 10;out a:=(wO a).fO
def Ki (a:qO) (k0 k1 k2 k3 k4:Nat) (co:List (List NG)) (bo ct:List NG) (ba fr:List Int):TN:=
 [.cells [.row sF a.1,.row sR a.2] 217 2 false,.cells [.si .i64 a.1.length,.si .i64 a.2.length,.ow 2 k0 1,.ow 3 k1 3,.ow 4 k2 3,.sb (nf 0).1,.row (.i .u32) (nf 0).2.1,.row (.i .u32) (nf 0).2.2,.ow 5 k3 1,.ow 6 k4 1] 261 10 false,
  .row (.qE sF) co 106 false,.row sF bo 177 false,.row sF ct 177 true,.row (.i .i64) ba 3 false,.row (.i .i64) fr 3 false]
def Tl (a:qO):Nat->bG
 |3=> .inv Int (λj=>⟨[(1,.ptr 0 0 2),(3,.ptr 1 0 10),(18,.si .i64 a.1.length),(19,.si .i64 j)],Ki a 0 0 j.toNat 0 j.toNat [] [] (δ j.toNat (nf 0)) [] (bP j.toNat)⟩)
   (λs=>iS s 19) (λj=>0<=j/\j<=a.1.length) (λj=>(a.1.length - j).toNat) λ_ _=> .look
 |9=> .inv Int (λi=>⟨[(3,.ptr 1 0 10),(44,.row sR a.2),(45,.si .i64 a.2.length),(46,.si .i64 i)],Ki a i.toNat i.toNat a.1.length i.toNat a.1.length ((a.2.take i.toNat).map (·.1)) ((a.2.take i.toNat).map (·.2)) (δ a.1.length (nf 0)) ((bP i.toNat).map λi=>a.1.length+i) (bP a.1.length)⟩)
   (λs=>iS s 46) (λi=>0<=i/\i<=a.2.length) (λi=>(a.2.length - i).toNat) λ_ _=> .look
 |_=> .look
theorem Il:dA Tryz.prog Du:=by
 refine Fl (L:=[mj]) (W:=[]) Du (λ_=>none) Tl (by simp) (by simpa using nH) ?_;rintro⟨g,rs⟩ ⟨hg,hr,hrr⟩;simp only at hg hr hrr;refine NH (let a:=iZ.row;let c:=γW;let d:=iZ.cells;let e:=(0:Int);let f:=γf .i64;let h:=(-9223372036854775808:Int);let j:=Ψ;let k:=(9223372036854775807:Int);let l:=γv .i64 0;let o:=VI .i64;let p:=γK;let V:=p 0 0 2;let w:=p 1 0 10;let a6:=f (↑g.length:Int);let r:=(↑g.length:Int);let s:=f r;let N:=j sR rs;let y:=d [j sF g,N] 217 2 false;let a7:=f (↑rs.length:Int);let G:=c 2 0 1;let H:=c 3 0 3;let a8:=c 4 0 3;let I:=nf (κ e);let z:=ew.i .u32;let O:=c 5 0 1;let a9:=[O,c 6 0 1];let A:=(↑rs.length:Int);let t:=f A;let J:=nf (0:Rat);let B:=γy J.1;let C:=j z J.2.1;let D:=j z J.2.2;let P:=ew.b.pair (z.qE.pair z.qE);let Q:=a sF.qE [] 106 false;let R:=a sF [] 177 false;let u:=ew.i .i64;let F:=a u [] 3 false;let a1:=c 4 g.length 3;let a2:=[c 6 g.length 1];let a3:=δ g.length J;let a4:=a sF a3 177 true;let W:=a u (bP g.length) 3 false;let aa:=p 0 0 10;let q:=wO (g,rs);(h<=e/\e<=k)/\(((V.bi V/\w.bi w/\a6.bi s/\(l).bi (f 0)/\True)/\y.bi y/\(d (a6::a7::G::H::a8::γy I.1::j z I.2.1::j z I.2.2::a9) 261 10 false).bi (d (s::t::G::H::a8::B::C::D::a9) 261 10 false)/\(a P.qE [] 106 false).bi Q/\(a P [] 177 false).bi R/\(a P [] 177 true).bi (a sF [] 177 true)/\F.bi F/\F.bi (a u (bP 0) 3 false)/\True)/\e<=e/\e<=r)/\∀(x:Int),let S:=bP x.toNat;let ab:=S.length+1;let X:=δ x.toNat J;let ac:=X.length+1;let K:=x+(1:Int);let ad:=f K;let ae:=X++[(I.1,I.2.1,I.2.2)];let Y:=K.toNat;e<=x/\x<=r->(decide (x<r)=true->1=1/\x.toNat=S.length/\ab*8<=140737488355328/\ab<=1000000000000/\(h<=e/\e<=k)/\1=1/\x.toNat=X.length/\ac*56<=140737488355328/\ac<=1000000000000/\o K/\((V.bi V/\w.bi w/\s.bi s/\ad.bi ad/\True)/\y.bi y/\(d [s,t,G,H,c 4 ae.length 3,B,C,D,O,c 6 (S++[x]).length 1] 261 10 false).bi (d [s,t,G,H,c 4 Y 3,B,C,D,O,c 6 Y 1] 261 10 false)/\Q.bi Q/\R.bi R/\(a P ae 177 true).bi (a sF (δ Y J) 177 true)/\F.bi F/\(a u (S++[x]) 3 false).bi (a u (bP Y) 3 false)/\True)/\(e<=K/\K<=r)/\(r - K).toNat<(r - x).toNat)/\(decide (x<r)=false->(((w.bi w/\N.bi N/\a7.bi t/\(l).bi (f 0)/\True)/\y.bi y/\(d [s,t,G,H,c 4 x.toNat 3,B,C,D,O,c 6 x.toNat 1] 261 10 false).bi (d (s::t::G::H::a1::B::C::D::O::a2) 261 10 false)/\Q.bi Q/\R.bi R/\(a sF X 177 true).bi a4/\F.bi F/\(a u S 3 false).bi W/\True)/\e<=e/\e<=A)/\∀(x:Int),let T:=bN rs x.toNat sR.bw;let E:=γb T.1;let af:=Γ x.toNat rs;let Z:=γd (λx ↦x.1) af;let a5:=Z.length+1;let a0:=γd (λx ↦x.2) af;let ag:=a0.length+1;let U:=γd (λi ↦(↑(g,rs).1.length:Int)+i) (bP x.toNat);let ah:=U.length+1;let L:=x+(1:Int);let ai:=f L;let aj:=a0++[(T.2.1,T.2.2.1,T.2.2.2)];let M:=L.toNat;e<=x/\x<=A->(decide (x<A)=true->e<=x/\x<(↑rs.length:Int)/\x.toNat<rs.length/\0=0/\(0+E)*56<=140737488355328/\0+E<=1000000000000/\x.toNat=Z.length/\a5*24<=140737488355328/\a5<=1000000000000/\E=E/\E=E/\E=E/\1=1/\x.toNat=a0.length/\ag*56<=140737488355328/\ag<=1000000000000/\o (r+x)/\1=1/\x.toNat=U.length/\ah*8<=140737488355328/\ah<=1000000000000/\o L/\((w.bi w/\N.bi N/\t.bi t/\ai.bi ai/\True)/\y.bi y/\(d (s::t::c 2 a5 1::c 3 aj.length 3::a1::B::C::D::c 5 (U++[r+x]).length 1::a2) 261 10 false).bi (d (s::t::c 2 M 1::c 3 M 3::a1::B::C::D::c 5 M 1::a2) 261 10 false)/\(a sF.qE (Z++[T.1]) 106 false).bi (a sF.qE (γd (λx ↦x.1) (Γ M rs)) 106 false)/\(a P aj 177 false).bi (a sF (γd (λx ↦x.2) (Γ M rs)) 177 false)/\a4.bi a4/\(a u (U++[r+x]) 3 false).bi (a u (γd (λi ↦(↑(g,rs).1.length:Int)+i) (bP M)) 3 false)/\W.bi W/\True)/\(e<=L/\L<=A)/\(A - L).toNat<(A - x).toNat)/\(decide (x<A)=false->g.length=a3.length/\aa.bi aa/\(d [s,t,c 1 x.toNat 1,c 2 x.toNat 3,j sF a3,B,C,D,c 3 x.toNat 1,c 4 g.length 1] 261 10 false).bi (d [f q.n,f q.m,c 1 q.k0 1,c 2 q.k1 3,j sF q.cost,γy q.v.1,j z q.v.2.1,j z q.v.2.2,c 3 q.k3 1,c 4 q.k4 1] 261 10 false)/\(a sF.qE Z 106 false).bi (a sF.qE q.VJ 106 false)/\(a sF a0 177 false).bi (a sF q.bound 177 false)/\(a u U 3 false).bi (a u q.basic 3 false)/\W.bi (a u q.free 3 false)/\True))) (by kernel_rfl) ?_;simp only[vcs];have h0:(κ 0:Rat)=0:=rfl;simp only[h0,iX];have hcell:∀{a b a' b' c d e a2 b2 c2 d2 e2:Nat},a=a2->b=b2->c=c2->d=d2->e=e2->(iZ.cells [.si .i64 a',.si .i64 b',.ow 2 a 1,.ow 3 b 3,.ow 4 c 3,.sb (nf 0).1,.row (.i .u32) (nf 0).2.1,.row (.i .u32) (nf 0).2.2,.ow 5 d 1,.ow 6 e 1] 261 10 false).bi
   (iZ.cells [.si .i64 a',.si .i64 b',.ow 2 a2 1,.ow 3 b2 3,.ow 4 c2 3,.sb (nf 0).1,.row (.i .u32) (nf 0).2.1,.row (.i .u32) (nf 0).2.2,.ow 5 d2 1,.ow 6 e2 1] 261 10 false):=by
  rintro _ _ _ _ _ _ _ _ _ _ _ _ rfl rfl rfl rfl rfl;rfl
 have hrF:∀{x y:List NG},x=y->(iZ.row sF x 177 false).bi (iZ.row sF y 177 false):=by rintro _ _ rfl;rfl
 have hrT:∀{x y:List NG},x=y->(iZ.row sF x 177 true).bi (iZ.row sF y 177 true):=by rintro _ _ rfl;rfl
 have hrM:∀{x y:List (List NG)},x=y->(iZ.row (.qE sF) x 106 false).bi (iZ.row (.qE sF) y 106 false):=by rintro _ _ rfl;rfl
 have hrI:∀{x y:List Int},x=y->(iZ.row (.i .i64) x 3 false).bi (iZ.row (.i .i64) y 3 false):=by rintro _ _ rfl;rfl
 have hcast:∀k:Nat,((k:Nat):Int).toNat=k:=λk=>γm k;refine⟨by omega,⟨⟨rfl,hrI rfl⟩,by omega,by omega⟩,?_⟩;rintro j ⟨j0,j1⟩;have l1:=@eY j.toNat;have l2:(δ j.toNat (nf 0)).length=j.toNat:=γD;refine⟨λhj=>?_,λhj=>?_⟩
 ·have e1:bP j.toNat++[j]=bP (j+1).toNat:=by
   rw[show(j+1).toNat=j.toNat+1 by omega,ob,show((j.toNat:Nat):Int)=j by omega]
  have e2:δ j.toNat (nf 0)++[nf 0]=δ (j+1).toNat (nf 0):=by
   rw[show(j+1).toNat=j.toNat+1 by omega,List.replicate_succ']
  rw[e1,e2,eY,γD];rw[eY,γD];refine⟨rfl,?_,?_,?_,rfl,?_,?_,?_,⟨hcell rfl rfl rfl rfl rfl,hrT rfl,hrI rfl⟩,?_,?_⟩<;>omega
 ·rw[show j.toNat=g.length by omega];refine⟨⟨⟨hcell rfl rfl rfl rfl rfl,hrT rfl,hrI rfl⟩,by omega,by omega⟩,?_⟩;rintro i ⟨i0,i1⟩;have l3:(γd (λx:List NG×NG=>x.1) (Γ i.toNat rs)).length=i.toNat:=by rw[Θ,γx];omega
  have l4:(γd (λx:List NG×NG=>x.2) (Γ i.toNat rs)).length=i.toNat:=by rw[Θ,γx];omega
  have l5:(γd (λi:Int=>(g.length:Int)+i) (bP i.toNat)).length=i.toNat:=by rw[Θ,eY]
  refine⟨λhi=>?_,λhi=>?_⟩
  ·have hm:=hrr _ (cE (d:=sR.bw) (show i.toNat<rs.length by omega));have et:=jj (d:=sR.bw) i0 hi;have e1:γd (λx:List NG×NG=>x.1) (Γ i.toNat rs)++[(bN rs i.toNat sR.bw).1]=γd (λx:List NG×NG=>x.1) (Γ (i+1).toNat rs):=by rw[et,γa];rfl
   have e2:γd (λx:List NG×NG=>x.2) (Γ i.toNat rs)++[(bN rs i.toNat sR.bw).2]=γd (λx:List NG×NG=>x.2) (Γ (i+1).toNat rs):=by rw[et,γa];rfl
   have e3:γd (λi:Int=>(g.length:Int)+i) (bP i.toNat)++[(g.length:Int)+i]=γd (λi:Int=>(g.length:Int)+i) (bP (i+1).toNat):=by
    rw[show(i+1).toNat=i.toNat+1 by omega,ob,γa,show((i.toNat:Nat):Int)=i by omega];rfl
   have l6:(γd (λx:List NG×NG=>x.2) (Γ (i+1).toNat rs)).length=(i+1).toNat:=by rw[Θ,γx];omega
   have l7:(γd (λi:Int=>(g.length:Int)+i) (bP (i+1).toNat)).length=(i+1).toNat:=by rw[Θ,eY]
   refine⟨i0,hi,by omega,by omega,by omega,l3.symm,by omega,by omega,l4.symm,by omega,by omega,by omega,l5.symm,by omega,by omega,by omega,⟨hcell ?_ ?_ rfl ?_ rfl,hrM e1,hrF e2,hrI e3⟩,by omega,by omega⟩;·omega
   ·exact(congrArg γb e2).trans l6
   ·exact(congrArg γb e3).trans l7
  ·have e:i.toNat=rs.length:=by omega
   rw[e,ψ];exact⟨γD.symm,rfl,rfl,rfl,rfl,rfl⟩
def r400:cU:=rZ 158 Unit .nil (λ_ m t _=>jt m.toNat t) (λ_ _ _ _=> .Gz [.sc (.slice none 0 0),.sb true]) (λ_ _ t _=>t)
def Tk (n m:Int) (t:Tb):Nat->bG
 |3=> .inv Int (λi=>⟨[(0,.ptr 0 0 10),(4,.si .i64 (-1)),(12,.ow 2 t.bound.length 3),(13,.si .i64 t.bound.length),(14,.si .i64 i)],(FV n m t).fO⟩)
   (λs=>iS s 14) (λi=>0<=i/\i<=m) (λi=>(m - i).toNat) λ_ _=> .look
 |_=> .look
theorem Ik:dA Tryz.prog r400:=by
 refine kq (L:=[qb]) (W:=[]) r400 (λa=>Tk a.1.n a.1.m a.1.t) (by simp) (by simpa using sA) ?_;rintro⟨x,u⟩ ⟨n,m,t,hx,hok,hd⟩;simp only at hx hd;subst hx;refine NH (let a:=γf .i64;let b:=iZ.row;let c:=(0:Int);let d:=γW;let e:=Ψ;let f:=(-1:Int);let w:=γK 0 0 10;let A:=a f;let E:=d 2 (FV n m t).k1 3;let k:=(FV n m t).t.bound.length;let B:=d 2 k 3;let C:=a (↑k:Int);let j:=(FV n m t).m;let y:=ew.i .u32;let g:=FV (FV n m t).n j (FV n m t).t;let l:=iZ.cells [a g.n,a g.m,d 1 g.k0 1,d 2 g.k1 3,e sF g.cost,γy g.v.1,e y g.v.2.1,e y g.v.2.2,d 3 g.k3 1,d 4 g.k4 1] 261 10 false;let o:=b sF.qE g.VJ 106 false;let p:=b sF g.bound 177 false;let z:=ew.i .i64;let q:=b z g.basic 3 false;let r:=b z g.free 3 false;let h:=g.bound.length;let F:=SV.sc (Value.slice none 0 0);(((w.bi w/\(γv .i64 f).bi A/\E.bi B/\(a (↑(FV n m t).k1:Int)).bi C/\(γv .i64 0).bi (a 0)/\True)/\(iZ.cells [a (FV n m t).n,a j,d 1 (FV n m t).k0 1,E,e sF (FV n m t).cost,γy (FV n m t).v.1,e y (FV n m t).v.2.1,e y (FV n m t).v.2.2,d 3 (FV n m t).k3 1,d 4 (FV n m t).k4 1] 261 10 false).bi l/\(b sF.qE (FV n m t).VJ 106 false).bi o/\(b sF (FV n m t).bound 177 false).bi p/\(b z (FV n m t).basic 3 false).bi q/\(b z (FV n m t).free 3 false).bi r/\True)/\c<=c/\c<=j)/\∀(x:Int),let D:=bN g.bound x.toNat sF.bw;let G:=(D.1,D.2.1,D.2.2);let s:=x+(1:Int);let H:=a s;let I:=decide (x<(↑k:Int));let J:=λ(u:Bool) ↦decide (iY (TL G)<c)=u;let K:=λ(u:SV) ↦VI .i64 s/\((w.bi w/\u.bi A/\B.bi B/\C.bi C/\H.bi H/\True)/\l.bi l/\o.bi o/\p.bi p/\q.bi q/\r.bi r/\True)/\(c<=s/\s<=j)/\(j - s).toNat<(j - x).toNat;c<=x/\x<=j->(I=true->k=h/\c<=x/\x<(↑h:Int)/\k=h/\x.toNat<h/\bL G/\(J true->(true=true->K (a x))/\(true=false->g.k1=h/\c<=f/\f<(↑h:Int)/\g.k1=h/\0<h/\False))/\(J false->K A))/\(I=false->(true=true->(SV.Gz [F,δd true]).bi (SV.Gz [F,γy true])/\l.bi l/\o.bi o/\p.bi p/\q.bi q/\r.bi r/\True)/\(true=false->False))) (by kernel_rfl) ?_;simp only[qK];try simp only[FV]
 simp only[vcs];obtain⟨⟨⟨n0,n1⟩,m0,m1⟩,hw,hz⟩:=id hok;have hbl:=hw.bound;have hfb:=@eA t.bound;refine⟨⟨by omega,by omega⟩,?_⟩;rintro i ⟨i0,i1⟩;refine⟨λhi=>?_,λhi=>⟨λ_=>trivial,λh=>by cases h⟩⟩;have hB:bN (fL t.bound) i.toNat sF.bw=nf (t.bd i.toNat):=iD (by omega);have hpos:=hd i.toNat (by omega);have hneg:¬iY (t.bd i.toNat)<0:=λh=>by have:=wQ.1 h;grind
 simp only[hB,iX,dH];exact⟨by omega,i0,by omega,by omega,by omega,c_ (hok.bd (by omega)) (by omega),λh=>absurd h hneg,λ_=>⟨by omega,by omega,by omega⟩⟩
def Dt:cU:=rZ 159 (List NG) (.one (cL sF)) (λn m t a=>∃g:List Rat,a=fL g/\g.length=n.toNat/\t.free=bP n.toNat/\∀v∈t.basic,n<=v) (λ_ _ _ _=> .Gz []) (λ_ _ t a=>{t with cost:=vL a,value:=0})
def Tj (n m:Int) (t:Tb) (a:List NG):Nat->bG
 |3=> .inv Int (λj=>⟨[(0,.ptr 0 0 10),(1,.row sF a),(4,.ow 5 n.toNat 3),(24,.ow 4 t.free.length 1),(25,.si .i64 t.free.length),(26,.si .i64 j)],(FV n m {t with value:=0}).fO++[.row sF (dT a j.toNat (false,([],[]))) 177 true]⟩)
   (λs=>iS s 26) (λi=>0<=i/\i<=n) (λi=>(n - i).toNat) λ_ _=> .look
 |10=> .inv Int (λi=>⟨[(0,.ptr 0 0 10),(1,.row sF a),(4,.ow 5 n.toNat 3),(52,.ow 3 t.basic.length 1),(53,.si .i64 t.basic.length),(54,.si .i64 i)],(FV n m {t with value:=0}).fO++[.row sF a 177 true]⟩)
   (λs=>iS s 54) (λi=>0<=i/\i<=m) (λi=>(m - i).toNat) λ_ _=> .look
 |_=> .look
theorem Ij:dA Tryz.prog Dt:=by
 refine kq (L:=[mj]) (W:=[]) Dt (λa=>Tj a.1.n a.1.m a.1.t a.2) (by simp) (by simpa using nH) ?_;rintro⟨x,a⟩ ⟨n,m,t,hx,hok,g,ha,hgl,hfr,hbs⟩;simp only at hx ha;subst hx ha;refine NH (let a:=(0:Int);let c:=γf .i64;let d:=iZ.row;let e:=γW;let f:=(-9223372036854775808:Int);let h:=Ψ;let j:=(9223372036854775807:Int);let k:=iZ.cells;let l:=γv .i64 0;let w:=(↑(FV n m t).k4:Int);let y:=γK 0 0 10;let s:=h sF (fL g);let p:=(FV n m t).n;let F:=e 5 p.toNat 3;let a0:=e 4 (FV n m t).k4 1;let r:=(FV n m t).t;let N:=r.free.length;let U:=e 4 N 1;let V:=c (↑N:Int);let z:=(FV n m t).m;let H:=nf (κ a);let A:=ew.i .u32;let o:=FV p z (Tb.mk r.VJ r.bound r.cost (0:Rat) r.basic r.free);let a1:=c o.n;let a2:=c o.m;let a3:=e 1 o.k0 1;let a4:=e 2 o.k1 3;let a5:=e 3 o.k3 1;let a6:=[γy o.v.1,h A o.v.2.1,h A o.v.2.2,a5,e 4 o.k4 1];let G:=k (a1::a2::a3::a4::h sF o.cost::a6) 261 10 false;let B:=d sF.qE o.VJ 106 false;let C:=d sF o.bound 177 false;let I:=ew.i .i64;let J:=o.basic;let D:=d I J 3 false;let E:=d I o.free 3 false;let R:=(false,[],[]);let S:=o.free.length;let z29:Nat:=(fL g).length;let O:=r.basic.length;let W:=e 3 O 1;let X:=c (↑O:Int);let Y:=d sF (fL g) 177 true;let q:=FV p z (Tb.mk r.VJ r.bound (vL (fL g)) (0:Rat) r.basic r.free);(f<=a/\a<=j)/\a<=w/\w<=w/\w*(56:Int)<=(140737488355328:Int)/\w<=(1000000000000:Int)/\(((y.bi y/\s.bi s/\(e 5 w.toNat 3).bi F/\a0.bi U/\(c w).bi V/\(l).bi (c 0)/\True)/\(k [c p,c z,e 1 (FV n m t).k0 1,e 2 (FV n m t).k1 3,h sF (FV n m t).cost,γy H.1,h A H.2.1,h A H.2.2,e 3 (FV n m t).k3 1,a0] 261 10 false).bi G/\(d sF.qE (FV n m t).VJ 106 false).bi B/\(d sF (FV n m t).bound 177 false).bi C/\(d I (FV n m t).basic 3 false).bi D/\(d I (FV n m t).free 3 false).bi E/\(d (ew.b.pair (A.qE.pair A.qE)) (δ w.toNat R) 177 true).bi (d sF (dT (fL g) 0 R) 177 true)/\True)/\a<=a/\a<=p)/\∀(x:Int),let K:=x+(1:Int);let a7:=c K;let a8:=decide (x<(↑N:Int));let L:=dT (fL g) x.toNat R;let P:=bN o.free x.toNat a;let a9:=decide (P<o.n);let M:=L.set x.toNat (H.1,H.2.1,H.2.2);let Z:=bN (fL g) P.toNat sF.bw;let aa:=λ(u:List (Bool×List Int×List Int)) ↦VI .i64 K/\((y.bi y/\s.bi s/\F.bi F/\U.bi U/\V.bi V/\a7.bi a7/\True)/\G.bi G/\B.bi B/\C.bi C/\D.bi D/\E.bi E/\(d sF u 177 true).bi (d sF (dT (fL g) K.toNat R) 177 true)/\True)/\(a<=K/\K<=p)/\(p - K).toNat<(p - x).toNat;a<=x/\x<=p->(a8=true->N=S/\a<=x/\x<(↑S:Int)/\N=S/\x.toNat<S/\(f<=a/\a<=j)/\p.toNat=L.length/\a<=x/\x<(↑L.length:Int)/\p.toNat=L.length/\x.toNat<L.length/\(a9=true->a<=P/\P<(↑z29:Int)/\P.toNat<z29/\p.toNat=M.length/\a<=x/\x<(↑M.length:Int)/\p.toNat=M.length/\x.toNat<M.length/\aa (M.set x.toNat (Z.1,Z.2.1,Z.2.2)))/\(a9=false->aa M))/\(a8=false->(((y.bi y/\s.bi s/\F.bi F/\a5.bi W/\(c (↑o.k3:Int)).bi X/\(l).bi (c 0)/\True)/\G.bi G/\B.bi B/\C.bi C/\D.bi D/\E.bi E/\(d sF L 177 true).bi Y/\True)/\a<=a/\a<=z)/\∀(x:Int),let ab:=decide (x<(↑O:Int));let T:=bN J x.toNat a;let ac:=decide (o.n<=T);let Q:=x+(1:Int);let ad:=c Q;a<=x/\x<=z->(ab=true->O=J.length/\a<=x/\x<(↑J.length:Int)/\O=J.length/\x.toNat<J.length/\(ac=true->VI .i64 Q/\((y.bi y/\s.bi s/\F.bi F/\W.bi W/\X.bi X/\ad.bi ad/\True)/\G.bi G/\B.bi B/\C.bi C/\D.bi D/\E.bi E/\Y.bi Y/\True)/\(a<=Q/\Q<=z)/\(z - Q).toNat<(z - x).toNat)/\(ac=false->a<=T/\T<(↑z29:Int)/\T.toNat<z29/\False))/\(ab=false->p.toNat=z29/\(SV.Gz []).bi (SV.Gz [])/\(k (a1::a2::a3::a4::s::a6) 261 10 false).bi (k [c q.n,c q.m,e 1 q.k0 1,e 2 q.k1 3,h sF q.cost,γy q.v.1,h A q.v.2.1,h A q.v.2.2,e 3 q.k3 1,e 4 q.k4 1] 261 10 false)/\B.bi (d sF.qE q.VJ 106 false)/\C.bi (d sF q.bound 177 false)/\D.bi (d I q.basic 3 false)/\E.bi (d I q.free 3 false)/\True))) (by kernel_rfl) ?_;simp only[qK];try simp only[FV]
 simp only[vcs];obtain⟨⟨⟨n0,n1⟩,m0,m1⟩,hw,hz⟩:=id hok;have hbb:=hw.basic;have hfl:=hw.free;have hfg:=@eA g;have h0:(κ 0:Rat)=0:=rfl;have hrow:∀{x y:List NG},x=y->(iZ.row sF x 177 true).bi (iZ.row sF y 177 true):=by rintro _ _ rfl;rfl
 simp only[h0,iX];refine⟨by omega,by omega,by omega,by omega,by omega,⟨⟨?_,?_,?_⟩,by omega,by omega⟩,?_⟩;·rw[hfl];rfl
 ·rfl
 ·exact hrow (by rw[uL,hfg,hgl,hfl];rfl)
 rintro j ⟨j0,j1⟩;have hru:=@uM (fL g) j.toNat (false,([],[])) (by omega);refine⟨λhj=>?_,λhj=>?_⟩
 ·have hv:bN t.free j.toNat 0=j:=by rw[hfr,DA (by omega)];omega
  rw[hv];have hset:((dT (fL g) j.toNat (false,([],[]))).set j.toNat (nf 0)).set j.toNat (bN (fL g) j.toNat sF.bw)=dT (fL g) (j+1).toNat (false,([],[])):=by
   have e:=uJ (d:=fL g) (j:=j.toNat) (z:=(false,([],[]))) (x:=bN (fL g) j.toNat sF.bw) (by omega) rfl;rw[List.set_set,show(j+1).toNat=j.toNat+1 by omega];exact e
  rw[Φ];exact⟨j0,by omega,by omega,by omega,by omega,j0,by omega,by omega,by omega,λ_=>⟨j0,by omega,by omega,by omega,j0,by omega,by omega,by omega,by omega,hrow hset,by omega,by omega⟩,λh=>(h (by omega)).elim⟩
 ·have e:j.toNat=(fL g).length:=by omega
  rw[e,uK];refine⟨⟨hrow rfl,by omega,by omega⟩,?_⟩;rintro i ⟨i0,i1⟩;refine⟨λhi=>⟨i0,hi,by omega,λ_=>⟨by omega,by omega,by omega⟩,λh=>absurd (hbs _ (cE (by omega))) h⟩,λhi=>⟨by omega,?_⟩⟩;rw[jR];rfl
abbrev Lp:=List Rat×List (List Rat×Rat)
def gB (a:Lp):qO:=(fL a.1,a.2.map λr=>(fL r.1,nf r.2))
def j_ (a:Lp):Tb:=⟨a.2.map (·.1),a.2.map (·.2),a.1,0,(bP a.2.length).map λi=>a.1.length+i,bP a.1.length⟩
def pz (a:Lp):Tb:={j_ a with cost:=δ a.1.length 0}
theorem Ti {a:Lp}:wO (gB a)=FV a.1.length a.2.length (pz a):=by
 unfold wO gB FV pz j_;simp_all[eY,fM,fL]
structure wN (a:Lp):Prop where
 n:a.1.length<=160
 m:a.2.length<=40
 small:∃M G,Small a.1.length a.2.length M G (j_ a)
 vy:jt a.2.length (j_ a)
 dZ:∃B,∀x z,(j_ a).holds a.1.length a.2.length x z->(∀v∈(j_ a).basic++(j_ a).free,0<=x v)->z<=B
noncomputable def lI (a:Lp):Tb:=cu a.1.length a.2.length (j_ a)
theorem Th {a:Lp} (h:wN a):qc a.1.length a.2.length (j_ a):=by
 obtain⟨M,G,b⟩:=h.small;exact⟨j_ a,M,G,b,dm.refl b.wf b.nd,h.vy⟩
theorem Tg {a:Lp} (h:wN a):dm a.1.length a.2.length (j_ a) (lI a)/\jt a.2.length (lI a)/\dG (lI a) a.1.length<0:=by
 obtain⟨M,G,c⟩:=h.small;obtain⟨B,d⟩:=h.dZ;have b:=dm.refl c.wf c.nd;have:=DC b h.vy;exact⟨this.1,this.2.1,LP b h.vy d⟩
noncomputable def Ds:M9:=⟨133,qO,.one uH,λx=>∃a:Lp,x=gB a/\wN a,λx=>
 let a:Lp:=(vL x.1,x.2.map λr=>(vL r.1,TL r.2));.Gz [.agg [.si .i64 1,.sb (nf (lI a).value).1,.row (.i .u32) (nf (lI a).value).2.1,.row (.i .u32) (nf (lI a).value).2.2,.row sF (fL (fm (lI a) a.1.length a.2.length)),.row sF (fL (ix (lI a) a.1.length a.2.length a.1.length)),.row sF []],.si .i64 0]⟩
theorem Tf {a:Lp}:((vL (gB a).1,(gB a).2.map λr=>(vL r.1,TL r.2)):Lp)=a:=by
 obtain⟨g,b⟩:=a;unfold gB;simp only[jR,γ5];congr 1;conv=>rhs;rw[<-List.map_id b]
 refine List.map_congr_left λr _=>?_;grind[jR,dH]
theorem T0 {a:Lp}:((gB a).1,(gB a).2)=gB a:=rfl
theorem Kh {a:Lp}:vL (gB a).1=a.1:=jR _
theorem Kg {a:Lp}:(gB a).2.map (λr=>(vL r.1,TL r.2))=a.2:=congrArg Prod.snd (@Tf a)
theorem TZ {a:Lp}:({VJ:=(pz a).VJ,bound:=(pz a).bound,cost:=a.1,value:=0,basic:=(pz a).basic,free:=(pz a).free}:Tb)=j_ a:=rfl
theorem TY {a:Lp}:(gB a).1.length=a.1.length:=eA
theorem TX {a:Lp}:(gB a).2.length=a.2.length:=Θ _
theorem Kf {q:Rat} (h:Sz 1000000 q):gK (nf q)/\okF (nf q)=true:=by
 obtain⟨g,⟨a,_,c⟩,⟨b,_,e⟩⟩:=kP q;obtain⟨d,f⟩:=ny h;refine⟨⟨⟨a,b⟩,by omega,by omega⟩,?_⟩;grind[okF,dH]
theorem TW {o:a_} {d:Nat} {acc:List Nat} {l:List NG}:cd o d (γd (λx:NG=>de ew.b x.1++de ((ew.i .u32).qE.pair (ew.i .u32).qE) x.2) l).flatten acc=acc:=xm λa c=>lO (s:=sF) (l:=l) c
theorem TV {o:a_} {d:Nat} {acc:List Nat} {l:List (List NG)}:cd o d (γd (λx:List NG=>[ζX (γb x) (ζ0 (de sF) x)]) l).flatten acc=acc:=xm λa b=>lO (s:=sF.qE) (l:=l) b
theorem TU {o:a_} {d:Nat} {acc:List Nat} {l:List Int}:cd o d (γd (λx:Int=>γd δh (cI (ew.i .i64) x)) l).flatten acc=acc:=xm λa b=>lO (s:=ew.i .i64) (l:=l) b
theorem Io:Holds Tryz.prog Ds:=by
 refine Xv (L:=[Dv]) (W:=fT [Du,r400,Dt,Dx,zJ,zI]) Ds (λf=>Nat.beq f zJ.f||Nat.beq f zI.f) lk (kf (by simpa using⟨Il,Ik,Ij,Ii,Ih,Ig⟩)) (by simpa using Im) ?_;rintro x ⟨a,hx,hok⟩;subst hx;refine NH (let c:=Ψ;let d:=iZ.row;let e:=γf .i64;let f:=γW;let h:=iZ.cells;let j:=γv .i64;let k:=(0:Int);let l:=γy;let o:=δd false;let p:=SV.agg;let q:=SV.Gz;let B:=(gB a).1;let C:=(gB a).2;let J:=h [c sF B,c sR C] 217 2 false;let Q:=j 0;let a1:=Value.slice none 0 0;let G:=SV.sc a1;let K:=h [Q,o,G,G,G,G,G] 221 7 false;let L:=wO (B,C);let D:=FV L.n L.m L.t;let E:=FV D.n D.m (Tb.mk D.t.VJ D.t.bound (vL B) (0:Rat) D.t.basic D.t.free);let a2:=cu E.n.toNat E.m.toNat E.t;let s:=FV E.n E.m a2;let y:=ew.i .u32;let M:=s.v.2.1;let N:=s.v.2.2;let w:=FV s.n s.m s.t;let R:=w.v.2.1;let S:=w.v.2.2;let a3:=h [e w.n,e w.m,f 3 w.k0 1,f 4 w.k1 3,c sF w.cost,l w.v.1,c y R,c y S,f 5 w.k3 1,f 6 w.k4 1] 261 10 false;let a4:=d sF.qE w.VJ 106 false;let a5:=d sF w.bound 177 false;let z:=ew.i .i64;let a6:=d z w.basic 3 false;let a7:=d z w.free 3 false;let F:=c z [];let U:=γd (λ(r:List NG×NG) ↦(vL r.1,TL r.2)) C;let H:=lI (vL B,U);let z31:Nat:=(vL B).length;let a8:=e 0;let a9:=q [p [e 1,l (nf H.value).1,c y (nf H.value).2.1,c y (nf H.value).2.2,c sF (fL (fm H z31 U.length)),c sF (fL (ix H z31 U.length z31)),c sF []],a8];let A:=FV w.n w.m w.t;let aa:=OL.cells [ζX B.length (γd (λ(x:sF.T) ↦de ew.b x.1++de (y.qE.pair y.qE) x.2) B).flatten,ζX C.length (γd (λ(x:sR.T) ↦de sF.qE x.1++de sF x.2) C).flatten] 217 2 false;let I:=δh a1;let ab:=OL.cells [δh (Value.int .i64 k),δh (Value.bool false),I,I,I,I,I] 221 7 false;let ac:=(γd (λ(x:sF.qE.T) ↦[ζX (γb x) (ζ0 (de sF) x)]) s.VJ).flatten;let ad:=(γd (λ(x:sF.T) ↦de ew.b x.1++de (y.qE.pair y.qE) x.2) s.bound).flatten;let ae:=(γd (λ(x:z.T) ↦γd δh (cI z x)) s.basic).flatten;let af:=(γd (λ(x:z.T) ↦γd δh (cI z x)) s.free).flatten;let O:=[aa,ab,OL.cells [δh (Value.int .i64 s.n),δh (Value.int .i64 s.m),θb 3 0 s.k0 (s.k0*1),θb 4 0 s.k1 (s.k1*3),ζX s.cost.length (γd (λ(x:sF.T) ↦de ew.b x.1++de (y.qE.pair y.qE) x.2) s.cost).flatten,δh (Value.bool s.v.1),ζX M.length (γd (λ(x:y.T) ↦γd δh (cI y x)) M).flatten,ζX N.length (γd (λ(x:y.T) ↦γd δh (cI y x)) N).flatten,θb 5 0 s.k3 (s.k3*1),θb 6 0 s.k4 (s.k4*1)] 261 10 false,OL.cells ac 106 1 false,OL.cells ad 177 3 false,OL.cells ae 3 1 false,OL.cells af 3 1 false];let ag:=[2,3];let V:=cd O (nat_lit 396) ac ag;let W:=if ζJ 4 V=true then V else cd O (nat_lit 395) ad (V++[4]);let X:=if ζJ 5 W=true then W else cd O (nat_lit 390) ae (W++[5]);let ah:=(γd (λ(x:sF.qE.T) ↦[ζX (γb x) (ζ0 (de sF) x)]) w.VJ).flatten;let ai:=(γd (λ(x:sF.T) ↦de ew.b x.1++de (y.qE.pair y.qE) x.2) w.bound).flatten;let aj:=(γd (λ(x:z.T) ↦γd δh (cI z x)) w.basic).flatten;let ak:=(γd (λ(x:z.T) ↦γd δh (cI z x)) w.free).flatten;let P:=[aa,ab,OL.cells [δh (Value.int .i64 w.n),δh (Value.int .i64 w.m),θb 3 0 w.k0 (w.k0*1),θb 4 0 w.k1 (w.k1*3),ζX w.cost.length (γd (λ(x:sF.T) ↦de ew.b x.1++de (y.qE.pair y.qE) x.2) w.cost).flatten,δh (Value.bool w.v.1),ζX R.length (γd (λ(x:y.T) ↦γd δh (cI y x)) R).flatten,ζX S.length (γd (λ(x:y.T) ↦γd δh (cI y x)) S).flatten,θb 5 0 w.k3 (w.k3*1),θb 6 0 w.k4 (w.k4*1)] 261 10 false,OL.cells ah 106 1 false,OL.cells ai 177 3 false,OL.cells aj 3 1 false,OL.cells ak 3 1 false];let Y:=cd P (nat_lit 396) ah ag;let Z:=if ζJ 4 Y=true then Y else cd P (nat_lit 395) ai (Y++[4]);let a0:=if ζJ 5 Z=true then Z else cd P (nat_lit 390) aj (Z++[5]);let al:=J.bi J/\K.bi K/\(h [e s.n,e s.m,f 3 s.k0 1,f 4 s.k1 3,c sF s.cost,l s.v.1,c y M,c y N,f 5 s.k3 1,f 6 s.k4 1] 261 10 false).bi a3/\(d sF.qE s.VJ 106 false).bi a4/\(d sF s.bound 177 false).bi a5/\(d z s.basic 3 false).bi a6/\(d z s.free 3 false).bi a7/\True;let am:=∃(n:Int),∃(m:Int),∃(t:Tb),s=FV n m t/\jK n m t/\∀(v:Int),v∈t.basic->k<=v;let an:=λ(u:Bool) ↦(!decide (dG a2 E.n.toNat<k))=u;let ao:=λ(u:Int) (u_1:SV) ↦false=true->(q [p [j u,o,F,F,F,F,F],u_1]).bi a9;((B.length<=160/\C.length<=40)/\(∀(x:NG),x∈B->gK x/\okF x=true)/\∀(r:List NG×NG),r∈C->r.1.length=B.length/\(∀(x:NG),x∈r.1->gK x/\okF x=true)/\gK r.2/\okF r.2=true)/\ao k a8/\(false=false->(B.length<=1000/\C.length<=1000/\∀(r:List NG×NG),r∈C->r.1.length<=1000)/\(∃(n:Int),∃(m:Int),∃(t:Tb),L=FV n m t/\jK n m t/\jt m.toNat t)/\ao (2:Int) Q/\(false=false->(∃(n:Int),∃(m:Int),∃(t:Tb),D=FV n m t/\jK n m t/\∃(g:List Rat),B=fL g/\g.length=n.toNat/\t.free=bP n.toNat/\∀(v:Int),v∈t.basic->n<=v)/\(∃(n:Int),∃(m:Int),∃(t:Tb),E=FV n m t/\jK n m t/\qc n.toNat m.toNat t)/\(an true->am/\al/\False)/\(an false->am/\al/\(∃(n:Int),∃(m:Int),∃(t:Tb),w=FV n m t/\jK n m t/\True)/\(J.bi J/\K.bi K/\a3.bi (h [e A.n,e A.m,f 3 A.k0 1,f 4 A.k1 3,c sF A.cost,l A.v.1,c y A.v.2.1,c y A.v.2.2,f 5 A.k3 1,f 6 A.k4 1] 261 10 false)/\a4.bi (d sF.qE A.VJ 106 false)/\a5.bi (d sF A.bound 177 false)/\a6.bi (d z A.basic 3 false)/\a7.bi (d z A.free 3 false)/\True)/\if(((if ζJ 6 X=true then X else cd O (nat_lit 389) af (X++[6])).all λ(i:Nat) ↦decide (i<7))&&(((if ζJ 6 a0=true then a0 else cd P (nat_lit 389) ak (a0++[6])).all λ(i:Nat) ↦decide (i<7))&&true))=true then(q [p [j 1,l s.v.1,c y M,c y N,c sF (fL (fm s.t s.n.toNat s.m.toNat)),c sF (fL (ix w.t w.n.toNat w.m.toNat w.n.toNat)),F],Q]).bi a9 else False)))) (by kernel_rfl) ?_;simp only[T0,Ti,qK,Lo,Ln,Kh,Kg,TZ,TY,TX,γm];try simp only[vcs]
 obtain⟨M,G,hs⟩:=hok.small;obtain⟨r1,r2,r3⟩:=Tg hok;have hw:=hs.wf;have hz:=hs.sw (dm.refl hs.wf hs.nd);have hn:=hok.n;have hm:=hok.m;have hO:=Th hok;have k1:jK a.1.length a.2.length (j_ a):=⟨⟨by omega,by omega⟩,by simpa using hw,hz⟩;have k0:jK a.1.length a.2.length (pz a):=by
  refine⟨⟨by omega,by omega⟩,⟨hw.VJ,hw.row,hw.bound,by simp[pz],hw.basic,hw.free⟩,hz.1,hz.2.1,λq hq=>?_,hz.2.2.2⟩;rw[(List.mem_replicate.1 hq).2];exact hz.2.2.2
 have k2:jK a.1.length a.2.length (lI a):=Lk hs (by simpa using r1) (by omega) (by omega);have hl:cu a.1.length a.2.length (j_ a)=lI a:=rfl;have aEn:((a.1,a.2):Lp)=a:=rfl;simp only[hl,aEn,TW,TV,TU];have mem2:∀i,i<a.2.length->bN a.2 i ([],0)∈a.2:=λi hi=>cE hi;have hrow:∀r∈a.2,r.1.length=a.1.length/\(∀q∈r.1,Sz 1000000 q)/\Sz 1000000 r.2:=λr hr=>by
  obtain⟨i,hi,rfl⟩:=γM hr;have h1:=hw.row i hi;have e:bN (j_ a).VJ i []=a.2[i].1:=by
   show bN (a.2.map (·.1)) i []=_;rw[b_ (by rw[Θ];exact hi),δD]
  rw[e] at h1;refine⟨h1,hz.1 _ (Ω.2 ⟨a.2[i],hr,rfl⟩),hz.2.1 _ (Ω.2 ⟨a.2[i],hr,rfl⟩)⟩
 have hg:∀q∈a.1,Sz 1000000 q:=hz.2.2.1;have hF:∀{l:List Rat},(∀q∈l,Sz 1000000 q)->∀x∈fL l,gK x/\okF x=true:=λh x hx=>by
  obtain⟨q,hq,rfl⟩:=Ω.1 hx;exact Kf (h q hq)
 have hdg:(∀x∈(gB a).1,gK x/\okF x=true)/\∀r∈(gB a).2,r.1.length=a.1.length/\(∀x∈r.1,gK x/\okF x=true)/\gK r.2/\okF r.2=true:=by
  refine⟨hF hg,λr hr=>?_⟩;obtain⟨r0,hr0,rfl⟩:=Ω.1 hr;obtain⟨h1,h2,h3⟩:=hrow r0 hr0;exact⟨by rw[<-h1];exact eA,hF h2,Kf h3⟩
 have hb0:∀v∈(lI a).basic,0<=v:=λv hv=>by
  have:=r1.perm.mem_iff.1 (εp _ hv);simp only[j_,γi,Ω,iF] at this;rcases this with⟨i,hi,rfl⟩|h;·omega
  ·exact h.1
 have hbn:∀v∈(pz a).basic,(a.1.length:Int)<=v:=λv hv=>by
  simp only[pz,j_,Ω,iF] at hv;obtain⟨i,hi,rfl⟩:=hv;omega
 refine⟨⟨⟨hn,hm⟩,hdg.1,hdg.2⟩,λh=>(by cases h),λ_=>⟨⟨by omega,by omega,λr hr=>by have:=(hdg.2 r hr).1;omega⟩,⟨_,_,_,rfl,k0,by rw[γm];exact hok.vy⟩,λh=>(by cases h),λ_=>⟨⟨_,_,_,rfl,k0,a.1,rfl,by simp,rfl,hbn⟩,⟨_,_,_,rfl,k1,by simpa using hO⟩,λh=>absurd r3 h,λ_=>⟨⟨_,_,_,rfl,k2,hb0⟩,⟨_,_,_,rfl,k2⟩,?_⟩⟩⟩⟩;rw[if_pos (by decide)];rfl
theorem wM {f:List Int} {d:Int} {i:Int} (h:0<=i) (c:i<f.length):Ao (f.take (i+1).toNat) d=Ao (f.take i.toNat) d++if bN f i.toNat 0=d then[i] else[]:=by
 have a:(f.take (i+1).toNat).length=i.toNat+1:=by grind
 have b:(f.take i.toNat).length=i.toNat:=by grind
 unfold Ao;rw[a,b,ob,List.filter_append];have e:∀{k:Nat} {m:Nat},k<m->m<=f.length->bN (f.take m) k 0=bN f k 0:=λ{k m} c j=>by
  grind[b_]
 congr 1
 ·refine List.filter_congr λx g=>?_;grind[iF]
 grind
def iW (f:List Int):Bool:=f.all λx=>decide (-1<=x)&&decide (x<=1)
def gZ (p:cj) (f:List Int):Int:=if nW p≠0 then nW p else if f.length≠p.bj.length then 3 else if iW f=true then 0 else 4
def zH:M9:=⟨131,cj×List Int,.cons cO (.one (cL (.i .i64))),λa=>a.2.length<=1000000000000,λa=> .si .i64 (gZ a.1 a.2)⟩
def TT (p:cj) (f:List Int):Nat->bG
 |7=> .inv Int (λi=>⟨[(19,.row (.i .i64) f),(20,.si .i64 f.length),(21,.si .i64 i)],[.cells p.ss 27 20 false]⟩)
   (λs=>iS s 21) (λi=>(0<=i/\i<=f.length)/\iW (f.take i.toNat)=true) (λi=>(f.length - i).toNat) λ_ _=> .look
 |_=> .look
theorem yL:Holds Tryz.prog zH:=by
 refine bI (L:=[mW]) zH (λa=>TT a.1 a.2) (by grind[oi]) ?_;rintro⟨p,f⟩ (D:f.length<=1000000000000);refine NH (let a:=γf .i64;let d:=(0:Int);let g:=γv .i64;let v:=decide (nW p≠d);let e:=a (gZ p f);let q:=(↑f.length:Int);let r:=decide (q≠(↑p.bj.length:Int));let n:=Ψ (ew.i .i64) f;let c:=(↑f.length:Int);let o:=a c;let w:=g 0;let m:=iZ.cells (cj.ss p) 27 20 false;True/\(v=true->(a (nW p)).bi e)/\(v=false->(r=true->(g 3).bi e)/\(r=false->(((n.bi n/\(a q).bi o/\w.bi (a 0)/\True)/\m.bi m/\True)/\(d<=d/\d<=c)/\iW []=true)/\∀(x:Int),let s:=bN f x.toNat d;let l:=decide (s<(-1:Int));let j:=decide ((1:Int)<s);let b:=x+(1:Int);let k:=a b;(d<=x/\x<=c)/\iW (Γ x.toNat f)=true->(decide (x<c)=true->d<=x/\x<q/\x.toNat<f.length/\(l=true->(g 4).bi e)/\(l=false->(j=true->(g 4).bi e)/\(j=false->VI .i64 b/\((n.bi n/\o.bi o/\k.bi k/\True)/\m.bi m/\True)/\((d<=b/\b<=c)/\iW (Γ b.toNat f)=true)/\(c - b).toNat<(c - x).toNat)))/\(decide (x<c)=false->w.bi e)))) (by kernel_rfl) ?_;simp only[vcs];refine⟨λh=>by simp[gZ,h],λh=>?_⟩;have F:nW p=0:=Classical.not_not.1 h;refine⟨λy=>by
  grind[gZ],λy=>⟨⟨⟨by omega,by omega⟩,rfl⟩,?_⟩⟩;have u:f.length=p.bj.length:=by omega
 rintro i ⟨⟨A,G⟩,g⟩;refine⟨λt=>?_,λt=>?_⟩
 ·have B:=cE (d:=0) (show i.toNat<f.length by omega);have H:=jj (d:=0) A t;have z:¬(-1<=bN f i.toNat 0/\bN f i.toNat 0<=1)->(4:Int)=gZ p f:=λE=>by
   have:iW f=false:=by
    rw[Bool.eq_false_iff];intro C;have:=χ.1 C _ B;grind
   grind[gZ]
  grind[iW]
 ·rw[show i.toNat=f.length by omega,ψ] at g;grind[gZ]
def fJ (p:cj) (f:List Int):Int:=bJ ((Ao f 1).map (oI p))
theorem wL {p:cj} (c:nW p=0) {f:List Int} {k:Nat} (g:f.length=p.bj.length):0<=fJ p (f.take k)/\fJ p (f.take k)<=160000000:=by
 have a:=cT c;have e:=@rh (f.take k) 1;have h:(f.take k).length<=f.length:=by grind
 have j:=@oq p a ((Ao (f.take k) 1).map (oI p)) λx b=>by
  obtain⟨i,d,rfl⟩:=Ω.1 b;have:=(jQ.1 d).1;exact cE (by omega)
 have l:=a.2.1;grind[fJ]
theorem Ke {p:cj} {f:List Int} {i:Int} (b:0<=i) (a:i<f.length):fJ p (f.take (i+1).toNat)=fJ p (f.take i.toNat)+if bN f i.toNat 0=1 then(oI p i).value else 0:=by
 unfold fJ;rw[wM b a,γa,mY];grind[bJ]
def iV (p:cj) (f:List Int):Lp:=((bQ p f).cost,(bP (mF p)).map λr=>((Ao f 0).map λi=>((dv p r (oI p i):Int):Rat),((cB p r - bZ p ((Ao f 1).map (oI p)) r:Int):Rat)))
theorem zG {p:cj} {f:List Int}:j_ (iV p f)=bQ p f:=by
 simp_all[j_,iV,bQ,bP]
def kO (p:cj) (f:List Int) (j:Nat):List NG:=fL (((Ao f 0).take j).map λi=>(((oI p i).value:Int):Rat))
def lZ (p:cj) (f:List Int) (r:Int) (j:Nat):List NG:=fL (((Ao f 0).take j).map λi=>((dv p r (oI p i):Int):Rat))
def lY (p:cj) (f:List Int) (k:Nat):List (List NG×NG):=(bP k).map λr=>(lZ p f r (Ao f 0).length,nf ((cB p r - bZ p ((Ao f 1).map (oI p)) r:Int):Rat))
theorem Kd {p:cj} {f:List Int}:kO p f (Ao f 0).length=(gB (iV p f)).1:=by
 unfold kO;rw[ψ];rfl
theorem Kc {p:cj} {f:List Int}:lY p f (mF p)=(gB (iV p f)).2:=by
 simp_all[lY,gB,iV,lZ]
theorem Dr {p:cj} {f:List Int} {j:Nat} (h:j<=(Ao f 0).length):(kO p f j).length=j:=by
 grind[kO,eA]
theorem Kb {p:cj} {f:List Int} {r:Int} {j:Nat} (h:j<=(Ao f 0).length):(lZ p f r j).length=j:=by
 grind[lZ,eA]
theorem Ka {p:cj} {f:List Int} {k:Nat}:(lY p f k).length=k:=by
 grind[lY,eY]
theorem J_ {l m:List Rat}:fL (l++m)=fL l++fL m:=γa
theorem TS {p:cj} {f:List Int} {j:Int} (a:0<=j) (h:j<(Ao f 0).length):kO p f (j+1).toNat=kO p f j.toNat++[nf (((oI p (bN (Ao f 0) j.toNat 0)).value:Int):Rat)]:=by
 unfold kO;rw[jj (d:=0) a h,γa,J_];rfl
theorem TR {p:cj} {f:List Int} {r j:Int} (a:0<=j) (h:j<(Ao f 0).length):lZ p f r (j+1).toNat=lZ p f r j.toNat++[nf ((dv p r (oI p (bN (Ao f 0) j.toNat 0)):Int):Rat)]:=by
 unfold lZ;rw[jj (d:=0) a h,γa,J_];rfl
theorem TQ {p:cj} {f:List Int} {r:Int} (a:0<=r):lY p f (r+1).toNat=lY p f r.toNat++[(lZ p f r (Ao f 0).length,nf ((cB p r - bZ p ((Ao f 1).map (oI p)) r:Int):Rat))]:=by
 unfold lY;rw[show(r+1).toNat=r.toNat+1 by omega,ob,γa,show((r.toNat:Nat):Int)=r by omega];rfl
def fZ (p:cj) (f:List Int):Bool:=fj p ((Ao f 1).map (oI p))
def lr (p:cj) (f:List Int):List NG×(List (List NG×NG)×List Int):=if fZ p f=true then((gB (iV p f)).1,((gB (iV p f)).2,Ao f 0)) else([],([],[]))
theorem TO {p:cj} {f:List Int} (h:dV p f):wN (iV p f):=by
 have a:=cT h.1;have c:(iV p f).1.length=nF f:=by
  show((Ao f 0).map _).length=_;simp_all
 have b:(iV p f).2.length=mF p:=by
  show((bP (mF p)).map _).length=_;grind[eY]
 have g:=@rh f 0;have i:mF p=p.bk.length+12:=rfl;refine⟨?_,?_,?_,?_,?_⟩;·rw[c];have:=h.2.1;have:=a.2.1;grind
 ·rw[b];have:=a.1;omega
 ·grind[zG,zO]
 ·grind[zG,Dy]
 ·rw[c,b,zG];exact⟨_,λx z d e=>LK h d e⟩
theorem TK {p:cj} {f:List Int}:lI (iV p f)=cG p f:=by
 have b:(iV p f).1.length=nF f:=by
  show((Ao f 0).map _).length=_;simp_all
 have a:(iV p f).2.length=mF p:=by
  show((bP (mF p)).map _).length=_;grind[eY]
 grind[lI,cG,zG]
noncomputable def jh (p:cj) (f:List Int) (k:Nat):List Rat:=(bP f.length).map λi=>if bN f i.toNat 0=1 then 1 else if i∈(Ao f 0).take k then bN (fm (cG p f) (nF f) (mF p)) ((Ao f 0).idxOf i) 0 else 0
noncomputable def gY (p:cj) (f:List Int):Rat:=((fJ p f:Int):Rat)+(cG p f).value
noncomputable def gu (p:cj) (f:List Int):List Rat:=ix (cG p f) (nF f) (mF p) (nF f)
theorem uG {p:cj} {f:List Int} {k:Nat}:(jh p f k).length=f.length:=by
 grind[jh,eY]
theorem zF {p:cj} {f:List Int} {k i:Nat} (h:i<f.length):bN (jh p f k) i 0=if bN f i 0=1 then 1 else if(i:Int)∈(Ao f 0).take k then bN (fm (cG p f) (nF f) (mF p)) ((Ao f 0).idxOf (i:Int)) 0 else 0:=by
 unfold jh;rw[DB (e:=0) (by grind[eY]),DA h,γm]
theorem TJ {l m:List Rat} (a:l.length=m.length) (h:∀i,i<m.length->bN l i 0=bN m i 0):l=m:=γ8 a λi b c=>by
 grind[b_]
theorem TI {p:cj} {f:List Int} {k:Nat} (b:k<nF f):(jh p f k).set (bN (Ao f 0) k 0).toNat (bN (fm (cG p f) (nF f) (mF p)) k 0)=jh p f (k+1):=by
 have g:=jQ.1 (cE (d:=0) b);refine TJ (by grind[uG]) λi a=>?_;rw[uG] at a;have c:(Ao f 0).idxOf (bN (Ao f 0) k 0)=k:=nz (ri.imp λh=>by omega) b;have e:(Ao f 0).take (k+1)=(Ao f 0).take k++[bN (Ao f 0) k 0]:=by simp_all[b_]
 rw[gC (by grind[uG]),zF a,zF a,e];grind
theorem TH {p:cj} {f:List Int} {i:Nat} (h:i<f.length):bN (jh p f 0) i 0=if bN f i 0=1 then 1 else 0:=by
 grind[zF]
def jb (p:cj) (f:List Int):Bool:=decide (gZ p f=0)&&fZ p f
noncomputable def js (p:cj) (f:List Int):NG:=if jb p f=true then nf (gY p f) else(false,([],[]))
noncomputable def oW (p:cj) (f:List Int):List NG:=if jb p f=true then fL (gu p f) else[]
noncomputable def jI (p:cj) (f:List Int):List NG:=if jb p f=true then fL (jh p f (nF f)) else[]
noncomputable def TG (p:cj) (f:List Int):SV:=.agg [.sb (jb p f),.sb (js p f).1,.row (.i .u32) (js p f).2.1,.row (.i .u32) (js p f).2.2,.row sF (oW p f),.row sF (jI p f)]
theorem Dq {t:List Int} {g:Int->Int}:∀{l:List Int},((l.filter λx=>decide (x∈t)).map g).sum=(l.map λx=>if x∈t then g x else 0).sum
 |[]=>rfl
 |x::l=>by
  simp only[List.filter_cons,π,ε1];by_cases h:x∈t;·rw[if_pos (decide_eq_true h),if_pos h,π,ε1,Dq]
  ·rw[if_neg (by simpa using h),if_neg h,Dq];omega
theorem Dp {t:List Int} {g:Int->Int}:∀{l:List Int},kR (λx=>((g x:Int):Rat)*(if x∈t then 1 else 0)) l=(((l.map λx=>if x∈t then g x else 0).sum:Int):Rat)
 |[]=>rfl
 |x::l=>by
  have:=@Dp t g l;simp only[kR,this,π,ε1,Rat.intCast_add];congr 1;split<;>simp_all
theorem Do {p:cj}:∀{l:List Int},bJ (l.map (oI p))=(l.map λi=>(oI p i).value).sum
 |[]=>rfl
 |x::l=>by
  have:=@Do p l;grind[bJ]
section
variable {p:cj} {f t:List Int}
theorem J9 (k:iW f=true) (u:f.length=p.bj.length) (e:dO p.bj.length t) (j:∀i∈t,bN f i.toNat 0≠ -1) (r:∀i∈Ao f 1,i∈t) (g:Int->Int):
  (t.map g).sum=((Ao f 1).map g).sum+((Ao f 0).map λx=>if x∈t then g x else 0).sum:=by
 have l:t.Perm (Ao f 1++(Ao f 0).filter λx=>decide (x∈t)):=by
  refine(γ6 (ya e) ?_).2 λx=>?_
  ·rw[γs];refine⟨ri.imp λh=>by omega,(ri.sublist γS).imp λh=>by omega,λa s b o m=>?_⟩;grind[jQ]
  ·rw[γi,List.mem_filter,decide_eq_true_eq];constructor
   ·intro c;have v:=e.2 x c;have q:=j x c;have n:=χ.1 k _ (cE (d:=0) (show x.toNat<f.length by omega));simp only[θ,decide_eq_true_eq] at n;grind[jQ]
   grind
 rw[Lz (l.map g),γa,ζ6,Dq]
theorem s_ (l:List Int) (r:Int):bZ p (l.map (oI p)) r=(l.map λi=>dv p r (oI p i)).sum:=by
 unfold bZ;rw[γ5];rfl
theorem Hr (h:dV p f) (s:iW f=true) (z:dO p.bj.length t) (a:fj p (t.map (oI p))=true) (u:∀i∈t,bN f i.toNat 0≠ -1) (A:∀i∈Ao f 1,i∈t):((bJ (t.map (oI p)):Int):Rat)<=gY p f:=by
 obtain⟨l,E,r⟩:=mA h;have d:∀g:Int->Int,Oq (nF f) (λj=>((g (bN (Ao f 0) j 0):Int):Rat)*(if bN (Ao f 0) j 0∈t then(1:Rat) else 0))=(((t.map g).sum - ((Ao f 1).map g).sum:Int):Rat):=λg=>by
  have e:=@oZ (λx=>((g x:Int):Rat)*(if x∈t then(1:Rat) else 0)) (Ao f 0);rw[Dp] at e;rw[J9 s h.2.1 z u A g];grind
 have q:=asg_holds (n:=nF f) (m:=mF p) (t:=bQ p f) ko oX (y:=λj=>if bN (Ao f 0) j 0∈t then(1:Rat) else 0);have B:(bQ p f).value+Oq (nF f) (λj=>(bQ p f).cs j*(if bN (Ao f 0) j 0∈t then(1:Rat) else 0))=((bJ (t.map (oI p)) - fJ p f:Int):Rat):=by
  grind[bQ,cW,wP,fJ,Do]
 rw[B] at q;have o:∀v∈(bQ p f).basic++(bQ p f).free,0<=iB (nF f) (bQ p f) (λj=>if bN (Ao f 0) j 0∈t then(1:Rat) else 0) v:=λv b=>by
  rcases γi.1 b with b|b
  ·obtain⟨i,k,rfl⟩:=v8 ko b;rw[l_ ko oX k,uO k,cW (g:=λj=>((dv p i (oI p (bN (Ao f 0) j 0)):Int):Rat)*(if bN (Ao f 0) j 0∈t then(1:Rat) else 0)) λj c=>by rw[vU k c],d λx=>dv p i (oI p x),<-s_,<-s_];have C:=m_.1 a i (by grind[cr]);have w:0<=(cB p i - bZ p ((Ao f 1).map (oI p)) i) - (bZ p (t.map (oI p)) i - bZ p ((Ao f 1).map (oI p)) i):=by omega
   have D:=zM w;simp_all
  grind[sJ,ko,lz,oX]
 have:=l.IQ r q λj c=>o _ (l.perm.mem_iff.1 (List.mem_append_right _ (sK l.wf c)));grind[gY]
end
theorem J8 {t:Tb} {n j:Nat} (b:j<n):∀{k:Nat},(∀i,i<k->0<=t.bv i)->(∃i,i<k/\t.bv i=j/\bN (fm t n k) j 0=t.bd i)\/((∀i,i<k->t.bv i≠j)/\bN (fm t n k) j 0=0)
 |0,_=> .inr ⟨λi a=>by omega,by
   grind[fm,b_]⟩
 |k+1,h=>by
  have e:=h k (by omega);have d:=@J8 t n j b k λi a=>h i (by omega);unfold fm;by_cases c:t.bv k<n
  ·rw[if_pos c,gC (by grind[zL])];grind
  grind
theorem J7 {t:Tb} {n m r:Nat} (a:r<m):∀{k:Nat},(∃j,j<k/\t.fv j=((n+r:Nat):Int)/\bN (ix t n m k) r 0= -(t.cs j))\/((∀j,j<k->t.fv j≠((n+r:Nat):Int))/\bN (ix t n m k) r 0=0)
 |0=> .inr ⟨λi d=>by omega,by
   grind[ix,b_]⟩
 |k+1=>by
  have c:=@J7 t n m r a k;unfold ix;by_cases b:(n:Int)<=t.fv k/\t.fv k<n+m
  ·rw[if_pos b,gC (by grind[zK])];grind
  grind
theorem J6 {n m:Nat} {t:Tb} (h:t.WF n m) (c:(t.basic++t.free).Nodup) {j:Nat} (a:j<n):dD t (t.fv j)=t.cs j:=by
 have b:j<t.free.length:=by rw[h.free];exact a
 unfold dD;rw[if_pos (sK h a),show t.free.idxOf (t.fv j)=j from nz (γs.1 c).2.1 b]
theorem TF {n m:Nat} {t:Tb} (h:t.WF n m) (b:(t.basic++t.free).Nodup) {j:Nat} (a:j<m):dD t (t.bv j)=0:=by
 unfold dD;rw[if_neg (EO h b a)]
section
variable {p:cj} {f:List Int}
noncomputable def n_ (p:cj) (f:List Int):Int->Rat:=iB (nF f) (cG p f) λ_=>0
theorem optX_holds (h:dV p f):(bQ p f).holds (nF f) (mF p) (n_ p f) (cG p f).value:=by
 obtain⟨a,_,_⟩:=mA h;have b:=asg_holds a.wf a.fo (y:=λ_=>0);rw[cW (g:=λ_=>0) λj _=>by grind,gP] at b;have c:=(a.sol _ _).1 b;rwa [show(cG p f).value+0=(cG p f).value by grind] at c
theorem Dn (h:dV p f) {i:Nat} (b:i<mF p):n_ p f ((cG p f).bv i)=(cG p f).bd i:=by
 obtain⟨a,_,_⟩:=mA h;unfold n_;rw[l_ a.wf a.fo b,cW (g:=λ_=>0) λj _=>by grind,gP];grind
theorem Dm (h:dV p f) {j:Nat} (b:j<nF f):n_ p f ((cG p f).fv j)=0:=by
 obtain⟨a,_,_⟩:=mA h;unfold n_;rw[lz a.wf a.fo b]
theorem zE (h:dV p f) {v:Int} (a:v∈(bQ p f).basic++(bQ p f).free):(∃i,i<mF p/\(cG p f).bv i=v)\/∃j,j<nF f/\(cG p f).fv j=v:=by
 obtain⟨b,_,_⟩:=mA h;rw[<-b.perm.mem_iff,γi] at a;rcases a with a|a;·exact .inl (v8 b.wf a)
 ·exact .inr (sJ b.wf a)
theorem Dl (h:dV p f) {v:Int} (c:v∈(bQ p f).basic++(bQ p f).free):0<=n_ p f v:=by
 obtain⟨_,b,_⟩:=mA h;rcases zE h c with⟨i,a,rfl⟩|⟨j,d,rfl⟩
 ·rw[Dn h a];exact b i a
 grind[Dm]
theorem Dk {j:Nat} (a:j<nF f):(j:Int)∈(bQ p f).basic++(bQ p f).free:=by
 have:=sK (n:=nF f) (m:=mF p) (t:=bQ p f) ko a;grind[sC]
theorem TE (h:dV p f) {i:Nat} (b:i<mF p):0<=(cG p f).bv i:=by
 obtain⟨a,_,_⟩:=mA h;have c:=a.perm.mem_iff.1 (εp _ (wX a.wf b));grind[v8,ko,zQ,sJ,sC]
theorem TD (h:dV p f) {j:Nat} (c:j<nF f):bN (fm (cG p f) (nF f) (mF p)) j 0=n_ p f j:=by
 rcases @J8 (cG p f) (nF f) j c (mF p) λi b=>TE h b with⟨i,d,a,g⟩|⟨d,a⟩;·grind[Dn]
 ·rw[a];rcases zE h (Dk c) with⟨i,b,e⟩|⟨k,l,e⟩<;>grind[zE,Dk,Dm]
theorem TC (h:dV p f) {j:Nat} (a:j<nF f):n_ p f j<=1:=by
 have:=LL h (optX_holds h) (λv b=>Dl h b) a;grind[sC]
theorem J5 (h:dV p f):(∀i,i<mF p->Sz 1000 ((cG p f).bd i))/\(∀j,j<nF f->Sz 1000 ((cG p f).cs j))/\Sz 1000 (cG p f).value:=have a:=(zO h).IS (mA h).1;⟨a.1,a.2.1,a.2.2.1⟩
theorem Dj (q:Rat) (h:q=0\/q=1):Sz 1000 q:=by
 have a:Sz 1 q:=by rcases h with rfl|rfl<;>exact⟨by decide,by decide⟩
 exact a.mono (by omega)
theorem TB (h:dV p f) {v:Int} (a:v∈(bQ p f).basic++(bQ p f).free):Sz 1000 (n_ p f v):=by
 grind[zE,Dn,J5,Dm,Dj]
noncomputable def cN (p:cj) (f:List Int):List Rat:=jh p f (nF f)
theorem py:(cN p f).length=f.length:=uG
theorem wK (h:dV p f) (c:iW f=true) {i:Nat} (b:i<f.length):(bN f i 0=1/\bN (cN p f) i 0=1)\/(bN f i 0= -1/\bN (cN p f) i 0=0)\/(bN f i 0=0/\(i:Int)∈Ao f 0/\(Ao f 0).idxOf (i:Int)<nF f/\bN (cN p f) i 0=n_ p f ((Ao f 0).idxOf (i:Int))):=by
 have g:=χ.1 c _ (cE (d:=0) b);simp only[θ,decide_eq_true_eq] at g;unfold cN;rw[zF b,ψ];rcases(show bN f i 0=1\/bN f i 0= -1\/bN f i 0=0 by omega) with a|a|a;·simp_all
 ·simp_all[jQ]
 ·have e:(i:Int)∈Ao f 0:=jQ.2 ⟨by omega,by simp_all⟩;have j:(Ao f 0).idxOf (i:Int)<nF f:=εk e;simp_all[TD]
theorem zD (h:dV p f) (a:iW f=true) {i:Nat} (b:i<f.length):0<=bN (cN p f) i 0/\bN (cN p f) i 0<=1/\Sz 1000 (bN (cN p f) i 0):=by
 rcases wK h a b with⟨_,e⟩|⟨_,e⟩|⟨_,_,c,e⟩;all_goals grind[Dj,Dl,Dk,TC,TB]
theorem qJ (h:dV p f) (c:iW f=true) {i:Nat} (b:i<f.length) (d:0<bN (cN p f) i 0) (a:bN (cN p f) i 0<1):bN f i 0=0:=by
 grind[wK]
def dL (x:List Rat):List Int:=(bP x.length).filter λi=>decide (0<bN x i.toNat 0)
theorem uF {x:List Rat} {i:Int}:i∈dL x↔(0<=i/\i<x.length)/\0<bN x i.toNat 0:=by
 simp_all[dL,iF]
theorem J4 {x:List Rat}:dO x.length (dL x):=⟨pD.sublist γS,λi a=>(uF.1 a).1⟩
def lq (x:List Rat):Bool:=x.all λq=>decide (q.den=1)
theorem TA {q:Rat} (h:q.den=1):q=(q.num:Rat):=by
 grind[Rat.mkRat_self,Rat.mkRat_one]
theorem Tz {q:Rat} (c:q.den=1) (b:0<=q) (a:q<=1):q=0\/q=1:=by
 rw[TA c] at b a ⊢;have f:0<=q.num:=by exact_mod_cast b
 have d:q.num<=1:=by exact_mod_cast a
 rcases(show q.num=0\/q.num=1 by omega) with e|e<;>simp_all
theorem Ty {t:List Int} (a:iW f=true) (c:f.length=p.bj.length) (h:dO p.bj.length t) (b:∀i∈t,bN f i.toNat 0≠ -1) (d:∀i∈Ao f 1,i∈t) (g:Int->Int):Oq (nF f) (λj=>((g (bN (Ao f 0) j 0):Int):Rat)*(if bN (Ao f 0) j 0∈t then(1:Rat) else 0))=(((t.map g).sum - ((Ao f 1).map g).sum:Int):Rat):=by
 have e:=@oZ (λx=>((g x:Int):Rat)*(if x∈t then(1:Rat) else 0)) (Ao f 0);rw[Dp] at e;rw[J9 a c h b d g];grind
theorem J3 (h:dV p f) (t:iW f=true) (F:lq (cN p f)=true):fj p ((dL (cN p f)).map (oI p))=true/\((bJ ((dL (cN p f)).map (oI p)):Int):Rat)=gY p f:=by
 have n:=h.2.1;have z:=@py p f;have q:∀i:Nat,i<f.length->bN (cN p f) i 0=0\/bN (cN p f) i 0=1:=λi o=>by
  obtain⟨O,J,_⟩:=zD h t o;have:=χ.1 F _ (cE (d:=0) (show i<(cN p f).length by omega));simp_all[Tz]
 have B:dO p.bj.length (dL (cN p f)):=by
  grind[J4]
 have A:∀i∈dL (cN p f),bN f i.toNat 0≠ -1:=λi x K=>by
  grind[uF,wK]
 have D:∀i∈Ao f 1,i∈dL (cN p f):=λi x=>by
  grind[jQ,uF,wK]
 have G:∀j,j<nF f->(if bN (Ao f 0) j 0∈dL (cN p f) then(1:Rat) else 0)=n_ p f ((bQ p f).fv j):=λj c=>by
  obtain⟨C,L⟩:=uN h c;have E:(Ao f 0).idxOf (bN (Ao f 0) j 0)=j:=nz (ri.imp λh=>by omega) c;have M:((((bN (Ao f 0) j 0).toNat:Nat)):Int)=bN (Ao f 0) j 0:=by omega
  have e:bN (cN p f) (bN (Ao f 0) j 0).toNat 0=n_ p f j:=by
   grind[wK]
  rw[sC c,<-e];rcases q (bN (Ao f 0) j 0).toNat (by omega) with l|l;·simp_all[uF]
  ·rw[l,if_pos];grind[uF]
 obtain⟨v,w⟩:=optX_holds h;have k:=Ty t n B A D;refine⟨m_.2 λy b=>?_,?_⟩
 ·obtain⟨r,m⟩:∃r:Int,r=(y:Int):=⟨_,rfl⟩;rw[<-m] at b ⊢;have I:0<=r:=by omega
  have a:r.toNat<mF p:=by unfold cr at b;grind
  have s:=v r.toNat a;rw[cW (g:=λj=>((dv p r (oI p (bN (Ao f 0) j 0)):Int):Rat)*(if bN (Ao f 0) j 0∈dL (cN p f) then(1:Rat) else 0)) λj c=>by grind[vU],k λi=>dv p r (oI p i),uO a,show((r.toNat:Nat):Int)=r by omega] at s;have N:=Dl h (εp _ (wX ko a));rw[<-s_,<-s_] at s;have l:((bZ p ((dL (cN p f)).map (oI p)) r - bZ p ((Ao f 1).map (oI p)) r:Int):Rat)<=((cB p r - bZ p ((Ao f 1).map (oI p)) r:Int):Rat):=by grind
  have H:bZ p ((dL (cN p f)).map (oI p)) r - bZ p ((Ao f 1).map (oI p)) r<=cB p r - bZ p ((Ao f 1).map (oI p)) r:=by exact_mod_cast l
  omega
 ·have u:(bQ p f).value=0:=rfl;rw[u,cW (g:=λj=>(((oI p (bN (Ao f 0) j 0)).value:Int):Rat)*(if bN (Ao f 0) j 0∈dL (cN p f) then(1:Rat) else 0)) λj c=>by grind[wP],k λi=>(oI p i).value] at w;grind[gY,fJ,Do]
theorem J2 (h:dV p f) {x:Int->Rat} {z:Rat} (l:(bQ p f).holds (nF f) (mF p) x z):z=(cG p f).value+(Oq (mF p) (λk=>dD (cG p f) ((nF f+k:Nat):Int)*x ((nF f+k:Nat):Int))+Oq (nF f) λj=>dD (cG p f) (j:Int)*x (j:Int)):=by
 obtain⟨a,_,_⟩:=mA h;have i:=((a.sol _ _).2 l).2;have m:Oq (nF f) (λj=>(cG p f).cs j*x ((cG p f).fv j))=kR (λv=>dD (cG p f) v*x v) ((cG p f).basic++(cG p f).free):=by
  rw[w8,oZ,oZ,a.wf.basic,a.wf.free];rw[cW (n:=mF p) (g:=λ_=>0) λk b=>by
   show dD (cG p f) ((cG p f).bv k)*x ((cG p f).bv k)=0;rw[TF a.wf a.fo b];grind,gP];rw[cW (n:=nF f) (f:=λk=>dD (cG p f) (bN (cG p f).free k 0)*x (bN (cG p f).free k 0)) (g:=λj=>(cG p f).cs j*x ((cG p f).fv j)) λj e=>by
   show dD (cG p f) ((cG p f).fv j)*x ((cG p f).fv j)=_;rw[J6 a.wf a.fo e]];grind
 have d:kR (λv=>dD (cG p f) v*x v) ((bQ p f).basic++(bQ p f).free)=Oq (mF p) (λk=>dD (cG p f) ((nF f+k:Nat):Int)*x ((nF f+k:Nat):Int))+Oq (nF f) λj=>dD (cG p f) (j:Int)*x (j:Int):=by
  have c:=@ko p f;rw[w8,oZ,oZ,c.basic,c.free];congr 1
  ·refine cW λk b=>?_;show dD (cG p f) ((bQ p f).bv k)*x ((bQ p f).bv k)=_;rw[zQ b]
  ·refine cW λk b=>?_;show dD (cG p f) ((bQ p f).fv k)*x ((bQ p f).fv k)=_;rw[sC b]
 rw[i,m,EP a.perm,d]
theorem J1 (h:dV p f) {v:Int}:dD (cG p f) v<=0:=by
 obtain⟨d,_,e⟩:=mA h;unfold dD;split
 ·rename_i g;have k:(cG p f).free.idxOf v<nF f:=by rw[<-d.wf.free];grind
  rcases @r_ (cG p f) (nF f) with⟨a,b⟩|⟨c,a,b,i,j⟩<;>grind
 ·decide
theorem zC (h:dV p f) {r:Nat} (g:r<mF p):bN (gu p f) r 0= -(dD (cG p f) ((nF f+r:Nat):Int)):=by
 obtain⟨a,_,_⟩:=mA h;unfold gu;rcases @J7 (cG p f) (nF f) (mF p) r g (nF f) with⟨j,c,b,i⟩|⟨c,b⟩;·rw[i,<-b,J6 a.wf a.fo c]
 ·rw[b];unfold dD;rw[if_neg];·decide
  ·intro d;obtain⟨j,k,e⟩:=sJ a.wf d;simp_all
theorem zB:(gu p f).length=mF p:=zK
theorem Di (h:dV p f) {r:Nat} (a:r<mF p):0<=bN (gu p f) r 0/\Sz 1000 (bN (gu p f) r 0):=by
 obtain⟨c,_,_⟩:=mA h;have d:=@J1 p f h ((nF f+r:Nat):Int);refine⟨by grind[zC],?_⟩;rw[zC h a];refine wT ?_;unfold dD;split
 ·rename_i b;exact(J5 h).2.1 _ (by have:=εk b;rw[c.wf.free] at this;exact this)
 grind[Dj]
theorem KI (h:dV p f):(cG p f).value=Oq (mF p) λr=>bN (gu p f) r 0*(bQ p f).bd r:=by
 have c:=asg_holds (n:=nF f) (m:=mF p) (t:=bQ p f) ko oX (y:=λ_=>0);have a:=J2 h c;have d:(bQ p f).value=0:=rfl;rw[d,cW (n:=nF f) (f:=λj=>(bQ p f).cs j*(λ_=>(0:Rat)) j) (g:=λ_=>0) λj _=>by grind,gP] at a;rw[cW (n:=nF f) (f:=λj=>dD (cG p f) (j:Int)*iB (nF f) (bQ p f) (λ_=>0) (j:Int)) (g:=λ_=>0) λj b=>by
  have e:=lz (n:=nF f) (m:=mF p) (t:=bQ p f) ko oX (y:=λ_=>0) b;grind[sC],gP] at a;rw[cW (n:=mF p) (g:=λk=>(-1:Rat)*(bN (gu p f) k 0*(bQ p f).bd k)) λk i=>by
  have e:=l_ (n:=nF f) (m:=mF p) (t:=bQ p f) ko oX (y:=λ_=>0) i;grind[zQ,gP,zC],sM] at a;grind
theorem Tx (h:dV p f) {j:Nat} (b:j<nF f):(bQ p f).cs j<=Oq (mF p) λr=>bN (gu p f) r 0*(bQ p f).cf r j:=by
 have l:=asg_holds (n:=nF f) (m:=mF p) (t:=bQ p f) ko oX (y:=λi=>if i=j then 1 else 0);have a:=J2 h l;have o:(bQ p f).value=0:=rfl;rw[o,cW (n:=nF f) (f:=λi=>(bQ p f).cs i*(if i=j then(1:Rat) else 0)) (g:=λi=>if i=j then(bQ p f).cs j else 0) λi _=>by
  grind,rk b] at a;rw[cW (n:=nF f) (f:=λi=>dD (cG p f) (i:Int)*iB (nF f) (bQ p f) (λi=>if i=j then 1 else 0) (i:Int)) (g:=λi=>if i=j then dD (cG p f) (j:Int) else 0) λi d=>by
  have e:=lz (n:=nF f) (m:=mF p) (t:=bQ p f) ko oX (y:=λi=>if i=j then(1:Rat) else 0) d;rw[sC d] at e;grind,rk b] at a;rw[cW (n:=mF p) (g:=λk=>bN (gu p f) k 0*(bQ p f).cf k j - bN (gu p f) k 0*(bQ p f).bd k) λk c=>by
  have e:=l_ (n:=nF f) (m:=mF p) (t:=bQ p f) ko oX (y:=λi=>if i=j then(1:Rat) else 0) c;rw[zQ c,cW (g:=λi=>if i=j then(bQ p f).cf k j else 0) λi _=>by
   grind,rk b] at e;grind[zC],E1] at a;grind[KI,J1]
end
abbrev cz:=Int×(Int×(Int×(Int×List NG)))
@[reducible] def Ap:ew:=.pair (.i .i64) (.pair (.i .i64) (.pair (.i .i64) (.pair (.i .i64) (.qE sF))))
def zN:cz:=(0,(0,(0,(0,[]))))
def za:cz:=(3,(0,(0,(0,[]))))
noncomputable def oV (p:cj) (f:List Int):cz:=(1,(0,(0,(0,fL (gu p f)))))
def jg (k o:Int):cz:=(2,(k,(o,(o+1,[]))))
structure cm where
 ch:List Int
 val:Int
 bp:Bool
 bq:List cz
 err:Int
def dp (b:Int->Bool) (s:cm) (a:bB):cm:=if s.val<a.value then⟨a.bn,a.value,s.bp||b a.value,s.bq,s.err⟩ else s
def lp (q:Rat):Rat:=if q<0 then -q else q
def iz (x:List Rat):Nat->Option (Int×Rat)
 |0=>none
 |k+1=>if 0<bN x k 0/\bN x k 0<1 then(match iz x k with
   |none=>some ((k:Int),lp (bN x k 0 - 1 / 2))
   |some (i,l)=>if lp (bN x k 0 - 1 / 2)<l then some ((k:Int),lp (bN x k 0 - 1 / 2)) else some (i,l)) else iz x k
def iN (x:List Rat):Option Int:=(iz x x.length).map (·.1)
theorem Dh {x:List Rat}:∀{k:Nat} {i:Int} {l:Rat},iz x k=some (i,l)->(0<=i/\i<k)/\(0<bN x i.toNat 0/\bN x i.toNat 0<1)/\l=lp (bN x i.toNat 0 - 1 / 2)
 |0,i,l,h=>by cases h;|k+1,i,l,h=>by
  unfold iz at h;have b:some ((k:Int),lp (bN x k 0 - 1 / 2))=some (i,l)->(0<bN x k 0/\bN x k 0<1)->(0<=i/\i<((k+1:Nat):Int))/\(0<bN x i.toNat 0/\bN x i.toNat 0<1)/\l=lp (bN x i.toNat 0 - 1 / 2):=λh f=>by
   grind
  have a:iz x k=some (i,l)->(0<=i/\i<((k+1:Nat):Int))/\(0<bN x i.toNat 0/\bN x i.toNat 0<1)/\l=lp (bN x i.toNat 0 - 1 / 2):=λh=>by
   obtain⟨c,d,e⟩:=Dh h;grind
  grind
theorem KH {x:List Rat}:∀{k:Nat},iz x k=none->∀i,i<k->¬(0<bN x i 0/\bN x i 0<1)
 |0,_,i,a=>by omega;|k+1,h,i,a=>by
  unfold iz at h;split at h;·grind
  ·rename_i b;by_cases e:i=k;·simp_all
   ·exact KH h i (by omega)
theorem qI {x:List Rat} {k:Int} (h:iN x=some k):(0<=k/\k<x.length)/\0<bN x k.toNat 0/\bN x k.toNat 0<1:=by
 unfold iN at h;obtain⟨⟨i,l⟩,b,a⟩:=Option.map_eq_some_iff.1 h;simp only at a;subst a;obtain⟨c,d,_⟩:=Dh b;simp_all
theorem T_ {x:List Rat} (h:iN x=none):∀i,i<x.length->¬(0<bN x i 0/\bN x i 0<1):=KH (Option.map_eq_none_iff.1 h)
noncomputable def nv (p:cj) (f:List Int):bB:=⟨dL (cN p f),bJ ((dL (cN p f)).map (oI p))⟩
noncomputable def cC (p:cj) (a:Int->Bool) (s:cm) (f:List Int):cm:=if((s.val+1:Int):Rat)<=gY p f/\lq (cN p f)=true then dp a s (nv p f) else s
def fH (s:cm) (a k:Int):cm:={s with bq:=(s.bq++[zN,zN]).set a.toNat (jg k s.bq.length)}
noncomputable def ez (p:cj) (en:Int->Bool) (bz:Int) (b:cm->Int->List Int->cm) (s:cm) (a:Int) (f:List Int):cm:=
 if s.err≠0\/s.bp=true then s
 else if fZ p f=false then {s with bq:=s.bq.set a.toNat za}
 else if gY p f<(((cC p en s f).val+1:Int):Rat) then {cC p en s f with bq:=(cC p en s f).bq.set a.toNat (oV p f)}
 else match iN (cN p f) with
  |none=>{cC p en s f with err:=12}
  |some k=>if bz<(cC p en s f).bq.length+2 then {cC p en s f with err:=12}
   else b (b (fH (cC p en s f) a k) ((cC p en s f).bq.length+1) (f.set k.toNat 1)) (cC p en s f).bq.length (f.set k.toNat (-1))
noncomputable def cQ (p:cj) (b:Int->Bool) (a:Int):Nat->cm->Int->List Int->cm
 |0=>ez p b a λs _ _=>s
 |n+1=>ez p b a (cQ p b a n)
structure dN (p:cj) (f:List Int):Prop where
 c:nW p=0
 l:f.length=p.bj.length
 r:iW f=true
theorem dN.ok {p:cj} {f:List Int} (h:dN p f) (a:fZ p f=true):dV p f:=⟨h.c,h.l,a⟩
theorem dN.e {p:cj} {f:List Int} (h:dN p f):gZ p f=0:=by
 unfold gZ;rw[if_neg (by simp[h.c]),if_neg (by simp[h.l]),if_pos h.r]
theorem dN.jb {p:cj} {f:List Int} (h:dN p f):jb p f=fZ p f:=by
 unfold Go.Vi.jb;rw[h.e];simp
theorem KG {f:List Int} {k:Nat} {d:Int} (h:iW f=true) (a: -1<=d/\d<=1):iW (f.set k d)=true:=by
 grind[iW]
theorem dN.set {p:cj} {f:List Int} (h:dN p f) {k:Nat} {d:Int} (a: -1<=d/\d<=1):dN p (f.set k d):=⟨h.c,by rw[Φ];exact h.l,KG h.r a⟩
theorem kN {f:List Int} {k d:Int} (i:0<=k/\k<f.length) (l:bN f k.toNat 0=0) (g:d≠0):nF f=nF (f.set k.toNat d)+1:=by
 have c:(Ao f 0).Perm (k::Ao (f.set k.toNat d) 0):=by
  refine(γ6 (ri.imp λh=>by omega) ?_).2 λx=>?_
  ·rw[List.nodup_cons];refine⟨λj=>?_,ri.imp λh=>by omega⟩;simp_all[jQ,gC]
  ·rw[List.mem_cons,jQ,jQ,Φ];constructor
   ·rintro⟨a,b⟩;by_cases e:x=k;·exact .inl e
    ·exact .inr ⟨a,by rw[gC (by omega),if_neg (by omega)];exact b⟩
   grind[gC]
 have:=c.length_eq;omega
theorem Ag {en:Int->Bool} {s:cm} {a:bB}:(dp en s a).bq=s.bq/\(dp en s a).err=s.err/\s.val<=(dp en s a).val/\((dp en s a).val=s.val\/(dp en s a).val=a.value)/\((dp en s a).ch=s.ch\/(dp en s a).ch=a.bn):=by
 grind[dp]
theorem Af {p:cj} {en:Int->Bool} {s:cm} {f:List Int}:(cC p en s f).bq=s.bq/\(cC p en s f).err=s.err/\s.val<=(cC p en s f).val/\((cC p en s f).val=s.val\/(cC p en s f).val=(nv p f).value)/\((cC p en s f).ch=s.ch\/(cC p en s f).ch=(nv p f).bn):=by
 grind[cC,Ag]
theorem T9 {x:List Rat}:(dL x).length<=x.length:=by
 have:=List.length_filter_le (λi:Int=>decide (0<bN x i.toNat 0)) (bP x.length);rw[eY] at this;exact this
theorem T8 {p:cj} {f:List Int} (b:f.length=p.bj.length):∀x∈(dL (cN p f)).map (oI p),x∈p.bj:=λx a=>by
 obtain⟨i,c,rfl⟩:=Ω.1 a;have:=(uF.1 c).1;rw[py,b] at this;exact cE (by omega)
theorem KF {p:cj} {f:List Int} (h:dN p f):0<=(nv p f).value/\(nv p f).value<=160000000/\(nv p f).bn.length<=160:=by
 have a:=cT h.c;have b:=@oq p a ((dL (cN p f)).map (oI p)) (T8 h.l);have d:=@T9 (cN p f);rw[py,h.l] at d;have e:=a.2.1;rw[Θ] at b;refine⟨b.1,?_,?_⟩
 ·show bJ _<=_;omega
 ·show(dL (cN p f)).length<=160;omega
theorem Dg {p:cj} (a:nW p=0) {c:List Int} (h:dO p.bj.length c):bR p c=0↔fj p (c.map (oI p))=true:=by
 simp_all[vD,dW,cF,bR]
theorem uE {p:cj} (a:nW p=0) {c:List Int} (h:dO p.bj.length c):cA p c=bJ (c.map (oI p)):=by
 simp_all[cF,vD,cA]
theorem px {p:cj} {en:Int->Bool} {bz:Int}:∀{n:Nat} {s:cm} {a:Int} {f:List Int},dN p f->s.bq.length<=(cQ p en bz n s a f).bq.length/\((cQ p en bz n s a f).bq.length<=bz\/(cQ p en bz n s a f).bq.length=s.bq.length)/\s.val<=(cQ p en bz n s a f).val/\((cQ p en bz n s a f).val=s.val\/(cQ p en bz n s a f).val<=160000000)/\((cQ p en bz n s a f).ch=s.ch\/(cQ p en bz n s a f).ch.length<=160)/\((cQ p en bz n s a f).err=s.err\/(cQ p en bz n s a f).err=12):=by
 have d:∀{b:cm->Int->List Int->cm},(∀{s:cm} {a:Int} {f:List Int},dN p f->s.bq.length<=(b s a f).bq.length/\((b s a f).bq.length<=bz\/(b s a f).bq.length=s.bq.length)/\s.val<=(b s a f).val/\((b s a f).val=s.val\/(b s a f).val<=160000000)/\((b s a f).ch=s.ch\/(b s a f).ch.length<=160)/\((b s a f).err=s.err\/(b s a f).err=12))->
   ∀{s:cm} {a:Int} {f:List Int},dN p f->s.bq.length<=(ez p en bz b s a f).bq.length/\((ez p en bz b s a f).bq.length<=bz\/(ez p en bz b s a f).bq.length=s.bq.length)/\s.val<=(ez p en bz b s a f).val/\((ez p en bz b s a f).val=s.val\/(ez p en bz b s a f).val<=160000000)/\((ez p en bz b s a f).ch=s.ch\/(ez p en bz b s a f).ch.length<=160)/\((ez p en bz b s a f).err=s.err\/(ez p en bz b s a f).err=12):=by
  intro b c s a f h;obtain⟨v,j,E,l,r⟩:=@Af p en s f;obtain⟨H,A,L⟩:=KF h;have w:(cC p en s f).ch=s.ch\/(cC p en s f).ch.length<=160:=r.imp id λh=>by simp_all
  have x:(cC p en s f).val=s.val\/(cC p en s f).val<=160000000:=l.imp id λh=>by omega
  unfold ez;split;·simp_all
  split;·simp_all
  split;·simp_all
  split;·simp_all
  rename_i k J;split;·simp_all
  rename_i o;have F:(fH (cC p en s f) a k).bq.length=s.bq.length+2:=by
   simp_all[fH]
  obtain⟨D,K,u,z,e,t⟩:=@c (fH (cC p en s f) a k) ((cC p en s f).bq.length+1) (f.set k.toNat 1) (h.set (by omega));obtain⟨B,C,G,I,g,M⟩:=@c (b (fH (cC p en s f) a k) ((cC p en s f).bq.length+1) (f.set k.toNat 1)) (cC p en s f).bq.length (f.set k.toNat (-1)) (h.set (by omega));have i:(fH (cC p en s f) a k).val=(cC p en s f).val:=rfl;have m:(fH (cC p en s f) a k).ch=(cC p en s f).ch:=rfl;have q:(fH (cC p en s f) a k).err=(cC p en s f).err:=rfl;rw[v] at o;rw[i] at u z;rw[m] at e;rw[q,j] at t;refine⟨by omega,.inl (by omega),by omega,by omega,?_,?_⟩
  ·rcases g with g|g
   ·rw[g];rcases e with e|e<;>simp_all
   omega
  omega
 intro n;induction n with
 |zero=>exact d λ{s a f} _=>⟨Nat.le_refl _,.inr rfl,Int.le_refl _,.inl rfl,.inl rfl,.inl rfl⟩;|succ n y=>exact d λh=>y h
inductive iq (p:cj) (v:Int) (t:List cz):Nat->List Int->Nat->Nat->Prop
 |dZ {a:Nat} {f:List Int} {lo:Nat}:t[a]?=some (oV p f)->fZ p f=true->gY p f<((v+1:Int):Rat)->iq p v t a f lo lo
 |j9 {a:Nat} {f:List Int} {lo:Nat}:t[a]?=some za->fZ p f=false->iq p v t a f lo lo
 |bra {a:Nat} {f:List Int} {lo mid hi:Nat} {k:Int}:t[a]?=some (jg k lo)->a<lo->(0<=k/\k<f.length)->bN f k.toNat 0=0->iq p v t (lo+1) (f.set k.toNat 1) (lo+2) mid->iq p v t lo (f.set k.toNat (-1)) mid hi->iq p v t a f lo hi
section
variable {p:cj} {v v':Int} {t t':List cz} {a lo hi:Nat} {f:List Int}
theorem iq.le (h:iq p v t a f lo hi):lo<=hi:=by
 induction h with
 |dZ _ _ _=>omega;|j9 _ _=>omega;|bra _ _ _ _ _ _ b c=>omega
theorem iq.mono (h:iq p v t a f lo hi) (q:v<=v') (e:∀i,i=a\/(lo<=i/\i<hi)->t'[i]?=t[i]?):iq p v' t' a f lo hi:=by
 induction h with
 |dZ c b d=>
  refine .dZ (by simp_all) b ?_;have:((v+1:Int):Rat)<=((v'+1:Int):Rat):=by exact_mod_cast (show v+1<=v'+1 by omega)
  grind;|j9 c b=>exact .j9 (by simp_all) b;|bra c b d l k g m j=>
  have o:=k.le;have n:=g.le;exact .bra (by simp_all) b d l (m λi hi=>e i (by omega)) (j λi hi=>e i (by omega))
def Ae (f:List Int) (l:List Int):Prop:=(∀i∈l,bN f i.toNat 0≠ -1)/\∀i∈Ao f 1,i∈l
theorem KE {l:List Int} {k d:Int} (g:0<=k/\k<f.length) (m:bN f k.toNat 0=0) (e:∀i∈l,0<=i) (h:Ae f l) (j:(d=1/\k∈l)\/(d= -1/\k∉l)):Ae (f.set k.toNat d) l:=by
 obtain⟨b,c⟩:=h;refine⟨λi a=>?_,λi a=>?_⟩<;>grind[gC,jQ]
theorem T7 {l m:List Int} (e:nW p=0) (f:∀i∈l,0<=i/\i<p.bj.length) (q:m.Nodup) (j:∀i∈m,i∈l) (o:l.Nodup) (h:fj p (l.map (oI p))=true):fj p (m.map (oI p))=true:=by
 refine m_.2 λr b=>?_;have d:=m_.1 h r b;have a:l.Perm (m++l.filter λi=>decide (i∉m)):=by
  grind
 have g:bZ p (l.map (oI p)) r=bZ p (m.map (oI p)) r+bZ p ((l.filter λi=>decide (i∉m)).map (oI p)) r:=by
  rw[s_,s_,s_,Lz (a.map _),γa,ζ6]
 have n:=@qt p r ((l.filter λi=>decide (i∉m)).map (oI p)) λx c=>by
  obtain⟨i,k,rfl⟩:=Ω.1 c;simp_all[jP]
 omega
theorem iq.sound (h:iq p v t a f lo hi) (e:dN p f) {l:List Int} (d:dO p.bj.length l) (b:fj p (l.map (oI p))=true) (g:Ae f l):bJ (l.map (oI p))<=v:=by
 induction h with
 |dZ o n m=>
  have j:=Hr (e.ok n) e.r d b g.1 g.2;have s:((bJ (l.map (oI p)):Int):Rat)<((v+1:Int):Rat):=by grind
  have u:bJ (l.map (oI p))<v+1:=by exact_mod_cast s
  omega;|j9 o n=>
  exfalso;have:=T7 e.c d.2 (ri.imp λh=>by omega) g.2 (ya d) b;grind[fZ];|@bra a f lo y hi k o n m j s u x w=>
  by_cases q:k∈l;·exact x (e.set (by omega)) (KE m j (λi hi=>(d.2 i hi).1) g (.inl ⟨rfl,q⟩))
  ·exact w (e.set (by omega)) (KE m j (λi hi=>(d.2 i hi).1) g (.inr ⟨rfl,q⟩))
end
theorem KD {p:cj} {en:Int->Bool} {bz:Int}:∀{n:Nat} {s:cm} {a:Int} {f:List Int},dN p f->nF f<=n->(0<=a/\a<s.bq.length)->(cQ p en bz n s a f).err=0->(cQ p en bz n s a f).bp=false->
  iq p (cQ p en bz n s a f).val (cQ p en bz n s a f).bq a.toNat f s.bq.length (cQ p en bz n s a f).bq.length/\(∀i:Nat,i<s.bq.length->i≠a.toNat->(cQ p en bz n s a f).bq[i]?=s.bq[i]?)/\s.err=0/\s.bp=false:=by
 have y:∀{b:cm->Int->List Int->cm} {s:cm} {a:Int} {f:List Int},dN p f->(0<=a/\a<s.bq.length)->
   (∀{s:cm} {a:Int} {g:List Int},dN p g->nF f=nF g+1->(0<=a/\a<s.bq.length)->s.bq.length<=(b s a g).bq.length/\s.val<=(b s a g).val/\((b s a g).err=0->(b s a g).bp=false->iq p (b s a g).val (b s a g).bq a.toNat g s.bq.length (b s a g).bq.length/\(∀i:Nat,i<s.bq.length->i≠a.toNat->(b s a g).bq[i]?=s.bq[i]?)/\s.err=0/\s.bp=false))->
   (ez p en bz b s a f).err=0->(ez p en bz b s a f).bp=false->iq p (ez p en bz b s a f).val (ez p en bz b s a f).bq a.toNat f s.bq.length (ez p en bz b s a f).bq.length/\(∀i:Nat,i<s.bq.length->i≠a.toNat->(ez p en bz b s a f).bq[i]?=s.bq[i]?)/\s.err=0/\s.bp=false:=by
  intro b s a f t C q e c;obtain⟨D,e2,e3,e4,e5⟩:=@Af p en s f;have B:a.toNat<s.bq.length:=by omega
  unfold ez at e c ⊢;split at e;·simp_all
  rename_i x;have G:s.err=0/\s.bp=false:=by simpa using x
  rw[if_neg x] at c ⊢;split at e
  ·rename_i m;rw[if_pos m];refine⟨?_,λi u j=>?_,G⟩
   ·rw[Φ];exact .j9 (by simp_all) m
   ·show(s.bq.set a.toNat za)[i]?=_;rw[δr (λh=>j h.symm)]
  rename_i m;rw[if_neg m] at c ⊢;have O:fZ p f=true:=by simpa using m
  split at e
  ·rename_i w;rw[if_pos w];refine⟨?_,λi u j=>?_,G⟩
   ·rw[Φ,D];refine .dZ ?_ O w;simp_all
   ·show((cC p en s f).bq.set a.toNat _)[i]?=_;rw[δr (λh=>j h.symm),D]
  rename_i w;rw[if_neg w] at c ⊢;cases A:iN (cN p f) with
  |none=>simp_all;|some k=>
  rw[A] at e c;simp only at e c ⊢;split at e;·simp at e
  rename_i Q;rw[if_neg Q] at c ⊢;obtain⟨l,K,L⟩:=qI A;rw[py] at l;have v:bN f k.toNat 0=0:=qJ (t.ok O) t.r (by omega) K L;have n1:=kN l v (d:=1) (by omega);have Y:=kN l v (d:= -1) (by omega);have T:dN p (f.set k.toNat 1):=t.set (by omega);have f2:dN p (f.set k.toNat (-1)):=t.set (by omega);have S:(fH (cC p en s f) a k).bq.length=s.bq.length+2:=by
   simp_all[fH]
  rw[D] at e c ⊢;obtain⟨l1,v1,t1⟩:=@q (fH (cC p en s f) a k) ((s.bq.length:Int)+1) (f.set k.toNat 1) T n1 (by omega);generalize R:b (fH (cC p en s f) a k) ((s.bq.length:Int)+1) (f.set k.toNat 1)=I at*;obtain⟨l2,V,Z⟩:=@q I (s.bq.length:Int) (f.set k.toNat (-1)) f2 Y (by omega);generalize X:b I (s.bq.length:Int) (f.set k.toNat (-1))=P at*;obtain⟨N,F,U,w2⟩:=Z e c;obtain⟨J,H,w3,w4⟩:=t1 U w2;have M:∀i:Nat,i<s.bq.length+2->(fH (cC p en s f) a k).bq[i]?=if i=a.toNat then some (jg k s.bq.length) else(s.bq++[zN,zN])[i]?:=λi u=>by
   unfold fH;simp only[D];rw[List.getElem?_set];by_cases h:a.toNat=i;·simp_all
   ·rw[if_neg h,if_neg (λm=>h m.symm)]
  have E:((s.bq.length:Int)).toNat=s.bq.length:=by omega
  have z:((s.bq.length:Int)+1).toNat=s.bq.length+1:=by omega
  rw[E] at N F;rw[z] at J H;rw[S] at J H;have o:∀i:Nat,i<s.bq.length->P.bq[i]?=(fH (cC p en s f) a k).bq[i]?:=λi u=>by rw[F i (by omega) (by omega),H i (by omega) (by omega)]
  refine⟨.bra (k:=k) (mid:=I.bq.length) ?_ B l v ?_ N,λi u j=>?_,G⟩;·rw[o _ B,M _ (by omega),if_pos rfl]
  ·exact J.mono V λi u=>F i (by omega) (by omega)
  ·rw[o i u,M i (by omega),if_neg j,List.getElem?_append_left u]
 intro n;induction n with
 |zero=>
  intro s a f t W C e c;exact y t C (λ{s a g} _ h _=>by omega) e c;|succ n ih=>
  intro s a f t W C e c;refine y t C (λ{s a g} x m w=>?_) e c;have A:=@px p en bz n s a g x;exact⟨A.1,A.2.2.1,λe c=>ih x (by omega) w e c⟩
theorem KC {p:cj} {en:Int->Bool} {bz:Int} {G:List Int->Int->Bool->Prop} (u:∀c w b q w',G c w b->bR p q=0->cA p q=w'->w<w'->G q w' (b||en w')):
  ∀{n:Nat} {s:cm} {a:Int} {f:List Int},dN p f->G s.ch s.val s.bp->G (cQ p en bz n s a f).ch (cQ p en bz n s a f).val (cQ p en bz n s a f).bp:=by
 have k:∀{d:cm->Int->List Int->cm},(∀{s:cm} {a:Int} {f:List Int},dN p f->G s.ch s.val s.bp->G (d s a f).ch (d s a f).val (d s a f).bp)->
   ∀{s:cm} {a:Int} {f:List Int},dN p f->G s.ch s.val s.bp->G (ez p en bz d s a f).ch (ez p en bz d s a f).val (ez p en bz d s a f).bp:=by
  intro d e s a f i j;unfold ez;split;·exact j
  split;·exact j
  rename_i t;have y:fZ p f=true:=by simp_all
  have m:G (cC p en s f).ch (cC p en s f).val (cC p en s f).bp:=by
   unfold cC;split
   ·rename_i A;unfold dp;split
    ·rename_i o;obtain⟨z,B⟩:=J3 (i.ok y) i.r A.2;have g:dO p.bj.length (dL (cN p f)):=by
      have:=@J4 (cN p f);rw[py,i.l] at this;exact this
     refine u _ _ _ _ _ j ?_ ?_ o;·exact(Dg i.c g).2 z
     ·exact uE i.c g
    ·exact j
   ·exact j
  split;·exact m
  split;·exact m
  split;·exact m
  ·exact e (i.set (by omega)) (e (i.set (by omega)) m)
 intro n;induction n with
 |zero=>exact k λ_ h=>h;|succ n x=>exact k λv t=>x v t
theorem two_pow_pos (n:Nat):1<=2^n:=Nat.one_le_two_pow
theorem KB {p:cj} {en:Int->Bool} {bz:Int}:∀{n:Nat} {s:cm} {a:Int} {f:List Int},dN p f->nF f<=n->s.err=0->((s.bq.length+2^(nF f+1):Nat):Int)<=bz+2->(cQ p en bz n s a f).err=0/\(cQ p en bz n s a f).bq.length+2<=s.bq.length+2^(nF f+1):=by
 have l:∀{c:cm->Int->List Int->cm} {s:cm} {a:Int} {f:List Int},dN p f->s.err=0->((s.bq.length+2^(nF f+1):Nat):Int)<=bz+2->
   (∀{s:cm} {a:Int} {g:List Int},dN p g->nF f=nF g+1->s.err=0->((s.bq.length+2^(nF g+1):Nat):Int)<=bz+2->(c s a g).err=0/\(c s a g).bq.length+2<=s.bq.length+2^(nF g+1))->
   (ez p en bz c s a f).err=0/\(ez p en bz c s a f).bq.length+2<=s.bq.length+2^(nF f+1):=by
  intro c s a f b t u C;obtain⟨L,J,T,X,e5⟩:=@Af p en s f;have F:2<=2^(nF f+1):=by grind
  unfold ez;split;·omega
  split;·simp_all
  rename_i E N;have x:fZ p f=true:=by simp_all
  split;·simp_all
  rename_i v;cases A:iN (cN p f) with
  |none=>
   exfalso;apply v;have o:lq (cN p f)=true:=by
    unfold lq;rw[χ];intro q H;obtain⟨i,B,rfl⟩:=γM H;have w:=T_ A i B;obtain⟨M,I,_⟩:=zD (b.ok x) b.r (show i<f.length by grind[py]);rw[b_ B] at w M I;rcases(show(cN p f)[i]=0\/(cN p f)[i]=1 by grind) with e|e<;>simp_all
   obtain⟨Y,K⟩:=J3 (b.ok x) b.r o;have P:((nv p f).value:Rat)=gY p f:=K;by_cases D:((s.val+1:Int):Rat)<=gY p f
   ·have O:s.val<(nv p f).value:=by
     rw[<-P] at D;have:s.val+1<=(nv p f).value:=by exact_mod_cast D
     omega
    have:(cC p en s f).val=(nv p f).value:=by
     simp_all[cC,dp]
    grind
   grind;|some k=>
   simp only;obtain⟨j,z,y⟩:=qI A;rw[py] at j;have m:bN f k.toNat 0=0:=qJ (b.ok x) b.r (by omega) z y;have n1:=kN j m (d:=1) (by omega);have n2:=kN j m (d:= -1) (by omega);have W:dN p (f.set k.toNat 1):=b.set (by omega);have Z:dN p (f.set k.toNat (-1)):=b.set (by omega);have V:(fH (cC p en s f) a k).bq.length=s.bq.length+2:=by
    grind[fH]
   have U:2^(nF f+1)=2^(nF (f.set k.toNat 1)+1)+2^(nF (f.set k.toNat 1)+1):=by
    grind
   have ne:nF (f.set k.toNat (-1))=nF (f.set k.toNat 1):=by omega
   have Q:2<=2^(nF (f.set k.toNat 1)+1):=by omega
   rw[if_neg (by rw[L];omega)];have S:(fH (cC p en s f) a k).err=0:=by show(cC p en s f).err=0;rw[J,t]
   grind
 intro n;induction n with
 |zero=>
  intro s a f b G t u;exact l b t u λ{s a g} _ h _ _=>by omega;|succ n R=>
  intro s a f b G t u;exact l b t u λ{s a g} E N v w=>R E (by omega) v w
end Go.Vi

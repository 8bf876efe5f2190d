/-
  Contracts: pivot.
  Conditions: none.
-/
import Derived.Test.YtgejbpobaicgfaaGreatBX06
import Derived.Test.YtgejbpobaicgfaaGreatBX09
import Derived.Test.YtgejbpobaicgfaaGreatBX10
import Derived.Test.YtgejbpobaicgfaaGreatBX11
import Derived.Test.YtgejbpobaicgfaaGreatBX07
import Derived.Test.YtgejbpobaicgfaaGreatBX08
set_option maxRecDepth 100000
set_option maxHeartbeats 4000000
set_option linter.all false
open Bool renaming and_eq_true->μ
open Go.Vi.AV renaming sl->ζ2,sc->δi,os->ζ6
open Go.Vi.SV renaming si->γa,row->Ξ,ow->γQ,sb->γv,il->γu,ptr->γ5,bl->δe
open Int renaming toNat_natCast->γm
open IntCast renaming intCast->ξ
open List renaming range->Φ,ext_getElem->γ2,getElem_map->δW,replicate->δ,length_map->γs,mem_map->γk,take->ω,length->γb,take_length->τ,all_eq_true->γf,map->γg,length_replicate->γN,map_append->γj,length_set->χ,map_map->δq,flatMap->ζU,elem->ζF,getElem_of_mem->δb,mem_append_left->εr,mem_append->γt,map_cons->ψ,sum_cons->ζs,perm_ext_iff_of_nodup->ε8,nodup_append->γF,filter_sublist->ε5,sum_append->ε0,idxOf_lt_length_of_mem->εm,getElem?_set_ne->δG
open Nat renaming pow_succ->ζV
namespace Go.Vi
open Go.Proofs.YtgejbpobaicgfaaGreat.Ir
open Go.Proofs
def r408:og:=afs 143 (Int×Int) (.cons (sx .i64) (.one (sx .i64))) (λn m t a=>(0<=a.1/\a.1<m)/\(0<=a.2/\a.2<n)/\t.cf a.1.toNat a.2.toNat≠0) (λ_ _ _ _=> .eW []) (λ_ _ t a=>A7 t a.1.toNat a.2.toNat)
def ab6 (l:List Rat) (q:Rat):List Rat:=l.map λx=>x*q
def fC (q:Rat):cJ:=.cells [.sb (cC q).1,.row (.i .u32) (cC q).2.1,.row (.i .u32) (cC q).2.2] 70 3 false
def Kx {a:Type} (f g:Nat->a) (n r i:Nat):List a:=(Φ n).map λk=>if k<i/\k≠r then g k else f k
theorem agI {a:Type} {f g:Nat->a} {n r i:Nat}:(Kx f g n r i).length=n:=by simp[Kx]
theorem axV {a:Type} {l:List a} {g:Nat->a} {r:Nat} {d:a}:Kx (λk=>bC l k d) g l.length r 0=l:=by
 refine γ2 agI λi b c=>?_
 grind[Kx,bC]
theorem axW {a:Type} {f g:Nat->a} {n r i:Nat} {d:a} (h:i<n):bC (Kx f g n r i) i d=f i:=by
 grind[Kx,ac7]
theorem axX {a:Type} {f g:Nat->a} {n r i:Nat} (h:i<n) (d:i≠r):(Kx f g n r i).set i (g i)=Kx f g n r (i+1):=by
 refine γ2 (by simp[Kx]) λk b c=>?_
 grind[Kx]
theorem axY {a:Type} {f g:Nat->a} {n r:Nat}:Kx f g n r (r+1)=Kx f g n r r:=by
 grind[Kx]
theorem axZ {a:Type} {f g:Nat->a} {n r:Nat} {x:a} (h:r<n):(Kx f g n r n).set r x=(Φ n).map λk=>if k=r then x else g k:=by
 refine γ2 (by simp[Kx]) λk b c=>?_
 grind[Kx]
theorem ax0 {l:List (List Rat)} {i:Nat} {x:List Rat}:(fM l).set i (fL x)=fM (l.set i x):=by
 simp_all[fM]
theorem aFY {l:List Rat} {c:Nat} (h:c<l.length):(fL (ab6 l (1 / bC l c 0))).set c (cC (1 / bC l c 0))=fL (Uc l c):=by
 rw[aip]
 congr 1
 refine γ2 (by simp[ab6,Uc]) λk d e=>?_
 have b:k<l.length:=by grind[Uc]
 rw[List.getElem_set];simp only[ab6,Uc,δW,List.getElem_range]
 by_cases a:c=k
 ·simp_all
 ·rw[if_neg a,if_neg λh=>a h.symm,my (i:=k) b]
def XB (t:Tb) (r c i:Nat):Tb:={t with
 jA:=Kx (λk=>bC t.jA k []) (λk=>Sv (bC t.jA k []) c (Uc (bC t.jA r []) c)) t.jA.length r i
 bound:=Kx t.bd (λk=>t.bd k - t.cf k c*(t.bd r*(1 / t.cf r c))) t.bound.length r i}
theorem aFZ {t:Tb} {r c:Nat}:XB t r c 0=t:=by
 unfold XB
 have b:=@axV (List Rat) t.jA (λk=>Sv (bC t.jA k []) c (Uc (bC t.jA r []) c)) r []
 have d:=@axV Rat t.bound (λk=>t.bd k - t.cf k c*(t.bd r*(1 / t.cf r c))) r 0
 have a:Kx t.bd (λk=>t.bd k - t.cf k c*(t.bd r*(1 / t.cf r c))) t.bound.length r 0=t.bound:=d
 rw[b,a]
def aF0 (n m:Int) (t:Tb) (r c:Int):Nat->jY
 |3=> .inv Int (λj=>⟨[(0,.ptr 0 0 10),(1,.si .i64 r),(2,.si .i64 c),(6,.ptr 5 0 3),(8,.ow 6 n.toNat 3),(41,.row sF (fL (bC t.jA r.toNat []))),(42,.si .i64 n),(43,.si .i64 j)],
   (ek n m t).Gu++[fC (1 / t.cf r.toNat c.toNat),.row sF (Ai (fL (ab6 (bC t.jA r.toNat []) (1 / t.cf r.toNat c.toNat))) j.toNat (false,([],[]))) 70 true]⟩)
   (λs=>iS s 43) (λj=>0<=j/\j<=n) (λj=>(n - j).toNat) λ_ _=> .look
 |10=> .inv Int (λi=>⟨[(0,.ptr 0 0 10),(1,.si .i64 r),(2,.si .i64 c),(8,.row sF (fL (Uc (bC t.jA r.toNat []) c.toNat))),(11,.ptr 7 0 3),(72,.si .i64 m),(73,.si .i64 i)],
   (ek n m (XB t r.toNat c.toNat i.toNat)).Gu++[fC (1 / t.cf r.toNat c.toNat),.dead,fC (t.bd r.toNat*(1 / t.cf r.toNat c.toNat))]⟩)
   (λs=>iS s 73) (λj=>0<=j/\j<=m) (λj=>(m - j).toNat) λ_ _=> .look
 |_=> .look
theorem h408:sd Tryz.prog r408:=by
 refine Sj (L:=[r94,amN,amM,r417,ajS]) (W:=[]) r408 (λa=>aF0 a.1.n a.1.m a.1.t a.2.1 a.2.2) (by simp) (by simpa using⟨h94,h416,h410,h417,h129⟩) ?_
 rintro⟨x,r,c⟩ ⟨n,m,t,hx,M,⟨r0,r1⟩,⟨c0,c1⟩,ha⟩
 simp only at hx r0 r1 c0 c1 ha
 subst hx
 refine gp (let a:=γa .i64;let d:=cJ.row;let e:=(0:Int);let f:=Ξ;let g:=γQ;let j:=cJ.cells;let k:=γv;let y:=(1:Int);let L:=sF.dflt;let M:=γu .i64 0;let W:=γ5;let X:=(ek n m t).jA;let a1:=bC X r.toNat sF.fK.dflt;let a4:=cC (ξ y);let ac:=(a4.fst,a4.snd.fst,a4.snd.snd);let aa:=bC a1 c.toNat L;let ab:=(aa.fst,aa.snd.fst,aa.snd.snd);let a0:=(↑(ek n m t).k4:Int);let Y:=W 0 0 10;let a3:=W 5 0 3;let G:=(ek n m t).n;let c2:=g 6 G.toNat 3;let H:=(ek n m t).t;let S:=bC H.jA r.toNat [];let c5:=f sF (fL S);let b3:=a G;let C:=(ek n m t).m;let a8:=a C;let o:=cn.i .u32;let s:=ek G C H;let a6:=j [a s.n,a s.m,g 1 s.k0 1,g 2 s.k1 3,f sF s.cost,k s.v.fst,f o s.v.snd.fst,f o s.v.snd.snd,g 3 s.k3 1,g 4 s.k4 1] 179 10 false;let a5:=d sF.fK s.jA 72 false;let b4:=d sF s.bound 70 false;let A:=cn.i .i64;let a9:=d A s.basic 3 false;let b2:=d A s.free 3 false;let d7:=cC (fa ac / fa ab);let J:=(1:Rat) / H.cf r.toNat c.toNat;let N:=j [k (cC J).fst,f o (cC J).snd.fst,f o (cC J).snd.snd] 70 3 false;let b0:=(false,[],[]);let d1:=fL (ab6 S J);let T:=((cC J).fst,(cC J).snd.fst,(cC J).snd.snd);let b5:=s.bound.length;let d8:=bC s.bound r.toNat L;let f4:=(d8.fst,d8.snd.fst,d8.snd.snd);let V:=fL (Uc S c.toNat);let c6:=f sF V;let b1:=W 7 0 3;let z:=ek G C (XB H r.toNat c.toNat 0);let d5:=cC (fa f4*fa T);let O:=cC (H.bd r.toNat*J);let d6:=j [k O.fst,f o O.snd.fst,f o O.snd.snd] 70 3 false;let U:=(O.fst,O.snd.fst,O.snd.snd);let B:=ek G C (A7 H r.toNat c.toNat);((-9223372036854775808:Int)<=y/\y<=(9223372036854775807:Int))/\(ek n m t).k0=X.length/\e<=r/\r<(↑X.length:Int)/\(ek n m t).k0=X.length/\r.toNat<X.length/\e<=c/\c<(↑a1.length:Int)/\c.toNat<a1.length/\((lT ac/\lT ab)/\fa ab≠(0:Rat))/\e<=a0/\a0<=a0/\a0*(56:Int)<=(140737488355328:Int)/\a0<=(1000000000000:Int)/\(ek n m t).k0=X.length/\e<=r/\r<(↑X.length:Int)/\(ek n m t).k0=X.length/\r.toNat<X.length/\(((Y.same Y/\(a r).same (a r)/\(a c).same (a c)/\a3.same a3/\(g 6 a0.toNat 3).same c2/\(f sF a1).same c5/\(a (↑a1.length:Int)).same b3/\(M).same (a 0)/\True)/\(j [b3,a8,g 1 (ek n m t).k0 1,g 2 (ek n m t).k1 3,f sF (ek n m t).cost,k (ek n m t).v.fst,f o (ek n m t).v.snd.fst,f o (ek n m t).v.snd.snd,g 3 (ek n m t).k3 1,g 4 (ek n m t).k4 1] 179 10 false).same a6/\(d sF.fK X 72 false).same a5/\(d sF (ek n m t).bound 70 false).same b4/\(d A (ek n m t).basic 3 false).same a9/\(d A (ek n m t).free 3 false).same b2/\(j [k d7.fst,f o d7.snd.fst,f o d7.snd.snd] 70 3 false).same N/\(d (cn.b.pair (o.fK.pair o.fK)) (δ a0.toNat b0) 70 true).same (d sF (Ai d1 0 b0) 70 true)/\True)/\e<=e/\e<=G)/\∀(x:Int),let d4:=bC (fL S) x.toNat L;let f6:=(d4.fst,d4.snd.fst,d4.snd.snd);let a7:=Ai d1 x.toNat b0;let I:=a7.length;let R:=x+y;let e2:=a R;let c9:=cC (fa f6*fa T);e<=x/\x<=G->(decide (x<G)=true->e<=x/\x<(↑(fL S).length:Int)/\x.toNat<(fL S).length/\(lT f6/\lT T)/\G.toNat=I/\e<=x/\x<(↑I:Int)/\G.toNat=I/\x.toNat<I/\ie .i64 R/\((Y.same Y/\(a r).same (a r)/\(a c).same (a c)/\a3.same a3/\c2.same c2/\c5.same c5/\b3.same b3/\e2.same e2/\True)/\a6.same a6/\a5.same a5/\b4.same b4/\a9.same a9/\b2.same b2/\N.same N/\(d sF (a7.set x.toNat (c9.fst,c9.snd.fst,c9.snd.snd)) 70 true).same (d sF (Ai d1 R.toNat b0) 70 true)/\True)/\(e<=R/\R<=G)/\(G - R).toNat<(G - x).toNat)/\(decide (x<G)=false->G.toNat=I/\e<=c/\c<(↑I:Int)/\G.toNat=I/\c.toNat<I/\s.k1=b5/\e<=r/\r<(↑b5:Int)/\s.k1=b5/\r.toNat<b5/\(lT f4/\lT T)/\G.toNat=(a7.set c.toNat T).length/\(((Y.same Y/\(a r).same (a r)/\(a c).same (a c)/\(f sF (a7.set c.toNat T)).same c6/\b1.same b1/\(a (↑s.k0:Int)).same a8/\(M).same (a 0)/\True)/\a6.same (j [a z.n,a z.m,g 1 z.k0 1,g 2 z.k1 3,f sF z.cost,k z.v.fst,f o z.v.snd.fst,f o z.v.snd.snd,g 3 z.k3 1,g 4 z.k4 1] 179 10 false)/\a5.same (d sF.fK z.jA 72 false)/\b4.same (d sF z.bound 70 false)/\a9.same (d A z.basic 3 false)/\b2.same (d A z.free 3 false)/\N.same N/\cJ.dead.same cJ.dead/\(j [k d5.fst,f o d5.snd.fst,f o d5.snd.snd] 70 3 false).same d6/\True)/\e<=e/\e<=C)/\∀(x:Int),let h:=ek G C (XB H r.toNat c.toNat x.toNat);let e7:=a h.n;let f2:=a h.m;let f1:=g 1 h.k0 1;let e9:=g 2 h.k1 3;let P:=h.cost;let e0:=[g 3 h.k3 1,g 4 h.k4 1];let Q:=x+y;let w:=ek G C (XB H r.toNat c.toNat Q.toNat);let F:=h.basic;let e5:=a Q;let a2:=h.jA;let E:=a2.length;let Z:=h.bound;let D:=Z.length;let d3:=bC a2 x.toNat sF.fK.dflt;let c8:=bC Z x.toNat L;let e3:=(c8.fst,c8.snd.fst,c8.snd.snd);let d0:=cC (fa e3 - bC (vL d3) c.toNat (0:Rat)*fa U);let d9:=(h.v.fst,h.v.snd.fst,h.v.snd.snd);let d2:=bC P c.toNat L;let f0:=(d2.fst,d2.snd.fst,d2.snd.snd);let c7:=cC (fa f0*fa U);let e6:=(c7.fst,c7.snd.fst,c7.snd.snd);let K:=h.free.length;let c4:=cC (fa d9+fa e6);let g9:=(j (e7::f2::f1::e9::f sF P::k h.v.fst::f o h.v.snd.fst::f o h.v.snd.snd::e0) 179 10 false).same (j [a w.n,a w.m,g 1 w.k0 1,g 2 w.k1 3,f sF w.cost,k w.v.fst,f o w.v.snd.fst,f o w.v.snd.snd,g 3 w.k3 1,g 4 w.k4 1] 179 10 false);let g4:=(d A F 3 false).same (d A w.basic 3 false)/\(d A h.free 3 false).same (d A w.free 3 false)/\N.same N/\cJ.dead.same cJ.dead/\d6.same d6/\True;let f3:=λ(u i2:cJ) ↦ie .i64 Q/\((Y.same Y/\(a r).same (a r)/\(a c).same (a c)/\c6.same c6/\b1.same b1/\a8.same a8/\e5.same e5/\True)/\g9/\u.same (d sF.fK w.jA 72 false)/\i2.same (d sF w.bound 70 false)/\g4)/\(e<=Q/\Q<=C)/\(C - Q).toNat<(C - x).toNat;e<=x/\x<=C->(decide (x<C)=true->(decide (x≠r)=true->h.k0=E/\e<=x/\x<(↑E:Int)/\h.k0=E/\x.toNat<E/\h.k1=D/\e<=x/\x<(↑D:Int)/\h.k1=D/\x.toNat<D/\(∃(l:List Rat),∃(b:Rat),∃(p:List Rat),∃(pb:Rat),(d3=fL l/\e3=cC b/\V=fL p/\U=cC pb)/\(l.length=p.length/\l.length<=1000)/\(e<=c/\c<(↑l.length:Int))/\(∀(q:Rat),q∈l->Sz 10000000 q)/\(∀(q:Rat),q∈p->Sz 10000000 q)/\Sz 10000000 b/\Sz 10000000 pb)/\h.k0=E/\e<=x/\x<(↑E:Int)/\h.k0=E/\x.toNat<E/\h.k1=D/\e<=x/\x<(↑D:Int)/\h.k1=D/\x.toNat<D/\f3 (d sF.fK (a2.set x.toNat (fL (Sv (vL d3) c.toNat (vL V)))) 72 false) (d sF (Z.set x.toNat (d0.fst,d0.snd.fst,d0.snd.snd)) 70 false))/\(decide (x≠r)=false->f3 (d sF.fK a2 72 false) (d sF Z 70 false)))/\(decide (x<C)=false->e<=c/\c<(↑P.length:Int)/\c.toNat<P.length/\(∃(l:List Rat),∃(b:Rat),∃(p:List Rat),∃(pb:Rat),(P=fL l/\d9=cC b/\V=fL p/\U=cC pb)/\(l.length=p.length/\l.length<=1000)/\(e<=c/\c<(↑l.length:Int))/\(∀(q:Rat),q∈l->Sz 10000000 q)/\(∀(q:Rat),q∈p->Sz 10000000 q)/\Sz 10000000 b/\Sz 10000000 pb)/\(lT f0/\lT U)/\(lT d9/\lT e6)/\h.k0=E/\e<=r/\r<(↑E:Int)/\h.k0=E/\r.toNat<E/\h.k1=D/\e<=r/\r<(↑D:Int)/\h.k1=D/\r.toNat<D/\h.k4=K/\e<=c/\c<(↑K:Int)/\h.k4=K/\c.toNat<K/\h.k3=F.length/\e<=r/\r<(↑F.length:Int)/\h.k3=F.length/\r.toNat<F.length/\h.k3=F.length/\e<=r/\r<(↑F.length:Int)/\h.k3=F.length/\r.toNat<F.length/\h.k4=K/\e<=c/\c<(↑K:Int)/\h.k4=K/\c.toNat<K/\(SV.eW []).same (SV.eW [])/\(j (e7::f2::f1::e9::f sF (fL (Sv (vL P) c.toNat (vL V)))::k c4.fst::f o c4.snd.fst::f o c4.snd.snd::e0) 179 10 false).same (j [a B.n,a B.m,g 1 B.k0 1,g 2 B.k1 3,f sF B.cost,k B.v.fst,f o B.v.snd.fst,f o B.v.snd.snd,g 3 B.k3 1,g 4 B.k4 1] 179 10 false)/\(d sF.fK (a2.set r.toNat V) 72 false).same (d sF.fK B.jA 72 false)/\(d sF (Z.set r.toNat U) 70 false).same (d sF B.bound 70 false)/\(d A (F.set r.toNat (bC h.free c.toNat e)) 3 false).same (d A B.basic 3 false)/\(d A (h.free.set c.toNat (bC F r.toNat e)) 3 false).same (d A B.free 3 false)/\True))) (by kernel_rfl) ?_
 conv=>zeta
 try simp only[aew]
 try simp only[ek]
 try simp only[vcs]
 obtain⟨⟨⟨n0,n1⟩,m0,m1⟩,hw,hz⟩:=id M
 have g7:=hw.jA
 have g0:=hw.bound
 have g2:=hw.basic
 have b9:=hw.free
 have i8:=hw.cost
 have j3:=@aq6 t.jA
 have i4:=@AX t.bound
 have e1:=hw.row r.toNat (by omega)
 have c3:∀k:Nat,((k:Nat):Int).toNat=k:=λk=>γm k
 have h1:(ξ 1:Rat)=1:=rfl
 have hR:bC (fM t.jA) r.toNat sF.fK.dflt=fL (bC t.jA r.toNat []):=aq7 (by omega)
 have hA:bC (fL (bC t.jA r.toNat [])) c.toNat sF.dflt=cC (t.cf r.toNat c.toNat):=MB (by omega)
 have hB:bC (fL t.bound) r.toNat sF.dflt=cC (t.bd r.toNat):=MB (by omega)
 simp only[hR,hA,hB,SD,sy,c3,h1]
 have f7:=M.cf (i:=r.toNat) (j:=c.toNat) (by omega) (by omega)
 have e8:=M.bd (i:=r.toNat) (by omega)
 have s1:Sz 1 (1:Rat):=by unfold Sz;decide
 have a1:=aqS s1 f7 ha
 have a3:=aev e8 a1
 have j4:=@AX (bC t.jA r.toNat [])
 have f8:(ab6 (bC t.jA r.toNat []) (1 / t.cf r.toNat c.toNat)).length=n.toNat:=by unfold ab6;rw[γs];exact e1
 have g3:=@AX (ab6 (bC t.jA r.toNat []) (1 / t.cf r.toNat c.toNat))
 have b8:∀{x y:List fi},x=y->(cJ.row sF x 70 true).same (cJ.row sF y 70 true):=by rintro _ _ rfl;rfl
 refine⟨by omega,by omega,r0,by omega,by omega,by omega,c0,by omega,by omega,⟨⟨uf s1 (by omega),uf f7 (by omega)⟩,ha⟩,by omega,by omega,by omega,by omega,by omega,r0,by omega,by omega,by omega,⟨⟨⟨by rw[b9];rfl,trivial,by omega⟩,rfl,b8 (by rw[aj3,g3,f8,b9])⟩,by omega,by omega⟩,?_⟩
 rintro j ⟨j0,j1⟩
 have i9:=@aj2 (fL (ab6 (bC t.jA r.toNat []) (1 / t.cf r.toNat c.toNat))) j.toNat (false,([],[])) (by omega)
 refine⟨λhj=>?_,λhj=>?_⟩
 ·have hL:bC (fL (bC t.jA r.toNat [])) j.toNat sF.dflt=cC (t.cf r.toNat j.toNat):=MB (by omega)
  have hS:bC (fL (ab6 (bC t.jA r.toNat []) (1 / t.cf r.toNat c.toNat))) j.toNat (false,([],[]))=cC (t.cf r.toNat j.toNat*(1 / t.cf r.toNat c.toNat)):=by
   rw[MB (by omega),my (by omega)]
   unfold ab6 Tb.cf
   rw[δW,my (l:=bC t.jA r.toNat []) (i:=j.toNat) (by omega)]
  simp only[hL,sy]
  refine⟨j0,by omega,by omega,⟨uf (M.cf (by omega) (by omega)) (by omega),uf a1 (by omega)⟩,by omega,j0,by omega,by omega,by omega,by omega,b8 ?_,by omega,by omega⟩
  rw[aj7 (by omega) hS.symm,show(j+1).toNat=j.toNat+1 by omega]
 ·have e4:(Ai (fL (ab6 (bC t.jA r.toNat []) (1 / t.cf r.toNat c.toNat))) j.toNat (false,([],[]))).set c.toNat (cC (1 / t.cf r.toNat c.toNat))=fL (Uc (bC t.jA r.toNat []) c.toNat):=by
   rw[show j.toNat=(fL (ab6 (bC t.jA r.toNat []) (1 / t.cf r.toNat c.toNat))).length by omega,aj6]
   exact aFY (by omega)
  have i7:(Uc (bC t.jA r.toNat []) c.toNat).length=n.toNat:=by rw[axk];exact e1
  have i5:=@AX (Uc (bC t.jA r.toNat []) c.toNat)
  simp only[e4,aFZ]
  have b7:∀q∈Uc (bC t.jA r.toNat []) c.toNat,Sz 10000000 q:=λq hq=>by
   obtain⟨k,hk,rfl⟩:=γk.1 hq
   rw[List.mem_range] at hk;split
   ·exact a1.mono (by omega)
   ·exact(aev (M.cf (i:=r.toNat) (j:=k) (by omega) (by omega)) a1).mono (by omega)
  refine⟨by omega,c0,by omega,by omega,by omega,by omega,r0,by omega,by omega,by omega,⟨uf e8 (by omega),uf a1 (by omega)⟩,by omega,⟨⟨⟨trivial,by omega⟩,rfl,rfl,rfl,rfl,rfl,rfl⟩,by omega,by omega⟩,?_⟩
  rintro i ⟨i0,i1⟩
  have h0:(XB t r.toNat c.toNat i.toNat).jA.length=m.toNat:=by show(Kx _ _ _ _ _).length=_;rw[agI];exact g7
  have h9:(XB t r.toNat c.toNat i.toNat).bound.length=m.toNat:=by show(Kx _ _ _ _ _).length=_;rw[agI];exact g0
  have j2:=@aq6 (XB t r.toNat c.toNat i.toNat).jA
  have i3:=@AX (XB t r.toNat c.toNat i.toNat).bound
  have i6:=@AX t.cost
  have a4:∀{a b:Tb},a.jA.length=b.jA.length->a.bound.length=b.bound.length->a.cost=b.cost->a.value=b.value->a.basic.length=b.basic.length->a.free.length=b.free.length->
    (cJ.cells [.si .i64 n,.si .i64 m,.ow 1 a.jA.length 1,.ow 2 a.bound.length 3,.row sF (fL a.cost),.sb (cC a.value).1,.row (.i .u32) (cC a.value).2.1,.row (.i .u32) (cC a.value).2.2,.ow 3 a.basic.length 1,.ow 4 a.free.length 1] 179 10 false).same
    (cJ.cells [.si .i64 n,.si .i64 m,.ow 1 b.jA.length 1,.ow 2 b.bound.length 3,.row sF (fL b.cost),.sb (cC b.value).1,.row (.i .u32) (cC b.value).2.1,.row (.i .u32) (cC b.value).2.2,.ow 3 b.basic.length 1,.ow 4 b.free.length 1] 179 10 false):=λh1 h2 h3 h4 h5 h6=>by
   rw[h1,h2,h3,h4,h5,h6];rfl
  have a0:∀{x y:List (List fi)},x=y->(cJ.row sF.fK x 72 false).same (cJ.row sF.fK y 72 false):=by rintro _ _ rfl;rfl
  have Y:∀{x y:List fi},x=y->(cJ.row sF x 70 false).same (cJ.row sF y 70 false):=by rintro _ _ rfl;rfl
  have X:∀{x y:List Int},x=y->(cJ.row (.i .i64) x 3 false).same (cJ.row (.i .i64) y 3 false):=by rintro _ _ rfl;rfl
  refine⟨λhi=>⟨λg5=>?_,λg5=>?_⟩,λhi=>?_⟩
  ·have g1:bC (fM (XB t r.toNat c.toNat i.toNat).jA) i.toNat sF.fK.dflt=fL (bC t.jA i.toNat []):=by
    rw[aq7 (by omega)]
    congr 1
    exact axW (by omega)
   have g8:bC (fL (XB t r.toNat c.toNat i.toNat).bound) i.toNat sF.dflt=cC (t.bd i.toNat):=by
    rw[MB (by omega)]
    congr 1
    exact axW (by omega)
   have j5:=hw.row i.toNat (by omega)
   simp only[g1,g8,YB,sy]
   refine⟨by omega,i0,by omega,by omega,by omega,by omega,i0,by omega,by omega,by omega,⟨bC t.jA i.toNat [],t.bd i.toNat,Uc (bC t.jA r.toNat []) c.toNat,t.bd r.toNat*(1 / t.cf r.toNat c.toNat),⟨rfl,rfl,rfl,rfl⟩,⟨by omega,by omega⟩,⟨c0,by omega⟩,λq hq=>?_,b7,(M.bd (by omega)).mono (by omega),a3.mono (by omega)⟩,by omega,i0,by omega,by omega,by omega,by omega,i0,by omega,by omega,by omega,by omega,⟨a4 ?_ ?_ rfl rfl rfl rfl,a0 ?_,Y ?_,rfl,rfl⟩,by omega,by omega⟩
   ·exact(hz.1 _ (pz (d:=[]) (by omega)) q hq).mono (by omega)
   ·show(Kx _ _ _ _ _).length=(Kx _ _ _ _ _).length
    rw[agI,agI]
   ·show(Kx _ _ _ _ _).length=(Kx _ _ _ _ _).length
    rw[agI,agI]
   ·rw[ax0,show(i+1).toNat=i.toNat+1 by omega]
    congr 1
    exact axX (by omega) (by omega)
   ·rw[aip,show(i+1).toNat=i.toNat+1 by omega]
    congr 1
    exact axX (f:=t.bd) (g:=λk=>t.bd k - t.cf k c.toNat*(t.bd r.toNat*(1 / t.cf r.toNat c.toNat))) (by omega) (by omega)
  ·have e:XB t r.toNat c.toNat (i+1).toNat=XB t r.toNat c.toNat i.toNat:=by
    rw[show(i+1).toNat=r.toNat+1 by omega,show i.toNat=r.toNat by omega]
    unfold XB;rw[axY,axY]
   rw[e]
   refine⟨?_,⟨rfl,rfl,rfl,rfl,rfl⟩,?_,?_⟩<;>omega
  ·have f5:=M.cs (j:=c.toNat) (by omega)
   have hC:bC (fL t.cost) c.toNat sF.dflt=cC (t.cs c.toNat):=MB (by omega)
   have h8:(XB t r.toNat c.toNat i.toNat).cost=t.cost:=rfl
   have g6:(XB t r.toNat c.toNat i.toNat).value=t.value:=rfl
   have f9:(XB t r.toNat c.toNat i.toNat).free=t.free:=rfl
   have h7:(XB t r.toNat c.toNat i.toNat).basic=t.basic:=rfl
   simp only[hC,h8,g6,f9,h7,YB,sy]
   refine⟨c0,by omega,by omega,⟨t.cost,t.value,Uc (bC t.jA r.toNat []) c.toNat,t.bd r.toNat*(1 / t.cf r.toNat c.toNat),⟨rfl,rfl,rfl,rfl⟩,⟨by omega,by omega⟩,⟨c0,by omega⟩,λq hq=>(hz.2.2.1 q hq).mono (by omega),b7,hz.2.2.2.mono (by omega),a3.mono (by omega)⟩,⟨uf f5 (by omega),uf a3 (by omega)⟩,⟨uf hz.2.2.2 (by omega),uf (aev f5 a3) (by omega)⟩,
    by omega,r0,by omega,by omega,by omega,by omega,r0,by omega,by omega,by omega,c0,by omega,by omega,r0,by omega,by omega,r0,by omega,by omega,c0,by omega,by omega,?_,a0 ?_,Y ?_,X rfl,X rfl⟩
   ·have b6:=axl (r:=r.toNat) (c:=c.toNat) hw
    rw[h0,h9,g2,b9,b6.jA,b6.bound,b6.basic,b6.free];rfl
   ·rw[ax0,show i.toNat=t.jA.length by omega]
    congr 1
    exact axZ (by omega)
   ·rw[aip,show i.toNat=t.bound.length by omega]
    congr 1
    exact axZ (by omega)
def okO (n m:Nat) (t:Tb):Prop:=∃a M G,Small n m M G a/\Run n m a t/\SC m t
theorem aF1 {n m:Nat} {t:Tb} (h:okO n m t):zd n m (afu n m t) t=true:=by
 obtain⟨e,M,G,c,b,a⟩:=h
 have d:=aq5 b a
 unfold afu
 grind
noncomputable def arq:og:=afs 104 Unit .nil (λn m t _=>okO n.toNat m.toNat t) (λn m t _=> .eW [.si .i64 (if um (lastT n.toNat m.toNat t) n.toNat<0 then 0 else um (lastT n.toNat m.toNat t) n.toNat),.sb (decide (um (lastT n.toNat m.toNat t) n.toNat<0))]) (λn m t _=>lastT n.toNat m.toNat t)
def tS (t:Tb) (s:jD):Tb:=match amU s.o with
 |some x=>x.t
 |none=>t
noncomputable def aF2 (n m:Int) (t:Tb):Nat->jY
 |1=> .inv Tb (λx=>⟨[(0,.ptr 0 0 10)],(ek n m x).Gu⟩) (tS t) (λx=>okO n.toNat m.toNat x/\lastT n.toNat m.toNat x=lastT n.toNat m.toNat t/\zd n.toNat m.toNat (afu n.toNat m.toNat t) x=true) (λx=>aik n.toNat m.toNat (afu n.toNat m.toNat t) x) λ_ _=> .look
 |_=> .look
theorem aF3 {n m:Int} {t:Tb} (h:okO n.toNat m.toNat t) (e:0<=n/\n<=1000) (f:0<=m/\m<=1000):Ug n m t:=by
 obtain⟨c,M,G,a,b,d⟩:=h
 grind[axJ]
theorem h402:sd Tryz.prog arq:=by
 refine Sj (L:=[]) (W:=[aq9,ara,r408]) arq (λa=>aF2 a.1.n a.1.m a.1.t) (by grind[h411,h412,h408]) (by simp) ?_
 rintro⟨x,u⟩ ⟨n,m,t,U,a6,hd⟩
 simp only at U hd
 subst U
 refine gp (let a:=cJ.row;let c:=γa .i64;let e:=γQ;let p:=Ξ;let r:=cJ.cells;let y:=(0:Int);let C:=γv;let G:=SV.eW;let I:=γ5 0 0 10;let H:=(ek n m t).n;let F:=(ek n m t).m;let z:=cn.i .u32;let S:=(ek n m t).t;let q:=ek H F S;let s:=cn.i .i64;let o:=H.toNat;let w:=F.toNat;let D:=lastT o w S;let B:=afu o w S;let V:=G [c (if um D o<y then y else um D o),C (decide (um D o<y))];let d:=ek H F D;let N:=r [c d.n,c d.m,e 1 d.k0 1,e 2 d.k1 3,p sF d.cost,C d.v.fst,p z d.v.snd.fst,p z d.v.snd.snd,e 3 d.k3 1,e 4 d.k4 1] 179 10 false;let Z:=a sF.fK d.jA 72 false;let Y:=a sF d.bound 70 false;let O:=a s d.basic 3 false;let T:=a s d.free 3 false;(((I.same I/\True)/\(r [c H,c F,e 1 (ek n m t).k0 1,e 2 (ek n m t).k1 3,p sF (ek n m t).cost,C (ek n m t).v.fst,p z (ek n m t).v.snd.fst,p z (ek n m t).v.snd.snd,e 3 (ek n m t).k3 1,e 4 (ek n m t).k4 1] 179 10 false).same (r [c q.n,c q.m,e 1 q.k0 1,e 2 q.k1 3,p sF q.cost,C q.v.fst,p z q.v.snd.fst,p z q.v.snd.snd,e 3 q.k3 1,e 4 q.k4 1] 179 10 false)/\(a sF.fK (ek n m t).jA 72 false).same (a sF.fK q.jA 72 false)/\(a sF (ek n m t).bound 70 false).same (a sF q.bound 70 false)/\(a s (ek n m t).basic 3 false).same (a s q.basic 3 false)/\(a s (ek n m t).free 3 false).same (a s q.free 3 false)/\True)/\okO o w S/\D=D/\zd o w B S=true)/\∀(x:Tb),let k:=ek H F x;let j:=um k.t k.n.toNat;let K:=decide (j<y);let b:=ek k.n k.m k.t;let A:=sj b.t j.toNat b.m.toNat;let Q:=decide (A<y);let l:=ek b.n b.m b.t;let a0:=A7 l.t A.toNat j.toNat;let h:=ek l.n l.m a0;let f:=ek H F h.t;let X:=λ(u a1:Int) (a4 a5:Tb) (a3:cJ) ↦let E:=ek u a1 a4;let R:=ek E.n E.m E.t;let g:=ek R.n R.m a5;(r [c g.n,c g.m,e 1 g.k0 1,e 2 g.k1 3,p sF g.cost,C g.v.fst,p z g.v.snd.fst,p z g.v.snd.snd,e 3 g.k3 1,e 4 g.k4 1] 179 10 false).same a3;okO o w x/\lastT o w x=D/\zd o w B x=true->(∃(n:Int),∃(m:Int),∃(t:Tb),k=ek n m t/\Ug n m t/\True)/\(K=true->(G [γu .i64 0,δe true]).same V/\(r [c b.n,c b.m,e 1 b.k0 1,e 2 b.k1 3,p sF b.cost,C b.v.fst,p z b.v.snd.fst,p z b.v.snd.snd,e 3 b.k3 1,e 4 b.k4 1] 179 10 false).same N/\(a sF.fK b.jA 72 false).same Z/\(a sF b.bound 70 false).same Y/\(a s b.basic 3 false).same O/\(a s b.free 3 false).same T/\True)/\(K=false->(∃(n:Int),∃(m:Int),∃(t:Tb),b=ek n m t/\Ug n m t/\y<=j/\j<n)/\(Q=true->(G [c j,δe false]).same V/\X H F x b.t N/\(a sF.fK l.jA 72 false).same Z/\(a sF l.bound 70 false).same Y/\(a s l.basic 3 false).same O/\(a s l.free 3 false).same T/\True)/\(Q=false->(∃(n:Int),∃(m:Int),∃(t:Tb),l=ek n m t/\Ug n m t/\(y<=A/\A<m)/\(y<=j/\j<n)/\t.cf A.toNat j.toNat≠(0:Rat))/\0=0/\((I.same I/\True)/\X k.n k.m k.t a0 (r [c f.n,c f.m,e 1 f.k0 1,e 2 f.k1 3,p sF f.cost,C f.v.fst,p z f.v.snd.fst,p z f.v.snd.snd,e 3 f.k3 1,e 4 f.k4 1] 179 10 false)/\(a sF.fK h.jA 72 false).same (a sF.fK f.jA 72 false)/\(a sF h.bound 70 false).same (a sF f.bound 70 false)/\(a s h.basic 3 false).same (a s f.basic 3 false)/\(a s h.free 3 false).same (a s f.free 3 false)/\True)/\(okO o w h.t/\lastT o w h.t=D/\zd o w B h.t=true)/\aik o w B h.t<aik o w B x))) (by kernel_rfl) ?_
 simp only[aFG,aew,axy,axz]
 try simp only[vcs]
 obtain⟨⟨hn,hm⟩,hw,hz⟩:=id a6
 refine⟨⟨hd,aF1 hd⟩,?_⟩
 rintro x ⟨U,hl,he⟩
 have p:=aF3 U hn hm
 have C:stepT n.toNat m.toNat x=if um x n.toNat<0 then none else if sj x (um x n.toNat).toNat m.toNat<0 then none else some (A7 x (sj x (um x n.toNat).toNat m.toNat).toNat (um x n.toNat).toNat):=rfl
 have a8:=p.2.1
 have a9:∀{y:Tb},y=lastT n.toNat m.toNat t->ek n m y=ek n m (lastT n.toNat m.toNat t):=by simp_all
 refine⟨⟨n,m,x,rfl,p⟩,λJ=>?_,λJ=>?_⟩
 ·rw[if_pos J] at C
  have e:=axO C
  rw[hl] at e;rw[<-e] at J ⊢;rw[if_pos J,decide_eq_true J]
  exact⟨⟨rfl,rfl⟩,rfl,rfl,rfl,rfl,rfl⟩
 ·have I:¬um x n.toNat<0:=J
  rw[if_neg I] at C
  rcases @afr x n.toNat with⟨e1,e2⟩|⟨c,e1,e2,e3,e4⟩
  ·omega
  ·refine⟨⟨n,m,x,rfl,p,by omega,by omega⟩,λh1=>?_,λh1=>?_⟩
   ·rw[if_pos h1] at C
    have e:=axO C
    rw[hl] at e;rw[e,if_neg I,decide_eq_false I]
    exact⟨⟨rfl,rfl⟩,rfl,rfl,rfl,rfl,rfl⟩
   ·have a7:¬sj x (um x n.toNat).toNat m.toNat<0:=h1
    rw[if_neg a7] at C
    rcases @agD x (um x n.toNat).toNat m.toNat with⟨l1,l2⟩|⟨r,l1,l2,l3,l4⟩
    ·omega
    ·refine⟨⟨n,m,x,rfl,p,⟨by omega,by omega⟩,⟨by omega,by omega⟩,?_⟩,?_⟩
     ·grind
     ·obtain⟨t0,M,G,g1,g2,g3⟩:=U
      have P:=aq3 g2 g3 C
      have a2:=aq5 g2 g3
      refine⟨⟨⟨t0,M,G,g1,P.1,P.2⟩,?_,axx he C⟩,left_step he C⟩
      grind[aFT]
def DT (t:Tb) (n:Nat):Nat->List Rat
 |0=>δ n 0
 |k+1=>if t.bv k<n then(DT t n k).set (t.bv k).toNat (t.bd k) else DT t n k
def MC (t:Tb) (n m:Nat):Nat->List Rat
 |0=>δ m 0
 |k+1=>if(n:Int)<=t.fv k/\t.fv k<n+m then(MC t n m k).set (t.fv k - n).toNat (-(t.cs k)) else MC t n m k
theorem am2 {t:Tb} {n:Nat}:∀{k:Nat},(DT t n k).length=n
 |0=>by simp[DT]
 |k+1=>by
  have:=@am2 t n k
  grind[DT]
theorem am3 {t:Tb} {n m:Nat}:∀{k:Nat},(MC t n m k).length=m
 |0=>by simp[MC]
 |k+1=>by
  have:=@am3 t n m k
  grind[MC]
def am4:og:=afs 105 Unit .nil (λ_ _ t _=>∀v∈t.basic,0<=v) (λn m t _=> .row sF (fL (DT t n.toNat m.toNat))) (λ_ _ t _=>t)
def aF4 (n m:Int) (t:Tb):Nat->jY
 |3=> .inv Int (λi=>⟨[(0,.ptr 0 0 10),(3,.ow 5 n.toNat 3),(14,.ow 3 t.basic.length 1),(15,.si .i64 t.basic.length),(16,.si .i64 i)],(ek n m t).Gu++[.row sF (fL (DT t n.toNat i.toNat)) 70 false]⟩)
   (λs=>iS s 16) (λi=>0<=i/\i<=m) (λi=>(m - i).toNat) λ_ _=> .look
 |_=> .look
theorem h403:sd Tryz.prog am4:=by
 refine Sj (L:=[]) (W:=[r413]) am4 (λa=>aF4 a.1.n a.1.m a.1.t) (by grind[h413]) (by simp) ?_
 rintro⟨x,u⟩ ⟨n,m,t,U,O,V⟩
 simp only at U V
 subst U
 refine gp (let a:=cJ.row;let h:=γa .i64;let k:=(0:Int);let y:=Ξ;let K:=γQ;let F:=(ek n m t).n;let J:=γ5 0 0 10;let r:=F.toNat;let I:=K 5 r 3;let S:=K 3 (ek n m t).k3 1;let B:=(ek n m t).t;let D:=B.basic.length;let M:=K 3 D 1;let Q:=h (↑D:Int);let z:=(ek n m t).m;let s:=cn.i .u32;let b:=ek F z B;let p:=cJ.cells [h b.n,h b.m,K 1 b.k0 1,K 2 b.k1 3,y sF b.cost,γv b.v.fst,y s b.v.snd.fst,y s b.v.snd.snd,K 3 b.k3 1,K 4 b.k4 1] 179 10 false;let f:=a sF.fK b.jA 72 false;let g:=a sF b.bound 70 false;let w:=cn.i .i64;let d:=b.basic;let j:=a w d 3 false;let o:=a w b.free 3 false;let q:=b.bound.length;(k<=F/\F<=(1000:Int))/\(((J.same J/\I.same I/\S.same M/\(h (↑(ek n m t).k3:Int)).same Q/\(γu .i64 0).same (h 0)/\True)/\(cJ.cells [h F,h z,K 1 (ek n m t).k0 1,K 2 (ek n m t).k1 3,y sF (ek n m t).cost,γv (ek n m t).v.fst,y s (ek n m t).v.snd.fst,y s (ek n m t).v.snd.snd,S,K 4 (ek n m t).k4 1] 179 10 false).same p/\(a sF.fK (ek n m t).jA 72 false).same f/\(a sF (ek n m t).bound 70 false).same g/\(a w (ek n m t).basic 3 false).same j/\(a w (ek n m t).free 3 false).same o/\(a sF (fL (δ r (0:Rat))) 70 false).same (a sF (fL (DT B r 0)) 70 false)/\True)/\k<=k/\k<=z)/\∀(x:Int),let e:=x+(1:Int);let H:=h e;let C:=decide (x<(↑D:Int));let l:=bC d x.toNat k;let E:=decide (l<b.n);let c:=fL (DT B r x.toNat);let A:=bC b.bound x.toNat sF.dflt;let G:=λ(u:cJ) ↦ie .i64 e/\((J.same J/\I.same I/\M.same M/\Q.same Q/\H.same H/\True)/\p.same p/\f.same f/\g.same g/\j.same j/\o.same o/\u.same (a sF (fL (DT B r e.toNat)) 70 false)/\True)/\(k<=e/\e<=z)/\(z - e).toNat<(z - x).toNat;k<=x/\x<=z->(C=true->D=d.length/\k<=x/\x<(↑d.length:Int)/\D=d.length/\x.toNat<d.length/\(E=true->b.k1=q/\k<=x/\x<(↑q:Int)/\b.k1=q/\x.toNat<q/\r=c.length/\k<=l/\l<(↑c.length:Int)/\r=c.length/\l.toNat<c.length/\G (a sF (c.set l.toNat (A.fst,A.snd.fst,A.snd.snd)) 70 false))/\(E=false->G (a sF c 70 false)))/\(C=false->r=c.length/\(y sF c).same (y sF (fL (DT B r z.toNat)))/\p.same p/\f.same f/\g.same g/\j.same j/\o.same o/\True)) (by kernel_rfl) ?_
 simp only[aew]
 try simp only[ek]
 simp only[vcs]
 obtain⟨⟨⟨Z,n1⟩,m0,m1⟩,N,hz⟩:=id O
 have a1:=N.basic
 have Y:=N.bound
 have a0:=@AX t.bound
 have K:∀k:Nat,bC t.basic k 0=t.bv k:=λk=>rfl
 have h:∀{x y:List fi},x=y->(cJ.row sF x 70 false).same (cJ.row sF y 70 false):=by rintro _ _ rfl;rfl
 refine⟨⟨Z,n1⟩,⟨h rfl,by omega,by omega⟩,?_⟩
 rintro i ⟨T,i1⟩
 have a2:=@am2 t n.toNat i.toNat
 have a3:=@AX (DT t n.toNat i.toNat)
 refine⟨λR=>?_,λR=>⟨by omega,by grind⟩⟩
 have hv:=V _ (aj0 N (show i.toNat<m.toNat by omega))
 have X:bC (fL t.bound) i.toNat sF.dflt=cC (t.bd i.toNat):=MB (by omega)
 have hs:DT t n.toNat (i+1).toNat=if t.bv i.toNat<n.toNat then(DT t n.toNat i.toNat).set (t.bv i.toNat).toNat (t.bd i.toNat) else DT t n.toNat i.toNat:=by
  rw[show(i+1).toNat=i.toNat+1 by omega]
  rfl
 simp only[K,X,SD,hs]
 refine⟨T,R,by omega,λP=>⟨by omega,T,by omega,by omega,by omega,by omega,hv,by omega,by omega,by omega,by omega,h ?_,by omega,by omega⟩,λP=>⟨by omega,h ?_,by omega,by omega⟩⟩
 ·rw[aip,if_pos (by omega)]
 grind
def am5:og:=afs 107 Unit .nil (λ_ _ t _=>True) (λn m t _=> .row sF (fL (MC t n.toNat m.toNat n.toNat))) (λ_ _ t _=>t)
def aF5 (n m:Int) (t:Tb):Nat->jY
 |3=> .inv Int (λi=>⟨[(0,.ptr 0 0 10),(3,.ow 5 m.toNat 3),(14,.ow 4 t.free.length 1),(15,.si .i64 t.free.length),(16,.si .i64 i)],(ek n m t).Gu++[.row sF (fL (MC t n.toNat m.toNat i.toNat)) 70 false]⟩)
   (λs=>iS s 16) (λi=>0<=i/\i<=n) (λi=>(n - i).toNat) λ_ _=> .look
 |_=> .look
theorem h405:sd Tryz.prog am5:=by
 refine Sj (L:=[ah8]) (W:=[r413]) am5 (λa=>aF5 a.1.n a.1.m a.1.t) (by grind[h413]) (by grind[h130]) ?_
 rintro⟨x,u⟩ ⟨n,m,t,Z,I,hd⟩
 simp only at Z hd
 subst Z
 refine gp (let a:=cJ.row;let k:=γa .i64;let l:=(0:Int);let u:=Ξ;let y:=γQ;let I:=ie .i64;let H:=(ek n m t).m;let G:=γ5 0 0 10;let s:=H.toNat;let F:=y 5 s 3;let V:=y 4 (ek n m t).k4 1;let E:=(ek n m t).t;let M:=E.free.length;let P:=y 4 M 1;let O:=k (↑M:Int);let q:=(ek n m t).n;let z:=cn.i .u32;let b:=ek q H E;let j:=cJ.cells [k b.n,k b.m,y 1 b.k0 1,y 2 b.k1 3,u sF b.cost,γv b.v.fst,u z b.v.snd.fst,u z b.v.snd.snd,y 3 b.k3 1,y 4 b.k4 1] 179 10 false;let e:=a sF.fK b.jA 72 false;let g:=a sF b.bound 70 false;let A:=cn.i .i64;let h:=a A b.basic 3 false;let o:=b.free;let f:=a A o 3 false;let r:=q.toNat;(l<=H/\H<=(1000:Int))/\(((G.same G/\F.same F/\V.same P/\(k (↑(ek n m t).k4:Int)).same O/\(γu .i64 0).same (k 0)/\True)/\(cJ.cells [k q,k H,y 1 (ek n m t).k0 1,y 2 (ek n m t).k1 3,u sF (ek n m t).cost,γv (ek n m t).v.fst,u z (ek n m t).v.snd.fst,u z (ek n m t).v.snd.snd,y 3 (ek n m t).k3 1,V] 179 10 false).same j/\(a sF.fK (ek n m t).jA 72 false).same e/\(a sF (ek n m t).bound 70 false).same g/\(a A (ek n m t).basic 3 false).same h/\(a A (ek n m t).free 3 false).same f/\(a sF (fL (δ s (0:Rat))) 70 false).same (a sF (fL (MC E r s 0)) 70 false)/\True)/\l<=l/\l<=q)/\∀(x:Int),let c:=x+(1:Int);let w:=k c;let d:=fL (MC E r s x.toNat);let K:=a sF (fL (MC E r s c.toNat)) 70 false;let N:=decide (x<(↑M:Int));let C:=bC o x.toNat l;let S:=decide (b.n<=C);let R:=decide (C<b.n+b.m);let p:=C - b.n;let B:=bC b.cost x.toNat sF.dflt;let D:=(B.fst,B.snd.fst,B.snd.snd);let J:=(cC (-fa D)).snd;let Q:=I c/\((G.same G/\F.same F/\P.same P/\O.same O/\w.same w/\True)/\j.same j/\e.same e/\g.same g/\h.same h/\f.same f/\(a sF d 70 false).same K/\True)/\(l<=c/\c<=q)/\(q - c).toNat<(q - x).toNat;l<=x/\x<=q->(N=true->M=o.length/\l<=x/\x<(↑o.length:Int)/\M=o.length/\x.toNat<o.length/\(S=true->I (b.n+b.m)/\(R=true->I p/\l<=x/\x<(↑b.cost.length:Int)/\x.toNat<b.cost.length/\lT D/\s=d.length/\l<=p/\p<(↑d.length:Int)/\s=d.length/\p.toNat<d.length/\I c/\((G.same G/\F.same F/\P.same P/\O.same O/\w.same w/\True)/\j.same j/\e.same e/\g.same g/\h.same h/\f.same f/\(a sF (d.set p.toNat ((cC (-fa D)).fst,J.fst,J.snd)) 70 false).same K/\True)/\(l<=c/\c<=q)/\(q - c).toNat<(q - x).toNat)/\(R=false->Q))/\(S=false->Q))/\(N=false->s=d.length/\(u sF d).same (u sF (fL (MC E r s r)))/\j.same j/\e.same e/\g.same g/\h.same h/\f.same f/\True)) (by kernel_rfl) ?_
 simp only[aew]
 try simp only[ek]
 simp only[vcs]
 obtain⟨⟨⟨n0,n1⟩,m0,m1⟩,X,hz⟩:=id I
 have a0:=X.free
 have a4:=X.cost
 have a1:=@AX t.cost
 have T:∀k:Nat,bC t.free k 0=t.fv k:=λk=>rfl
 have l:∀{x y:List fi},x=y->(cJ.row sF x 70 false).same (cJ.row sF y 70 false):=by rintro _ _ rfl;rfl
 refine⟨⟨m0,m1⟩,⟨l rfl,by omega,by omega⟩,?_⟩
 rintro i ⟨Y,i1⟩
 have a3:=@am3 t n.toNat m.toNat i.toNat
 have a2:=@AX (MC t n.toNat m.toNat i.toNat)
 refine⟨λU=>?_,λU=>⟨by omega,by grind⟩⟩
 have hC:bC (fL t.cost) i.toNat sF.dflt=cC (t.cs i.toNat):=MB (by omega)
 have hs:MC t n.toNat m.toNat (i+1).toNat=if(n.toNat:Int)<=t.fv i.toNat/\t.fv i.toNat<n.toNat+m.toNat then(MC t n.toNat m.toNat i.toNat).set (t.fv i.toNat - n.toNat).toNat (-(t.cs i.toNat)) else MC t n.toNat m.toNat i.toNat:=by
  rw[show(i+1).toNat=i.toNat+1 by omega]
  rfl
 simp only[T,hC,SD,hs,sy]
 refine⟨Y,U,by omega,λh1=>⟨by omega,λh2=>⟨by omega,Y,by omega,by omega,uf (I.cs (by omega)) (by omega),by omega,by omega,by omega,by omega,by omega,by omega,l ?_,by omega,by omega⟩,λh2=>⟨by omega,l ?_,by omega,by omega⟩⟩,λh1=>⟨by omega,l ?_,by omega,by omega⟩⟩
 ·rw[aip,if_pos (by omega),show(n.toNat:Int)=n by omega]
 all_goals grind
@[reducible] def sR:cn:=.pair (.fK sF) sF
abbrev Prg:=List fi×List (List fi×fi)
def aiq:Cod Prg where
 put a:=.agg [.row sF a.1,.row sR a.2]
 dec
  | .agg [r,v]=>match Kz sF r,Kz sR v with
   |some c,some v=>some (c,v)
   |_,_=>none
  |_=>none
 ok v a h:=by
  grind[SV.g,gL,aaW]
 inj a b h:=by
  obtain⟨c,v⟩:=a
  obtain⟨f,i⟩:=b
  simp only[SV.g,gL,AV.agg.injEq,List.cons.injEq,and_true,AV.sl.injEq] at h
  have e:=XV sF h.1.1 h.1.2
  have d:=XV sR h.2.1 h.2.2
  rw[e,d]
def aaH (x:fi):Prop:=(cQ x.2.1/\cQ x.2.2)/\x.2.1.length<=1000000/\x.2.2.length<=1000000
def ars:fN:=⟨142,List fi,.one (mA sF),λl=>(show List fi from l).length<=1000/\∀x∈(show List fi from l),aaH x,λl=> .sb ((show List fi from l).all okF)⟩
def aF6 (l:List fi):Nat->jY
 |2=> .inv Int (λi=>⟨[(5,.row sF l),(6,.si .i64 l.length),(7,.si .i64 i)],[]⟩)
   (λs=>iS s 7) (λi=>(0<=i/\i<=l.length)/\(l.take i.toNat).all okF=true) (λi=>(l.length - i).toNat) λ_ _=> .look
 |_=> .look
theorem h406:Holds Tryz.prog ars:=by
 refine kh (L:=[aia]) ars aF6 (by grind[h407]) ?_
 rintro(l:List fi) ⟨(q:l.length<=1000),(n:∀x∈l,aaH x)⟩
 refine gp (let d:=(0:Int);let e:=γa .i64;let g:=Ξ;let a:=(↑l.length:Int);let f:=e a;((((g sF l).same (g sF l)/\(e (↑l.length:Int)).same f/\(γu .i64 0).same (e 0)/\True)/\True)/\(d<=d/\d<=a)/\true=true)/\∀(x:Int),let b:=bC l x.toNat sF.dflt;let c:=x+(1:Int);let k:=e c;let m:=λ(u:Bool) ↦(!okF (b.fst,b.snd.fst,b.snd.snd))=u;(d<=x/\x<=a)/\(ω x.toNat l).all okF=true->(decide (x<a)=true->d<=x/\x<(↑l.length:Int)/\x.toNat<l.length/\((cQ b.snd.fst/\cQ b.snd.snd)/\γb b.snd.fst<=1000000/\γb b.snd.snd<=1000000)/\(m true->(δe false).same (γv (l.all okF)))/\(m false->ie .i64 c/\(((g sF l).same (g sF l)/\f.same f/\k.same k/\True)/\True)/\((d<=c/\c<=a)/\(ω c.toNat l).all okF=true)/\(a - c).toNat<(a - x).toNat))/\(decide (x<a)=false->(δe true).same (γv (l.all okF)))) (by kernel_rfl) ?_
 simp only[vcs]
 refine⟨⟨by omega,by omega⟩,?_⟩
 rintro i ⟨⟨j,t⟩,e⟩
 refine⟨λh=>?_,λh=>?_⟩
 ·have p:=pz (d:=sF.dflt) (show i.toNat<l.length by omega)
  have r:=Xx (d:=sF.dflt) j h
  have g:=n _ p
  have o:okF ((bC l i.toNat sF.dflt).1,(bC l i.toNat sF.dflt).2.1,(bC l i.toNat sF.dflt).2.2)=okF (bC l i.toNat sF.dflt):=rfl
  rw[o]
  refine⟨j,h,by omega,⟨g.1,g.2.1,g.2.2⟩,λs=>?_,λv=>⟨by omega,⟨⟨by omega,by omega⟩,?_⟩,by omega⟩⟩
  all_goals grind
 ·rw[show i.toNat=l.length by omega,τ] at e
  simp_all
def aru:fN:=⟨100,Prg,.one aiq,λa=>(a.1.length<=160/\a.2.length<=40)/\(∀x∈a.1,aaH x/\okF x=true)/\∀r∈a.2,r.1.length=a.1.length/\(∀x∈r.1,aaH x/\okF x=true)/\aaH r.2/\okF r.2=true,λ_=> .si .i64 0⟩
def aF7 (a:Prg):Nat->jY
 |6=> .inv Int (λi=>⟨[(1,.ptr 0 0 2),(20,.row sR a.2),(21,.si .i64 a.2.length),(22,.si .i64 i)],[.cells [.row sF a.1,.row sR a.2] 110 2 false]⟩)
   (λs=>iS s 22) (λi=>0<=i/\i<=a.2.length) (λi=>(a.2.length - i).toNat) λ_ _=> .look
 |_=> .look
theorem h398:Holds Tryz.prog aru:=by
 refine kh (L:=[ars,aia]) aru aF7 (by grind[h406,h407]) ?_
 rintro⟨g,c⟩ ⟨⟨y,w⟩,E,B⟩
 simp only at y w E B
 refine gp (let d:=γu .i64;let h:=(0:Int);let i:=γa .i64;let l:=γu .i64 0;let F:=decide ((160:Int)<(↑g.length:Int));let e:=i 0;let v:=(↑c.length:Int);let C:=decide ((40:Int)<v);let t:=γ5 0 0 2;let r:=Ξ sR c;let f:=(↑c.length:Int);let z:=i f;let s:=cJ.cells [Ξ sF g,r] 110 2 false;(F=true->(d 3).same e)/\(F=false->(C=true->(d 3).same e)/\(C=false->(g.length<=1000/\∀(x:fi),x∈g->aaH x)/\((!g.all okF)=true->(d 2).same e)/\((!g.all okF)=false->(((t.same t/\r.same r/\(i v).same z/\(d 0).same e/\True)/\s.same s/\True)/\h<=h/\h<=f)/\∀(x:Int),let a:=bC c x.toNat sR.dflt;let j:=a.snd.snd.fst;let k:=a.snd.snd.snd;let n:=!List.all a.fst okF;let b:=x+(1:Int);let q:=i b;let A:=λ(u:Bool) ↦(!okF (a.snd.fst,j,k))=u;let m:=λ(u:Bool) ↦decide ((↑(γb a.fst):Int)≠(↑g.length:Int))=u;h<=x/\x<=f->(decide (x<f)=true->h<=x/\x<v/\x.toNat<c.length/\(m true->(d 2).same e)/\(m false->(γb a.fst<=1000/\∀(x:fi),x∈a.fst->aaH x)/\(n=true->(d 2).same e)/\(n=false->((cQ j/\cQ k)/\γb j<=1000000/\γb k<=1000000)/\(A true->(d 2).same e)/\(A false->ie .i64 b/\((t.same t/\r.same r/\z.same z/\q.same q/\True)/\s.same s/\True)/\(h<=b/\b<=f)/\(f - b).toNat<(f - x).toNat))))/\(decide (x<f)=false->(d 0).same e))))) (by kernel_rfl) ?_
 simp only[vcs]
 have D:∀{l:List fi},(∀x∈l,aaH x/\okF x=true)->l.all okF=true:=λh=>γf.2 λx o=>(h x o).2
 refine⟨λh=>by omega,λ_=>⟨λh=>by omega,λ_=>⟨⟨by omega,λx o=>(E x o).1⟩,λh=>(by grind),λ_=>⟨⟨by omega,by omega⟩,?_⟩⟩⟩⟩
 rintro i ⟨I,J⟩
 refine⟨λG=>?_,λ_=>trivial⟩
 have p:=B _ (pz (d:=sR.dflt) (show i.toNat<c.length by omega))
 have H:okF ((bC c i.toNat sR.dflt).2.1,(bC c i.toNat sR.dflt).2.2.1,(bC c i.toNat sR.dflt).2.2.2)=okF (bC c i.toNat sR.dflt).2:=rfl
 rw[H]
 refine⟨I,G,by omega,λh=>absurd (by rw[p.1]) h,λ_=>⟨⟨by omega,λx o=>(p.2.1 x o).1⟩,λh=>?_,λ_=>⟨⟨p.2.2.1.1,p.2.2.1.2.1,p.2.2.1.2.2⟩,λh=>?_,λ_=>⟨by omega,⟨by omega,by omega⟩,by omega⟩⟩⟩⟩
 all_goals grind
def aj8 (a:Prg):abd:=⟨a.1.length,a.2.length,a.2.length,a.2.length,a.2.length,a.1.length,a.2.map (·.1),a.2.map (·.2),δ a.1.length (cC 0),cC 0,(rb a.2.length).map λi=>a.1.length+i,rb a.1.length⟩
def arv:og where
 f:=101
 α:=Prg
 put a:=[aiq.put a]
 st _:=[]
 dec v o:=match v,o with
  |[v],[]=>aiq.dec v
  |_,_=>none
 ok v o a h:=by
  split at h
  ·exact⟨by simp only[gL,aiq.ok _ _ h],rfl⟩
  ·cases h
 inj a b h _:=aiq.inj a b (by grind[gL])
 dom a:=a.1.length<=1000/\a.2.length<=1000/\∀r∈a.2,r.1.length<=1000
 res a:=.ptr 0 0 10
 out a:=(aj8 a).Gu
def ax1 (a:Prg) (d f b g j:Nat) (h:List (List fi)) (c e:List fi) (k fr:List Int):jr:=
 [.cells [.row sF a.1,.row sR a.2] 110 2 false,.cells [.si .i64 a.1.length,.si .i64 a.2.length,.ow 2 d 1,.ow 3 f 3,.ow 4 b 3,.sb (cC 0).1,.row (.i .u32) (cC 0).2.1,.row (.i .u32) (cC 0).2.2,.ow 5 g 1,.ow 6 j 1] 179 10 false,
  .row (.fK sF) h 72 false,.row sF c 70 false,.row sF e 70 true,.row (.i .i64) k 3 false,.row (.i .i64) fr 3 false]
def aF8 (a:Prg):Nat->jY
 |3=> .inv Int (λj=>⟨[(1,.ptr 0 0 2),(3,.ptr 1 0 10),(18,.si .i64 a.1.length),(19,.si .i64 j)],ax1 a 0 0 j.toNat 0 j.toNat [] [] (δ j.toNat (cC 0)) [] (rb j.toNat)⟩)
   (λs=>iS s 19) (λj=>0<=j/\j<=a.1.length) (λj=>(a.1.length - j).toNat) λ_ _=> .look
 |9=> .inv Int (λi=>⟨[(3,.ptr 1 0 10),(44,.row sR a.2),(45,.si .i64 a.2.length),(46,.si .i64 i)],ax1 a i.toNat i.toNat a.1.length i.toNat a.1.length ((a.2.take i.toNat).map (·.1)) ((a.2.take i.toNat).map (·.2)) (δ a.1.length (cC 0)) ((rb i.toNat).map λi=>a.1.length+i) (rb a.1.length)⟩)
   (λs=>iS s 46) (λi=>0<=i/\i<=a.2.length) (λi=>(a.2.length - i).toNat) λ_ _=> .look
 |_=> .look
theorem h399:sd Tryz.prog arv:=by
 refine ao2 (L:=[r94]) (W:=[]) arv (λ_=>none) aF8 (by simp) (by grind[h94]) ?_
 rintro⟨g,h⟩ ⟨hg,hr,a8⟩
 simp only at hg hr a8
 refine gp (let a:=cJ.row;let c:=γQ;let d:=cJ.cells;let e:=(0:Int);let j:=γa .i64;let k:=(-9223372036854775808:Int);let y:=Ξ;let G:=(9223372036854775807:Int);let L:=γu .i64 0;let W:=ie .i64;let Z:=γ5;let ab:=Z 0 0 2;let U:=Z 1 0 10;let ac:=j (↑g.length:Int);let H:=(↑g.length:Int);let I:=j H;let aa:=y sR h;let V:=d [y sF g,aa] 110 2 false;let ad:=j (↑h.length:Int);let a2:=c 2 0 1;let a8:=c 3 0 3;let b3:=c 4 0 3;let D:=cC (ξ e);let p:=cn.i .u32;let E:=c 5 0 1;let b6:=[E,c 6 0 1];let r:=(↑h.length:Int);let o:=j r;let z:=cC (0:Rat);let t:=γv z.fst;let q:=y p z.snd.fst;let s:=y p z.snd.snd;let M:=cn.b.pair (p.fK.pair p.fK);let O:=a sF.fK [] 72 false;let K:=a sF [] 70 false;let l:=cn.i .i64;let w:=a l [] 3 false;let X:=c 4 g.length 3;let a0:=[c 6 g.length 1];let a3:=δ g.length z;let a1:=a sF a3 70 true;let T:=a l (rb g.length) 3 false;let b7:=Z 0 0 10;let f:=aj8 (g,h);(k<=e/\e<=G)/\(((ab.same ab/\U.same U/\ac.same I/\(L).same (j 0)/\True)/\V.same V/\(d (ac::ad::a2::a8::b3::γv D.fst::y p D.snd.fst::y p D.snd.snd::b6) 179 10 false).same (d (I::o::a2::a8::b3::t::q::s::b6) 179 10 false)/\(a M.fK [] 72 false).same O/\(a M [] 70 false).same K/\(a M [] 70 true).same (a sF [] 70 true)/\w.same w/\w.same (a l (rb 0) 3 false)/\True)/\e<=e/\e<=H)/\∀(x:Int),let J:=rb x.toNat;let a4:=J.length+1;let P:=δ x.toNat z;let a6:=P.length+1;let B:=x+(1:Int);let b4:=j B;let a7:=P++[(D.fst,D.snd.fst,D.snd.snd)];let R:=B.toNat;e<=x/\x<=H->(decide (x<H)=true->1=1/\x.toNat=J.length/\a4*8<=140737488355328/\a4<=1000000000000/\(k<=e/\e<=G)/\1=1/\x.toNat=P.length/\a6*56<=140737488355328/\a6<=1000000000000/\W B/\((ab.same ab/\U.same U/\I.same I/\b4.same b4/\True)/\V.same V/\(d [I,o,a2,a8,c 4 a7.length 3,t,q,s,E,c 6 (J++[x]).length 1] 179 10 false).same (d [I,o,a2,a8,c 4 R 3,t,q,s,E,c 6 R 1] 179 10 false)/\O.same O/\K.same K/\(a M a7 70 true).same (a sF (δ R z) 70 true)/\w.same w/\(a l (J++[x]) 3 false).same (a l (rb R) 3 false)/\True)/\(e<=B/\B<=H)/\(H - B).toNat<(H - x).toNat)/\(decide (x<H)=false->(((U.same U/\aa.same aa/\ad.same o/\(L).same (j 0)/\True)/\V.same V/\(d [I,o,a2,a8,c 4 x.toNat 3,t,q,s,E,c 6 x.toNat 1] 179 10 false).same (d (I::o::a2::a8::X::t::q::s::E::a0) 179 10 false)/\O.same O/\K.same K/\(a sF P 70 true).same a1/\w.same w/\(a l J 3 false).same T/\True)/\e<=e/\e<=r)/\∀(x:Int),let F:=bC h x.toNat sR.dflt;let u:=γb F.fst;let a5:=ω x.toNat h;let Q:=γg (λx ↦x.fst) a5;let Y:=Q.length+1;let S:=γg (λx ↦x.snd) a5;let a9:=S.length+1;let N:=γg (λi ↦(↑(g,h).fst.length:Int)+i) (rb x.toNat);let b1:=N.length+1;let A:=x+(1:Int);let b0:=j A;let b5:=S++[(F.snd.fst,F.snd.snd.fst,F.snd.snd.snd)];let C:=A.toNat;e<=x/\x<=r->(decide (x<r)=true->e<=x/\x<(↑h.length:Int)/\x.toNat<h.length/\0=0/\(0+u)*56<=140737488355328/\0+u<=1000000000000/\x.toNat=Q.length/\Y*24<=140737488355328/\Y<=1000000000000/\u=u/\u=u/\u=u/\1=1/\x.toNat=S.length/\a9*56<=140737488355328/\a9<=1000000000000/\W (H+x)/\1=1/\x.toNat=N.length/\b1*8<=140737488355328/\b1<=1000000000000/\W A/\((U.same U/\aa.same aa/\o.same o/\b0.same b0/\True)/\V.same V/\(d (I::o::c 2 Y 1::c 3 b5.length 3::X::t::q::s::c 5 (N++[H+x]).length 1::a0) 179 10 false).same (d (I::o::c 2 C 1::c 3 C 3::X::t::q::s::c 5 C 1::a0) 179 10 false)/\(a sF.fK (Q++[F.fst]) 72 false).same (a sF.fK (γg (λx ↦x.fst) (ω C h)) 72 false)/\(a M b5 70 false).same (a sF (γg (λx ↦x.snd) (ω C h)) 70 false)/\a1.same a1/\(a l (N++[H+x]) 3 false).same (a l (γg (λi ↦(↑(g,h).fst.length:Int)+i) (rb C)) 3 false)/\T.same T/\True)/\(e<=A/\A<=r)/\(r - A).toNat<(r - x).toNat)/\(decide (x<r)=false->g.length=a3.length/\b7.same b7/\(d [I,o,c 1 x.toNat 1,c 2 x.toNat 3,y sF a3,t,q,s,c 3 x.toNat 1,c 4 g.length 1] 179 10 false).same (d [j f.n,j f.m,c 1 f.k0 1,c 2 f.k1 3,y sF f.cost,γv f.v.fst,y p f.v.snd.fst,y p f.v.snd.snd,c 3 f.k3 1,c 4 f.k4 1] 179 10 false)/\(a sF.fK Q 72 false).same (a sF.fK f.jA 72 false)/\(a sF S 70 false).same (a sF f.bound 70 false)/\(a l N 3 false).same (a l f.basic 3 false)/\T.same (a l f.free 3 false)/\True))) (by kernel_rfl) ?_
 simp only[vcs]
 have h0:(ξ 0:Rat)=0:=rfl
 simp only[h0,SD]
 have G:∀{a b a' b' c d e a2 b2 c2 d2 e2:Nat},a=a2->b=b2->c=c2->d=d2->e=e2->(cJ.cells [.si .i64 a',.si .i64 b',.ow 2 a 1,.ow 3 b 3,.ow 4 c 3,.sb (cC 0).1,.row (.i .u32) (cC 0).2.1,.row (.i .u32) (cC 0).2.2,.ow 5 d 1,.ow 6 e 1] 179 10 false).same
   (cJ.cells [.si .i64 a',.si .i64 b',.ow 2 a2 1,.ow 3 b2 3,.ow 4 c2 3,.sb (cC 0).1,.row (.i .u32) (cC 0).2.1,.row (.i .u32) (cC 0).2.2,.ow 5 d2 1,.ow 6 e2 1] 179 10 false):=by
  rintro _ _ _ _ _ _ _ _ _ _ _ _ rfl rfl rfl rfl rfl
  rfl
 have c1:∀{x y:List fi},x=y->(cJ.row sF x 70 false).same (cJ.row sF y 70 false):=by rintro _ _ rfl;rfl
 have b8:∀{x y:List fi},x=y->(cJ.row sF x 70 true).same (cJ.row sF y 70 true):=by rintro _ _ rfl;rfl
 have b9:∀{x y:List (List fi)},x=y->(cJ.row (.fK sF) x 72 false).same (cJ.row (.fK sF) y 72 false):=by rintro _ _ rfl;rfl
 have Z:∀{x y:List Int},x=y->(cJ.row (.i .i64) x 3 false).same (cJ.row (.i .i64) y 3 false):=by rintro _ _ rfl;rfl
 have c0:∀k:Nat,((k:Nat):Int).toNat=k:=λk=>γm k
 refine⟨by omega,⟨⟨rfl,Z rfl⟩,by omega,by omega⟩,?_⟩
 rintro j ⟨j0,j1⟩
 have l1:=@Qk j.toNat
 have l2:(δ j.toNat (cC 0)).length=j.toNat:=γN
 refine⟨λhj=>?_,λhj=>?_⟩
 ·have e1:rb j.toNat++[j]=rb (j+1).toNat:=by
   rw[show(j+1).toNat=j.toNat+1 by omega,agu,show((j.toNat:Nat):Int)=j by omega]
  have e2:δ j.toNat (cC 0)++[cC 0]=δ (j+1).toNat (cC 0):=by
   rw[show(j+1).toNat=j.toNat+1 by omega,List.replicate_succ']
  grind
 ·rw[show j.toNat=g.length by omega]
  refine⟨⟨⟨G rfl rfl rfl rfl rfl,b8 rfl,Z rfl⟩,by omega,by omega⟩,?_⟩
  rintro i ⟨i0,i1⟩
  have l3:(γg (λx:List fi×fi=>x.1) (ω i.toNat h)).length=i.toNat:=by simp_all
  have l4:(γg (λx:List fi×fi=>x.2) (ω i.toNat h)).length=i.toNat:=by simp_all
  have l5:(γg (λi:Int=>(g.length:Int)+i) (rb i.toNat)).length=i.toNat:=by grind[Qk]
  refine⟨λhi=>?_,λhi=>?_⟩
  ·have hm:=a8 _ (pz (d:=sR.dflt) (show i.toNat<h.length by omega))
   have et:=Xx (d:=sR.dflt) i0 hi
   have e1:γg (λx:List fi×fi=>x.1) (ω i.toNat h)++[(bC h i.toNat sR.dflt).1]=γg (λx:List fi×fi=>x.1) (ω (i+1).toNat h):=by simp_all
   have e2:γg (λx:List fi×fi=>x.2) (ω i.toNat h)++[(bC h i.toNat sR.dflt).2]=γg (λx:List fi×fi=>x.2) (ω (i+1).toNat h):=by simp_all
   have e3:γg (λi:Int=>(g.length:Int)+i) (rb i.toNat)++[(g.length:Int)+i]=γg (λi:Int=>(g.length:Int)+i) (rb (i+1).toNat):=by
    rw[show(i+1).toNat=i.toNat+1 by omega,agu,γj,show((i.toNat:Nat):Int)=i by omega];rfl
   have l6:(γg (λx:List fi×fi=>x.2) (ω (i+1).toNat h)).length=(i+1).toNat:=by grind
   have l7:(γg (λi:Int=>(g.length:Int)+i) (rb (i+1).toNat)).length=(i+1).toNat:=by grind
   refine⟨i0,hi,by omega,by omega,by omega,l3.symm,by omega,by omega,l4.symm,by omega,by omega,by omega,l5.symm,by omega,by omega,by omega,⟨G ?_ ?_ rfl ?_ rfl,b9 e1,c1 e2,Z e3⟩,by omega,by omega⟩
   all_goals grind
  ·have e:i.toNat=h.length:=by omega
   rw[e,τ]
   exact⟨γN.symm,rfl,rfl,rfl,rfl,rfl⟩
def r400:og:=afs 102 Unit .nil (λ_ m t _=>SC m.toNat t) (λ_ _ _ _=> .eW [.sc (.slice none 0 0),.sb true]) (λ_ _ t _=>t)
def aF9 (n m:Int) (t:Tb):Nat->jY
 |3=> .inv Int (λi=>⟨[(0,.ptr 0 0 10),(4,.si .i64 (-1)),(12,.ow 2 t.bound.length 3),(13,.si .i64 t.bound.length),(14,.si .i64 i)],(ek n m t).Gu⟩)
   (λs=>iS s 14) (λi=>0<=i/\i<=m) (λi=>(m - i).toNat) λ_ _=> .look
 |_=> .look
theorem h400:sd Tryz.prog r400:=by
 refine Sj (L:=[r99]) (W:=[]) r400 (λa=>aF9 a.1.n a.1.m a.1.t) (by simp) (by grind[h99]) ?_
 rintro⟨x,u⟩ ⟨n,m,t,M,s,J⟩
 simp only at M J
 subst M
 refine gp (let a:=γa .i64;let h:=cJ.row;let q:=(0:Int);let s:=γQ;let I:=Ξ;let J:=(-1:Int);let E:=γ5 0 0 10;let G:=a J;let K:=s 2 (ek n m t).k1 3;let y:=(ek n m t).t.bound.length;let H:=s 2 y 3;let F:=a (↑y:Int);let o:=(ek n m t).m;let D:=cn.i .u32;let b:=ek (ek n m t).n o (ek n m t).t;let A:=cJ.cells [a b.n,a b.m,s 1 b.k0 1,s 2 b.k1 3,I sF b.cost,γv b.v.fst,I D b.v.snd.fst,I D b.v.snd.snd,s 3 b.k3 1,s 4 b.k4 1] 179 10 false;let d:=h sF.fK b.jA 72 false;let g:=h sF b.bound 70 false;let k:=cn.i .i64;let j:=h k b.basic 3 false;let f:=h k b.free 3 false;let c:=b.bound.length;let r:=SV.sc (Value.slice none 0 0);(((E.same E/\(γu .i64 J).same G/\K.same H/\(a (↑(ek n m t).k1:Int)).same F/\(γu .i64 0).same (a 0)/\True)/\(cJ.cells [a (ek n m t).n,a o,s 1 (ek n m t).k0 1,K,I sF (ek n m t).cost,γv (ek n m t).v.fst,I D (ek n m t).v.snd.fst,I D (ek n m t).v.snd.snd,s 3 (ek n m t).k3 1,s 4 (ek n m t).k4 1] 179 10 false).same A/\(h sF.fK (ek n m t).jA 72 false).same d/\(h sF (ek n m t).bound 70 false).same g/\(h k (ek n m t).basic 3 false).same j/\(h k (ek n m t).free 3 false).same f/\True)/\q<=q/\q<=o)/\∀(x:Int),let l:=bC b.bound x.toNat sF.dflt;let z:=(l.fst,l.snd.fst,l.snd.snd);let e:=x+(1:Int);let C:=a e;let p:=decide (x<(↑y:Int));let w:=λ(u:Bool) ↦decide (HW (fa z)<q)=u;let B:=λ(u:SV) ↦ie .i64 e/\((E.same E/\u.same G/\H.same H/\F.same F/\C.same C/\True)/\A.same A/\d.same d/\g.same g/\j.same j/\f.same f/\True)/\(q<=e/\e<=o)/\(o - e).toNat<(o - x).toNat;q<=x/\x<=o->(p=true->y=c/\q<=x/\x<(↑c:Int)/\y=c/\x.toNat<c/\lT z/\(w true->(true=true->B (a x))/\(true=false->b.k1=c/\q<=J/\J<(↑c:Int)/\b.k1=c/\0<c/\False))/\(w false->B G))/\(p=false->(true=true->(SV.eW [r,δe true]).same (SV.eW [r,γv true])/\A.same A/\d.same d/\g.same g/\j.same j/\f.same f/\True)/\(true=false->False))) (by kernel_rfl) ?_
 simp only[aew]
 try simp only[ek]
 simp only[vcs]
 obtain⟨⟨⟨Y,Z⟩,U,V⟩,N,X⟩:=id s
 have R:=N.bound
 have S:=@AX t.bound
 refine⟨⟨by omega,by omega⟩,?_⟩
 rintro i ⟨P,T⟩
 refine⟨λQ=>?_,λQ=>⟨λ_=>trivial,λh=>by cases h⟩⟩
 have O:bC (fL t.bound) i.toNat sF.dflt=cC (t.bd i.toNat):=MB (by omega)
 have I:=J i.toNat (by omega)
 have q:¬HW (t.bd i.toNat)<0:=λh=>by grind[aq8]
 simp only[O,SD,sy]
 exact⟨by omega,P,by omega,by omega,by omega,uf (s.bd (by omega)) (by omega),λh=>absurd h q,λ_=>⟨by omega,by omega,by omega⟩⟩
def arw:og:=afs 103 (List fi) (.one (mA sF)) (λn m t a=>∃g:List Rat,a=fL g/\g.length=n.toNat/\t.free=rb n.toNat/\∀v∈t.basic,n<=v) (λ_ _ _ _=> .eW []) (λ_ _ t a=>{t with cost:=vL a,value:=0})
def aGa (n m:Int) (t:Tb) (a:List fi):Nat->jY
 |3=> .inv Int (λj=>⟨[(0,.ptr 0 0 10),(1,.row sF a),(4,.ow 5 n.toNat 3),(24,.ow 4 t.free.length 1),(25,.si .i64 t.free.length),(26,.si .i64 j)],(ek n m {t with value:=0}).Gu++[.row sF (Ai a j.toNat (false,([],[]))) 70 true]⟩)
   (λs=>iS s 26) (λi=>0<=i/\i<=n) (λi=>(n - i).toNat) λ_ _=> .look
 |10=> .inv Int (λi=>⟨[(0,.ptr 0 0 10),(1,.row sF a),(4,.ow 5 n.toNat 3),(52,.ow 3 t.basic.length 1),(53,.si .i64 t.basic.length),(54,.si .i64 i)],(ek n m {t with value:=0}).Gu++[.row sF a 70 true]⟩)
   (λs=>iS s 54) (λi=>0<=i/\i<=m) (λi=>(m - i).toNat) λ_ _=> .look
 |_=> .look
theorem h401:sd Tryz.prog arw:=by
 refine Sj (L:=[r94]) (W:=[]) arw (λa=>aGa a.1.n a.1.m a.1.t a.2) (by simp) (by simpa using h94) ?_
 rintro⟨x,a⟩ ⟨n,m,t,hx,hok,g,ha,hgl,hfr,hbs⟩
 simp only at hx ha
 subst hx ha
 refine gp (let a:=(0:Int);let c:=γa .i64;let d:=cJ.row;let e:=γQ;let f:=(-9223372036854775808:Int);let h:=Ξ;let j:=(9223372036854775807:Int);let k:=cJ.cells;let l:=γu .i64 0;let w:=(↑(ek n m t).k4:Int);let y:=γ5 0 0 10;let s:=h sF (fL g);let p:=(ek n m t).n;let F:=e 5 p.toNat 3;let a0:=e 4 (ek n m t).k4 1;let r:=(ek n m t).t;let N:=r.free.length;let U:=e 4 N 1;let V:=c (↑N:Int);let z:=(ek n m t).m;let H:=cC (ξ a);let A:=cn.i .u32;let o:=ek p z (Tb.mk r.jA r.bound r.cost (0:Rat) r.basic r.free);let a1:=c o.n;let a2:=c o.m;let a3:=e 1 o.k0 1;let a4:=e 2 o.k1 3;let a5:=e 3 o.k3 1;let a6:=[γv o.v.fst,h A o.v.snd.fst,h A o.v.snd.snd,a5,e 4 o.k4 1];let G:=k (a1::a2::a3::a4::h sF o.cost::a6) 179 10 false;let B:=d sF.fK o.jA 72 false;let C:=d sF o.bound 70 false;let I:=cn.i .i64;let J:=o.basic;let D:=d I J 3 false;let E:=d I o.free 3 false;let R:=(false,[],[]);let S:=o.free.length;let z29:Nat:=(fL g).length;let O:=r.basic.length;let W:=e 3 O 1;let X:=c (↑O:Int);let Y:=d sF (fL g) 70 true;let q:=ek p z (Tb.mk r.jA r.bound (vL (fL g)) (0:Rat) r.basic r.free);(f<=a/\a<=j)/\a<=w/\w<=w/\w*(56:Int)<=(140737488355328:Int)/\w<=(1000000000000:Int)/\(((y.same y/\s.same s/\(e 5 w.toNat 3).same F/\a0.same U/\(c w).same V/\(l).same (c 0)/\True)/\(k [c p,c z,e 1 (ek n m t).k0 1,e 2 (ek n m t).k1 3,h sF (ek n m t).cost,γv H.fst,h A H.snd.fst,h A H.snd.snd,e 3 (ek n m t).k3 1,a0] 179 10 false).same G/\(d sF.fK (ek n m t).jA 72 false).same B/\(d sF (ek n m t).bound 70 false).same C/\(d I (ek n m t).basic 3 false).same D/\(d I (ek n m t).free 3 false).same E/\(d (cn.b.pair (A.fK.pair A.fK)) (δ w.toNat R) 70 true).same (d sF (Ai (fL g) 0 R) 70 true)/\True)/\a<=a/\a<=p)/\∀(x:Int),let K:=x+(1:Int);let a7:=c K;let a8:=decide (x<(↑N:Int));let L:=Ai (fL g) x.toNat R;let P:=bC o.free x.toNat a;let a9:=decide (P<o.n);let M:=L.set x.toNat (H.fst,H.snd.fst,H.snd.snd);let Z:=bC (fL g) P.toNat sF.dflt;let aa:=λ(u:List (Bool×List Int×List Int)) ↦ie .i64 K/\((y.same y/\s.same s/\F.same F/\U.same U/\V.same V/\a7.same a7/\True)/\G.same G/\B.same B/\C.same C/\D.same D/\E.same E/\(d sF u 70 true).same (d sF (Ai (fL g) K.toNat R) 70 true)/\True)/\(a<=K/\K<=p)/\(p - K).toNat<(p - x).toNat;a<=x/\x<=p->(a8=true->N=S/\a<=x/\x<(↑S:Int)/\N=S/\x.toNat<S/\(f<=a/\a<=j)/\p.toNat=L.length/\a<=x/\x<(↑L.length:Int)/\p.toNat=L.length/\x.toNat<L.length/\(a9=true->a<=P/\P<(↑z29:Int)/\P.toNat<z29/\p.toNat=M.length/\a<=x/\x<(↑M.length:Int)/\p.toNat=M.length/\x.toNat<M.length/\aa (M.set x.toNat (Z.fst,Z.snd.fst,Z.snd.snd)))/\(a9=false->aa M))/\(a8=false->(((y.same y/\s.same s/\F.same F/\a5.same W/\(c (↑o.k3:Int)).same X/\(l).same (c 0)/\True)/\G.same G/\B.same B/\C.same C/\D.same D/\E.same E/\(d sF L 70 true).same Y/\True)/\a<=a/\a<=z)/\∀(x:Int),let ab:=decide (x<(↑O:Int));let T:=bC J x.toNat a;let ac:=decide (o.n<=T);let Q:=x+(1:Int);let ad:=c Q;a<=x/\x<=z->(ab=true->O=J.length/\a<=x/\x<(↑J.length:Int)/\O=J.length/\x.toNat<J.length/\(ac=true->ie .i64 Q/\((y.same y/\s.same s/\F.same F/\W.same W/\X.same X/\ad.same ad/\True)/\G.same G/\B.same B/\C.same C/\D.same D/\E.same E/\Y.same Y/\True)/\(a<=Q/\Q<=z)/\(z - Q).toNat<(z - x).toNat)/\(ac=false->a<=T/\T<(↑z29:Int)/\T.toNat<z29/\False))/\(ab=false->p.toNat=z29/\(SV.eW []).same (SV.eW [])/\(k (a1::a2::a3::a4::s::a6) 179 10 false).same (k [c q.n,c q.m,e 1 q.k0 1,e 2 q.k1 3,h sF q.cost,γv q.v.fst,h A q.v.snd.fst,h A q.v.snd.snd,e 3 q.k3 1,e 4 q.k4 1] 179 10 false)/\B.same (d sF.fK q.jA 72 false)/\C.same (d sF q.bound 70 false)/\D.same (d I q.basic 3 false)/\E.same (d I q.free 3 false)/\True))) (by kernel_rfl) ?_
 simp only[aew]
 try simp only[ek]
 simp only[vcs]
 obtain⟨⟨⟨n0,n1⟩,m0,m1⟩,hw,hz⟩:=id hok
 have hbb:=hw.basic
 have hfl:=hw.free
 have hfg:=@AX g
 have h0:(ξ 0:Rat)=0:=rfl
 have hrow:∀{x y:List fi},x=y->(cJ.row sF x 70 true).same (cJ.row sF y 70 true):=by rintro _ _ rfl;rfl
 simp only[h0,SD]
 refine⟨by omega,by omega,by omega,by omega,by omega,⟨⟨?_,?_,?_⟩,by omega,by omega⟩,?_⟩
 ·rw[hfl];rfl
 ·rfl
 ·exact hrow (by rw[aj3,hfg,hgl,hfl];rfl)
 rintro j ⟨j0,j1⟩
 have hru:=@aj2 (fL g) j.toNat (false,([],[])) (by omega)
 refine⟨λhj=>?_,λhj=>?_⟩
 ·have hv:bC t.free j.toNat 0=j:=by rw[hfr,arn (by omega)];omega
  rw[hv]
  have hset:((Ai (fL g) j.toNat (false,([],[]))).set j.toNat (cC 0)).set j.toNat (bC (fL g) j.toNat sF.dflt)=Ai (fL g) (j+1).toNat (false,([],[])):=by
   have e:=aj7 (d:=fL g) (j:=j.toNat) (z:=(false,([],[]))) (x:=bC (fL g) j.toNat sF.dflt) (by omega) rfl
   rw[List.set_set,show(j+1).toNat=j.toNat+1 by omega]
   exact e
  rw[χ]
  exact⟨j0,by omega,by omega,by omega,by omega,j0,by omega,by omega,by omega,λ_=>⟨j0,by omega,by omega,by omega,j0,by omega,by omega,by omega,by omega,hrow hset,by omega,by omega⟩,λh=>(h (by omega)).elim⟩
 ·have e:j.toNat=(fL g).length:=by omega
  rw[e,aj6]
  refine⟨⟨hrow rfl,by omega,by omega⟩,?_⟩
  rintro i ⟨i0,i1⟩
  refine⟨λhi=>⟨i0,hi,by omega,λ_=>⟨by omega,by omega,by omega⟩,λh=>absurd (hbs _ (pz (by omega))) h⟩,λhi=>⟨by omega,?_⟩⟩
  rw[YB];rfl
abbrev Lp:=List Rat×List (List Rat×Rat)
def J1 (a:Lp):Prg:=(fL a.1,a.2.map λr=>(fL r.1,cC r.2))
def XC (a:Lp):Tb:=⟨a.2.map (·.1),a.2.map (·.2),a.1,0,(rb a.2.length).map λi=>a.1.length+i,rb a.1.length⟩
def adS (a:Lp):Tb:={XC a with cost:=δ a.1.length 0}
theorem aGb {a:Lp}:aj8 (J1 a)=ek a.1.length a.2.length (adS a):=by
 unfold aj8 J1 ek adS XC
 simp_all[Qk,fM,fL]
structure aj9 (a:Lp):Prop where
 n:a.1.length<=160
 m:a.2.length<=40
 small:∃M G,Small a.1.length a.2.length M G (XC a)
 aii:SC a.2.length (XC a)
 bnd:∃B,∀x z,(XC a).holds a.1.length a.2.length x z->(∀v∈(XC a).basic++(XC a).free,0<=x v)->z<=B
noncomputable def lpT (a:Lp):Tb:=lastT a.1.length a.2.length (XC a)
theorem aGc {a:Lp} (h:aj9 a):okO a.1.length a.2.length (XC a):=by
 obtain⟨M,G,b⟩:=h.small
 exact⟨XC a,M,G,b,Run.refl b.wf b.nd,h.aii⟩
theorem aGd {a:Lp} (h:aj9 a):Run a.1.length a.2.length (XC a) (lpT a)/\SC a.2.length (lpT a)/\um (lpT a) a.1.length<0:=by
 obtain⟨M,G,c⟩:=h.small
 obtain⟨B,d⟩:=h.bnd
 have b:=Run.refl c.wf c.nd
 have:=ark b h.aii
 exact⟨this.1,this.2.1,axP b h.aii d⟩
noncomputable def arx:fN:=⟨65,Prg,.one aiq,λx=>∃a:Lp,x=J1 a/\aj9 a,λx=>
 let a:Lp:=(vL x.1,x.2.map λr=>(vL r.1,fa r.2))
 .eW [.agg [.si .i64 1,.sb (cC (lpT a).value).1,.row (.i .u32) (cC (lpT a).value).2.1,.row (.i .u32) (cC (lpT a).value).2.2,.row sF (fL (DT (lpT a) a.1.length a.2.length)),.row sF (fL (MC (lpT a) a.1.length a.2.length a.1.length)),.row sF []],.si .i64 0]⟩
theorem aGe {a:Lp}:((vL (J1 a).1,(J1 a).2.map λr=>(vL r.1,fa r.2)):Lp)=a:=by
 obtain⟨g,b⟩:=a
 unfold J1;simp only[YB,δq]
 congr 1
 conv=>rhs;rw[<-List.map_id b]
 refine List.map_congr_left λr _=>?_
 grind[YB,sy]
theorem aGf {a:Lp}:((J1 a).1,(J1 a).2)=J1 a:=rfl
theorem ax2 {a:Lp}:vL (J1 a).1=a.1:=YB _
theorem ax3 {a:Lp}:(J1 a).2.map (λr=>(vL r.1,fa r.2))=a.2:=congrArg Prod.snd (@aGe a)
theorem aGg {a:Lp}:({jA:=(adS a).jA,bound:=(adS a).bound,cost:=a.1,value:=0,basic:=(adS a).basic,free:=(adS a).free}:Tb)=XC a:=rfl
theorem aGh {a:Lp}:(J1 a).1.length=a.1.length:=AX
theorem aGi {a:Lp}:(J1 a).2.length=a.2.length:=γs _
theorem ax4 {q:Rat} (h:Sz 1000000 q):aaH (cC q)/\okF (cC q)=true:=by
 obtain⟨g,⟨c,_,e⟩,⟨b,_,f⟩⟩:=QY q
 obtain⟨a,d⟩:=aaD h
 refine⟨⟨⟨c,b⟩,a,d⟩,?_⟩
 grind[okF,sy]
theorem aGj {o:Store} {d:Nat} {acc:List Nat} {l:List fi}:lH o d (γg (λx:fi=>qq cn.b x.1++qq ((cn.i .u32).fK.pair (cn.i .u32).fK) x.2) l).flatten acc=acc:=ajg λa c=>aaS (s:=sF) (l:=l) c
theorem aGk {o:Store} {d:Nat} {acc:List Nat} {l:List (List fi)}:lH o d (γg (λx:List fi=>[ζ2 (γb x) (ζU (qq sF) x)]) l).flatten acc=acc:=ajg λa b=>aaS (s:=sF.fK) (l:=l) b
theorem aGl {o:Store} {d:Nat} {acc:List Nat} {l:List Int}:lH o d (γg (λx:Int=>γg δi (pF (cn.i .i64) x)) l).flatten acc=acc:=ajg λa b=>aaS (s:=cn.i .i64) (l:=l) b
theorem h395:Holds Tryz.prog arx:=by
 refine aCl (L:=[aru]) (W:=CN [arv,r400,arw,arq,am4,am5]) arx (λf=>Nat.beq f am4.f||Nat.beq f am5.f) lk (XX (by simpa using⟨h399,h400,h401,h402,h403,h405⟩)) (by simpa using h398) ?_
 rintro x ⟨a,hx,hok⟩
 subst hx
 refine gp (let c:=Ξ;let d:=cJ.row;let e:=γa .i64;let f:=γQ;let h:=cJ.cells;let j:=γu .i64;let k:=(0:Int);let l:=γv;let o:=δe false;let p:=SV.agg;let q:=SV.eW;let B:=(J1 a).fst;let C:=(J1 a).snd;let J:=h [c sF B,c sR C] 110 2 false;let Q:=j 0;let a1:=Value.slice none 0 0;let G:=SV.sc a1;let K:=h [Q,o,G,G,G,G,G] 114 7 false;let L:=aj8 (B,C);let D:=ek L.n L.m L.t;let E:=ek D.n D.m (Tb.mk D.t.jA D.t.bound (vL B) (0:Rat) D.t.basic D.t.free);let a2:=lastT E.n.toNat E.m.toNat E.t;let s:=ek E.n E.m a2;let y:=cn.i .u32;let M:=s.v.snd.fst;let N:=s.v.snd.snd;let w:=ek s.n s.m s.t;let R:=w.v.snd.fst;let S:=w.v.snd.snd;let a3:=h [e w.n,e w.m,f 3 w.k0 1,f 4 w.k1 3,c sF w.cost,l w.v.fst,c y R,c y S,f 5 w.k3 1,f 6 w.k4 1] 179 10 false;let a4:=d sF.fK w.jA 72 false;let a5:=d sF w.bound 70 false;let z:=cn.i .i64;let a6:=d z w.basic 3 false;let a7:=d z w.free 3 false;let F:=c z [];let U:=γg (λ(r:List fi×fi) ↦(vL r.fst,fa r.snd)) C;let H:=lpT (vL B,U);let z31:Nat:=(vL B).length;let a8:=e 0;let a9:=q [p [e 1,l (cC H.value).fst,c y (cC H.value).snd.fst,c y (cC H.value).snd.snd,c sF (fL (DT H z31 U.length)),c sF (fL (MC H z31 U.length z31)),c sF []],a8];let A:=ek w.n w.m w.t;let aa:=ig.cells [ζ2 B.length (γg (λ(x:sF.T) ↦qq cn.b x.fst++qq (y.fK.pair y.fK) x.snd) B).flatten,ζ2 C.length (γg (λ(x:sR.T) ↦qq sF.fK x.fst++qq sF x.snd) C).flatten] 110 2 false;let I:=δi a1;let ab:=ig.cells [δi (Value.int .i64 k),δi (Value.bool false),I,I,I,I,I] 114 7 false;let ac:=(γg (λ(x:sF.fK.T) ↦[ζ2 (γb x) (ζU (qq sF) x)]) s.jA).flatten;let ad:=(γg (λ(x:sF.T) ↦qq cn.b x.fst++qq (y.fK.pair y.fK) x.snd) s.bound).flatten;let ae:=(γg (λ(x:z.T) ↦γg δi (pF z x)) s.basic).flatten;let af:=(γg (λ(x:z.T) ↦γg δi (pF z x)) s.free).flatten;let O:=[aa,ab,ig.cells [δi (Value.int .i64 s.n),δi (Value.int .i64 s.m),ζ6 3 0 s.k0 (s.k0*1),ζ6 4 0 s.k1 (s.k1*3),ζ2 s.cost.length (γg (λ(x:sF.T) ↦qq cn.b x.fst++qq (y.fK.pair y.fK) x.snd) s.cost).flatten,δi (Value.bool s.v.fst),ζ2 M.length (γg (λ(x:y.T) ↦γg δi (pF y x)) M).flatten,ζ2 N.length (γg (λ(x:y.T) ↦γg δi (pF y x)) N).flatten,ζ6 5 0 s.k3 (s.k3*1),ζ6 6 0 s.k4 (s.k4*1)] 179 10 false,ig.cells ac 72 1 false,ig.cells ad 70 3 false,ig.cells ae 3 1 false,ig.cells af 3 1 false];let ag:=[2,3];let V:=lH O (nat_lit 396) ac ag;let W:=if ζF 4 V=true then V else lH O (nat_lit 395) ad (V++[4]);let X:=if ζF 5 W=true then W else lH O (nat_lit 390) ae (W++[5]);let ah:=(γg (λ(x:sF.fK.T) ↦[ζ2 (γb x) (ζU (qq sF) x)]) w.jA).flatten;let ai:=(γg (λ(x:sF.T) ↦qq cn.b x.fst++qq (y.fK.pair y.fK) x.snd) w.bound).flatten;let aj:=(γg (λ(x:z.T) ↦γg δi (pF z x)) w.basic).flatten;let ak:=(γg (λ(x:z.T) ↦γg δi (pF z x)) w.free).flatten;let P:=[aa,ab,ig.cells [δi (Value.int .i64 w.n),δi (Value.int .i64 w.m),ζ6 3 0 w.k0 (w.k0*1),ζ6 4 0 w.k1 (w.k1*3),ζ2 w.cost.length (γg (λ(x:sF.T) ↦qq cn.b x.fst++qq (y.fK.pair y.fK) x.snd) w.cost).flatten,δi (Value.bool w.v.fst),ζ2 R.length (γg (λ(x:y.T) ↦γg δi (pF y x)) R).flatten,ζ2 S.length (γg (λ(x:y.T) ↦γg δi (pF y x)) S).flatten,ζ6 5 0 w.k3 (w.k3*1),ζ6 6 0 w.k4 (w.k4*1)] 179 10 false,ig.cells ah 72 1 false,ig.cells ai 70 3 false,ig.cells aj 3 1 false,ig.cells ak 3 1 false];let Y:=lH P (nat_lit 396) ah ag;let Z:=if ζF 4 Y=true then Y else lH P (nat_lit 395) ai (Y++[4]);let a0:=if ζF 5 Z=true then Z else lH P (nat_lit 390) aj (Z++[5]);let al:=J.same J/\K.same K/\(h [e s.n,e s.m,f 3 s.k0 1,f 4 s.k1 3,c sF s.cost,l s.v.fst,c y M,c y N,f 5 s.k3 1,f 6 s.k4 1] 179 10 false).same a3/\(d sF.fK s.jA 72 false).same a4/\(d sF s.bound 70 false).same a5/\(d z s.basic 3 false).same a6/\(d z s.free 3 false).same a7/\True;let am:=∃(n:Int),∃(m:Int),∃(t:Tb),s=ek n m t/\Ug n m t/\∀(v:Int),v∈t.basic->k<=v;let an:=λ(u:Bool) ↦(!decide (um a2 E.n.toNat<k))=u;let ao:=λ(u:Int) (u_1:SV) ↦false=true->(q [p [j u,o,F,F,F,F,F],u_1]).same a9;((B.length<=160/\C.length<=40)/\(∀(x:fi),x∈B->aaH x/\okF x=true)/\∀(r:List fi×fi),r∈C->r.fst.length=B.length/\(∀(x:fi),x∈r.fst->aaH x/\okF x=true)/\aaH r.snd/\okF r.snd=true)/\ao k a8/\(false=false->(B.length<=1000/\C.length<=1000/\∀(r:List fi×fi),r∈C->r.fst.length<=1000)/\(∃(n:Int),∃(m:Int),∃(t:Tb),L=ek n m t/\Ug n m t/\SC m.toNat t)/\ao (2:Int) Q/\(false=false->(∃(n:Int),∃(m:Int),∃(t:Tb),D=ek n m t/\Ug n m t/\∃(g:List Rat),B=fL g/\g.length=n.toNat/\t.free=rb n.toNat/\∀(v:Int),v∈t.basic->n<=v)/\(∃(n:Int),∃(m:Int),∃(t:Tb),E=ek n m t/\Ug n m t/\okO n.toNat m.toNat t)/\(an true->am/\al/\False)/\(an false->am/\al/\(∃(n:Int),∃(m:Int),∃(t:Tb),w=ek n m t/\Ug n m t/\True)/\(J.same J/\K.same K/\a3.same (h [e A.n,e A.m,f 3 A.k0 1,f 4 A.k1 3,c sF A.cost,l A.v.fst,c y A.v.snd.fst,c y A.v.snd.snd,f 5 A.k3 1,f 6 A.k4 1] 179 10 false)/\a4.same (d sF.fK A.jA 72 false)/\a5.same (d sF A.bound 70 false)/\a6.same (d z A.basic 3 false)/\a7.same (d z A.free 3 false)/\True)/\if(((if ζF 6 X=true then X else lH O (nat_lit 389) af (X++[6])).all λ(i:Nat) ↦decide (i<7))&&(((if ζF 6 a0=true then a0 else lH P (nat_lit 389) ak (a0++[6])).all λ(i:Nat) ↦decide (i<7))&&true))=true then(q [p [j 1,l s.v.fst,c y M,c y N,c sF (fL (DT s.t s.n.toNat s.m.toNat)),c sF (fL (MC w.t w.n.toNat w.m.toNat w.n.toNat)),F],Q]).same a9 else False)))) (by kernel_rfl) ?_
 simp only[aGf,aGb,aew,axy,axz,ax2,ax3,aGg,aGh,aGi,γm]
 try simp only[vcs]
 obtain⟨M,G,hs⟩:=hok.small
 obtain⟨r1,r2,r3⟩:=aGd hok
 have hw:=hs.wf
 have hz:=hs.szT (Run.refl hs.wf hs.nd)
 have hn:=hok.n
 have hm:=hok.m
 have hO:=aGc hok
 have k1:Ug a.1.length a.2.length (XC a):=⟨⟨by omega,by omega⟩,by simpa using hw,hz⟩
 have k0:Ug a.1.length a.2.length (adS a):=by
  refine⟨⟨by omega,by omega⟩,⟨hw.jA,hw.row,hw.bound,by simp[adS],hw.basic,hw.free⟩,hz.1,hz.2.1,λq hq=>?_,hz.2.2.2⟩
  rw[(List.mem_replicate.1 hq).2];exact hz.2.2.2
 have k2:Ug a.1.length a.2.length (lpT a):=axJ hs (by simpa using r1) (by omega) (by omega)
 have hl:lastT a.1.length a.2.length (XC a)=lpT a:=rfl
 have arz:((a.1,a.2):Lp)=a:=rfl
 simp only[hl,arz,aGj,aGk,aGl]
 have mem2:∀i,i<a.2.length->bC a.2 i ([],0)∈a.2:=λi hi=>pz hi
 have hrow:∀r∈a.2,r.1.length=a.1.length/\(∀q∈r.1,Sz 1000000 q)/\Sz 1000000 r.2:=λr hr=>by
  obtain⟨i,hi,rfl⟩:=δb hr
  have h1:=hw.row i hi
  have e:bC (XC a).jA i []=a.2[i].1:=by
   show bC (a.2.map (·.1)) i []=_
   rw[my (by rw[γs];exact hi),δW]
  rw[e] at h1
  refine⟨h1,hz.1 _ (γk.2 ⟨a.2[i],hr,rfl⟩),hz.2.1 _ (γk.2 ⟨a.2[i],hr,rfl⟩)⟩
 have hg:∀q∈a.1,Sz 1000000 q:=hz.2.2.1
 have hF:∀{l:List Rat},(∀q∈l,Sz 1000000 q)->∀x∈fL l,aaH x/\okF x=true:=λh x hx=>by
  obtain⟨q,hq,rfl⟩:=γk.1 hx
  exact ax4 (h q hq)
 have hdg:(∀x∈(J1 a).1,aaH x/\okF x=true)/\∀r∈(J1 a).2,r.1.length=a.1.length/\(∀x∈r.1,aaH x/\okF x=true)/\aaH r.2/\okF r.2=true:=by
  refine⟨hF hg,λr hr=>?_⟩
  obtain⟨r0,hr0,rfl⟩:=γk.1 hr
  obtain⟨h1,h2,h3⟩:=hrow r0 hr0
  exact⟨by rw[<-h1];exact AX,hF h2,ax4 h3⟩
 have hb0:∀v∈(lpT a).basic,0<=v:=λv hv=>by
  have:=r1.perm.mem_iff.1 (εr _ hv)
  simp only[XC,γt,γk,adO] at this
  rcases this with⟨i,hi,rfl⟩|h
  ·omega
  ·exact h.1
 have hbn:∀v∈(adS a).basic,(a.1.length:Int)<=v:=λv hv=>by
  simp only[adS,XC,γk,adO] at hv
  obtain⟨i,hi,rfl⟩:=hv
  omega
 refine⟨⟨⟨hn,hm⟩,hdg.1,hdg.2⟩,λh=>(by cases h),λ_=>⟨⟨by omega,by omega,λr hr=>by have:=(hdg.2 r hr).1;omega⟩,⟨_,_,_,rfl,k0,by rw[γm];exact hok.aii⟩,λh=>(by cases h),λ_=>⟨⟨_,_,_,rfl,k0,a.1,rfl,by simp,rfl,hbn⟩,⟨_,_,_,rfl,k1,by simpa using hO⟩,λh=>absurd r3 h,λ_=>⟨⟨_,_,_,rfl,k2,hb0⟩,⟨_,_,_,rfl,k2⟩,?_⟩⟩⟩⟩
 rw[if_pos (by decide)]
 rfl
theorem akb {f:List Int} {d:Int} {i:Int} (h:0<=i) (c:i<f.length):dV (f.take (i+1).toNat) d=dV (f.take i.toNat) d++if bC f i.toNat 0=d then[i] else[]:=by
 have a:(f.take (i+1).toNat).length=i.toNat+1:=by grind
 have b:(f.take i.toNat).length=i.toNat:=by grind
 unfold dV;rw[a,b,agu,List.filter_append]
 have e:∀{k:Nat} {m:Nat},k<m->m<=f.length->bC (f.take m) k 0=bC f k 0:=λ{k m} c j=>by
  grind[my]
 congr 1
 ·refine List.filter_congr λx g=>?_
  grind[adO]
 grind
def Fj (f:List Int):Bool:=f.all λx=>decide (-1<=x)&&decide (x<=1)
def DU (p:dd) (f:List Int):Int:=if fO p≠0 then fO p else if f.length≠p.offers.length then 3 else if Fj f=true then 0 else 4
def arA:fN:=⟨63,dd×List Int,.cons qa (.one (mA (.i .i64))),λa=>a.2.length<=1000000000000,λa=> .si .i64 (DU a.1 a.2)⟩
def aGm (p:dd) (f:List Int):Nat->jY
 |7=> .inv Int (λi=>⟨[(19,.row (.i .i64) f),(20,.si .i64 f.length),(21,.si .i64 i)],[.cells p.ss 27 20 false]⟩)
   (λs=>iS s 21) (λi=>(0<=i/\i<=f.length)/\Fj (f.take i.toNat)=true) (λi=>(f.length - i).toNat) λ_ _=> .look
 |_=> .look
theorem h393:Holds Tryz.prog arA:=by
 refine kh (L:=[r79]) arA (λa=>aGm a.1 a.2) (by grind[h79]) ?_
 rintro⟨p,f⟩ (D:f.length<=1000000000000)
 refine gp (let a:=γa .i64;let d:=(0:Int);let g:=γu .i64;let v:=decide (fO p≠d);let e:=a (DU p f);let q:=(↑f.length:Int);let r:=decide (q≠(↑p.offers.length:Int));let n:=Ξ (cn.i .i64) f;let c:=(↑f.length:Int);let o:=a c;let w:=g 0;let m:=cJ.cells (dd.ss p) 27 20 false;True/\(v=true->(a (fO p)).same e)/\(v=false->(r=true->(g 3).same e)/\(r=false->(((n.same n/\(a q).same o/\w.same (a 0)/\True)/\m.same m/\True)/\(d<=d/\d<=c)/\Fj []=true)/\∀(x:Int),let s:=bC f x.toNat d;let l:=decide (s<(-1:Int));let j:=decide ((1:Int)<s);let b:=x+(1:Int);let k:=a b;(d<=x/\x<=c)/\Fj (ω x.toNat f)=true->(decide (x<c)=true->d<=x/\x<q/\x.toNat<f.length/\(l=true->(g 4).same e)/\(l=false->(j=true->(g 4).same e)/\(j=false->ie .i64 b/\((n.same n/\o.same o/\k.same k/\True)/\m.same m/\True)/\((d<=b/\b<=c)/\Fj (ω b.toNat f)=true)/\(c - b).toNat<(c - x).toNat)))/\(decide (x<c)=false->w.same e)))) (by kernel_rfl) ?_
 simp only[vcs]
 refine⟨λh=>by simp[DU,h],λh=>?_⟩
 have F:fO p=0:=Classical.not_not.1 h
 refine⟨λy=>by
  grind[DU],λy=>⟨⟨⟨by omega,by omega⟩,rfl⟩,?_⟩⟩
 have u:f.length=p.offers.length:=by omega
 rintro i ⟨⟨A,G⟩,g⟩
 refine⟨λt=>?_,λt=>?_⟩
 ·have B:=pz (d:=0) (show i.toNat<f.length by omega)
  have H:=Xx (d:=0) A t
  have z:¬(-1<=bC f i.toNat 0/\bC f i.toNat 0<=1)->(4:Int)=DU p f:=λE=>by
   have:Fj f=false:=by
    rw[Bool.eq_false_iff];intro C
    have:=γf.1 C _ B
    grind
   grind[DU]
  grind[Fj]
 ·rw[show i.toNat=f.length by omega,τ] at g
  grind[DU]
def Gv (p:dd) (f:List Int):Int:=o5 ((dV f 1).map (oI p))
theorem akc {p:dd} (c:fO p=0) {f:List Int} {k:Nat} (g:f.length=p.offers.length):0<=Gv p (f.take k)/\Gv p (f.take k)<=160000000:=by
 have a:=uw c
 have e:=@afw (f.take k) 1
 have h:(f.take k).length<=f.length:=by grind
 have j:=@adG p a ((dV (f.take k) 1).map (oI p)) λx b=>by
  obtain⟨i,d,rfl⟩:=γk.1 b
  have:=(Ui.1 d).1
  exact pz (by omega)
 have l:=a.2.1
 grind[Gv]
theorem ax5 {p:dd} {f:List Int} {i:Int} (b:0<=i) (a:i<f.length):Gv p (f.take (i+1).toNat)=Gv p (f.take i.toNat)+if bC f i.toNat 0=1 then(oI p i).value else 0:=by
 unfold Gv;rw[akb b a,γj,alP]
 grind[o5]
def Qp (p:dd) (f:List Int):Lp:=((kz p f).cost,(rb (mF p)).map λr=>((dV f 0).map λi=>((sV p r (oI p i):Int):Rat),((nn p r - li p ((dV f 1).map (oI p)) r:Int):Rat)))
theorem am6 {p:dd} {f:List Int}:XC (Qp p f)=kz p f:=by
 simp_all[XC,Qp,kz,rb]
def aak (p:dd) (f:List Int) (j:Nat):List fi:=fL (((dV f 0).take j).map λi=>(((oI p i).value:Int):Rat))
def abg (p:dd) (f:List Int) (r:Int) (j:Nat):List fi:=fL (((dV f 0).take j).map λi=>((sV p r (oI p i):Int):Rat))
def abh (p:dd) (f:List Int) (k:Nat):List (List fi×fi):=(rb k).map λr=>(abg p f r (dV f 0).length,cC ((nn p r - li p ((dV f 1).map (oI p)) r:Int):Rat))
theorem ax6 {p:dd} {f:List Int}:aak p f (dV f 0).length=(J1 (Qp p f)).1:=by
 unfold aak;rw[τ];rfl
theorem ax7 {p:dd} {f:List Int}:abh p f (mF p)=(J1 (Qp p f)).2:=by
 simp_all[abh,J1,Qp,abg]
theorem arB {p:dd} {f:List Int} {j:Nat} (h:j<=(dV f 0).length):(aak p f j).length=j:=by
 grind[aak,AX]
theorem ax8 {p:dd} {f:List Int} {r:Int} {j:Nat} (h:j<=(dV f 0).length):(abg p f r j).length=j:=by
 grind[abg,AX]
theorem ax9 {p:dd} {f:List Int} {k:Nat}:(abh p f k).length=k:=by
 grind[abh,Qk]
theorem aya {l m:List Rat}:fL (l++m)=fL l++fL m:=γj
theorem aGn {p:dd} {f:List Int} {j:Int} (a:0<=j) (h:j<(dV f 0).length):aak p f (j+1).toNat=aak p f j.toNat++[cC (((oI p (bC (dV f 0) j.toNat 0)).value:Int):Rat)]:=by
 unfold aak;rw[Xx (d:=0) a h,γj,aya];rfl
theorem aGo {p:dd} {f:List Int} {r j:Int} (a:0<=j) (h:j<(dV f 0).length):abg p f r (j+1).toNat=abg p f r j.toNat++[cC ((sV p r (oI p (bC (dV f 0) j.toNat 0)):Int):Rat)]:=by
 unfold abg;rw[Xx (d:=0) a h,γj,aya];rfl
theorem aGp {p:dd} {f:List Int} {r:Int} (a:0<=r):abh p f (r+1).toNat=abh p f r.toNat++[(abg p f r (dV f 0).length,cC ((nn p r - li p ((dV f 1).map (oI p)) r:Int):Rat))]:=by
 unfold abh
 rw[show(r+1).toNat=r.toNat+1 by omega,agu,γj,show((r.toNat:Nat):Int)=r by omega]
 rfl
def FC (p:dd) (f:List Int):Bool:=By p ((dV f 1).map (oI p))
def aaI (p:dd) (f:List Int):List fi×(List (List fi×fi)×List Int):=if FC p f=true then((J1 (Qp p f)).1,((J1 (Qp p f)).2,dV f 0)) else([],([],[]))
theorem aGq {p:dd} {f:List Int} (h:xJ p f):aj9 (Qp p f):=by
 have a:=uw h.1
 have c:(Qp p f).1.length=nF f:=by
  show((dV f 0).map _).length=_
  simp_all
 have b:(Qp p f).2.length=mF p:=by
  show((rb (mF p)).map _).length=_
  grind[Qk]
 have g:=@afw f 0
 have i:mF p=p.classes.length+12:=rfl
 refine⟨?_,?_,?_,?_,?_⟩
 ·rw[c];have:=h.2.1;have:=a.2.1;grind
 ·rw[b];have:=a.1;omega
 ·grind[am6,amZ]
 ·grind[am6,arp]
 ·rw[c,b,am6];exact⟨_,λx z d e=>axU h d e⟩
theorem aGr {p:dd} {f:List Int}:lpT (Qp p f)=om p f:=by
 have b:(Qp p f).1.length=nF f:=by
  show((dV f 0).map _).length=_
  simp_all
 have a:(Qp p f).2.length=mF p:=by
  show((rb (mF p)).map _).length=_
  grind[Qk]
 grind[lpT,om,am6]
noncomputable def Q0 (p:dd) (f:List Int) (k:Nat):List Rat:=(rb f.length).map λi=>if bC f i.toNat 0=1 then 1 else if i∈(dV f 0).take k then bC (DT (om p f) (nF f) (mF p)) ((dV f 0).idxOf i) 0 else 0
noncomputable def DV (p:dd) (f:List Int):Rat:=((Gv p f:Int):Rat)+(om p f).value
noncomputable def s5 (p:dd) (f:List Int):List Rat:=MC (om p f) (nF f) (mF p) (nF f)
theorem air {p:dd} {f:List Int} {k:Nat}:(Q0 p f k).length=f.length:=by
 grind[Q0,Qk]
theorem am7 {p:dd} {f:List Int} {k i:Nat} (h:i<f.length):bC (Q0 p f k) i 0=if bC f i 0=1 then 1 else if(i:Int)∈(dV f 0).take k then bC (DT (om p f) (nF f) (mF p)) ((dV f 0).idxOf (i:Int)) 0 else 0:=by
 unfold Q0
 rw[arl (e:=0) (by grind[Qk]),arn h,γm]
theorem aGs {l m:List Rat} (a:l.length=m.length) (h:∀i,i<m.length->bC l i 0=bC m i 0):l=m:=γ2 a λi b c=>by
 grind[my]
theorem aGt {p:dd} {f:List Int} {k:Nat} (b:k<nF f):(Q0 p f k).set (bC (dV f 0) k 0).toNat (bC (DT (om p f) (nF f) (mF p)) k 0)=Q0 p f (k+1):=by
 have g:=Ui.1 (pz (d:=0) b)
 refine aGs (by grind[air]) λi a=>?_
 rw[air] at a
 have c:(dV f 0).idxOf (bC (dV f 0) k 0)=k:=ab5 (afv.imp λh=>by omega) b
 have e:(dV f 0).take (k+1)=(dV f 0).take k++[bC (dV f 0) k 0]:=by simp_all[my]
 rw[ab4 (by grind[air]),am7 a,am7 a,e]
 grind
theorem aGu {p:dd} {f:List Int} {i:Nat} (h:i<f.length):bC (Q0 p f 0) i 0=if bC f i 0=1 then 1 else 0:=by
 grind[am7]
def Qy (p:dd) (f:List Int):Bool:=decide (DU p f=0)&&FC p f
noncomputable def SE (p:dd) (f:List Int):fi:=if Qy p f=true then cC (DV p f) else(false,([],[]))
noncomputable def adb (p:dd) (f:List Int):List fi:=if Qy p f=true then fL (s5 p f) else[]
noncomputable def SG (p:dd) (f:List Int):List fi:=if Qy p f=true then fL (Q0 p f (nF f)) else[]
noncomputable def aGv (p:dd) (f:List Int):SV:=.agg [.sb (Qy p f),.sb (SE p f).1,.row (.i .u32) (SE p f).2.1,.row (.i .u32) (SE p f).2.2,.row sF (adb p f),.row sF (SG p f)]
theorem arC {t:List Int} {g:Int->Int}:∀{l:List Int},((l.filter λx=>decide (x∈t)).map g).sum=(l.map λx=>if x∈t then g x else 0).sum
 |[]=>rfl
 |x::l=>by
  simp only[List.filter_cons,ψ,ζs]
  by_cases h:x∈t
  ·rw[if_pos (decide_eq_true h),if_pos h,ψ,ζs,arC]
  ·rw[if_neg (by simpa using h),if_neg h,arC]
   omega
theorem arD {t:List Int} {g:Int->Int}:∀{l:List Int},ZZ (λx=>((g x:Int):Rat)*(if x∈t then 1 else 0)) l=(((l.map λx=>if x∈t then g x else 0).sum:Int):Rat)
 |[]=>rfl
 |x::l=>by
  have:=@arD t g l
  simp only[ZZ,this,ψ,ζs,Rat.intCast_add]
  congr 1
  split<;>simp_all
theorem arE {p:dd}:∀{l:List Int},o5 (l.map (oI p))=(l.map λi=>(oI p i).value).sum
 |[]=>rfl
 |x::l=>by
  have:=@arE p l
  grind[o5]
section
variable {p:dd} {f t:List Int}
theorem ayb (k:Fj f=true) (u:f.length=p.offers.length) (e:zc p.offers.length t) (j:∀i∈t,bC f i.toNat 0≠ -1) (r:∀i∈dV f 1,i∈t) (g:Int->Int):
  (t.map g).sum=((dV f 1).map g).sum+((dV f 0).map λx=>if x∈t then g x else 0).sum:=by
 have l:t.Perm (dV f 1++(dV f 0).filter λx=>decide (x∈t)):=by
  refine(ε8 (amm e) ?_).2 λx=>?_
  ·rw[γF]
   refine⟨afv.imp λh=>by omega,(afv.sublist ε5).imp λh=>by omega,λa s b o m=>?_⟩
   grind[Ui]
  ·rw[γt,List.mem_filter,decide_eq_true_eq]
   constructor
   ·intro c
    have v:=e.2 x c
    have q:=j x c
    have n:=γf.1 k _ (pz (d:=0) (show x.toNat<f.length by omega))
    simp only[μ,decide_eq_true_eq] at n
    grind[Ui]
   grind
 rw[axD (l.map g),γj,ε0,arC]
theorem agJ (l:List Int) (r:Int):li p (l.map (oI p)) r=(l.map λi=>sV p r (oI p i)).sum:=by
 unfold li;rw[δq];rfl
theorem weak (h:xJ p f) (s:Fj f=true) (z:zc p.offers.length t) (a:By p (t.map (oI p))=true) (u:∀i∈t,bC f i.toNat 0≠ -1) (A:∀i∈dV f 1,i∈t):((o5 (t.map (oI p)):Int):Rat)<=DV p f:=by
 obtain⟨l,E,r⟩:=abI h
 have d:∀g:Int->Int,jd (nF f) (λj=>((g (bC (dV f 0) j 0):Int):Rat)*(if bC (dV f 0) j 0∈t then(1:Rat) else 0))=(((t.map g).sum - ((dV f 1).map g).sum:Int):Rat):=λg=>by
  have e:=@ac8 (λx=>((g x:Int):Rat)*(if x∈t then(1:Rat) else 0)) (dV f 0)
  rw[arD] at e;rw[ayb s h.2.1 z u A g]
  grind
 have q:=asg_holds (n:=nF f) (m:=mF p) (t:=kz p f) YC ada (y:=λj=>if bC (dV f 0) j 0∈t then(1:Rat) else 0)
 have B:(kz p f).value+jd (nF f) (λj=>(kz p f).cs j*(if bC (dV f 0) j 0∈t then(1:Rat) else 0))=((o5 (t.map (oI p)) - Gv p f:Int):Rat):=by
  grind[kz,q0,aj1,Gv,arE]
 rw[B] at q
 have o:∀v∈(kz p f).basic++(kz p f).free,0<=Lt (nF f) (kz p f) (λj=>if bC (dV f 0) j 0∈t then(1:Rat) else 0) v:=λv b=>by
  rcases γt.1 b with b|b
  ·obtain⟨i,k,rfl⟩:=aij YC b
   rw[abb YC ada k,ain k,q0 (g:=λj=>((sV p i (oI p (bC (dV f 0) j 0)):Int):Rat)*(if bC (dV f 0) j 0∈t then(1:Rat) else 0)) λj c=>by rw[ail k c],d λx=>sV p i (oI p x),<-agJ,<-agJ]
   have C:=abY.1 a i (by grind[ki])
   have w:0<=(nn p i - li p ((dV f 1).map (oI p)) i) - (li p (t.map (oI p)) i - li p ((dV f 1).map (oI p)) i):=by omega
   have D:=am0 w
   simp_all
  grind[agC,YC,aaE,ada]
 have:=l.best r q λj c=>o _ (l.perm.mem_iff.1 (List.mem_append_right _ (agB l.wf c)))
 grind[DV]
end
theorem ayc {t:Tb} {n j:Nat} (b:j<n):∀{k:Nat},(∀i,i<k->0<=t.bv i)->(∃i,i<k/\t.bv i=j/\bC (DT t n k) j 0=t.bd i)\/((∀i,i<k->t.bv i≠j)/\bC (DT t n k) j 0=0)
 |0,_=> .inr ⟨λi a=>by omega,by
   grind[DT,my]⟩
 |k+1,h=>by
  have e:=h k (by omega)
  have d:=@ayc t n j b k λi a=>h i (by omega)
  unfold DT
  by_cases c:t.bv k<n
  ·rw[if_pos c,ab4 (by grind[am2])]
   grind
  grind
theorem ayd {t:Tb} {n m r:Nat} (a:r<m):∀{k:Nat},(∃j,j<k/\t.fv j=((n+r:Nat):Int)/\bC (MC t n m k) r 0= -(t.cs j))\/((∀j,j<k->t.fv j≠((n+r:Nat):Int))/\bC (MC t n m k) r 0=0)
 |0=> .inr ⟨λi d=>by omega,by
   grind[MC,my]⟩
 |k+1=>by
  have c:=@ayd t n m r a k
  unfold MC
  by_cases b:(n:Int)<=t.fv k/\t.fv k<n+m
  ·rw[if_pos b,ab4 (by grind[am3])]
   grind
  grind
theorem aye {n m:Nat} {t:Tb} (h:t.WF n m) (c:(t.basic++t.free).Nodup) {j:Nat} (a:j<n):s4 t (t.fv j)=t.cs j:=by
 have b:j<t.free.length:=by rw[h.free];exact a
 unfold s4;rw[if_pos (agB h a),show t.free.idxOf (t.fv j)=j from ab5 (γF.1 c).2.1 b]
theorem aGw {n m:Nat} {t:Tb} (h:t.WF n m) (b:(t.basic++t.free).Nodup) {j:Nat} (a:j<m):s4 t (t.bv j)=0:=by
 unfold s4;rw[if_neg (aq0 h b a)]
section
variable {p:dd} {f:List Int}
noncomputable def acG (p:dd) (f:List Int):Int->Rat:=Lt (nF f) (om p f) λ_=>0
theorem optX_holds (h:xJ p f):(kz p f).holds (nF f) (mF p) (acG p f) (om p f).value:=by
 obtain⟨a,_,_⟩:=abI h
 have b:=asg_holds a.wf a.DJ (y:=λ_=>0)
 rw[q0 (g:=λ_=>0) λj _=>by grind,Ls] at b
 have c:=(a.sol _ _).1 b
 rwa [show(om p f).value+0=(om p f).value by grind] at c
theorem arF (h:xJ p f) {i:Nat} (b:i<mF p):acG p f ((om p f).bv i)=(om p f).bd i:=by
 obtain⟨a,_,_⟩:=abI h
 unfold acG
 rw[abb a.wf a.DJ b,q0 (g:=λ_=>0) λj _=>by grind,Ls]
 grind
theorem arG (h:xJ p f) {j:Nat} (b:j<nF f):acG p f ((om p f).fv j)=0:=by
 obtain⟨a,_,_⟩:=abI h
 unfold acG;rw[aaE a.wf a.DJ b]
theorem am8 (h:xJ p f) {v:Int} (a:v∈(kz p f).basic++(kz p f).free):(∃i,i<mF p/\(om p f).bv i=v)\/∃j,j<nF f/\(om p f).fv j=v:=by
 obtain⟨b,_,_⟩:=abI h
 rw[<-b.perm.mem_iff,γt] at a
 rcases a with a|a
 ·exact .inl (aij b.wf a)
 ·exact .inr (agC b.wf a)
theorem arH (h:xJ p f) {v:Int} (c:v∈(kz p f).basic++(kz p f).free):0<=acG p f v:=by
 obtain⟨_,b,_⟩:=abI h
 rcases am8 h c with⟨i,a,rfl⟩|⟨j,d,rfl⟩
 ·rw[arF h a]
  exact b i a
 grind[arG]
theorem arI {j:Nat} (a:j<nF f):(j:Int)∈(kz p f).basic++(kz p f).free:=by
 have:=agB (n:=nF f) (m:=mF p) (t:=kz p f) YC a
 grind[agG]
theorem aGx (h:xJ p f) {i:Nat} (b:i<mF p):0<=(om p f).bv i:=by
 obtain⟨a,_,_⟩:=abI h
 have c:=a.perm.mem_iff.1 (εr _ (aj0 a.wf b))
 grind[aij,YC,amX,agC,agG]
theorem aGy (h:xJ p f) {j:Nat} (c:j<nF f):bC (DT (om p f) (nF f) (mF p)) j 0=acG p f j:=by
 rcases @ayc (om p f) (nF f) j c (mF p) λi b=>aGx h b with⟨i,d,a,g⟩|⟨d,a⟩
 ·grind[arF]
 ·rw[a]
  rcases am8 h (arI c) with⟨i,b,e⟩|⟨k,l,e⟩<;>grind[am8,arI,arG]
theorem aGz (h:xJ p f) {j:Nat} (a:j<nF f):acG p f j<=1:=by
 have:=axT h (optX_holds h) (λv b=>arH h b) a
 grind[agG]
theorem ayf (h:xJ p f):(∀i,i<mF p->Sz 1000 ((om p f).bd i))/\(∀j,j<nF f->Sz 1000 ((om p f).cs j))/\Sz 1000 (om p f).value:=have a:=(amZ h).sz1 (abI h).1
 ⟨a.1,a.2.1,a.2.2.1⟩
theorem arJ (q:Rat) (h:q=0\/q=1):Sz 1000 q:=by
 have a:Sz 1 q:=by rcases h with rfl|rfl<;>exact⟨by decide,by decide⟩
 exact a.mono (by omega)
theorem aGA (h:xJ p f) {v:Int} (a:v∈(kz p f).basic++(kz p f).free):Sz 1000 (acG p f v):=by
 grind[am8,arF,ayf,arG,arJ]
noncomputable def pg (p:dd) (f:List Int):List Rat:=Q0 p f (nF f)
theorem adT:(pg p f).length=f.length:=air
theorem akd (h:xJ p f) (c:Fj f=true) {i:Nat} (b:i<f.length):(bC f i 0=1/\bC (pg p f) i 0=1)\/(bC f i 0= -1/\bC (pg p f) i 0=0)\/(bC f i 0=0/\(i:Int)∈dV f 0/\(dV f 0).idxOf (i:Int)<nF f/\bC (pg p f) i 0=acG p f ((dV f 0).idxOf (i:Int))):=by
 have g:=γf.1 c _ (pz (d:=0) b)
 simp only[μ,decide_eq_true_eq] at g;unfold pg;rw[am7 b,τ]
 rcases(show bC f i 0=1\/bC f i 0= -1\/bC f i 0=0 by omega) with a|a|a
 ·simp_all
 ·simp_all[Ui]
 ·have e:(i:Int)∈dV f 0:=Ui.2 ⟨by omega,by simp_all⟩
  have j:(dV f 0).idxOf (i:Int)<nF f:=εm e
  simp_all[aGy]
theorem am9 (h:xJ p f) (a:Fj f=true) {i:Nat} (b:i<f.length):0<=bC (pg p f) i 0/\bC (pg p f) i 0<=1/\Sz 1000 (bC (pg p f) i 0):=by
 rcases akd h a b with⟨_,e⟩|⟨_,e⟩|⟨_,_,c,e⟩
 all_goals grind[arJ,arH,arI,aGz,aGA]
theorem aey (h:xJ p f) (c:Fj f=true) {i:Nat} (b:i<f.length) (d:0<bC (pg p f) i 0) (a:bC (pg p f) i 0<1):bC f i 0=0:=by
 grind[akd]
def uy (x:List Rat):List Int:=(rb x.length).filter λi=>decide (0<bC x i.toNat 0)
theorem ais {x:List Rat} {i:Int}:i∈uy x↔(0<=i/\i<x.length)/\0<bC x i.toNat 0:=by
 simp_all[uy,adO]
theorem ayg {x:List Rat}:zc x.length (uy x):=⟨ajN.sublist ε5,λi a=>(ais.1 a).1⟩
def aaJ (x:List Rat):Bool:=x.all λq=>decide (q.den=1)
theorem aGB {q:Rat} (h:q.den=1):q=(q.num:Rat):=by
 grind[Rat.mkRat_self,Rat.mkRat_one]
theorem aGC {q:Rat} (c:q.den=1) (b:0<=q) (a:q<=1):q=0\/q=1:=by
 rw[aGB c] at b a ⊢
 have f:0<=q.num:=by exact_mod_cast b
 have d:q.num<=1:=by exact_mod_cast a
 rcases(show q.num=0\/q.num=1 by omega) with e|e<;>simp_all
theorem aGD {t:List Int} (a:Fj f=true) (c:f.length=p.offers.length) (h:zc p.offers.length t) (b:∀i∈t,bC f i.toNat 0≠ -1) (d:∀i∈dV f 1,i∈t) (g:Int->Int):jd (nF f) (λj=>((g (bC (dV f 0) j 0):Int):Rat)*(if bC (dV f 0) j 0∈t then(1:Rat) else 0))=(((t.map g).sum - ((dV f 1).map g).sum:Int):Rat):=by
 have e:=@ac8 (λx=>((g x:Int):Rat)*(if x∈t then(1:Rat) else 0)) (dV f 0)
 rw[arD] at e;rw[ayb a c h b d g]
 grind
theorem ayh (h:xJ p f) (t:Fj f=true) (F:aaJ (pg p f)=true):By p ((uy (pg p f)).map (oI p))=true/\((o5 ((uy (pg p f)).map (oI p)):Int):Rat)=DV p f:=by
 have n:=h.2.1
 have z:=@adT p f
 have q:∀i:Nat,i<f.length->bC (pg p f) i 0=0\/bC (pg p f) i 0=1:=λi o=>by
  obtain⟨O,J,_⟩:=am9 h t o
  have:=γf.1 F _ (pz (d:=0) (show i<(pg p f).length by omega))
  simp_all[aGC]
 have B:zc p.offers.length (uy (pg p f)):=by
  grind[ayg]
 have A:∀i∈uy (pg p f),bC f i.toNat 0≠ -1:=λi x K=>by
  grind[ais,akd]
 have D:∀i∈dV f 1,i∈uy (pg p f):=λi x=>by
  grind[Ui,ais,akd]
 have G:∀j,j<nF f->(if bC (dV f 0) j 0∈uy (pg p f) then(1:Rat) else 0)=acG p f ((kz p f).fv j):=λj c=>by
  obtain⟨C,L⟩:=aio h c
  have E:(dV f 0).idxOf (bC (dV f 0) j 0)=j:=ab5 (afv.imp λh=>by omega) c
  have M:((((bC (dV f 0) j 0).toNat:Nat)):Int)=bC (dV f 0) j 0:=by omega
  have e:bC (pg p f) (bC (dV f 0) j 0).toNat 0=acG p f j:=by
   grind[akd]
  rw[agG c,<-e]
  rcases q (bC (dV f 0) j 0).toNat (by omega) with l|l
  ·simp_all[ais]
  ·rw[l,if_pos]
   grind[ais]
 obtain⟨v,w⟩:=optX_holds h
 have k:=aGD t n B A D
 refine⟨abY.2 λy b=>?_,?_⟩
 ·obtain⟨r,m⟩:∃r:Int,r=(y:Int):=⟨_,rfl⟩
  rw[<-m] at b ⊢
  have I:0<=r:=by omega
  have a:r.toNat<mF p:=by unfold ki at b;grind
  have s:=v r.toNat a
  rw[q0 (g:=λj=>((sV p r (oI p (bC (dV f 0) j 0)):Int):Rat)*(if bC (dV f 0) j 0∈uy (pg p f) then(1:Rat) else 0)) λj c=>by grind[ail],k λi=>sV p r (oI p i),ain a,show((r.toNat:Nat):Int)=r by omega] at s
  have N:=arH h (εr _ (aj0 YC a))
  rw[<-agJ,<-agJ] at s
  have l:((li p ((uy (pg p f)).map (oI p)) r - li p ((dV f 1).map (oI p)) r:Int):Rat)<=((nn p r - li p ((dV f 1).map (oI p)) r:Int):Rat):=by grind
  have H:li p ((uy (pg p f)).map (oI p)) r - li p ((dV f 1).map (oI p)) r<=nn p r - li p ((dV f 1).map (oI p)) r:=by exact_mod_cast l
  omega
 ·have u:(kz p f).value=0:=rfl
  rw[u,q0 (g:=λj=>(((oI p (bC (dV f 0) j 0)).value:Int):Rat)*(if bC (dV f 0) j 0∈uy (pg p f) then(1:Rat) else 0)) λj c=>by grind[aj1],k λi=>(oI p i).value] at w
  grind[DV,Gv,arE]
theorem ayi (h:xJ p f) {x:Int->Rat} {z:Rat} (l:(kz p f).holds (nF f) (mF p) x z):z=(om p f).value+(jd (mF p) (λk=>s4 (om p f) ((nF f+k:Nat):Int)*x ((nF f+k:Nat):Int))+jd (nF f) λj=>s4 (om p f) (j:Int)*x (j:Int)):=by
 obtain⟨a,_,_⟩:=abI h
 have i:=((a.sol _ _).2 l).2
 have m:jd (nF f) (λj=>(om p f).cs j*x ((om p f).fv j))=ZZ (λv=>s4 (om p f) v*x v) ((om p f).basic++(om p f).free):=by
  rw[ajX,ac8,ac8,a.wf.basic,a.wf.free]
  rw[q0 (n:=mF p) (g:=λ_=>0) λk b=>by
   show s4 (om p f) ((om p f).bv k)*x ((om p f).bv k)=0
   rw[aGw a.wf a.DJ b]
   grind,Ls]
  rw[q0 (n:=nF f) (f:=λk=>s4 (om p f) (bC (om p f).free k 0)*x (bC (om p f).free k 0)) (g:=λj=>(om p f).cs j*x ((om p f).fv j)) λj e=>by
   show s4 (om p f) ((om p f).fv j)*x ((om p f).fv j)=_
   rw[aye a.wf a.DJ e]]
  grind
 have d:ZZ (λv=>s4 (om p f) v*x v) ((kz p f).basic++(kz p f).free)=jd (mF p) (λk=>s4 (om p f) ((nF f+k:Nat):Int)*x ((nF f+k:Nat):Int))+jd (nF f) λj=>s4 (om p f) (j:Int)*x (j:Int):=by
  have c:=@YC p f
  rw[ajX,ac8,ac8,c.basic,c.free]
  congr 1
  ·refine q0 λk b=>?_
   show s4 (om p f) ((kz p f).bv k)*x ((kz p f).bv k)=_
   rw[amX b]
  ·refine q0 λk b=>?_
   show s4 (om p f) ((kz p f).fv k)*x ((kz p f).fv k)=_
   rw[agG b]
 rw[i,m,aqZ a.perm,d]
theorem ayj (h:xJ p f) {v:Int}:s4 (om p f) v<=0:=by
 obtain⟨d,_,e⟩:=abI h
 unfold s4;split
 ·rename_i g
  have k:(om p f).free.idxOf v<nF f:=by rw[<-d.wf.free];grind
  rcases @afr (om p f) (nF f) with⟨a,b⟩|⟨c,a,b,i,j⟩<;>grind
 ·decide
theorem ana (h:xJ p f) {r:Nat} (g:r<mF p):bC (s5 p f) r 0= -(s4 (om p f) ((nF f+r:Nat):Int)):=by
 obtain⟨a,_,_⟩:=abI h
 unfold s5
 rcases @ayd (om p f) (nF f) (mF p) r g (nF f) with⟨j,c,b,i⟩|⟨c,b⟩
 ·rw[i,<-b,aye a.wf a.DJ c]
 ·rw[b]
  unfold s4;rw[if_neg]
  ·decide
  ·intro d
   obtain⟨j,k,e⟩:=agC a.wf d
   simp_all
theorem ayk:(s5 p f).length=mF p:=am3
theorem anb (h:xJ p f) {r:Nat} (a:r<mF p):0<=bC (s5 p f) r 0/\Sz 1000 (bC (s5 p f) r 0):=by
 obtain⟨c,_,_⟩:=abI h
 have d:=@ayj p f h ((nF f+r:Nat):Int)
 refine⟨by grind[ana],?_⟩
 rw[ana h a]
 refine afl ?_
 unfold s4;split
 ·rename_i b
  exact(ayf h).2.1 _ (by have:=εm b;rw[c.wf.free] at this;exact this)
 grind[arJ]
theorem ayl (h:xJ p f):(om p f).value=jd (mF p) λr=>bC (s5 p f) r 0*(kz p f).bd r:=by
 have c:=asg_holds (n:=nF f) (m:=mF p) (t:=kz p f) YC ada (y:=λ_=>0)
 have a:=ayi h c
 have d:(kz p f).value=0:=rfl
 rw[d,q0 (n:=nF f) (f:=λj=>(kz p f).cs j*(λ_=>(0:Rat)) j) (g:=λ_=>0) λj _=>by grind,Ls] at a
 rw[q0 (n:=nF f) (f:=λj=>s4 (om p f) (j:Int)*Lt (nF f) (kz p f) (λ_=>0) (j:Int)) (g:=λ_=>0) λj b=>by
  have e:=aaE (n:=nF f) (m:=mF p) (t:=kz p f) YC ada (y:=λ_=>0) b
  grind[agG],Ls] at a
 rw[q0 (n:=mF p) (g:=λk=>(-1:Rat)*(bC (s5 p f) k 0*(kz p f).bd k)) λk i=>by
  have e:=abb (n:=nF f) (m:=mF p) (t:=kz p f) YC ada (y:=λ_=>0) i
  grind[amX,Ls,ana],aie] at a
 grind
theorem aGE (h:xJ p f) {j:Nat} (b:j<nF f):(kz p f).cs j<=jd (mF p) λr=>bC (s5 p f) r 0*(kz p f).cf r j:=by
 have l:=asg_holds (n:=nF f) (m:=mF p) (t:=kz p f) YC ada (y:=λi=>if i=j then 1 else 0)
 have a:=ayi h l
 have o:(kz p f).value=0:=rfl
 rw[o,q0 (n:=nF f) (f:=λi=>(kz p f).cs i*(if i=j then(1:Rat) else 0)) (g:=λi=>if i=j then(kz p f).cs j else 0) λi _=>by
  grind,aft b] at a
 rw[q0 (n:=nF f) (f:=λi=>s4 (om p f) (i:Int)*Lt (nF f) (kz p f) (λi=>if i=j then 1 else 0) (i:Int)) (g:=λi=>if i=j then s4 (om p f) (j:Int) else 0) λi d=>by
  have e:=aaE (n:=nF f) (m:=mF p) (t:=kz p f) YC ada (y:=λi=>if i=j then(1:Rat) else 0) d
  rw[agG d] at e
  grind,aft b] at a
 rw[q0 (n:=mF p) (g:=λk=>bC (s5 p f) k 0*(kz p f).cf k j - bC (s5 p f) k 0*(kz p f).bd k) λk c=>by
  have e:=abb (n:=nF f) (m:=mF p) (t:=kz p f) YC ada (y:=λi=>if i=j then(1:Rat) else 0) c
  rw[amX c,q0 (g:=λi=>if i=j then(kz p f).cf k j else 0) λi _=>by
   grind,aft b] at e
  grind[ana],arf] at a
 grind[ayl,ayj]
end
abbrev XH:=Int×(Int×(Int×(Int×List fi)))
@[reducible] def sf:cn:=.pair (.i .i64) (.pair (.i .i64) (.pair (.i .i64) (.pair (.i .i64) (.fK sF))))
def zN:XH:=(0,(0,(0,(0,[]))))
def cfN:XH:=(3,(0,(0,(0,[]))))
noncomputable def acH (p:dd) (f:List Int):XH:=(1,(0,(0,(0,fL (s5 p f)))))
def An (k o:Int):XH:=(2,(k,(o,(o+1,[]))))
structure lU where
 ch:List Int
 val:Int
 found:Bool
 prf:List XH
 err:Int
def sr (en:Int->Bool) (s:lU) (a:Alloc):lU:=if s.val<a.value then⟨a.chosen,a.value,s.found||en a.value,s.prf,s.err⟩ else s
def aaK (q:Rat):Rat:=if q<0 then -q else q
def QF (x:List Rat):Nat->Option (Int×Rat)
 |0=>none
 |k+1=>if 0<bC x k 0/\bC x k 0<1 then(match QF x k with
   |none=>some ((k:Int),aaK (bC x k 0 - 1 / 2))
   |some (i,l)=>if aaK (bC x k 0 - 1 / 2)<l then some ((k:Int),aaK (bC x k 0 - 1 / 2)) else some (i,l)) else QF x k
def QJ (x:List Rat):Option Int:=(QF x x.length).map (·.1)
theorem arK {x:List Rat}:∀{k:Nat} {i:Int} {l:Rat},QF x k=some (i,l)->(0<=i/\i<k)/\(0<bC x i.toNat 0/\bC x i.toNat 0<1)/\l=aaK (bC x i.toNat 0 - 1 / 2)
 |0,i,l,h=>by cases h
 |k+1,i,l,h=>by
  unfold QF at h
  have b:some ((k:Int),aaK (bC x k 0 - 1 / 2))=some (i,l)->(0<bC x k 0/\bC x k 0<1)->(0<=i/\i<((k+1:Nat):Int))/\(0<bC x i.toNat 0/\bC x i.toNat 0<1)/\l=aaK (bC x i.toNat 0 - 1 / 2):=λh f=>by
   grind
  have a:QF x k=some (i,l)->(0<=i/\i<((k+1:Nat):Int))/\(0<bC x i.toNat 0/\bC x i.toNat 0<1)/\l=aaK (bC x i.toNat 0 - 1 / 2):=λh=>by
   obtain⟨c,d,e⟩:=arK h
   grind
  grind
theorem aym {x:List Rat}:∀{k:Nat},QF x k=none->∀i,i<k->¬(0<bC x i 0/\bC x i 0<1)
 |0,_,i,a=>by omega
 |k+1,h,i,a=>by
  unfold QF at h;split at h
  ·grind
  ·rename_i b
   by_cases e:i=k
   ·simp_all
   ·exact aym h i (by omega)
theorem aeA {x:List Rat} {k:Int} (h:QJ x=some k):(0<=k/\k<x.length)/\0<bC x k.toNat 0/\bC x k.toNat 0<1:=by
 unfold QJ at h
 obtain⟨⟨i,l⟩,b,a⟩:=Option.map_eq_some_iff.1 h
 simp only at a
 subst a
 obtain⟨c,d,_⟩:=arK b
 simp_all
theorem aGF {x:List Rat} (h:QJ x=none):∀i,i<x.length->¬(0<bC x i 0/\bC x i 0<1):=aym (Option.map_eq_none_iff.1 h)
noncomputable def abj (p:dd) (f:List Int):Alloc:=⟨uy (pg p f),o5 ((uy (pg p f)).map (oI p))⟩
noncomputable def np (p:dd) (en:Int->Bool) (s:lU) (f:List Int):lU:=if((s.val+1:Int):Rat)<=DV p f/\aaJ (pg p f)=true then sr en s (abj p f) else s
def DW (s:lU) (a k:Int):lU:={s with prf:=(s.prf++[zN,zN]).set a.toNat (An k s.prf.length)}
noncomputable def Ao (p:dd) (en:Int->Bool) (most:Int) (b:lU->Int->List Int->lU) (s:lU) (a:Int) (f:List Int):lU:=
 if s.err≠0\/s.found=true then s
 else if FC p f=false then {s with prf:=s.prf.set a.toNat cfN}
 else if DV p f<(((np p en s f).val+1:Int):Rat) then {np p en s f with prf:=(np p en s f).prf.set a.toNat (acH p f)}
 else match QJ (pg p f) with
  |none=>{np p en s f with err:=12}
  |some k=>if most<(np p en s f).prf.length+2 then {np p en s f with err:=12}
   else b (b (DW (np p en s f) a k) ((np p en s f).prf.length+1) (f.set k.toNat 1)) (np p en s f).prf.length (f.set k.toNat (-1))
noncomputable def pA (p:dd) (en:Int->Bool) (most:Int):Nat->lU->Int->List Int->lU
 |0=>Ao p en most λs _ _=>s
 |n+1=>Ao p en most (pA p en most n)
structure uz (p:dd) (f:List Int):Prop where
 c:fO p=0
 l:f.length=p.offers.length
 r:Fj f=true
theorem uz.ok {p:dd} {f:List Int} (h:uz p f) (a:FC p f=true):xJ p f:=⟨h.c,h.l,a⟩
theorem uz.e {p:dd} {f:List Int} (h:uz p f):DU p f=0:=by
 unfold DU
 rw[if_neg (by simp[h.c]),if_neg (by simp[h.l]),if_pos h.r]
theorem uz.Qy {p:dd} {f:List Int} (h:uz p f):Qy p f=FC p f:=by
 unfold Go.Vi.Qy;rw[h.e]
 simp
theorem ayn {f:List Int} {k:Nat} {d:Int} (h:Fj f=true) (a: -1<=d/\d<=1):Fj (f.set k d)=true:=by
 grind[Fj]
theorem uz.set {p:dd} {f:List Int} (h:uz p f) {k:Nat} {d:Int} (a: -1<=d/\d<=1):uz p (f.set k d):=⟨h.c,by rw[χ];exact h.l,ayn h.r a⟩
theorem aal {f:List Int} {k d:Int} (i:0<=k/\k<f.length) (l:bC f k.toNat 0=0) (g:d≠0):nF f=nF (f.set k.toNat d)+1:=by
 have c:(dV f 0).Perm (k::dV (f.set k.toNat d) 0):=by
  refine(ε8 (afv.imp λh=>by omega) ?_).2 λx=>?_
  ·rw[List.nodup_cons]
   refine⟨λj=>?_,afv.imp λh=>by omega⟩
   simp_all[Ui,ab4]
  ·rw[List.mem_cons,Ui,Ui,χ]
   constructor
   ·rintro⟨a,b⟩
    by_cases e:x=k
    ·exact .inl e
    ·exact .inr ⟨a,by rw[ab4 (by omega),if_neg (by omega)];exact b⟩
   grind[ab4]
 have:=c.length_eq
 omega
theorem anc {en:Int->Bool} {s:lU} {a:Alloc}:(sr en s a).prf=s.prf/\(sr en s a).err=s.err/\s.val<=(sr en s a).val/\((sr en s a).val=s.val\/(sr en s a).val=a.value)/\((sr en s a).ch=s.ch\/(sr en s a).ch=a.chosen):=by
 grind[sr]
theorem ane {p:dd} {en:Int->Bool} {s:lU} {f:List Int}:(np p en s f).prf=s.prf/\(np p en s f).err=s.err/\s.val<=(np p en s f).val/\((np p en s f).val=s.val\/(np p en s f).val=(abj p f).value)/\((np p en s f).ch=s.ch\/(np p en s f).ch=(abj p f).chosen):=by
 grind[np,anc]
theorem aGG {x:List Rat}:(uy x).length<=x.length:=by
 have:=List.length_filter_le (λi:Int=>decide (0<bC x i.toNat 0)) (rb x.length)
 rw[Qk] at this;exact this
theorem aGH {p:dd} {f:List Int} (b:f.length=p.offers.length):∀x∈(uy (pg p f)).map (oI p),x∈p.offers:=λx a=>by
 obtain⟨i,c,rfl⟩:=γk.1 a
 have:=(ais.1 c).1
 rw[adT,b] at this
 exact pz (by omega)
theorem ayo {p:dd} {f:List Int} (h:uz p f):0<=(abj p f).value/\(abj p f).value<=160000000/\(abj p f).chosen.length<=160:=by
 have a:=uw h.c
 have b:=@adG p a ((uy (pg p f)).map (oI p)) (aGH h.l)
 have d:=@aGG (pg p f)
 rw[adT,h.l] at d
 have e:=a.2.1
 rw[γs] at b
 refine⟨b.1,?_,?_⟩
 ·show o5 _<=_
  omega
 ·show(uy (pg p f)).length<=160
  omega
theorem ake {p:dd} (a:fO p=0) {c:List Int} (h:zc p.offers.length c):lj p c=0↔By p (c.map (oI p))=true:=by
 simp_all[amV,EH,oC,lj]
theorem ait {p:dd} (a:fO p=0) {c:List Int} (h:zc p.offers.length c):qX p c=o5 (c.map (oI p)):=by
 simp_all[oC,amV,qX]
theorem adU {p:dd} {en:Int->Bool} {most:Int}:∀{n:Nat} {s:lU} {a:Int} {f:List Int},uz p f->s.prf.length<=(pA p en most n s a f).prf.length/\((pA p en most n s a f).prf.length<=most\/(pA p en most n s a f).prf.length=s.prf.length)/\s.val<=(pA p en most n s a f).val/\((pA p en most n s a f).val=s.val\/(pA p en most n s a f).val<=160000000)/\((pA p en most n s a f).ch=s.ch\/(pA p en most n s a f).ch.length<=160)/\((pA p en most n s a f).err=s.err\/(pA p en most n s a f).err=12):=by
 have d:∀{b:lU->Int->List Int->lU},(∀{s:lU} {a:Int} {f:List Int},uz p f->s.prf.length<=(b s a f).prf.length/\((b s a f).prf.length<=most\/(b s a f).prf.length=s.prf.length)/\s.val<=(b s a f).val/\((b s a f).val=s.val\/(b s a f).val<=160000000)/\((b s a f).ch=s.ch\/(b s a f).ch.length<=160)/\((b s a f).err=s.err\/(b s a f).err=12))->
   ∀{s:lU} {a:Int} {f:List Int},uz p f->s.prf.length<=(Ao p en most b s a f).prf.length/\((Ao p en most b s a f).prf.length<=most\/(Ao p en most b s a f).prf.length=s.prf.length)/\s.val<=(Ao p en most b s a f).val/\((Ao p en most b s a f).val=s.val\/(Ao p en most b s a f).val<=160000000)/\((Ao p en most b s a f).ch=s.ch\/(Ao p en most b s a f).ch.length<=160)/\((Ao p en most b s a f).err=s.err\/(Ao p en most b s a f).err=12):=by
  intro b c s a f h
  obtain⟨v,j,E,l,r⟩:=@ane p en s f
  obtain⟨H,A,L⟩:=ayo h
  have w:(np p en s f).ch=s.ch\/(np p en s f).ch.length<=160:=r.imp id λh=>by simp_all
  have x:(np p en s f).val=s.val\/(np p en s f).val<=160000000:=l.imp id λh=>by omega
  unfold Ao;split
  ·simp_all
  split
  ·simp_all
  split
  ·simp_all
  split
  ·simp_all
  rename_i k J;split
  ·simp_all
  rename_i o
  have F:(DW (np p en s f) a k).prf.length=s.prf.length+2:=by
   simp_all[DW]
  obtain⟨D,K,u,z,e,t⟩:=@c (DW (np p en s f) a k) ((np p en s f).prf.length+1) (f.set k.toNat 1) (h.set (by omega))
  obtain⟨B,C,G,I,g,M⟩:=@c (b (DW (np p en s f) a k) ((np p en s f).prf.length+1) (f.set k.toNat 1)) (np p en s f).prf.length (f.set k.toNat (-1)) (h.set (by omega))
  have i:(DW (np p en s f) a k).val=(np p en s f).val:=rfl
  have m:(DW (np p en s f) a k).ch=(np p en s f).ch:=rfl
  have q:(DW (np p en s f) a k).err=(np p en s f).err:=rfl
  rw[v] at o;rw[i] at u z;rw[m] at e;rw[q,j] at t
  refine⟨by omega,.inl (by omega),by omega,by omega,?_,?_⟩
  ·rcases g with g|g
   ·rw[g]
    rcases e with e|e<;>simp_all
   omega
  omega
 intro n
 induction n with
 |zero=>exact d λ{s a f} _=>⟨Nat.le_refl _,.inr rfl,Int.le_refl _,.inl rfl,.inl rfl,.inl rfl⟩
 |succ n y=>exact d λh=>y h
inductive BD (p:dd) (v:Int) (t:List XH):Nat->List Int->Nat->Nat->Prop
 |bnd {a:Nat} {f:List Int} {lo:Nat}:t[a]?=some (acH p f)->FC p f=true->DV p f<((v+1:Int):Rat)->BD p v t a f lo lo
 |con {a:Nat} {f:List Int} {lo:Nat}:t[a]?=some cfN->FC p f=false->BD p v t a f lo lo
 |bra {a:Nat} {f:List Int} {lo mid hi:Nat} {k:Int}:t[a]?=some (An k lo)->a<lo->(0<=k/\k<f.length)->bC f k.toNat 0=0->BD p v t (lo+1) (f.set k.toNat 1) (lo+2) mid->BD p v t lo (f.set k.toNat (-1)) mid hi->BD p v t a f lo hi
section
variable {p:dd} {v v':Int} {t t':List XH} {a lo hi:Nat} {f:List Int}
theorem BD.le (h:BD p v t a f lo hi):lo<=hi:=by
 induction h with
 |bnd _ _ _=>omega
 |con _ _=>omega
 |bra _ _ _ _ _ _ b c=>omega
theorem BD.mono (h:BD p v t a f lo hi) (q:v<=v') (e:∀i,i=a\/(lo<=i/\i<hi)->t'[i]?=t[i]?):BD p v' t' a f lo hi:=by
 induction h with
 |bnd c b d=>
  refine .bnd (by simp_all) b ?_
  have:((v+1:Int):Rat)<=((v'+1:Int):Rat):=by exact_mod_cast (show v+1<=v'+1 by omega)
  grind
 |con c b=>exact .con (by simp_all) b
 |bra c b d l k g m j=>
  have o:=k.le
  have n:=g.le
  exact .bra (by simp_all) b d l (m λi hi=>e i (by omega)) (j λi hi=>e i (by omega))
def anf (f:List Int) (l:List Int):Prop:=(∀i∈l,bC f i.toNat 0≠ -1)/\∀i∈dV f 1,i∈l
theorem ayp {l:List Int} {k d:Int} (g:0<=k/\k<f.length) (m:bC f k.toNat 0=0) (e:∀i∈l,0<=i) (h:anf f l) (j:(d=1/\k∈l)\/(d= -1/\k∉l)):anf (f.set k.toNat d) l:=by
 obtain⟨b,c⟩:=h
 refine⟨λi a=>?_,λi a=>?_⟩<;>grind[ab4,Ui]
theorem aGI {l m:List Int} (e:fO p=0) (f:∀i∈l,0<=i/\i<p.offers.length) (q:m.Nodup) (j:∀i∈m,i∈l) (o:l.Nodup) (h:By p (l.map (oI p))=true):By p (m.map (oI p))=true:=by
 refine abY.2 λr b=>?_
 have d:=abY.1 h r b
 have a:l.Perm (m++l.filter λi=>decide (i∉m)):=by
  grind
 have g:li p (l.map (oI p)) r=li p (m.map (oI p)) r+li p ((l.filter λi=>decide (i∉m)).map (oI p)) r:=by
  rw[agJ,agJ,agJ,axD (a.map _),γj,ε0]
 have n:=@aeg p r ((l.filter λi=>decide (i∉m)).map (oI p)) λx c=>by
  obtain⟨i,k,rfl⟩:=γk.1 c
  simp_all[aaf]
 omega
theorem BD.sound (h:BD p v t a f lo hi) (e:uz p f) {l:List Int} (d:zc p.offers.length l) (b:By p (l.map (oI p))=true) (g:anf f l):o5 (l.map (oI p))<=v:=by
 induction h with
 |bnd o n m=>
  have j:=weak (e.ok n) e.r d b g.1 g.2
  have s:((o5 (l.map (oI p)):Int):Rat)<((v+1:Int):Rat):=by grind
  have u:o5 (l.map (oI p))<v+1:=by exact_mod_cast s
  omega
 |con o n=>
  exfalso
  have:=aGI e.c d.2 (afv.imp λh=>by omega) g.2 (amm d) b
  grind[FC]
 |@bra a f lo y hi k o n m j s u x w=>
  by_cases q:k∈l
  ·exact x (e.set (by omega)) (ayp m j (λi hi=>(d.2 i hi).1) g (.inl ⟨rfl,q⟩))
  ·exact w (e.set (by omega)) (ayp m j (λi hi=>(d.2 i hi).1) g (.inr ⟨rfl,q⟩))
end
theorem ayq {p:dd} {en:Int->Bool} {most:Int}:∀{n:Nat} {s:lU} {a:Int} {f:List Int},uz p f->nF f<=n->(0<=a/\a<s.prf.length)->(pA p en most n s a f).err=0->(pA p en most n s a f).found=false->
  BD p (pA p en most n s a f).val (pA p en most n s a f).prf a.toNat f s.prf.length (pA p en most n s a f).prf.length/\(∀i:Nat,i<s.prf.length->i≠a.toNat->(pA p en most n s a f).prf[i]?=s.prf[i]?)/\s.err=0/\s.found=false:=by
 have y:∀{b:lU->Int->List Int->lU} {s:lU} {a:Int} {f:List Int},uz p f->(0<=a/\a<s.prf.length)->
   (∀{s:lU} {a:Int} {g:List Int},uz p g->nF f=nF g+1->(0<=a/\a<s.prf.length)->s.prf.length<=(b s a g).prf.length/\s.val<=(b s a g).val/\((b s a g).err=0->(b s a g).found=false->BD p (b s a g).val (b s a g).prf a.toNat g s.prf.length (b s a g).prf.length/\(∀i:Nat,i<s.prf.length->i≠a.toNat->(b s a g).prf[i]?=s.prf[i]?)/\s.err=0/\s.found=false))->
   (Ao p en most b s a f).err=0->(Ao p en most b s a f).found=false->BD p (Ao p en most b s a f).val (Ao p en most b s a f).prf a.toNat f s.prf.length (Ao p en most b s a f).prf.length/\(∀i:Nat,i<s.prf.length->i≠a.toNat->(Ao p en most b s a f).prf[i]?=s.prf[i]?)/\s.err=0/\s.found=false:=by
  intro b s a f t C q e c
  obtain⟨D,e2,e3,e4,e5⟩:=@ane p en s f
  have B:a.toNat<s.prf.length:=by omega
  unfold Ao at e c ⊢;split at e
  ·simp_all
  rename_i x
  have G:s.err=0/\s.found=false:=by simpa using x
  rw[if_neg x] at c ⊢;split at e
  ·rename_i m
   rw[if_pos m]
   refine⟨?_,λi u j=>?_,G⟩
   ·rw[χ]
    exact .con (by simp_all) m
   ·show(s.prf.set a.toNat cfN)[i]?=_
    rw[δG (λh=>j h.symm)]
  rename_i m;rw[if_neg m] at c ⊢
  have O:FC p f=true:=by simpa using m
  split at e
  ·rename_i w
   rw[if_pos w]
   refine⟨?_,λi u j=>?_,G⟩
   ·rw[χ,D]
    refine .bnd ?_ O w
    simp_all
   ·show((np p en s f).prf.set a.toNat _)[i]?=_
    rw[δG (λh=>j h.symm),D]
  rename_i w;rw[if_neg w] at c ⊢
  cases A:QJ (pg p f) with
  |none=>simp_all
  |some k=>
  rw[A] at e c
  simp only at e c ⊢
  split at e
  ·simp at e
  rename_i Q;rw[if_neg Q] at c ⊢
  obtain⟨l,K,L⟩:=aeA A
  rw[adT] at l
  have v:bC f k.toNat 0=0:=aey (t.ok O) t.r (by omega) K L
  have n1:=aal l v (d:=1) (by omega)
  have Y:=aal l v (d:= -1) (by omega)
  have T:uz p (f.set k.toNat 1):=t.set (by omega)
  have f2:uz p (f.set k.toNat (-1)):=t.set (by omega)
  have S:(DW (np p en s f) a k).prf.length=s.prf.length+2:=by
   simp_all[DW]
  rw[D] at e c ⊢
  obtain⟨l1,v1,t1⟩:=@q (DW (np p en s f) a k) ((s.prf.length:Int)+1) (f.set k.toNat 1) T n1 (by omega)
  generalize R:b (DW (np p en s f) a k) ((s.prf.length:Int)+1) (f.set k.toNat 1)=I at*
  obtain⟨l2,V,Z⟩:=@q I (s.prf.length:Int) (f.set k.toNat (-1)) f2 Y (by omega)
  generalize X:b I (s.prf.length:Int) (f.set k.toNat (-1))=P at*
  obtain⟨N,F,U,w2⟩:=Z e c
  obtain⟨J,H,w3,w4⟩:=t1 U w2
  have M:∀i:Nat,i<s.prf.length+2->(DW (np p en s f) a k).prf[i]?=if i=a.toNat then some (An k s.prf.length) else(s.prf++[zN,zN])[i]?:=λi u=>by
   unfold DW;simp only[D];rw[List.getElem?_set]
   by_cases h:a.toNat=i
   ·simp_all
   ·rw[if_neg h,if_neg (λm=>h m.symm)]
  have E:((s.prf.length:Int)).toNat=s.prf.length:=by omega
  have z:((s.prf.length:Int)+1).toNat=s.prf.length+1:=by omega
  rw[E] at N F;rw[z] at J H;rw[S] at J H
  have o:∀i:Nat,i<s.prf.length->P.prf[i]?=(DW (np p en s f) a k).prf[i]?:=λi u=>by rw[F i (by omega) (by omega),H i (by omega) (by omega)]
  refine⟨.bra (k:=k) (mid:=I.prf.length) ?_ B l v ?_ N,λi u j=>?_,G⟩
  ·rw[o _ B,M _ (by omega),if_pos rfl]
  ·exact J.mono V λi u=>F i (by omega) (by omega)
  ·rw[o i u,M i (by omega),if_neg j,List.getElem?_append_left u]
 intro n
 induction n with
 |zero=>
  intro s a f t W C e c
  exact y t C (λ{s a g} _ h _=>by omega) e c
 |succ n ih=>
  intro s a f t W C e c
  refine y t C (λ{s a g} x m w=>?_) e c
  have A:=@adU p en most n s a g x
  exact⟨A.1,A.2.2.1,λe c=>ih x (by omega) w e c⟩
theorem ayr {p:dd} {en:Int->Bool} {most:Int} {G:List Int->Int->Bool->Prop} (u:∀c w b q w',G c w b->lj p q=0->qX p q=w'->w<w'->G q w' (b||en w')):
  ∀{n:Nat} {s:lU} {a:Int} {f:List Int},uz p f->G s.ch s.val s.found->G (pA p en most n s a f).ch (pA p en most n s a f).val (pA p en most n s a f).found:=by
 have k:∀{d:lU->Int->List Int->lU},(∀{s:lU} {a:Int} {f:List Int},uz p f->G s.ch s.val s.found->G (d s a f).ch (d s a f).val (d s a f).found)->
   ∀{s:lU} {a:Int} {f:List Int},uz p f->G s.ch s.val s.found->G (Ao p en most d s a f).ch (Ao p en most d s a f).val (Ao p en most d s a f).found:=by
  intro d e s a f i j;unfold Ao;split
  ·exact j
  split
  ·exact j
  rename_i t
  have y:FC p f=true:=by simp_all
  have m:G (np p en s f).ch (np p en s f).val (np p en s f).found:=by
   unfold np;split
   ·rename_i A
    unfold sr;split
    ·rename_i o
     obtain⟨z,B⟩:=ayh (i.ok y) i.r A.2
     have g:zc p.offers.length (uy (pg p f)):=by
      have:=@ayg (pg p f)
      rw[adT,i.l] at this;exact this
     refine u _ _ _ _ _ j ?_ ?_ o
     ·exact(ake i.c g).2 z
     ·exact ait i.c g
    ·exact j
   ·exact j
  split
  ·exact m
  split
  ·exact m
  split
  ·exact m
  ·exact e (i.set (by omega)) (e (i.set (by omega)) m)
 intro n
 induction n with
 |zero=>exact k λ_ h=>h
 |succ n x=>exact k λv t=>x v t
theorem two_pow_pos (n:Nat):1<=2^n:=Nat.one_le_two_pow
theorem ays {p:dd} {en:Int->Bool} {most:Int}:∀{n:Nat} {s:lU} {a:Int} {f:List Int},uz p f->nF f<=n->s.err=0->((s.prf.length+2^(nF f+1):Nat):Int)<=most+2->(pA p en most n s a f).err=0/\(pA p en most n s a f).prf.length+2<=s.prf.length+2^(nF f+1):=by
 have key:∀{rec:lU->Int->List Int->lU} {s:lU} {a:Int} {f:List Int},uz p f->s.err=0->((s.prf.length+2^(nF f+1):Nat):Int)<=most+2->
   (∀{s:lU} {a:Int} {f':List Int},uz p f'->nF f=nF f'+1->s.err=0->((s.prf.length+2^(nF f'+1):Nat):Int)<=most+2->(rec s a f').err=0/\(rec s a f').prf.length+2<=s.prf.length+2^(nF f'+1))->
   (Ao p en most rec s a f).err=0/\(Ao p en most rec s a f).prf.length+2<=s.prf.length+2^(nF f+1):=by
  intro rec s a f hf he hm hrec
  obtain⟨e1,e2,e3,e4,e5⟩:=@ane p en s f
  have hp1:2<=2^(nF f+1):=by have:=two_pow_pos (nF f);rw[ζV];omega
  unfold Ao;split
  ·exact⟨he,by omega⟩
  split
  ·exact⟨he,by rw[χ];omega⟩
  rename_i h1 h2
  have hb:FC p f=true:=by simpa using h2
  split
  ·exact⟨by show(np p en s f).err=0;rw[e2,he],by rw[χ,e1];omega⟩
  rename_i h3
  cases hk:QJ (pg p f) with
  |none=>
   exfalso
   apply h3
   have hint:aaJ (pg p f)=true:=by
    unfold aaJ;rw[γf];intro q hq
    obtain⟨i,hi,rfl⟩:=δb hq
    have h4:=aGF hk i hi
    obtain⟨b0,b1,_⟩:=am9 (hf.ok hb) hf.r (show i<f.length by rw[<-@adT p f];exact hi)
    rw[my hi] at h4 b0 b1
    rcases(show(pg p f)[i]=0\/(pg p f)[i]=1 by grind) with e|e
    ·rw[e];rfl
    ·rw[e];rfl
   obtain⟨q1,q2⟩:=ayh (hf.ok hb) hf.r hint
   have hc:((abj p f).value:Rat)=DV p f:=q2
   by_cases h5:((s.val+1:Int):Rat)<=DV p f
   ·have hlt:s.val<(abj p f).value:=by
     rw[<-hc] at h5
     have:s.val+1<=(abj p f).value:=by exact_mod_cast h5
     omega
    have:(np p en s f).val=(abj p f).value:=by
     unfold np
     rw[if_pos ⟨h5,hint⟩]
     unfold sr;rw[if_pos hlt]
    rw[this,<-hc]
    exact_mod_cast (show(abj p f).value<(abj p f).value+1 by omega)
   ·have:(np p en s f).val=s.val:=by
     unfold np;rw[if_neg (λh=>h5 h.1)]
    rw[this]
    grind
  |some k=>
   simp only
   obtain⟨hk1,hk2,hk3⟩:=aeA hk
   rw[adT] at hk1
   have hk0:bC f k.toNat 0=0:=aey (hf.ok hb) hf.r (by omega) hk2 hk3
   have n1:=aal hk1 hk0 (d:=1) (by omega)
   have n2:=aal hk1 hk0 (d:= -1) (by omega)
   have f1:uz p (f.set k.toNat 1):=hf.set (by omega)
   have f2:uz p (f.set k.toNat (-1)):=hf.set (by omega)
   have hl:(DW (np p en s f) a k).prf.length=s.prf.length+2:=by
    unfold DW;simp only[χ,List.length_append,e1,List.length_cons,List.length_nil]
   have pw:2^(nF f+1)=2^(nF (f.set k.toNat 1)+1)+2^(nF (f.set k.toNat 1)+1):=by
    rw[n1,ζV 2 (nF (f.set k.toNat 1)+1)];omega
   have ne:nF (f.set k.toNat (-1))=nF (f.set k.toNat 1):=by omega
   have hp2:2<=2^(nF (f.set k.toNat 1)+1):=by have:=two_pow_pos (nF (f.set k.toNat 1));rw[ζV];omega
   rw[if_neg (by rw[e1];omega)]
   have he1:(DW (np p en s f) a k).err=0:=by show(np p en s f).err=0;rw[e2,he]
   obtain⟨r1,r2⟩:=@hrec (DW (np p en s f) a k) ((np p en s f).prf.length+1) (f.set k.toNat 1) f1 n1 he1 (by rw[hl];omega)
   obtain⟨r3,r4⟩:=@hrec _ (np p en s f).prf.length (f.set k.toNat (-1)) f2 n2 r1 (by rw[ne];omega)
   rw[ne] at r4
   exact⟨r3,by omega⟩
 intro n
 induction n with
 |zero=>
  intro s a f hf hn he hm
  exact key hf he hm λ{s a f'} _ h _ _=>by omega
 |succ n ih=>
  intro s a f hf hn he hm
  exact key hf he hm λ{s a f'} h1 h2 h3 h4=>ih h1 (by omega) h3 h4
end Go.Vi

/-
  Contracts: visits of nodes.
  Conditions: none.
-/
import Derived.Test.YtlphnffeeefcdaaGreatWD12
import Derived.Test.YtlphnffeeefcdaaGreatWD06
import Derived.Test.YtlphnffeeefcdaaGreatWD07
import Derived.Test.YtlphnffeeefcdaaGreatWD08
import Derived.Test.YtlphnffeeefcdaaGreatWD09
import Derived.Test.YtlphnffeeefcdaaGreatWD10
import Derived.Test.YtlphnffeeefcdaaGreatWD11
set_option maxRecDepth 100000
set_option maxHeartbeats 4000000
set_option linter.all false
open Bool renaming and_eq_true->ζ,not_eq_true'->γ5
open Classical renaming not_not->Ξ
open Go.Vi.SV renaming si->γe,row->Θ,sb->γw,il->γx,ptr->γP,agg->γQ,bl->δa
open Int renaming ofNat_lt->εN,toNat_natCast->Ψ
open IntCast renaming intCast->ι
open List renaming length_set->τ,getElem_of_mem->γF,length_append->γg,mem_map->γa,length_replicate->γk,replicate->δ,map_cons->ξ,sum_cons->δH,mem_cons_of_mem->γW,mem_cons_self->δh,map_nil->γs,nodup_append->γu,map_append->γb,pairwise_append->δE,pairwise_singleton->ζl,mem_append->γh,append_nil->γL,mem_filter->γD,length_filter_le->γ0,length_drop->δ7,pairwise_cons->γA,append_assoc->γK,cons_append->γy,filter_eq_nil_iff->δ9,filter_eq_self->δ5,length_take->γq,mem_singleton->γT
open List.Pairwise renaming nil->δv
open List.Perm renaming append_left->ζw
open List.cons renaming injEq->Δ
open Nat renaming lt_of_lt_of_le->γo,pow_le_pow_right->δq
open Option renaming isSome_eq_false_iff->γ1,isNone_iff_eq_none->γJ,isSome_iff_exists->γp,getD_some->γX
open Option.some renaming injEq->γ
open Rat renaming not_lt->εw
namespace Go.Vi
open Go.Proofs.YtlphnffeeefcdaaGreat.Ir
open Go.Proofs
theorem aec {n:Nat} (hD:dZ Tryz.prog (EN n)):dZ Tryz.prog (wb (n+1)):=by
 refine Y3 (L:=[nY,x6,Ku,KB]) (W:=[Kz,KA,AZ,EN n]) (wb (n+1)) (fG 47) lk (by simpa using⟨h390w,h446,h439,hD⟩) (by simpa using⟨h94,h97,h445,h447⟩) ?_;rintro⟨⟨p,ch,val,found,en,k1,k2,most,err,prf,fx⟩,a⟩ ⟨hok,ha,hn⟩;simp only at hok ha hn;have e1:k1=prf.length:=hok.k1;have e2:k2=fx.length:=hok.k2;subst e1;subst e2;have hf:eI p fx:=hok.f;have h160:=(dN hf.c).2.1;have hfl:fx.length=p.offers.length:=hf.l;have hfe:=hf.e;have hfo:=hf.jQ;have hv0:0<=val:=hok.v0;have hv1:val<=9223372036854775806:=hok.v1;have hm0:1<=most:=hok.m0;have hm1:most<=65536:=hok.m1;have hpl:prf.length<=65536:=hok.l;rcases en with _|m
 ·refine bO (let b:=γe .i64;let c:=(0:Int);let d:=bq.cells;let e:=SV.bJ;let f:=(1:Int);let g:=bq.row;let h:=(-1:Int);let j:=cn .i64;let k:=(-9223372036854775808:Int);let l:=(9223372036854775807:Int);let m:=Θ;let o:=γw;let q:=(2:Int);let r:=SV.ow;let Q:=vL (km p fx);let v:=b p.supply.a0;let w:=b p.supply.a1;let x:=b p.supply.a2;let y:=b p.supply.a3;let z:=b p.supply.a4;let A:=b p.supply.a5;let B:=b p.opn.a0;let C:=b p.opn.a1;let D:=b p.opn.a2;let E:=b p.opn.a3;let F:=b p.opn.a4;let G:=b p.opn.a5;let H:=b p.cls.a0;let I:=b p.cls.a1;let J:=b p.cls.a2;let K:=b p.cls.a3;let L:=b p.cls.a4;let M:=b p.cls.a5;let V:=bp.i .i64;let N:=m V p.classes;let O:=m bp.off p.offers;let ae:=m V ch;let af:=b val;let P:=SV.fn (Fn.func 45) [] [];let ag:=r 1 prf.length 5;let R:=r 2 fx.length 1;let S:=b most;let au:=[R,S,γx .i64 12];let av:=dc.mk ch val found prf err;let a7:=dG p (cy none) most (nF fx) av a fx;let T:=d [v,w,x,y,z,A,B,C,D,E,F,G,H,I,J,K,L,M,N,O,m V a7.ch,b a7.val,o a7.found,P,r 1 a7.prf.length 5,R,S,b a7.err] 85 28 false;let U:=g bA a7.prf 68 true;let t:=g V fx 3 true;let Y:=(↑prf.length:Int);let aw:=decide (most<Y+q);let ax:=prf.length+2;let a8:=Y+f;let am:=(c,c,c,[]);let aj:=[(c,am),(c,am)];let z45:Nat:=(prf++aj).length;let u:=(jD Q).getD c;let an:=(prf++aj).set a.toNat (q,u,Y,a8,[]);let a9:=fx.set u.toNat f;let W:=dG p (cy none) most (nF a9) (dc.mk ch val found an err) a8 a9;let aa:=fx.set u.toNat h;let ab:=dG p (cy none) most (nF aa) W Y aa;let ah:=((kj p fx).fst,(kj p fx).snd.fst,(kj p fx).snd.snd);let ak:=val+f;let ao:=bu (ι ak);let ap:=(ao.fst,ao.snd.fst,ao.snd.snd);let ay:=iM (bQ ah) (bQ ap);let az:=decide (ay<c);let aA:=(f,c,c,c,qK p fx);let s:=dX (cy none) av (Alloc.mk (eE Q) (cu (List.map (oI p) (eE Q))));let z60:Nat:=(s.prf++aj).length;let aB:=b s.val;let ai:=s.prf.length;let aC:=r 1 ai 5;let aD:=decide (err≠c);let aE:=decide (i7 p fx≠c);let aF:=decide (c<=ay);let al:=s.val+f;let aq:=bu (ι al);let aG:=(aq.fst,aq.snd.fst,aq.snd.snd);let aH:=decide (iM (bQ ah) (bQ aG)<c);let Z:=s.prf.length;let a6:=(↑ai:Int);let aI:=decide (most<a6+q);let ac:=a6+f;let ar:=(s.prf++aj).set a.toNat (q,u,a6,ac,[]);let X:=dG p (cy none) most (nF a9) (dc.mk s.ch s.val s.found ar s.err) ac a9;let ad:=dG p (cy none) most (nF aa) X a6 aa;let aO:=let aJ:=(e []).same (e [])/\(d (v::w::x::y::z::A::B::C::D::E::F::G::H::I::J::K::L::M::N::O::ae::af::o found::P::ag::au) 85 28 false).same T/\(g bA prf 68 true).same U/\t.same t/\True;oZ (km p fx)/\((!(jD Q).isSome)=true->aJ)/\((!(jD Q).isSome)=false->j (Y+q)/\(aw=true->aJ)/\(aw=false->2=2/\prf.length=prf.length/\ax*56<=140737488355328/\ax<=1000000000000/\j a8/\z45=z45/\c<=a/\a<(↑z45:Int)/\z45=z45/\a.toNat<z45/\j a8/\(eU (dO.mk p ch val found none z45 fx.length most err an fx)/\(c<=a8/\a8<(↑an.length:Int))/\(c<=u/\u<(↑fx.length:Int))/\bj fx u.toNat c=c/\(f=f\/f=h)/\nF a9<n)/\(eU (dO.mk p W.ch W.val W.found none W.prf.length fx.length most W.err W.prf fx)/\(c<=Y/\Y<(↑W.prf.length:Int))/\(c<=u/\u<(↑fx.length:Int))/\bj fx u.toNat c=c/\(h=f\/h=h)/\nF aa<n)/\(e []).same (e [])/\(d [v,w,x,y,z,A,B,C,D,E,F,G,H,I,J,K,L,M,N,O,m V ab.ch,b ab.val,o ab.found,P,r 1 ab.prf.length 5,R,S,b ab.err] 85 28 false).same T/\(g bA ab.prf 68 true).same U/\t.same t/\True));let aK:=(cB ah/\cB ap)/\(az=true->prf.length=prf.length/\c<=a/\a<(↑prf.length:Int)/\prf.length=prf.length/\a.toNat<prf.length/\(e []).same (e [])/\(d [v,w,x,y,z,A,B,C,D,E,F,G,H,I,J,K,L,M,N,O,ae,af,o found,P,ag,R,S,b err] 85 28 false).same T/\(g bA (prf.set a.toNat aA) 68 true).same U/\t.same t/\True)/\(az=false->aO);let aL:=z60=z60;let aM:=(e []).same (e [])/\(d (v::w::x::y::z::A::B::C::D::E::F::G::H::I::J::K::L::M::N::O::m V s.ch::aB::o s.found::P::aC::au) 85 28 false).same T/\(g bA s.prf 68 true).same U/\t.same t/\True;let aN:=(e []).same (e [])/\(d [v,w,x,y,z,A,B,C,D,E,F,G,H,I,J,K,L,M,N,O,ae,af,o found,P,ag,R,S,b err] 85 28 false).same T/\(g bA prf 68 true).same U/\t.same t/\True;(aD=true->aN)/\(aD=false->(found=true->aN)/\(found=false->(fx.length=fx.length/\fx.length<=1000000000000)/\(aE=true->(e []).same (e [])/\(d [v,w,x,y,z,A,B,C,D,E,F,G,H,I,J,K,L,M,N,O,ae,af,o found,P,ag,R,S,b (i7 p fx)] 85 28 false).same T/\(g bA prf 68 true).same U/\t.same t/\True)/\(aE=false->((!jQ p fx)=true->prf.length=prf.length/\c<=a/\a<(↑prf.length:Int)/\prf.length=prf.length/\a.toNat<prf.length/\(e []).same (e [])/\(d [v,w,x,y,z,A,B,C,D,E,F,G,H,I,J,K,L,M,N,O,ae,af,o found,P,ag,R,S,b err] 85 28 false).same T/\(g bA (prf.set a.toNat ((3:Int),am)) 68 true).same U/\t.same t/\True)/\((!jQ p fx)=false->j ak/\(k<=ak/\ak<=l)/\(cB ah/\cB ap)/\(aF=true->oZ (km p fx)/\(mG Q=true->(eU (dO.mk p ch val found none prf.length fx.length most err prf fx)/\oZ (km p fx)/\(km p fx).length=p.offers.length)/\prf.length=prf.length/\j al/\(k<=al/\al<=l)/\(cB ah/\cB aG)/\(aH=true->ai=Z/\c<=a/\a<(↑Z:Int)/\ai=Z/\a.toNat<Z/\(e []).same (e [])/\(d [v,w,x,y,z,A,B,C,D,E,F,G,H,I,J,K,L,M,N,O,m V s.ch,aB,o s.found,P,aC,R,S,b s.err] 85 28 false).same T/\(g bA (s.prf.set a.toNat aA) 68 true).same U/\t.same t/\True)/\(aH=false->oZ (km p fx)/\((!(jD Q).isSome)=true->aM)/\((!(jD Q).isSome)=false->j (a6+q)/\(aI=true->aM)/\(aI=false->2=2/\ai=Z/\(Z+2)*56<=140737488355328/\Z+2<=1000000000000/\j ac/\aL/\c<=a/\a<(↑z60:Int)/\aL/\a.toNat<z60/\j ac/\(eU (dO.mk p s.ch s.val s.found none z60 fx.length most s.err ar fx)/\(c<=ac/\ac<(↑ar.length:Int))/\(c<=u/\u<(↑fx.length:Int))/\bj fx u.toNat c=c/\(f=f\/f=h)/\nF a9<n)/\(eU (dO.mk p X.ch X.val X.found none X.prf.length fx.length most X.err X.prf fx)/\(c<=a6/\a6<(↑X.prf.length:Int))/\(c<=u/\u<(↑fx.length:Int))/\bj fx u.toNat c=c/\(h=f\/h=h)/\nF aa<n)/\(e []).same (e [])/\(d [v,w,x,y,z,A,B,C,D,E,F,G,H,I,J,K,L,M,N,O,m V ad.ch,b ad.val,o ad.found,P,r 1 ad.prf.length 5,R,S,b ad.err] 85 28 false).same T/\(g bA ad.prf 68 true).same U/\t.same t/\True))))/\(mG Q=false->aK))/\(aF=false->aK)))))) (by kernel_rfl) ?_;simp only[vcs];refine⟨λh=>by rw[A4 hf (.inl h)];exact⟨rfl,rfl⟩,λh0=>⟨λh=>by rw[A4 hf (.inr h)];exact⟨rfl,rfl⟩,λh1=>⟨by omega,λh=>absurd hfe h,λ_=>⟨λh=>?_,λhb=>?_⟩⟩⟩⟩
  ·have hs:¬((⟨ch,val,found,prf,err⟩:dc).err≠0\/(⟨ch,val,found,prf,err⟩:dc).found=true):=by
    rintro(h|h);·exact h0 h
    ·rw[show found=true from h] at h1;cases h1
   rw[Uh hf hs (by rw[<-hfo];exact h)];refine⟨ha.1,ha.2,by omega,?_,rfl⟩;simp only[τ];rfl
  ·have hs:¬((⟨ch,val,found,prf,err⟩:dc).err≠0\/(⟨ch,val,found,prf,err⟩:dc).found=true):=by
    rintro(h|h);·exact h0 h
    ·rw[show found=true from h] at h1;cases h1
   have hbf:ic p fx=true:=by rw[<-hfo];exact hb
   have hfix:=hf.ok hbf;have eB:kj p fx=bu (ja p fx):=by unfold kj;rw[if_pos hb]
   have eS:km p fx=fL (dC p fx):=by unfold km dC;rw[if_pos hb]
   have eP:qK p fx=fL (gh p fx):=by unfold qK;rw[if_pos hb]
   have hsl:(dC p fx).length=fx.length:=rB;have oS:oZ (fL (dC p fx)):=⟨dC p fx,rfl,by rw[ft];omega,λq hq=>by
    obtain⟨i,hi,rfl⟩:=γF hq;have:=(Ez hfix hf.r (i:=i) (by omega)).2.2;rwa [cV hi] at this⟩;have fB:cB (bu (ja p fx)):=dP (Uj hb) (by omega);have fI:∀v:Int,0<=v->v<=9223372036854775807->cB (bu (ι v)):=λv h0 h1=>dP (rD (by omega) h1) (by omega);have hcv:∀v:Int,iM (ja p fx) (ι v)<0↔ja p fx<((v:Int):Rat):=λv=>sM;simp only[eB,eS,eP,kJ,jB,ez];have hcm:eE (dC p fx)=(oY p fx).chosen:=rfl;refine⟨by omega,by omega,⟨fB,fI _ (by omega) (by omega)⟩,λhge=>⟨oS,λhi=>?_,λhi=>?_⟩,λhlt=>?_⟩
   ·have hO:dm p (cy none) ⟨ch,val,found,prf,err⟩ fx=dX (cy none) ⟨ch,val,found,prf,err⟩ ⟨eE (dC p fx),cu ((eE (dC p fx)).map (oI p))⟩:=by
     unfold dm;rw[if_pos ⟨εw.1 λh=>absurd ((hcv (val+1)).2 h) (Int.not_lt.2 hge),hi⟩];rfl
    have hok':eU (dO.upd ⟨p,ch,val,found,none,prf.length,fx.length,most,err,prf,fx⟩ (dm p (cy none) ⟨ch,val,found,prf,err⟩ fx)):=hok.Ui;rw[hO] at hok';obtain⟨e1,e2,_⟩:=@ED (cy none) ⟨ch,val,found,prf,err⟩ ⟨eE (dC p fx),cu ((eE (dC p fx)).map (oI p))⟩;generalize dX (cy none) ⟨ch,val,found,prf,err⟩ ⟨eE (dC p fx),cu ((eE (dC p fx)).map (oI p))⟩=O at*;obtain⟨ch',val',found',prf',sN⟩:=O;have e1:prf=prf':=Eq.symm e1;have e2:err=sN:=Eq.symm e2;subst e1;subst e2;have w0:0<=val':=hok'.v0;have w1:val'<=9223372036854775806:=hok'.v1;dsimp only;refine⟨⟨hok,oS,by rw[ft];omega⟩,by omega,by omega,⟨fB,fI _ (by omega) (by omega)⟩,?_⟩;refine⟨λh=>?_,λh=>⟨oS,λhk=>?_,λhk=>⟨by omega,λhm=>?_,λhm=>?_⟩⟩⟩
    ·rw[yD hf hs hbf hO ((hcv _).1 h)];refine⟨ha.1,ha.2,by omega,?_,rfl⟩;simp only[τ];rfl
    ·rw[pL hf hs hbf hO (λh'=>h ((hcv _).2 h')) (.inl (γ1.1 hk |>γJ.1))];exact⟨rfl,rfl⟩
    ·rw[pL hf hs hbf hO (λh'=>h ((hcv _).2 h')) (.inr hm)];exact⟨rfl,rfl⟩
    ·obtain⟨k,hk'⟩:=γp.1 hk;rw[yE hf hs hbf hO (λh'=>h ((hcv _).2 h')) hk' hm];simp only[hk',γX];obtain⟨hk1,hk2,hk3⟩:=sK hk';rw[hsl] at hk1;have hk0:bj fx k.toNat 0=0:=sJ hfix hf.r (by omega) hk2 hk3;have n1:=l9 hk1 hk0 (d:=1) (by omega);have n2:=l9 hk1 hk0 (d:= -1) (by omega);have hl2:((prf++[zN,zN]).set a.toNat (jR k prf.length)).length=prf.length+2:=by rw[τ,γg];rfl
     have hl1:(prf++[zN,zN]).length=prf.length+2:=by rw[γg];rfl
     have o1:=eU.spl (x:=⟨p,ch',val',found',none,prf.length,fx.length,most,sN,prf,fx⟩) hok' (k:=(prf++[zN,zN]).length) (l:=(prf++[zN,zN]).set a.toNat (jR k prf.length)) hm (by rw[hl1,hl2]) hl2;have o2:=o1.vis (f:=fx.set k.toNat 1) (hf.set (by omega)) (n:=nF (fx.set k.toNat 1)) (a:=(prf.length:Int)+1);have o3:=(@rC p (cy none) most (nF (fx.set k.toNat 1)) (gq ⟨ch',val',found',prf,sN⟩ a k) ((prf.length:Int)+1) (fx.set k.toNat 1) (hf.set (by omega))).1;have o4:prf.length+2<=(dG p (cy none) most (nF (fx.set k.toNat 1)) (gq ⟨ch',val',found',prf,sN⟩ a k) ((prf.length:Int)+1) (fx.set k.toNat 1)).prf.length:=by rw[<-hl2];exact o3
     have q1:a<((prf++[zN,zN]).length:Int):=by omega
     have q3:(prf.length:Int)+1<(((prf++[zN,zN]).set a.toNat (jR k prf.length)).length:Int):=by rw[hl2];omega
     have q2:a.toNat<(prf++[zN,zN]).length:=by omega
     exact⟨by omega,by omega,by omega,ha.1,q1,q2,by omega,⟨o1,⟨by omega,q3⟩,hk1,hk0,.inl trivial,by omega⟩,⟨o2,⟨by omega,εN.2 (γo (by omega) o4)⟩,hk1,hk0,.inr trivial,by omega⟩,rfl,rfl⟩
   ·have hO:dm p (cy none) ⟨ch,val,found,prf,err⟩ fx=⟨ch,val,found,prf,err⟩:=by
     unfold dm;rw[if_neg (λh=>by rw[h.2] at hi;cases hi)]
    refine⟨⟨fB,fI _ (by omega) (by omega)⟩,?_⟩;refine⟨λh=>?_,λh=>⟨oS,λhk=>?_,λhk=>⟨by omega,λhm=>?_,λhm=>?_⟩⟩⟩
    ·rw[yD hf hs hbf hO ((hcv _).1 h)];refine⟨ha.1,ha.2,by omega,?_,rfl⟩;simp only[τ];rfl
    ·rw[pL hf hs hbf hO (λh'=>h ((hcv _).2 h')) (.inl (γ1.1 hk |>γJ.1))];exact⟨rfl,rfl⟩
    ·rw[pL hf hs hbf hO (λh'=>h ((hcv _).2 h')) (.inr hm)];exact⟨rfl,rfl⟩
    ·obtain⟨k,hk'⟩:=γp.1 hk;rw[yE hf hs hbf hO (λh'=>h ((hcv _).2 h')) hk' hm];simp only[hk',γX];obtain⟨hk1,hk2,hk3⟩:=sK hk';rw[hsl] at hk1;have hk0:bj fx k.toNat 0=0:=sJ hfix hf.r (by omega) hk2 hk3;have n1:=l9 hk1 hk0 (d:=1) (by omega);have n2:=l9 hk1 hk0 (d:= -1) (by omega);have hl2:((prf++[zN,zN]).set a.toNat (jR k prf.length)).length=prf.length+2:=by rw[τ,γg];rfl
     have hl1:(prf++[zN,zN]).length=prf.length+2:=by rw[γg];rfl
     have o1:=eU.spl hok (k:=(prf++[zN,zN]).length) (l:=(prf++[zN,zN]).set a.toNat (jR k prf.length)) hm (by rw[hl1,hl2]) hl2;have o2:=o1.vis (f:=fx.set k.toNat 1) (hf.set (by omega)) (n:=nF (fx.set k.toNat 1)) (a:=(prf.length:Int)+1);have o3:=(@rC p (cy none) most (nF (fx.set k.toNat 1)) (gq ⟨ch,val,found,prf,err⟩ a k) ((prf.length:Int)+1) (fx.set k.toNat 1) (hf.set (by omega))).1;have o4:prf.length+2<=(dG p (cy none) most (nF (fx.set k.toNat 1)) (gq ⟨ch,val,found,prf,err⟩ a k) ((prf.length:Int)+1) (fx.set k.toNat 1)).prf.length:=by rw[<-hl2];exact o3
     have q1:a<((prf++[zN,zN]).length:Int):=by omega
     have q3:(prf.length:Int)+1<(((prf++[zN,zN]).set a.toNat (jR k prf.length)).length:Int):=by rw[hl2];omega
     have q2:a.toNat<(prf++[zN,zN]).length:=by omega
     exact⟨by omega,by omega,by omega,ha.1,q1,q2,by omega,⟨o1,⟨by omega,q3⟩,hk1,hk0,.inl trivial,by omega⟩,⟨o2,⟨by omega,εN.2 (γo (by omega) o4)⟩,hk1,hk0,.inr trivial,by omega⟩,rfl,rfl⟩
   ·have hO:dm p (cy none) ⟨ch,val,found,prf,err⟩ fx=⟨ch,val,found,prf,err⟩:=by
     unfold dm;rw[if_neg (λh=>εw.2 h.1 ((hcv (val+1)).1 (Int.not_le.1 hlt)))]
    refine⟨⟨fB,fI _ (by omega) (by omega)⟩,?_⟩;refine⟨λh=>?_,λh=>⟨oS,λhk=>?_,λhk=>⟨by omega,λhm=>?_,λhm=>?_⟩⟩⟩
    ·rw[yD hf hs hbf hO ((hcv _).1 h)];refine⟨ha.1,ha.2,by omega,?_,rfl⟩;simp only[τ];rfl
    ·rw[pL hf hs hbf hO (λh'=>h ((hcv _).2 h')) (.inl (γ1.1 hk |>γJ.1))];exact⟨rfl,rfl⟩
    ·rw[pL hf hs hbf hO (λh'=>h ((hcv _).2 h')) (.inr hm)];exact⟨rfl,rfl⟩
    ·obtain⟨k,hk'⟩:=γp.1 hk;rw[yE hf hs hbf hO (λh'=>h ((hcv _).2 h')) hk' hm];simp only[hk',γX];obtain⟨hk1,hk2,hk3⟩:=sK hk';rw[hsl] at hk1;have hk0:bj fx k.toNat 0=0:=sJ hfix hf.r (by omega) hk2 hk3;have n1:=l9 hk1 hk0 (d:=1) (by omega);have n2:=l9 hk1 hk0 (d:= -1) (by omega);have hl2:((prf++[zN,zN]).set a.toNat (jR k prf.length)).length=prf.length+2:=by rw[τ,γg];rfl
     have hl1:(prf++[zN,zN]).length=prf.length+2:=by rw[γg];rfl
     have o1:=eU.spl hok (k:=(prf++[zN,zN]).length) (l:=(prf++[zN,zN]).set a.toNat (jR k prf.length)) hm (by rw[hl1,hl2]) hl2;have o2:=o1.vis (f:=fx.set k.toNat 1) (hf.set (by omega)) (n:=nF (fx.set k.toNat 1)) (a:=(prf.length:Int)+1);have o3:=(@rC p (cy none) most (nF (fx.set k.toNat 1)) (gq ⟨ch,val,found,prf,err⟩ a k) ((prf.length:Int)+1) (fx.set k.toNat 1) (hf.set (by omega))).1;have o4:prf.length+2<=(dG p (cy none) most (nF (fx.set k.toNat 1)) (gq ⟨ch,val,found,prf,err⟩ a k) ((prf.length:Int)+1) (fx.set k.toNat 1)).prf.length:=by rw[<-hl2];exact o3
     have q1:a<((prf++[zN,zN]).length:Int):=by omega
     have q3:(prf.length:Int)+1<(((prf++[zN,zN]).set a.toNat (jR k prf.length)).length:Int):=by rw[hl2];omega
     have q2:a.toNat<(prf++[zN,zN]).length:=by omega
     exact⟨by omega,by omega,by omega,ha.1,q1,q2,by omega,⟨o1,⟨by omega,q3⟩,hk1,hk0,.inl trivial,by omega⟩,⟨o2,⟨by omega,εN.2 (γo (by omega) o4)⟩,hk1,hk0,.inr trivial,by omega⟩,rfl,rfl⟩
 ·refine bO (let b:=γe .i64;let c:=(0:Int);let d:=bq.cells;let e:=SV.bJ;let f:=(1:Int);let g:=bq.row;let h:=(-1:Int);let j:=cn .i64;let k:=(-9223372036854775808:Int);let l:=(9223372036854775807:Int);let o:=Θ;let q:=γw;let r:=(2:Int);let s:=SV.ow;let ag:=((kj p fx).fst,(kj p fx).snd.fst,(kj p fx).snd.snd);let al:=val+f;let ao:=bu (ι al);let ap:=(ao.fst,ao.snd.fst,ao.snd.snd);let aw:=iM (bQ ag) (bQ ap);let ax:=decide (aw<c);let x:=b p.supply.a0;let y:=b p.supply.a1;let z:=b p.supply.a2;let A:=b p.supply.a3;let B:=b p.supply.a4;let C:=b p.supply.a5;let D:=b p.opn.a0;let E:=b p.opn.a1;let F:=b p.opn.a2;let G:=b p.opn.a3;let H:=b p.opn.a4;let I:=b p.opn.a5;let J:=b p.cls.a0;let K:=b p.cls.a1;let L:=b p.cls.a2;let M:=b p.cls.a3;let N:=b p.cls.a4;let O:=b p.cls.a5;let X:=bp.i .i64;let P:=o X p.classes;let Q:=o bp.off p.offers;let ah:=o X ch;let ai:=b val;let R:=SV.fn (Fn.func 89) [] [γP 1 0 1];let aj:=s 2 prf.length 5;let S:=s 3 fx.length 1;let T:=b most;let ay:=dc.mk ch val found prf err;let a9:=dG p (cy (some m)) most (nF fx) ay a fx;let U:=d [x,y,z,A,B,C,D,E,F,G,H,I,J,K,L,M,N,O,P,Q,o X a9.ch,b a9.val,q a9.found,R,s 2 a9.prf.length 5,S,T,b a9.err] 85 28 false;let u:=d [b m] 2 1 false;let az:=(f,c,c,c,qK p fx);let V:=g bA a9.prf 68 true;let v:=g X fx 3 true;let W:=vL (km p fx);let aA:=[S,T,γx .i64 12];let a6:=(↑prf.length:Int);let aB:=decide (most<a6+r);let aC:=prf.length+2;let aa:=a6+f;let aq:=(c,c,c,[]);let am:=[(c,aq),(c,aq)];let z53:Nat:=(prf++am).length;let w:=(jD W).getD c;let ar:=(prf++am).set a.toNat (r,w,a6,aa,[]);let ab:=fx.set w.toNat f;let Y:=dG p (cy (some m)) most (nF ab) (dc.mk ch val found ar err) aa ab;let ac:=fx.set w.toNat h;let ad:=dG p (cy (some m)) most (nF ac) Y a6 ac;let t:=dX (cy (some m)) ay (Alloc.mk (eE W) (cu (List.map (oI p) (eE W))));let aD:=b t.val;let ak:=t.prf.length;let aE:=s 2 ak 5;let z64:Nat:=(t.prf++am).length;let aF:=decide (err≠c);let aG:=decide (i7 p fx≠c);let aH:=decide (c<=aw);let an:=t.val+f;let au:=bu (ι an);let aI:=(au.fst,au.snd.fst,au.snd.snd);let aJ:=decide (iM (bQ ag) (bQ aI)<c);let a7:=t.prf.length;let a8:=(↑ak:Int);let aK:=decide (most<a8+r);let ae:=a8+f;let av:=(t.prf++am).set a.toNat (r,w,a8,ae,[]);let Z:=dG p (cy (some m)) most (nF ab) (dc.mk t.ch t.val t.found av t.err) ae ab;let af:=dG p (cy (some m)) most (nF ac) Z a8 ac;let aQ:=let aL:=(e []).same (e [])/\(d (x::y::z::A::B::C::D::E::F::G::H::I::J::K::L::M::N::O::P::Q::ah::ai::q found::R::aj::aA) 85 28 false).same U/\u.same u/\(g bA prf 68 true).same V/\v.same v/\True;(ax=true->prf.length=prf.length/\c<=a/\a<(↑prf.length:Int)/\prf.length=prf.length/\a.toNat<prf.length/\(e []).same (e [])/\(d [x,y,z,A,B,C,D,E,F,G,H,I,J,K,L,M,N,O,P,Q,ah,ai,q found,R,aj,S,T,b err] 85 28 false).same U/\u.same u/\(g bA (prf.set a.toNat az) 68 true).same V/\v.same v/\True)/\(ax=false->oZ (km p fx)/\((!(jD W).isSome)=true->aL)/\((!(jD W).isSome)=false->j (a6+r)/\(aB=true->aL)/\(aB=false->2=2/\prf.length=prf.length/\aC*56<=140737488355328/\aC<=1000000000000/\j aa/\z53=z53/\c<=a/\a<(↑z53:Int)/\z53=z53/\a.toNat<z53/\j aa/\(eU (dO.mk p ch val found (some m) z53 fx.length most err ar fx)/\(c<=aa/\aa<(↑ar.length:Int))/\(c<=w/\w<(↑fx.length:Int))/\bj fx w.toNat c=c/\(f=f\/f=h)/\nF ab<n)/\(eU (dO.mk p Y.ch Y.val Y.found (some m) Y.prf.length fx.length most Y.err Y.prf fx)/\(c<=a6/\a6<(↑Y.prf.length:Int))/\(c<=w/\w<(↑fx.length:Int))/\bj fx w.toNat c=c/\(h=f\/h=h)/\nF ac<n)/\(e []).same (e [])/\(d [x,y,z,A,B,C,D,E,F,G,H,I,J,K,L,M,N,O,P,Q,o X ad.ch,b ad.val,q ad.found,R,s 2 ad.prf.length 5,S,T,b ad.err] 85 28 false).same U/\u.same u/\(g bA ad.prf 68 true).same V/\v.same v/\True)));let aM:=(e []).same (e [])/\(d (x::y::z::A::B::C::D::E::F::G::H::I::J::K::L::M::N::O::P::Q::o X t.ch::aD::q t.found::R::aE::aA) 85 28 false).same U/\u.same u/\(g bA t.prf 68 true).same V/\v.same v/\True;let aN:=z64=z64;let aO:=(e []).same (e [])/\(d [x,y,z,A,B,C,D,E,F,G,H,I,J,K,L,M,N,O,P,Q,ah,ai,q found,R,aj,S,T,b err] 85 28 false).same U/\u.same u/\(g bA prf 68 true).same V/\v.same v/\True;let aP:=(cB ag/\cB ap)/\aQ;(aF=true->aO)/\(aF=false->(found=true->aO)/\(found=false->(fx.length=fx.length/\fx.length<=1000000000000)/\(aG=true->(e []).same (e [])/\(d [x,y,z,A,B,C,D,E,F,G,H,I,J,K,L,M,N,O,P,Q,ah,ai,q found,R,aj,S,T,b (i7 p fx)] 85 28 false).same U/\u.same u/\(g bA prf 68 true).same V/\v.same v/\True)/\(aG=false->((!jQ p fx)=true->prf.length=prf.length/\c<=a/\a<(↑prf.length:Int)/\prf.length=prf.length/\a.toNat<prf.length/\(e []).same (e [])/\(d [x,y,z,A,B,C,D,E,F,G,H,I,J,K,L,M,N,O,P,Q,ah,ai,q found,R,aj,S,T,b err] 85 28 false).same U/\u.same u/\(g bA (prf.set a.toNat ((3:Int),aq)) 68 true).same V/\v.same v/\True)/\((!jQ p fx)=false->j al/\(k<=al/\al<=l)/\(cB ag/\cB ap)/\(aH=true->oZ (km p fx)/\(mG W=true->(eU (dO.mk p ch val found (some m) prf.length fx.length most err prf fx)/\oZ (km p fx)/\(km p fx).length=p.offers.length)/\prf.length=prf.length/\j an/\(k<=an/\an<=l)/\(cB ag/\cB aI)/\(aJ=true->ak=a7/\c<=a/\a<(↑a7:Int)/\ak=a7/\a.toNat<a7/\(e []).same (e [])/\(d [x,y,z,A,B,C,D,E,F,G,H,I,J,K,L,M,N,O,P,Q,o X t.ch,aD,q t.found,R,aE,S,T,b t.err] 85 28 false).same U/\u.same u/\(g bA (t.prf.set a.toNat az) 68 true).same V/\v.same v/\True)/\(aJ=false->oZ (km p fx)/\((!(jD W).isSome)=true->aM)/\((!(jD W).isSome)=false->j (a8+r)/\(aK=true->aM)/\(aK=false->2=2/\ak=a7/\(a7+2)*56<=140737488355328/\a7+2<=1000000000000/\j ae/\aN/\c<=a/\a<(↑z64:Int)/\aN/\a.toNat<z64/\j ae/\(eU (dO.mk p t.ch t.val t.found (some m) z64 fx.length most t.err av fx)/\(c<=ae/\ae<(↑av.length:Int))/\(c<=w/\w<(↑fx.length:Int))/\bj fx w.toNat c=c/\(f=f\/f=h)/\nF ab<n)/\(eU (dO.mk p Z.ch Z.val Z.found (some m) Z.prf.length fx.length most Z.err Z.prf fx)/\(c<=a8/\a8<(↑Z.prf.length:Int))/\(c<=w/\w<(↑fx.length:Int))/\bj fx w.toNat c=c/\(h=f\/h=h)/\nF ac<n)/\(e []).same (e [])/\(d [x,y,z,A,B,C,D,E,F,G,H,I,J,K,L,M,N,O,P,Q,o X af.ch,b af.val,q af.found,R,s 2 af.prf.length 5,S,T,b af.err] 85 28 false).same U/\u.same u/\(g bA af.prf 68 true).same V/\v.same v/\True))))/\(mG W=false->aP))/\(aH=false->aP)))))) (by kernel_rfl) ?_;simp only[vcs];refine⟨λh=>by rw[A4 hf (.inl h)];exact⟨rfl,rfl⟩,λh0=>⟨λh=>by rw[A4 hf (.inr h)];exact⟨rfl,rfl⟩,λh1=>⟨by omega,λh=>absurd hfe h,λ_=>⟨λh=>?_,λhb=>?_⟩⟩⟩⟩
  ·have hs:¬((⟨ch,val,found,prf,err⟩:dc).err≠0\/(⟨ch,val,found,prf,err⟩:dc).found=true):=by
    rintro(h|h);·exact h0 h
    ·rw[show found=true from h] at h1;cases h1
   rw[Uh hf hs (by rw[<-hfo];exact h)];refine⟨ha.1,ha.2,by omega,?_,rfl⟩;simp only[τ];rfl
  ·have hs:¬((⟨ch,val,found,prf,err⟩:dc).err≠0\/(⟨ch,val,found,prf,err⟩:dc).found=true):=by
    rintro(h|h);·exact h0 h
    ·rw[show found=true from h] at h1;cases h1
   have hbf:ic p fx=true:=by rw[<-hfo];exact hb
   have hfix:=hf.ok hbf;have eB:kj p fx=bu (ja p fx):=by unfold kj;rw[if_pos hb]
   have eS:km p fx=fL (dC p fx):=by unfold km dC;rw[if_pos hb]
   have eP:qK p fx=fL (gh p fx):=by unfold qK;rw[if_pos hb]
   have hsl:(dC p fx).length=fx.length:=rB;have oS:oZ (fL (dC p fx)):=⟨dC p fx,rfl,by rw[ft];omega,λq hq=>by
    obtain⟨i,hi,rfl⟩:=γF hq;have:=(Ez hfix hf.r (i:=i) (by omega)).2.2;rwa [cV hi] at this⟩;have fB:cB (bu (ja p fx)):=dP (Uj hb) (by omega);have fI:∀v:Int,0<=v->v<=9223372036854775807->cB (bu (ι v)):=λv h0 h1=>dP (rD (by omega) h1) (by omega);have hcv:∀v:Int,iM (ja p fx) (ι v)<0↔ja p fx<((v:Int):Rat):=λv=>sM;simp only[eB,eS,eP,kJ,jB,ez];have hcm:eE (dC p fx)=(oY p fx).chosen:=rfl;refine⟨by omega,by omega,⟨fB,fI _ (by omega) (by omega)⟩,λhge=>⟨oS,λhi=>?_,λhi=>?_⟩,λhlt=>?_⟩
   ·have hO:dm p (cy (some m)) ⟨ch,val,found,prf,err⟩ fx=dX (cy (some m)) ⟨ch,val,found,prf,err⟩ ⟨eE (dC p fx),cu ((eE (dC p fx)).map (oI p))⟩:=by
     unfold dm;rw[if_pos ⟨εw.1 λh=>absurd ((hcv (val+1)).2 h) (Int.not_lt.2 hge),hi⟩];rfl
    have hok':eU (dO.upd ⟨p,ch,val,found,(some m),prf.length,fx.length,most,err,prf,fx⟩ (dm p (cy (some m)) ⟨ch,val,found,prf,err⟩ fx)):=hok.Ui;rw[hO] at hok';obtain⟨e1,e2,_⟩:=@ED (cy (some m)) ⟨ch,val,found,prf,err⟩ ⟨eE (dC p fx),cu ((eE (dC p fx)).map (oI p))⟩;generalize dX (cy (some m)) ⟨ch,val,found,prf,err⟩ ⟨eE (dC p fx),cu ((eE (dC p fx)).map (oI p))⟩=O at*;obtain⟨ch',val',found',prf',sN⟩:=O;have e1:prf=prf':=Eq.symm e1;have e2:err=sN:=Eq.symm e2;subst e1;subst e2;have w0:0<=val':=hok'.v0;have w1:val'<=9223372036854775806:=hok'.v1;dsimp only;refine⟨⟨hok,oS,by rw[ft];omega⟩,by omega,by omega,⟨fB,fI _ (by omega) (by omega)⟩,?_⟩;refine⟨λh=>?_,λh=>⟨oS,λhk=>?_,λhk=>⟨by omega,λhm=>?_,λhm=>?_⟩⟩⟩
    ·rw[yD hf hs hbf hO ((hcv _).1 h)];refine⟨ha.1,ha.2,by omega,?_,rfl⟩;simp only[τ];rfl
    ·rw[pL hf hs hbf hO (λh'=>h ((hcv _).2 h')) (.inl (γ1.1 hk |>γJ.1))];exact⟨rfl,rfl⟩
    ·rw[pL hf hs hbf hO (λh'=>h ((hcv _).2 h')) (.inr hm)];exact⟨rfl,rfl⟩
    ·obtain⟨k,hk'⟩:=γp.1 hk;rw[yE hf hs hbf hO (λh'=>h ((hcv _).2 h')) hk' hm];simp only[hk',γX];obtain⟨hk1,hk2,hk3⟩:=sK hk';rw[hsl] at hk1;have hk0:bj fx k.toNat 0=0:=sJ hfix hf.r (by omega) hk2 hk3;have n1:=l9 hk1 hk0 (d:=1) (by omega);have n2:=l9 hk1 hk0 (d:= -1) (by omega);have hl2:((prf++[zN,zN]).set a.toNat (jR k prf.length)).length=prf.length+2:=by rw[τ,γg];rfl
     have hl1:(prf++[zN,zN]).length=prf.length+2:=by rw[γg];rfl
     have o1:=eU.spl (x:=⟨p,ch',val',found',(some m),prf.length,fx.length,most,sN,prf,fx⟩) hok' (k:=(prf++[zN,zN]).length) (l:=(prf++[zN,zN]).set a.toNat (jR k prf.length)) hm (by rw[hl1,hl2]) hl2;have o2:=o1.vis (f:=fx.set k.toNat 1) (hf.set (by omega)) (n:=nF (fx.set k.toNat 1)) (a:=(prf.length:Int)+1);have o3:=(@rC p (cy (some m)) most (nF (fx.set k.toNat 1)) (gq ⟨ch',val',found',prf,sN⟩ a k) ((prf.length:Int)+1) (fx.set k.toNat 1) (hf.set (by omega))).1;have o4:prf.length+2<=(dG p (cy (some m)) most (nF (fx.set k.toNat 1)) (gq ⟨ch',val',found',prf,sN⟩ a k) ((prf.length:Int)+1) (fx.set k.toNat 1)).prf.length:=by rw[<-hl2];exact o3
     have q1:a<((prf++[zN,zN]).length:Int):=by omega
     have q3:(prf.length:Int)+1<(((prf++[zN,zN]).set a.toNat (jR k prf.length)).length:Int):=by rw[hl2];omega
     have q2:a.toNat<(prf++[zN,zN]).length:=by omega
     exact⟨by omega,by omega,by omega,ha.1,q1,q2,by omega,⟨o1,⟨by omega,q3⟩,hk1,hk0,.inl trivial,by omega⟩,⟨o2,⟨by omega,εN.2 (γo (by omega) o4)⟩,hk1,hk0,.inr trivial,by omega⟩,rfl,rfl⟩
   ·have hO:dm p (cy (some m)) ⟨ch,val,found,prf,err⟩ fx=⟨ch,val,found,prf,err⟩:=by
     unfold dm;rw[if_neg (λh=>by rw[h.2] at hi;cases hi)]
    refine⟨⟨fB,fI _ (by omega) (by omega)⟩,?_⟩;refine⟨λh=>?_,λh=>⟨oS,λhk=>?_,λhk=>⟨by omega,λhm=>?_,λhm=>?_⟩⟩⟩
    ·rw[yD hf hs hbf hO ((hcv _).1 h)];refine⟨ha.1,ha.2,by omega,?_,rfl⟩;simp only[τ];rfl
    ·rw[pL hf hs hbf hO (λh'=>h ((hcv _).2 h')) (.inl (γ1.1 hk |>γJ.1))];exact⟨rfl,rfl⟩
    ·rw[pL hf hs hbf hO (λh'=>h ((hcv _).2 h')) (.inr hm)];exact⟨rfl,rfl⟩
    ·obtain⟨k,hk'⟩:=γp.1 hk;rw[yE hf hs hbf hO (λh'=>h ((hcv _).2 h')) hk' hm];simp only[hk',γX];obtain⟨hk1,hk2,hk3⟩:=sK hk';rw[hsl] at hk1;have hk0:bj fx k.toNat 0=0:=sJ hfix hf.r (by omega) hk2 hk3;have n1:=l9 hk1 hk0 (d:=1) (by omega);have n2:=l9 hk1 hk0 (d:= -1) (by omega);have hl2:((prf++[zN,zN]).set a.toNat (jR k prf.length)).length=prf.length+2:=by rw[τ,γg];rfl
     have hl1:(prf++[zN,zN]).length=prf.length+2:=by rw[γg];rfl
     have o1:=eU.spl hok (k:=(prf++[zN,zN]).length) (l:=(prf++[zN,zN]).set a.toNat (jR k prf.length)) hm (by rw[hl1,hl2]) hl2;have o2:=o1.vis (f:=fx.set k.toNat 1) (hf.set (by omega)) (n:=nF (fx.set k.toNat 1)) (a:=(prf.length:Int)+1);have o3:=(@rC p (cy (some m)) most (nF (fx.set k.toNat 1)) (gq ⟨ch,val,found,prf,err⟩ a k) ((prf.length:Int)+1) (fx.set k.toNat 1) (hf.set (by omega))).1;have o4:prf.length+2<=(dG p (cy (some m)) most (nF (fx.set k.toNat 1)) (gq ⟨ch,val,found,prf,err⟩ a k) ((prf.length:Int)+1) (fx.set k.toNat 1)).prf.length:=by rw[<-hl2];exact o3
     have q1:a<((prf++[zN,zN]).length:Int):=by omega
     have q3:(prf.length:Int)+1<(((prf++[zN,zN]).set a.toNat (jR k prf.length)).length:Int):=by rw[hl2];omega
     have q2:a.toNat<(prf++[zN,zN]).length:=by omega
     exact⟨by omega,by omega,by omega,ha.1,q1,q2,by omega,⟨o1,⟨by omega,q3⟩,hk1,hk0,.inl trivial,by omega⟩,⟨o2,⟨by omega,εN.2 (γo (by omega) o4)⟩,hk1,hk0,.inr trivial,by omega⟩,rfl,rfl⟩
   ·have hO:dm p (cy (some m)) ⟨ch,val,found,prf,err⟩ fx=⟨ch,val,found,prf,err⟩:=by
     unfold dm;rw[if_neg (λh=>εw.2 h.1 ((hcv (val+1)).1 (Int.not_le.1 hlt)))]
    refine⟨⟨fB,fI _ (by omega) (by omega)⟩,?_⟩;refine⟨λh=>?_,λh=>⟨oS,λhk=>?_,λhk=>⟨by omega,λhm=>?_,λhm=>?_⟩⟩⟩
    ·rw[yD hf hs hbf hO ((hcv _).1 h)];refine⟨ha.1,ha.2,by omega,?_,rfl⟩;simp only[τ];rfl
    ·rw[pL hf hs hbf hO (λh'=>h ((hcv _).2 h')) (.inl (γ1.1 hk |>γJ.1))];exact⟨rfl,rfl⟩
    ·rw[pL hf hs hbf hO (λh'=>h ((hcv _).2 h')) (.inr hm)];exact⟨rfl,rfl⟩
    ·obtain⟨k,hk'⟩:=γp.1 hk;rw[yE hf hs hbf hO (λh'=>h ((hcv _).2 h')) hk' hm];simp only[hk',γX];obtain⟨hk1,hk2,hk3⟩:=sK hk';rw[hsl] at hk1;have hk0:bj fx k.toNat 0=0:=sJ hfix hf.r (by omega) hk2 hk3;have n1:=l9 hk1 hk0 (d:=1) (by omega);have n2:=l9 hk1 hk0 (d:= -1) (by omega);have hl2:((prf++[zN,zN]).set a.toNat (jR k prf.length)).length=prf.length+2:=by rw[τ,γg];rfl
     have hl1:(prf++[zN,zN]).length=prf.length+2:=by rw[γg];rfl
     have o1:=eU.spl hok (k:=(prf++[zN,zN]).length) (l:=(prf++[zN,zN]).set a.toNat (jR k prf.length)) hm (by rw[hl1,hl2]) hl2;have o2:=o1.vis (f:=fx.set k.toNat 1) (hf.set (by omega)) (n:=nF (fx.set k.toNat 1)) (a:=(prf.length:Int)+1);have o3:=(@rC p (cy (some m)) most (nF (fx.set k.toNat 1)) (gq ⟨ch,val,found,prf,err⟩ a k) ((prf.length:Int)+1) (fx.set k.toNat 1) (hf.set (by omega))).1;have o4:prf.length+2<=(dG p (cy (some m)) most (nF (fx.set k.toNat 1)) (gq ⟨ch,val,found,prf,err⟩ a k) ((prf.length:Int)+1) (fx.set k.toNat 1)).prf.length:=by rw[<-hl2];exact o3
     have q1:a<((prf++[zN,zN]).length:Int):=by omega
     have q3:(prf.length:Int)+1<(((prf++[zN,zN]).set a.toNat (jR k prf.length)).length:Int):=by rw[hl2];omega
     have q2:a.toNat<(prf++[zN,zN]).length:=by omega
     exact⟨by omega,by omega,by omega,ha.1,q1,q2,by omega,⟨o1,⟨by omega,q3⟩,hk1,hk0,.inl trivial,by omega⟩,⟨o2,⟨by omega,εN.2 (γo (by omega) o4)⟩,hk1,hk0,.inr trivial,by omega⟩,rfl,rfl⟩
theorem KD:∀n,dZ Tryz.prog (wb n)
 |0=>λa ha=>absurd ha.2.2 (by omega)
 |n+1=>aec (aea (KD n))
theorem sO {p:bn} (hc:bB p=0) {c:List Int} (hf:bW p c=0):0<=de p c/\de p c<=160000000/\c.length<=160:=by
 obtain⟨_,ha⟩:=sE hf;have h160:=(dN hc).2.1;have hl:c.length<=p.offers.length:=yj ha;have h1:=qw (dN hc) (l:=c.map (oI p)) λx hx=>by
  obtain⟨i,hi,rfl⟩:=γa.1 hx;have:=ha.2 i hi;exact dj (by omega)
 rw[List.length_map] at h1;rw[v8 hc ha];have e:cu (c.map (oI p))=cu (cK p c):=rfl;omega
theorem KE {p:bn} (hc:bB p=0):(jO p).length<=160:=(sO hc (S3 hc)).2.2
theorem aed {p:bn} {c:List Int} {most:Int} {k:Nat} (hc:bB p=0) (hf:bW p c=0) (m0:1<=most) (m1:most<=65536) (hk:k=p.offers.length):eU ⟨p,(jE p c).ch,(jE p c).val,(jE p c).found,none,(jE p c).prf.length,k,most,(jE p c).err,(jE p c).prf,gK p⟩:=by
 have h1:=JO hc hf;have h2:=yB hc;have hG:bW p (jE p c).ch=0/\de p (jE p c).ch=(jE p c).val:=
  yA (G:=λc w _=>bW p c=0/\de p c=w) (λ_ _ _ _ _ _ h1 h2 _=>⟨h1,h2⟩) (yA (G:=λc w _=>bW p c=0/\de p c=w) (λ_ _ _ _ _ _ h1 h2 _=>⟨h1,h2⟩) (s:=⟨c,de p c,false,[zN],0⟩) ⟨hf,rfl⟩ h1.2.1 h1.2.2.1) h2.1 h2.2;obtain⟨b0,b1,b2⟩:=sO hc hG.1;obtain⟨e1,_,_⟩:=@Kq p c;rw[hG.2] at b0 b1;exact⟨og hc,rfl,by rw[hk];exact(γk).symm,b0,by show(jE p c).val<=_;omega,m0,m1,by show(jE p c).prf.length<=_;rw[e1];decide,by show(jE p c).ch.length<=_;omega⟩
theorem aee {p:bn} {m most:Int} {k:Nat} (hc:bB p=0) (hm:0<m/\m<=9223372036854775807) (m0:1<=most) (m1:most<=65536) (hk:k=p.offers.length):eU ⟨p,(jF p m).ch,(jF p m).val,(jF p m).found,some m,(jF p m).prf.length,k,most,(jF p m).err,(jF p m).prf,gK p⟩:=by
 have h2:=yB hc;have hG:(0<=(jF p m).val/\(jF p m).val<=9223372036854775806)/\(jF p m).ch.length<=160:=
  yA (G:=λc w _=>(0<=w/\w<=9223372036854775806)/\c.length<=160) (λ_ _ _ c' w' _ h1 h2 _=>by
   obtain⟨b0,b1,b2⟩:=sO hc h1;omega) (s:=⟨[],m - 1,false,[zN],0⟩) ⟨⟨by show 0<=m - 1;omega,by show m - 1<=_;omega⟩,by show([]:List Int).length<=160;decide⟩ h2.1 h2.2;obtain⟨e1,_⟩:=@Ks p m;exact⟨og hc,rfl,by rw[hk];exact(γk).symm,hG.1.1,hG.1.2,m0,m1,by show(jF p m).prf.length<=_;rw[e1];decide,by show(jF p m).ch.length<=_;omega⟩
noncomputable def KF:bL:=⟨26,bn×Alloc×Int,.cons dE (.cons jZ (.one (eK .i64))),λa=>a.1.offers.length<=20/\a.2.1.chosen.length<=9223372036854775807,
 λa=> .bJ [.agg [.row (.i .i64) (if kn a.1 a.2.1.chosen a.2.2=0 then(iF a.1 a.2.1.chosen a.2.2).ch else[]),.si .i64 (if kn a.1 a.2.1.chosen a.2.2=0 then(iF a.1 a.2.1.chosen a.2.2).val else 0)],.row bA (if kn a.1 a.2.1.chosen a.2.2=0 then(iF a.1 a.2.1.chosen a.2.2).prf else[]),.si .i64 (kn a.1 a.2.1.chosen a.2.2)]⟩
theorem h429:Holds Tryz.prog KF:=by
 refine con (L:=[tO,EK,AI,AG]) (W:=gB [AZ,wb 161]) KF lk (ln (by simpa using⟨h439,KD 161⟩)) (by simpa using⟨h100,h437,h315,h312⟩) ?_;rintro⟨p,⟨c,v⟩,most⟩ ⟨h40,hcl⟩;simp only at h40 hcl;refine bO (let a:=(0:Int);let b:=γe .i64;let d:=(140737488355328:Int);let e:=(1000000000000:Int);let f:=(1:Int);let g:=Θ;let h:=γQ;let j:=SV.bJ;let r:=bp.i .i64;let n:=g r [];let o:=γx .i64 0;let s:=iF p c most;let w:=j [h [g r (if kn p c most=a then s.ch else[]),b (if kn p c most=a then s.val else a)],g bA (if kn p c most=a then s.prf else[]),b (kn p c most)];let l:=(↑p.offers.length:Int);let q:=δ l.toNat a;let t:=dX (cy none) (dc.mk c (de p c) false [(a,a,a,a,[])] a) (gn p c);let k:=dX (cy none) t (gn p (jO p));let m:=dG p (cy none) most (nF q) k a q;let x:=decide (bW p c≠a);let y:=decide (most<f);let z:=decide ((65536:Int)<most);let A:=0+c.length;let B:=(j [h [n,o],n,γx .i64 4]).same w;let v:=λ(u:List Int) (u_1 u_2 u_3:SV) ↦(j [h [g r u,u_1],u_2,u_3]).same w;let C:=λ(u:Bool) ↦decide (m.err≠a)=u;c.length<=9223372036854775807/\(x=true->v [] o n (b (bW p c)))/\(x=false->(y=true->B)/\(y=false->(z=true->B)/\(z=false->0=0/\A*8<=140737488355328/\A<=1000000000000/\(bB p=a/\c.length<=9223372036854775807)/\a<=f/\f<=f/\(56:Int)<=d/\f<=e/\a<=l/\l<=l/\l*(8:Int)<=d/\l<=e/\c.length=c.length/\c.length=c.length/\c.length<=9223372036854775807/\1=1/\p.offers.length<=20/\(jO p).length<=9223372036854775807/\t.prf.length=t.prf.length/\(eU (dO.mk p k.ch k.val k.found none k.prf.length l.toNat most k.err k.prf q)/\(a<=a/\a<(↑k.prf.length:Int))/\nF q<161)/\(C true->v [] o n (b m.err))/\(C false->m.prf.length=m.prf.length/\v m.ch (b m.val) (g bA m.prf) o))))) (by kernel_rfl) ?_;simp only[vcs];have hz:(δ ((p.offers.length:Int)).toNat 0:List Int)=gK p:=by unfold gK;rw[Ψ]
 have e0:dX (cy none) (dX (cy none) ⟨c,de p c,false,[(0,(0,(0,(0,[]))))],0⟩ (gn p c)) (gn p (jO p))=jE p c:=rfl;have en:nF (gK p)=p.offers.length:=yz;simp only[hz,e0,en];refine⟨hcl,λh=>?_,λh=>⟨λh1=>?_,λh1=>⟨λh2=>?_,λh2=>?_⟩⟩⟩
 ·have e:kn p c most=bW p c:=by unfold kn;rw[if_pos h]
  rw[e,if_neg h,if_neg h,if_neg h];exact⟨rfl,rfl,rfl⟩
 ·have e:kn p c most=4:=by unfold kn;rw[if_neg h,if_pos (.inl h1)]
  rw[e];exact⟨rfl,rfl,rfl⟩
 ·have e:kn p c most=4:=by unfold kn;rw[if_neg h,if_pos (.inr h2)]
  rw[e];exact⟨rfl,rfl,rfl⟩
 ·have hf:bW p c=0:=Ξ.1 h;have hc:bB p=0:=(sE hf).1;obtain⟨b0,b1,b2⟩:=sO hc hf;obtain⟨e1,e2,e3⟩:=@Kq p c;have e:kn p c most=(iF p c most).err:=by unfold kn;rw[if_neg h,if_neg (by omega)]
  have hv:dG p (cy none) most p.offers.length (jE p c) 0 (gK p)=iF p c most:=rfl;have hst:=KE hc;rw[hv,e];refine⟨by omega,by omega,⟨hc,hcl⟩,by omega,by omega,by omega,by omega,by omega,by omega,by omega,by omega,hcl,h40,by omega,⟨aed hc hf (by omega) (by omega) (by omega),⟨by omega,by rw[e1];decide⟩,by omega⟩,λh3=>?_,λh3=>?_⟩
  ·rw[if_neg h3,if_neg h3,if_neg h3];exact⟨rfl,rfl,rfl⟩
  ·rw[Ξ] at h3;rw[h3];exact⟨rfl,rfl,rfl⟩
noncomputable def KG:bL:=⟨56,bn×Int×Int,.cons dE (.cons (eK .i64) (.one (eK .i64))),λa=>a.1.offers.length<=20/\ -9223372036854775808<=a.2.1/\a.2.1<=9223372036854775807,
 λa=> .bJ [.agg [.row (.i .i64) (oh a.1 a.2.1 a.2.2).chosen,.si .i64 (oh a.1 a.2.1 a.2.2).value],.sb (jS a.1 a.2.1 a.2.2),.si .i64 (jc a.1 a.2.1 a.2.2)]⟩
theorem h434:Holds Tryz.prog KG:=by
 refine con (L:=[qs,AI,AG]) (W:=gB [AZ,wb 161]) KG lk (ln (by simpa using⟨h439,KD 161⟩)) (by simpa using⟨h79,h315,h312⟩) ?_;rintro⟨p,m,most⟩ ⟨h40,m0,m1⟩;simp only at h40 m0 m1;refine bO (let a:=(0:Int);let b:=γe .i64;let c:=(1:Int);let d:=(140737488355328:Int);let e:=SV.bJ;let f:=(1000000000000:Int);let g:=γx .i64;let h:=Θ;let j:=γQ;let t:=bp.i .i64;let r:=[g 0];let l:=e [j [h t (oh p m most).chosen,b (oh p m most).value],γw (jS p m most),b (jc p m most)];let o:=j (h t []::r);let q:=δa false;let k:=dX (cy (some m)) (dc.mk [] (m - c) false [(a,a,a,a,[])] a) (gn p (jO p));let v:=decide (bB p≠a);let w:=decide (most<c);let x:=decide ((65536:Int)<most);let y:=decide (m<=a);let n:=(↑p.offers.length:Int);let s:=δ n.toNat a;let z:=λ(u:dc) ↦let A:=decide (u.err≠a);(u.found=true->(e (j [h t u.ch,b u.val]::δa true::r)).same l)/\(u.found=false->(A=true->(e [o,q,b u.err]).same l)/\(A=false->(e (o::q::r)).same l));let B:=λ(u:Bool) ↦(!k.found)=u;True/\(v=true->(e [o,q,b (bB p)]).same l)/\(v=false->(w=true->(e [o,q,g 4]).same l)/\(w=false->(x=true->(e [o,q,g 4]).same l)/\(x=false->(y=true->(e (o::δa true::r)).same l)/\(y=false->cn .i64 (m - c)/\a<=c/\c<=c/\(56:Int)<=d/\c<=f/\a<=n/\n<=n/\n*(8:Int)<=d/\n<=f/\0=0/\p.offers.length<=20/\(jO p).length<=9223372036854775807/\1=1/\(B true->(eU (dO.mk p k.ch k.val k.found (some m) k.prf.length n.toNat most k.err k.prf s)/\(a<=a/\a<(↑k.prf.length:Int))/\nF s<161)/\z (dG p (cy (some m)) most (nF s) k a s))/\(B false->z k)))))) (by kernel_rfl) ?_;simp only[vcs];have hz:(δ ((p.offers.length:Int)).toNat 0:List Int)=gK p:=by unfold gK;rw[Ψ]
 have e0:dX (cy (some m)) ⟨[],m - 1,false,[(0,(0,(0,(0,[]))))],0⟩ (gn p (jO p))=jF p m:=rfl;have en:nF (gK p)=p.offers.length:=yz;simp only[hz,e0,en];have key:∀e:Int,jc p m most=e->jS p m most=(decide (e=0)&&(decide (m<=0)||(fK p m most).found)):=λe h=>by unfold jS;rw[h]
 have lh:jS p m most=false\/m<=0->oh p m most=⟨[],0⟩:=λh=>by
  unfold oh;rw[if_neg];rintro⟨h1,h2⟩;rcases h with h|h;·rw[h] at h1;cases h1
  ·omega
 refine⟨λh=>?_,λh=>⟨λh1=>?_,λh1=>⟨λh2=>?_,λh2=>⟨λh3=>?_,λh3=>?_⟩⟩⟩⟩
 ·have e:jc p m most=bB p:=by unfold jc;rw[if_pos h]
  have f:jS p m most=false:=by rw[key _ e,decide_eq_false h];rfl
  rw[e,f,lh (.inl f)];exact⟨rfl,rfl,rfl⟩
 ·have e:jc p m most=4:=by unfold jc;rw[if_neg h,if_pos (.inl h1)]
  have f:jS p m most=false:=by rw[key _ e];rfl
  rw[e,f,lh (.inl f)];exact⟨rfl,rfl,rfl⟩
 ·have e:jc p m most=4:=by unfold jc;rw[if_neg h,if_pos (.inr h2)]
  have f:jS p m most=false:=by rw[key _ e];rfl
  rw[e,f,lh (.inl f)];exact⟨rfl,rfl,rfl⟩
 ·have e:jc p m most=0:=by unfold jc;rw[if_neg h,if_neg (by omega),if_pos h3]
  have f:jS p m most=true:=by rw[key _ e,decide_eq_true h3];rfl
  rw[e,f,lh (.inr h3)];exact⟨rfl,rfl,rfl⟩
 ·have hc:bB p=0:=Ξ.1 h;obtain⟨e1,e2⟩:=@Ks p m;have hv:dG p (cy (some m)) most p.offers.length (jF p m) 0 (gK p)=fK p m most:=rfl;have hst:=KE hc;have hE:jc p m most=if(fK p m most).found=true then 0 else(fK p m most).err:=by unfold jc;rw[if_neg h,if_neg (by omega),if_neg h3]
  have tail:((fK p m most).found=true->(γQ [Θ (bp.i .i64) (fK p m most).ch,γe .i64 (fK p m most).val]).same (γQ [Θ (bp.i .i64) (oh p m most).chosen,γe .i64 (oh p m most).value])/\true=jS p m most/\0=jc p m most)/\
    ((fK p m most).found=false->((fK p m most).err≠0->(γQ [Θ (bp.i .i64) [],γx .i64 0]).same (γQ [Θ (bp.i .i64) (oh p m most).chosen,γe .i64 (oh p m most).value])/\false=jS p m most/\(fK p m most).err=jc p m most)/\
     (¬(fK p m most).err≠0->(γQ [Θ (bp.i .i64) [],γx .i64 0]).same (γQ [Θ (bp.i .i64) (oh p m most).chosen,γe .i64 (oh p m most).value])/\false=jS p m most/\0=jc p m most)):=by
   refine⟨λhf=>?_,λhf=>⟨λhe=>?_,λhe=>?_⟩⟩
   ·rw[if_pos hf] at hE;have f:jS p m most=true:=by rw[key _ hE,hf,Bool.or_true];rfl
    have a:oh p m most=⟨(fK p m most).ch,(fK p m most).val⟩:=by unfold oh;rw[if_pos ⟨f,by omega⟩]
    rw[hE,f,a];exact⟨rfl,rfl,rfl⟩
   ·rw[if_neg (by rw[hf];simp)] at hE;have f:jS p m most=false:=by rw[key _ hE,decide_eq_false he];rfl
    rw[hE,f,lh (.inl f)];exact⟨rfl,rfl,rfl⟩
   ·rw[if_neg (by rw[hf];simp),Ξ.1 he] at hE;have f:jS p m most=false:=by rw[key _ hE,hf,decide_eq_false h3];rfl
    rw[hE,f,lh (.inl f)];exact⟨rfl,rfl,rfl⟩
  rw[hv];refine⟨by omega,by omega,by omega,by omega,by omega,by omega,by omega,by omega,by omega,h40,by omega,λh4=>⟨⟨aee hc (by omega) (by omega) (by omega) (by omega),⟨by omega,by rw[e1];decide⟩,by omega⟩,tail⟩,λh4=>?_⟩;have hb:fK p m most=jF p m:=by
   have:=A4 (f:=gK p) (en:=cy (some m)) (most:=most) (a:=0) (og hc) (.inr h4);rw[en] at this;exact this
  rw[hb] at tail;exact tail
theorem aef {p:bn} {c:List Int} {m:Int} (b:bW p c=0) (a:1<=m/\m<=65536):kn p c m=(iF p c m).err:=by
 simp_all[kn,if_neg]
theorem aeg {p:bn} (d:bB p=0) {c:List Int} {m:Int} (b:bW p c=0) (e:m<=65536) (f:((1+2^(p.offers.length+1):Nat):Int)<=m+2):kn p c m=0:=by
 have a:=Nat.one_le_two_pow (n:=p.offers.length+1);grind[aef,Kr]
theorem KH {p:bn} (a:bB p=0) {m k:Int} (d:k<=65536) (b:((1+2^(p.offers.length+1):Nat):Int)<=k+2):jc p m k=0:=by
 have c:2<=2^(p.offers.length+1):=by grind
 unfold jc;rw[if_neg (by simp[a]),if_neg (by omega)];grind[T0]
theorem Uk {p:bn} (a:bB p=0) {m k:Int} (b:jc p m k=0):jS p m k=true↔m<=(cz p).value:=by
 have j:0<=(cz p).value:=by
  obtain⟨t,d,e⟩:=Ko a;obtain⟨_,c⟩:=sE d;rw[<-e,v8 a c];exact(qw (dN a) (l:=t.map (oI p)) λx g=>by
   obtain⟨i,f,rfl⟩:=γa.1 g;have:=c.2 i f;exact dj (by omega)).1
 have h:=@T0 p a m k;unfold jS;rw[b,decide_eq_true rfl,Bool.true_and,Bool.or_eq_true,decide_eq_true_eq];unfold jc at b;grind
structure jq where
 left:bD
 opn:bD
 chosen:List Int
 value:Int
 won:List Bool
def nd (c w cl:Int):Int:=if c=0\/c≠cl then w else 0
def yF (p:bn) (x:Off):bD:=⟨nd p.cls.a0 x.want.a0 (lq p x),nd p.cls.a1 x.want.a1 (lq p x),nd p.cls.a2 x.want.a2 (lq p x),nd p.cls.a3 x.want.a3 (lq p x),nd p.cls.a4 x.want.a4 (lq p x),nd p.cls.a5 x.want.a5 (lq p x)⟩
def bD.pos (b:bD):Bool:=decide (0<=b.a0)&&decide (0<=b.a1)&&decide (0<=b.a2)&&decide (0<=b.a3)&&decide (0<=b.a4)&&decide (0<=b.a5)
def gu (p:bn) (u:jq) (x:Off):bD:=(u.opn.sub (yF p x)).meet (u.left.sub x.want)
def iQ (p:bn) (u:jq) (x:Off):Bool:=!(bj u.won x.bX.toNat false)&&((u.left.sub x.want).pos&&(gu p u x).pos)
def eY (p:bn) (u:jq) (i:Int):jq:=⟨u.left.sub (oI p i).want,gu p u (oI p i),u.chosen++[i],u.value+(oI p i).value,u.won.set (oI p i).bX.toNat true⟩
def gP (p:bn) (u:jq) (k:Nat):bn:=⟨u.left,u.opn,p.cls,p.classes,(p.offers.drop k).filter (iQ p u)⟩
theorem KI {x:bD}:dW [x]=x:=by simp[dW]
theorem six {P:Nat->Prop} (h0:P 0) (h1:P 1) (h2:P 2) (h3:P 3) (h4:P 4) (h5:P 5):∀k,k<6->P k:=by
 intro k hk;rcases(show k=0\/k=1\/k=2\/k=3\/k=4\/k=5 by omega) with rfl|rfl|rfl|rfl|rfl|rfl;·exact h0
 ·exact h1
 ·exact h2
 ·exact h3
 ·exact h4
 ·exact h5
theorem A5 {a b:bD}:∀k,k<6->(a.sub b).at k=a.at k - b.at k:=six rfl rfl rfl rfl rfl rfl
theorem KJ {a b:bD}:∀k,k<6->(a.add b).at k=a.at k+b.at k:=six rfl rfl rfl rfl rfl rfl
theorem Ul {a b:bD}:∀k,k<6->(a.meet b).at k=min (a.at k) (b.at k):=six rfl rfl rfl rfl rfl rfl
theorem KL {p:bn} {x:Off}:∀k,k<6->(yF p x).at k=nd (p.cls.at k) (x.want.at k) (lq p x):=six rfl rfl rfl rfl rfl rfl
theorem EO {p:bn} {x:Off}:∀k,k<6->(fa p x).at k=if p.cls.at k=0\/p.cls.at k=lq p x then 0 else x.want.at k:=by
 refine six ?_ ?_ ?_ ?_ ?_ ?_<;>(show oc _ _ _ _ _=_;unfold oc;simp only[show((0:Int)<6)=True by simp,show((1:Int)<6)=True by simp,show((2:Int)<6)=True by simp,show((3:Int)<6)=True by simp,show((4:Int)<6)=True by simp,show((5:Int)<6)=True by simp,true_and];rfl)
theorem Um {b:bD}:b.pos=true↔∀k,k<6->0<=b.at k:=by
 unfold bD.pos;simp only[ζ,decide_eq_true_eq];constructor
 ·rintro⟨⟨⟨⟨⟨h0,h1⟩,h2⟩,h3⟩,h4⟩,h5⟩;exact six h0 h1 h2 h3 h4 h5
 ·intro h;exact⟨⟨⟨⟨⟨h 0 (by omega),h 1 (by omega)⟩,h 2 (by omega)⟩,h 3 (by omega)⟩,h 4 (by omega)⟩,h 5 (by omega)⟩
theorem yG {b:bD}:b.ok=true↔∀k,k<6->0<=b.at k/\b.at k<=4:=by
 rw[bD.jz];constructor
 ·rintro⟨h0,h1,h2,h3,h4,h5⟩;exact six h0 h1 h2 h3 h4 h5
 ·intro h;exact⟨h 0 (by omega),h 1 (by omega),h 2 (by omega),h 3 (by omega),h 4 (by omega),h 5 (by omega)⟩
theorem KN {p:bn} {k:Nat} (hk:k<6):∀L:List Off,(dW (L.map (yF p))).at k=if p.cls.at k=0 then(dW (L.map Off.want)).at k else(dW (L.map (fa p))).at k:=by
 intro L;rw[nV,nV,nV];induction L with
 |nil=>simp;|cons x L ih=>
  simp only[ξ,δH];rw[ih,KL k hk,EO k hk];unfold nd;by_cases h:p.cls.at k=0;·simp[h]
  ·simp only[h,false_or,if_false];by_cases h2:p.cls.at k=lq p x;·simp[h2]
   ·simp[h2]
theorem agO {p:bn} {k:Nat} (hk:k<6) (h0:p.cls.at k=0):∀L:List Off,(dW (L.map (fa p))).at k=0:=by
 intro L;rw[nV];induction L with
 |nil=>simp;|cons x L ih=>
  simp only[ξ,δH];rw[ih,EO k hk,if_pos (.inl h0)];rfl
theorem EP {p:bn} (hg:Good p) {k:Nat} (hk:k<6):∀{L:List Off},(∀x∈L,x∈p.offers)->0<=(dW (L.map Off.want)).at k/\(dW (L.map (fa p))).at k<=(dW (L.map Off.want)).at k/\0<=(dW (L.map (fa p))).at k:=by
 intro L;rw[nV,nV];induction L with
 |nil=>intro _;simp;|cons x L ih=>
  intro h;have i1:=ih λy hy=>h y (γW _ hy);have hw:=(yG.1 (hg.2.2.2.2 x (h x (δh ..))).2.2.1 k hk);simp only[ξ,δH];rw[EO k hk];split<;>omega
theorem wh {p:bn} (hc:bB p=0) {k:Nat} (hk:k<6):0<=p.cls.at k/\p.cls.at k<=4/\0<=p.opn.at k/\p.opn.at k<=p.supply.at k/\(p.cls.at k=0->p.opn.at k=p.supply.at k):=by
 have h:=nT.1 ((tM (tP hc).1).2.1 k hk);exact⟨h.1,h.2.1,h.2.2.1,h.2.2.2.1,λh0=>by rcases h.2.2.2.2 with h1|h1;exact absurd h0 h1;exact h1⟩
theorem KO {a b:bD}:a.le b=true↔∀k,k<6->a.at k<=b.at k:=⟨λh k _=>H6 h k,H7⟩
structure rE (p:bn) (u:jq):Prop where
 f:ri p u.chosen
 v:u.value=cu (cK p u.chosen)
 l:∀k,k<6->u.left.at k=p.supply.at k - (dW ((cK p u.chosen).map Off.want)).at k
 o:∀k,k<6->u.opn.at k=min (p.opn.at k - (dW ((cK p u.chosen).map (yF p))).at k) (u.left.at k)
 wl:u.won.length=8
 w:∀b:Int,0<=b->b<8->bj u.won b.toNat false=decide (b∈(cK p u.chosen).map Off.bX)
theorem KP {p:bn} {t:List Int} (h:nc 0 p.offers.length t):∀x∈cK p t,x∈p.offers:=λx hx=>by
 obtain⟨i,hi,rfl⟩:=γa.1 hx;have:=h.2 i hi;exact dj (by omega)
section
variable {p:bn} {u:jq}
theorem KQ {L M:List Off}:iW p (L++M)↔((L.map Off.bX++M.map Off.bX).Nodup/\(∀k,k<6->(dW (L.map Off.want)).at k+(dW (M.map Off.want)).at k<=p.supply.at k)/\∀k,k<6->(dW (L.map (fa p))).at k+(dW (M.map (fa p))).at k<=p.opn.at k):=by
 simp_all[iW,xG,KO,KJ]
theorem ER (h:bB p=0) (c:rE p u) {x:Off} (m:x∈p.offers):iQ p u x=true↔iW p (cK p u.chosen++[x]):=by
 have b:=dN h;have g:=b.2.2.2.2 x m;have r:=b.1;have q:=KP c.f.1;rw[KQ];unfold iQ;rw[ζ,ζ,Um,Um,γ5,c.w _ g.1 (by omega),decide_eq_false_iff_not];simp only[ξ,γs,KI];have d:∀k,k<6->((0<=(u.left.sub x.want).at k/\0<=(gu p u x).at k)↔((dW ((cK p u.chosen).map Off.want)).at k+x.want.at k<=p.supply.at k/\(dW ((cK p u.chosen).map (fa p))).at k+(fa p x).at k<=p.opn.at k)):=λk a=>by
  have A:=c.l k a;have t:=c.o k a;have v:=KN (p:=p) a (cK p u.chosen);have s:=@KL p x k a;have n:=@EO p x k a;have B:=wh h a;have y:=yG.1 g.2.2.1 k a;have j:=EP b a q;unfold gu;rw[Ul k a,A5 k a,A5 k a,s,n];unfold nd;grind
 constructor
 ·rintro⟨z,e,i⟩;refine⟨?_,λk a=>((d k a).1 ⟨e k a,i k a⟩).1,λk a=>((d k a).1 ⟨e k a,i k a⟩).2⟩;rw[γu];refine⟨c.f.2.1,by simp,?_⟩;simp_all
 grind
theorem rE.next (n:bB p=0) (c:rE p u) {i:Int} (D:∀j∈u.chosen,j<i) (C:0<=i/\i<p.offers.length) (s:iQ p u (oI p i)=true):rE p (eY p u i):=by
 have m:oI p i∈p.offers:=dj (by omega);have B:=(ER n c m).1 s;have g:=dN n;have q:=g.2.2.2.2 _ m;have z:=g.1;have e:cK p (u.chosen++[i])=cK p u.chosen++[oI p i]:=by unfold cK;rw[γb];rfl
 refine⟨⟨⟨?_,?_⟩,?_⟩,?_,?_,?_,?_,?_⟩
 ·show(u.chosen++[i]).Pairwise _;rw[δE];exact⟨c.f.1.1,ζl _ _,λa A b q=>by simp_all⟩
 ·intro j t;rcases γh.1 t with h|h;·exact c.f.1.2 j h
  simp_all
 ·show iW p (cK p (u.chosen++[i]));simp_all
 ·show u.value+_=cu (cK p (u.chosen++[i]));rw[e,nU,c.v];simp[cu]
 ·intro k d;show(u.left.sub _).at k=_ - (dW ((cK p (u.chosen++[i])).map Off.want)).at k;rw[e,γb,xG,KJ k d,A5 k d,c.l k d];grind[KI]
 ·intro k d;show(gu p u (oI p i)).at k=min (_ - (dW ((cK p (u.chosen++[i])).map (yF p))).at k) ((u.left.sub (oI p i).want).at k);unfold gu;rw[e,γb,xG,KJ k d,Ul k d,A5 k d,A5 k d,c.o k d];grind[KI,KL,yG,nd]
 ·show(u.won.set _ true).length=8;rw[τ];exact c.wl
 ·intro b y x;show bj (u.won.set (oI p i).bX.toNat true) b.toNat false=decide (b∈(cK p (u.chosen++[i])).map Off.bX);have r:=c.wl;rw[e,γb,iN (by omega)];simp only[ξ,γs];by_cases h:b=(oI p i).bX;·simp_all
  ·rw[if_neg (by omega),c.w b y x];simp_all
theorem KR (s:bB p=0) (g:rE p u) {k:Nat} {M:List Off} (r:∀x∈M,x∈p.offers) (y:∀x∈M,iQ p u x=true):iW (gP p u k) M↔iW p (cK p u.chosen++M):=by
 have d:=dN s;have C:=d.1;have A:=KP g.f.1;rw[KQ];unfold iW;rw[KO,KO];have D:∀x:Off,fa (gP p u k) x=fa p x:=λx=>rfl;have n:M.map (fa (gP p u k))=M.map (fa p):=rfl;rw[n];have h:∀j,j<6->(((dW (M.map Off.want)).at j<=(gP p u k).supply.at j/\(dW (M.map (fa p))).at j<=(gP p u k).opn.at j)↔((dW ((cK p u.chosen).map Off.want)).at j+(dW (M.map Off.want)).at j<=p.supply.at j/\(dW ((cK p u.chosen).map (fa p))).at j+(dW (M.map (fa p))).at j<=p.opn.at j)):=λj c=>by
  have H:=g.l j c;have F:=g.o j c;have G:=KN (p:=p) c (cK p u.chosen);have J:=wh s c;have I:=EP d c A;have K:=EP d c r;have L:(gP p u k).supply.at j=u.left.at j:=rfl;have E:(gP p u k).opn.at j=u.opn.at j:=rfl;omega
 constructor
 ·rintro⟨z,v,q⟩;refine⟨?_,λj c=>((h j c).1 ⟨v j c,q j c⟩).1,λj c=>((h j c).1 ⟨v j c,q j c⟩).2⟩;rw[γu];refine⟨g.f.2.1,z,?_⟩;intro a B b i e;subst e;obtain⟨x,t,rfl⟩:=γa.1 i;have m:=y x t;have i:=d.2.2.2.2 x (r x t);unfold iQ at m;rw[ζ,γ5,g.w _ i.1 (by omega),decide_eq_false_iff_not] at m;exact m.1 B
 grind
theorem Un {q:bn} (d:iL q=0) (h:∀x∈q.offers,j3 q x=0) (b:(q.offers.map Off.key).Nodup):bB q=0:=by
 have a:∀(l:List Off) (s:List nI),(∀x∈l,j3 q x=0)->(l.map Off.key).Nodup->(∀x∈l,x.key∉s)->iV q s l=0:=by
  intro l;induction l with
  |nil=>intro s _ _ _;rfl;|cons x l c=>
   simp_all[iV]
 simp_all[bB]
theorem ES (e:bB p=0) (g:rE p u) {k:Nat}:bB (gP p u k)=0:=by
 have v:=dN e;have C:=KP g.f.1;have r:=(KQ (p:=p) (L:=cK p u.chosen) (M:=[])).1 (by rw[γL];exact g.f.2);obtain⟨d,q⟩:=tP e;obtain⟨J,H,P,R,N⟩:=tM d;have s:∀x∈(gP p u k).offers,x∈p.offers/\iQ p u x=true:=λx n=>by
  obtain⟨c,w⟩:=γD.1 n;grind
 have F:(dW (([]:List Off).map Off.want))=bD.zero:=rfl;have h:∀j,j<6->0<=u.left.at j/\u.left.at j<=4:=λj a=>by
  have B:=g.l j a;have O:=EP v a C;have w:=r.2.1 j a;have t:(dW (([]:List Off).map Off.want)).at j=0:=by rw[nV];rfl
  grind[yG]
 have i:∀j,j<6->0<=u.opn.at j/\u.opn.at j<=u.left.at j/\(p.cls.at j=0->u.opn.at j=u.left.at j):=λj a=>by
  have B:=g.l j a;have I:=g.o j a;have D:=KN (p:=p) a (cK p u.chosen);have m:=wh e a;have w:=r.2.1 j a;have E:=r.2.2 j a;have t:(dW (([]:List Off).map Off.want)).at j=0:=by rw[nV];rfl
  grind
 refine Un ?_ (λx n=>?_) ?_
 ·have Q:(gP p u k).supply.ok=true:=yG.2 h;have G:CU (gP p u k)=true:=zD.2 λj a=>nT.2 (by
   have m:=wh e a;have b:=i j a;refine⟨m.1,m.2.1,b.1,b.2.1,?_⟩;by_cases z:p.cls.at j=0;·exact .inr (b.2.2 z)
   ·exact .inl z);have K:(gP p u k).offers.length<=p.offers.length:=by
   have c:=γ0 (iQ p u) (p.offers.drop k);rw[δ7] at c;show((p.offers.drop k).filter (iQ p u)).length<=_;omega
  have y:(gP p u k).classes=p.classes:=rfl;unfold iL;grind
 ·obtain⟨c,w⟩:=s x n;have b:=q x c;unfold j3 at b ⊢;have y:(gP p u k).classes=p.classes:=rfl;rw[y];split at b;·omega
  ·rename_i t;rw[if_neg t];split at b;·cases b
   ·rename_i A;rw[if_neg A];grind[KR,ER,Qh]
 ·have c:=(Dl (by
   have:=e;unfold bB at this;rw[if_neg (by rw[d];simp)] at this;exact this)).1;exact((List.filter_sublist.trans (List.drop_sublist k _)).map Off.key).nodup c
end
theorem ET {a b c:Alloc} (h:¬lN a b) (k:¬lN b c):¬lN a c:=λhac=>by
 by_cases hba:lN b a;·exact k (Qu hba hac)
 ·exact k (Z4 h hba▸hac)
theorem Uo {a b:Alloc}:¬lN a (better a b)/\¬lN b (better a b):=by
 unfold better;split
 ·rename_i h;have h:lN a b:=h;exact⟨zJ,λhb=>zJ (Qu h hb)⟩
 ·rename_i h;exact⟨h,zJ⟩
theorem A6 {p:bn}:∀{k:Nat} {i:Int} {a b:Alloc},¬lN b (j6 p k i a b)
 |0,_,_,b=>by simp only[j6];exact zJ;|k+1,i,a,b=>by
  simp only[j6];refine ET ?_ A6;split;·exact ET Uo.2 A6
  ·exact zJ
theorem KT {p:bn} (o:Good p):∀{k:Nat} {i:Int} {a b:Alloc} {t:List Int},0<=i->i+k<=p.offers.length->t≠[]->nc i k t->kE p (a.chosen++t)=true->¬lN ⟨a.chosen++t,a.value+cu (cK p t)⟩ (j6 p k i a b)
 |0,i,a,b,t,_,_,r,c,_=>by
  cases t with
  |nil=>simp_all;|cons j t=>
   have:=c.2 j (by simp);omega
 |k+1,i,a,b,t,y,x,r,c,s=>by
  cases t with
  |nil=>simp_all;|cons j t=>
   have w:=c.2 j (by simp);have u:=γA.1 c.1;simp only[j6];by_cases n:j=i
   ·subst n;have g:Di p t:=λm l=>by
     have:=c.2 m (by simp[l]);omega
    have d:kE p (a.chosen++[j]++t)=true:=by simp_all
    have q:kE p (a.chosen++[j])=true:=PX o g d;rw[if_pos q];refine ET ?_ A6;rw[sg];simp only[cu];cases t with
    |nil=>
     grind[ET,A6,Uo,cu,cK,kF];|cons h f=>
     have:=KT o (k:=k) (i:=j+1) (a:=⟨a.chosen++[j],a.value+kF p j⟩) (b:=better ⟨a.chosen++[j],a.value+kF p j⟩ b) (t:=h::f) (by omega) (by omega) (by simp) ⟨u.2,λm l=>by
      have v:=c.2 m (γW _ l);grind⟩ d;have e:(⟨a.chosen++j::h::f,a.value+((bj p.offers j.toNat bp.off.dflt).value+cu (cK p (h::f)))⟩:Alloc)=⟨a.chosen++[j]++h::f,a.value+kF p j+cu (cK p (h::f))⟩:=by
      simp only[Alloc.mk.injEq,γK,γy,List.nil_append,kF,true_and];omega
     simp_all
   ·exact KT o (by omega) (by omega) (by simp) ⟨c.1,λm l=>by
     have v:=c.2 m l;grind⟩ s
theorem aeh {p:bn} (hg:Good p) {t:List Int} (ht:ri p t):¬lN ⟨t,cu (cK p t)⟩ (cz p):=by
 rw[HW];by_cases hn:t=[]
 ·subst hn;exact A6
 ·have:=KT hg (k:=p.offers.length) (i:=0) (a:=⟨[],0⟩) (b:=⟨[],0⟩) (t:=t) (by omega) (by omega) hn ht.1 (by simpa[kE] using ht.2);simpa using this
theorem A7:∀{c a b:List Int},cmpL (c++a) (c++b)=cmpL a b
 |[],_,_=>rfl
 |x::c,a,b=>by
  simp only[γy,cmpL,Int.lt_irrefl,if_false];exact A7
noncomputable def pM (p:bn) (most:Int) (u:jq) (i:Int):jq:=
 if u.value=most then u else if iQ p u (oI p i)=true then(if jS (gP p (eY p u i) (i+1).toNat) (most - (eY p u i).value) 65536=true then eY p u i else u) else u
noncomputable def jT (p:bn) (most:Int):Nat->jq
 |0=>⟨p.supply,p.opn,[],0,δ 8 false⟩
 |n+1=>pM p most (jT p most n) n
theorem good_start {p:bn} (hc:bB p=0):rE p ⟨p.supply,p.opn,[],0,δ 8 false⟩:=by
 have hg:=dN hc;refine⟨Qp hg,rfl,λk hk=>?_,λk hk=>?_,rfl,λb h0 h1=>?_⟩
 ·show _=_ - (dW (([]:List Off).map Off.want)).at k;rw[nV];simp
 ·show _=min (_ - (dW (([]:List Off).map (yF p))).at k) _;rw[nV];have:=wh hc hk;simp only[γs,List.sum_nil];show p.opn.at k=min (p.opn.at k - 0) (p.supply.at k);omega
 ·show _=decide (b∈([]:List Int));rw[cV (by rw[γk];omega),List.getElem_replicate];simp
theorem Up {i:Int}:∀{L:List Int},L.Pairwise (·<·)->L=L.filter (λj=>decide (j<i))++L.filter (λj=>!decide (j<i))
 |[],_=>rfl
 |x::L,h=>by
  have a:=γA.1 h;have c:=Up (i:=i) a.2;by_cases d:x<i;·grind
  ·have e:L.filter (λj=>decide (j<i))=[]:=δ9.2 λj b=>by grind
   grind
theorem aei {i:Int} {L:List Int} (h:i∉L):L.filter (λj=>decide (j<i+1))=L.filter (λj=>decide (j<i)):=by
 refine List.filter_congr λj hj=>?_;have:j≠i:=λe=>h (e▸hj);rw[Bool.eq_iff_iff,decide_eq_true_eq,decide_eq_true_eq];omega
theorem aej {i:Int} {L:List Int} (b:L.Pairwise (·<·)) (h:i∈L):L.filter (λj=>decide (j<i+1))=L.filter (λj=>decide (j<i))++[i]/\L=L.filter (λj=>decide (j<i))++i::L.filter (λj=>decide (i<j)):=by
 induction L with
 |nil=>cases h;|cons x L f=>
  have g:=γA.1 b;by_cases c:x=i
  ·subst c;have e:L.filter (λj=>decide (j<x))=[]:=δ9.2 λj a=>by grind
   have k:L.filter (λj=>decide (j<x+1))=[]:=δ9.2 λj a=>by grind
   have d:L.filter (λj=>decide (x<j))=L:=δ5.2 λj a=>by simp_all
   grind
  grind
theorem aek {p:bn} (hg:Good p):∀{L:List Off},(∀x∈L,x∈p.offers)->L≠[]->0<cu L
 |[],_,h=>absurd rfl h
 |x::L,h,_=>by
  have h1:=(hg.2.2.2.2 x (h x (δh ..))).2.2.2.1;have h2:=(qw hg (l:=L) λy hy=>h y (γW _ hy)).1;simp only[cu];omega
theorem ael {p:bn} (i:bB p=0) {k:Nat} (d:k<=p.offers.length) {M:List Off} (g:∀x∈M,x∈p.offers.drop k) (c:M.Nodup):∃t:List Int,t.Pairwise (·<·)/\(∀j∈t,(k:Int)<=j/\j<p.offers.length)/\(cK p t).Perm M:=by
 obtain⟨t,b,h,a⟩:=H5 (λx=>decide (x∈M)) (p.offers.drop k) (p.offers.take k);have e:(p.offers.take k).length=k:=by simp_all
 refine⟨t,b,λj f=>?_,?_⟩;·grind
 ·rw[List.take_append_drop] at a;unfold cK;rw[a];refine(List.perm_ext_iff_of_nodup ?_ c).2 λx=>?_;·grind[P5]
  simp_all
theorem EU {p:bn} (hc:bB p=0):ri p (cz p).chosen/\(cz p).value=cu (cK p (cz p).chosen):=by
 obtain⟨_,h1,h2,h3⟩:=Qm hc;exact⟨⟨h2,h1⟩,h3⟩
theorem KU {p:bn} (m:bB p=0) (W:p.offers.length<=15):∀n:Nat,n<=p.offers.length->rE p (jT p (cz p).value n)/\(jT p (cz p).value n).chosen=(cz p).chosen.filter λ(j:Int)=>decide (j<(n:Int))
 |0,_=>⟨good_start m,by
   have h:=(EU m).1.1.2;exact(δ9.2 λj g=>by simp_all).symm⟩
 |n+1,hn=>by
  obtain⟨G,P⟩:=KU m W n (by omega);have o:=dN m;obtain⟨⟨⟨hs,hr⟩,hF⟩,hv⟩:=EU m;have a7:ri p (cz p).chosen:=⟨⟨hs,hr⟩,hF⟩;have I:∀j∈(jT p (cz p).value n).chosen,j<(n:Int):=λj g=>by
   simp_all
  have N:((n:Nat):Int)+1=((n+1:Nat):Int):=by omega
  have J:(0:Int)<=n/\(n:Int)<p.offers.length:=by omega
  have q:oI p n∈p.offers:=dj (by omega);have a4:=Up (i:=(n:Int)) hs;show rE p (pM p (cz p).value (jT p (cz p).value n) n)/\(pM p (cz p).value (jT p (cz p).value n) n).chosen=_;generalize jT p (cz p).value n=u at*;have C:∀{t:List Int},(∀j∈t,j∈(cz p).chosen)->∀x∈cK p t,x∈p.offers:=λht x q=>by
   obtain⟨j,g,rfl⟩:=γa.1 q;have:=hr j (ht j g);exact dj (by omega)
  by_cases e:u.value=(cz p).value
  ·unfold pM;rw[if_pos e];refine⟨G,?_⟩;have R:(cz p).chosen.filter (λj=>!decide (j<(n:Int)))=[]:=by
    refine Classical.byContradiction λU=>?_;have S:=aek o (L:=cK p ((cz p).chosen.filter (λj=>!decide (j<(n:Int))))) (C λj g=>(γD.1 g).1) (by unfold cK;simpa using U);rw[G.v,P,hv] at e;grind[tQ,nU]
   have a1:∀j∈(cz p).chosen,j<(n:Int):=λj g=>by
    grind
   rw[P,δ5.2 λj g=>by grind];exact(δ5.2 λj g=>by grind).symm
  ·by_cases K:(n:Int)∈(cz p).chosen
   ·obtain⟨f1,f2⟩:=aej hs K;rw[<-P] at f1 f2;have A:iW p (cK p u.chosen++[oI p n]++cK p ((cz p).chosen.filter λj=>decide ((n:Int)<j))):=by
     have:cK p u.chosen++[oI p n]++cK p ((cz p).chosen.filter λj=>decide ((n:Int)<j))=cK p (cz p).chosen:=by
      conv=>rhs;rw[f2]
      rw[tQ,sg,γK];rfl
     grind
    have B:=C (t:=(cz p).chosen.filter λj=>decide ((n:Int)<j)) λj g=>(γD.1 g).1;have Q:iQ p u (oI p n)=true:=(ER m G q).2 (Dj o B A);have c:=G.next m I J Q;have z:=ES (k:=((n:Int)+1).toNat) m c;have r:cK p (eY p u n).chosen=cK p u.chosen++[oI p n]:=by
     show cK p (u.chosen++[(n:Int)])=_;rw[tQ];rfl
    have O:∀x∈cK p ((cz p).chosen.filter λj=>decide ((n:Int)<j)),iQ p (eY p u n) x=true:=λx w=>by
     refine(ER m c (B x w)).2 ?_;rw[r];obtain⟨s,t,a0⟩:=List.append_of_mem w;have F:(cK p u.chosen++[oI p n]++cK p ((cz p).chosen.filter λj=>decide ((n:Int)<j))).Perm (cK p u.chosen++[oI p n]++[x]++(s++t)):=by
      rw[a0,γK (cK p u.chosen++[oI p n])];refine ζw _ ?_;exact List.perm_middle
     refine Dj o (M:=s++t) (λy hy=>B y ?_) (Dk F A);grind
    have Y:=(KR (k:=((n:Int)+1).toNat) m c B O).2 (by grind);have Z:∀x∈cK p ((cz p).chosen.filter λj=>decide ((n:Int)<j)),x∈(gP p (eY p u n) ((n:Int)+1).toNat).offers:=λx w=>by
     refine γD.2 ⟨?_,O x w⟩;obtain⟨j,g,rfl⟩:=γa.1 w;obtain⟨V,a8⟩:=γD.1 g;have h3:=hr j V;have h4:(n:Int)<j:=by grind
     rw[cV (by omega)];rw[List.mem_iff_getElem];exact⟨j.toNat - ((n:Int)+1).toNat,by grind,by rw[List.getElem_drop];congr 1;omega⟩
    have H:=Dt z Y Z;rw[Dq z] at H;have a2:(cz p).value=(eY p u n).value+cu (cK p ((cz p).chosen.filter λj=>decide ((n:Int)<j))):=by
     rw[c.v,r,hv];conv=>lhs;rw[f2,tQ,sg,nU]
     rw[nU];grind[cu,oI]
    have T:(gP p (eY p u n) ((n:Int)+1).toNat).offers.length<=15:=by
     have S:=γ0 (iQ p (eY p u n)) (p.offers.drop ((n:Int)+1).toNat);rw[δ7] at S;show((p.offers.drop _).filter _).length<=15;omega
    have l:jc (gP p (eY p u n) ((n:Int)+1).toNat) ((cz p).value - (eY p u n).value) 65536=0:=KH z (by omega) (by
     have:2^((gP p (eY p u n) ((n:Int)+1).toNat).offers.length+1)<=2^16:=δq (by omega) (by omega);omega);have E:jS (gP p (eY p u n) ((n:Int)+1).toNat) ((cz p).value - (eY p u n).value) 65536=true:=(Uk z l).2 (by omega);unfold pM;rw[if_neg e,if_pos Q,if_pos E];refine⟨c,?_⟩;rw[<-N,f1];rfl
   ·rw[<-N,aei K,<-P];unfold pM;rw[if_neg e];split
    ·rename_i Q;split
     ·rename_i E;exfalso;have c:=G.next m I J Q;have z:=ES (k:=((n:Int)+1).toNat) m c;have r:cK p (eY p u n).chosen=cK p u.chosen++[oI p n]:=by
       show cK p (u.chosen++[(n:Int)])=_;rw[tQ];rfl
      have T:(gP p (eY p u n) ((n:Int)+1).toNat).offers.length<=15:=by
       have S:=γ0 (iQ p (eY p u n)) (p.offers.drop ((n:Int)+1).toNat);rw[δ7] at S;show((p.offers.drop _).filter _).length<=15;omega
      have l:jc (gP p (eY p u n) ((n:Int)+1).toNat) ((cz p).value - (eY p u n).value) 65536=0:=KH z (by omega) (by
       have:2^((gP p (eY p u n) ((n:Int)+1).toNat).offers.length+1)<=2^16:=δq (by omega) (by omega);omega);have a6:=(Uk z l).1 E;obtain⟨M,m1,m2,m3⟩:=H8 z;rw[Dq z] at m3;have D:∀x∈M,x∈p.offers.drop ((n:Int)+1).toNat/\iQ p (eY p u n) x=true:=λx q=>γD.1 (m2 x q);have A:=(KR m c (λx q=>List.mem_of_mem_drop (D x q).1) λx q=>(D x q).2).1 m1;obtain⟨t,t1,t2,t3⟩:=ael m (k:=((n:Int)+1).toNat) (by omega) (λx q=>(D x q).1) (Dm Off.bX m1.1);have hT:ri p (u.chosen++(n:Int)::t):=by
       refine⟨⟨?_,?_⟩,?_⟩
       ·rw[δE];refine⟨G.f.1.1,γA.2 ⟨λj g=>by grind,t1⟩,λa ha b hb=>?_⟩;grind
       ·intro j g;rcases γh.1 g with h|h;·grind
        ·rcases List.mem_cons.1 h with rfl|h<;>grind
       ·rw[tQ,sg];refine Dk ?_ A;rw[r,γK];exact ζw _ (List.Perm.cons _ t3.symm)
      have a3:cu (cK p (u.chosen++(n:Int)::t))=(eY p u n).value+cu M:=by
       rw[c.v,r,tQ,sg,nU,nU,<-H4 t3];grind[cu,oI]
      have H:=HY o hT.1 (decide_eq_true hT.2);refine aeh o hT (.inr ⟨(show cu (cK p (u.chosen++(n:Int)::t))=(cz p).value by omega),?_⟩);show cmpL (u.chosen++(n:Int)::t) (cz p).chosen<0;have R:(cz p).chosen=u.chosen++(cz p).chosen.filter (λj=>!decide (j<(n:Int))):=by grind
      have a5:(cz p).chosen.filter (λj=>!decide (j<(n:Int)))≠[]:=λh=>by
       rw[h,γL] at R;refine e ?_;rw[G.v,<-R,hv]
      have X:∀j∈(cz p).chosen.filter (λj=>!decide (j<(n:Int))),(n:Int)<j:=λj g=>by
       grind
      rw[R];generalize (cz p).chosen.filter (λj=>!decide (j<(n:Int)))=d at*;cases d with
      |nil=>grind;|cons j d=>
       rw[A7];have:=X j (by simp);simp only[cmpL];omega
     grind
    grind
theorem Ur {p:bn} (hc:bB p=0) (h15:p.offers.length<=15):(jT p (cz p).value p.offers.length).chosen=(cz p).chosen:=by
 rw[(KU hc h15 p.offers.length (Nat.le_refl _)).2];have h:=(EU hc).1.1.2;exact δ5.2 λj hj=>by have:=h j hj;simp;omega
abbrev yH:=bD×(bD×(List Int×(Int×(Bool×(Bool×(Bool×(Bool×(Bool×(Bool×(Bool×Bool))))))))))
@[reducible] def rF:bp:=.pair .dR (.pair .dR (.pair (.bH (.i .i64)) (.pair (.i .i64) (.pair .b (.pair .b (.pair .b (.pair .b (.pair .b (.pair .b (.pair .b .b))))))))))
def xP (d:yH):jq:=⟨d.1,d.2.1,d.2.2.1,d.2.2.2.1,[d.2.2.2.2.1,d.2.2.2.2.2.1,d.2.2.2.2.2.2.1,d.2.2.2.2.2.2.2.1,d.2.2.2.2.2.2.2.2.1,d.2.2.2.2.2.2.2.2.2.1,d.2.2.2.2.2.2.2.2.2.2.1,d.2.2.2.2.2.2.2.2.2.2.2]⟩
def fP (u:jq):yH:=(u.left,(u.opn,(u.chosen,(u.value,(bj u.won 0 false,(bj u.won 1 false,(bj u.won 2 false,(bj u.won 3 false,(bj u.won 4 false,(bj u.won 5 false,(bj u.won 6 false,bj u.won 7 false)))))))))))
theorem Us {u:jq} (h:u.won.length=8):xP (fP u)=u:=by
 obtain⟨l,o,c,v,w⟩:=u;simp only at h;match w,h with
 |[a,b,c,d,e,f,g,i],_=>rfl
def zX:jq:=⟨bD.zero,bD.zero,[],0,δ 8 false⟩
def pk (k j:Int) (a b:Int):Bool:=decide (k<=j)||(decide (0<=a)&&decide (0<=b))
def jG (a b:bD) (k:Int):Bool:=pk k 0 a.a0 b.a0&&(pk k 1 a.a1 b.a1&&(pk k 2 a.a2 b.a2&&(pk k 3 a.a3 b.a3&&(pk k 4 a.a4 b.a4&&pk k 5 a.a5 b.a5))))
def KV:dF where
 f:=88;α:=yH×bn×Off;put a:=[.ptr 0 0 22,dE.put a.2.1,(eG .off).put a.2.2];st a:=[.cells (encS rF a.1) 103 22 false];dec v o:=match v,o with
  |[.ptr 0 0 22,p,x],[.cells cs 103 22 false]=>match jK rF cs,dE.dec p,(eG .off).dec x with
   |some d,some p,some x=>some (d,p,x)
   |_,_,_=>none
  |_,_=>none;ok v o a h:=by
  split at h
  ·split at h
   ·rename_i h1 h2 h3;simp only[γ] at h;subst h;refine⟨by simp only[gL,dE.ok _ _ h2,(eG .off).ok _ _ h3],?_⟩;simp only[gO,ξ,γs,bq.g,fU,nJ h1,tt]
   ·cases h
  ·cases h
 inj a b h1 h2:=by
  obtain⟨d,p,x⟩:=a;obtain⟨d',p',x'⟩:=b;simp only[gL,Δ,and_true,true_and] at h1;simp only[gO,ξ,γs,bq.g,Δ,bR.cells.injEq,and_true,fU,tt] at h2;rw[xp rF d d' h2,dE.inj p p' h1.1,(eG .off).inj x x' h1.2]
 dom a:=((∀k,k<6->(-1000<=a.1.1.at k/\a.1.1.at k<=1000)/\(-1000<=a.1.2.1.at k/\a.1.2.1.at k<=1000))/\a.2.2.want.ok=true)/\0<=a.2.2.bX/\a.2.2.bX<a.2.1.classes.length;res a:=.sb ((a.1.1.sub a.2.2.want).pos&&(gu a.2.1 (xP a.1) a.2.2).pos);out a:=[.cells (encS rF (a.1.1.sub a.2.2.want,(gu a.2.1 (xP a.1) a.2.2,a.1.2.2))) 103 22 false]
def aem (d:yH) (p:bn) (x:Off):Nat->cC
 |3=> .inv Int (λk=>⟨[(0,.ptr 0 0 22),(4,.ptr 1 0 20),(5,.ptr 2 0 8),(7,.sb (jG (d.1.sub x.want) (gu p (xP d) x) k)),(11,.agg (encS .dR x.want)),(12,.si .i64 k)],
   [.cells (encS rF (iD d.1 (d.1.sub x.want) k,(iD d.2.1 (gu p (xP d) x) k,d.2.2))) 103 22 false,.cells p.ss 27 20 false,.cells (encS .off x) 55 8 false]⟩)
   (λs=>iS s 12) (λk=>0<=k/\k<=6) (λk=>(6 - k).toNat) λ_ _=> .look
 |_=> .look
theorem h450:dZ Tryz.prog KV:=by
 refine lp (L:=[]) (W:=[]) KV (λa=>aem a.1 a.2.1 a.2.2) (by simp) (by simp) ?_;rintro⟨d,p,x⟩ ⟨⟨hb,hw⟩,hx0,hx1⟩;simp only at hb hw hx0 hx1;refine bO (let a:=γe .i64;let b:=(0:Int);let c:=(6:Int);let e:=bq.cells;let f:=γw;let g:=cn .i64;let h:=Θ;let j:=δa false;let k:=γP;let r:=k 0 0 22;let s:=k 1 0 20;let t:=k 2 0 8;let o:=d.fst.sub x.want;let q:=gu p (xP d) x;let a8:=a x.want.a0;let a9:=a x.want.a1;let aa:=a x.want.a2;let ab:=a x.want.a3;let ac:=a x.want.a4;let ad:=a x.want.a5;let u:=γQ [a8,a9,aa,ab,ac,ad];let N:=bp.i .i64;let C:=d.snd.snd.snd.snd.snd;let ae:=C.snd.snd.snd.snd.snd;let D:=iD d.fst o b;let E:=iD d.snd.fst q b;let F:=d.snd.snd.snd.snd.snd;let af:=F.snd.snd.snd.snd.snd;let z:=[h N d.snd.snd.fst,a d.snd.snd.snd.fst,f d.snd.snd.snd.snd.fst,f F.fst,f F.snd.fst,f F.snd.snd.fst,f F.snd.snd.snd.fst,f F.snd.snd.snd.snd.fst,f af.fst,f af.snd];let v:=e [a p.supply.a0,a p.supply.a1,a p.supply.a2,a p.supply.a3,a p.supply.a4,a p.supply.a5,a p.opn.a0,a p.opn.a1,a p.opn.a2,a p.opn.a3,a p.opn.a4,a p.opn.a5,a p.cls.a0,a p.cls.a1,a p.cls.a2,a p.cls.a3,a p.cls.a4,a p.cls.a5,h N p.classes,h bp.off p.offers] 27 20 false;let w:=e [a x.bX,a8,a9,aa,ab,ac,ad,a x.value] 55 8 false;let aK:=[x.want.a0,x.want.a1,x.want.a2,x.want.a3,x.want.a4,x.want.a5];let aL:=[p.cls.a0,p.cls.a1,p.cls.a2,p.cls.a3,p.cls.a4,p.cls.a5];(((r.same r/\s.same s/\t.same t/\(δa true).same (f (jG o q b))/\u.same u/\(γx .i64 0).same (a 0)/\True)/\(e [a d.fst.a0,a d.fst.a1,a d.fst.a2,a d.fst.a3,a d.fst.a4,a d.fst.a5,a d.snd.fst.a0,a d.snd.fst.a1,a d.snd.fst.a2,a d.snd.fst.a3,a d.snd.fst.a4,a d.snd.fst.a5,h N d.snd.snd.fst,a d.snd.snd.snd.fst,f d.snd.snd.snd.snd.fst,f C.fst,f C.snd.fst,f C.snd.snd.fst,f C.snd.snd.snd.fst,f C.snd.snd.snd.snd.fst,f ae.fst,f ae.snd] 103 22 false).same (e (a D.a0::a D.a1::a D.a2::a D.a3::a D.a4::a D.a5::a E.a0::a E.a1::a E.a2::a E.a3::a E.a4::a E.a5::z) 103 22 false)/\v.same v/\w.same w/\True)/\b<=b/\b<=c)/\∀(x_1:Int),let K:=jG o q x_1;let n:=iD d.fst o x_1;let ag:=bj aK x_1.toNat b;let A:=bj [n.a0,n.a1,n.a2,n.a3,n.a4,n.a5] x_1.toNat b - ag;let ah:=if x_1.toNat=0 then A else n.a0;let ai:=if x_1.toNat=1 then A else n.a1;let aj:=if x_1.toNat=2 then A else n.a2;let ak:=if x_1.toNat=3 then A else n.a3;let al:=if x_1.toNat=4 then A else n.a4;let am:=if x_1.toNat=5 then A else n.a5;let O:=bj [ah,ai,aj,ak,al,am] x_1.toNat b;let L:=decide (b<=O);let m:=x_1+(1:Int);let l:=iD d.snd.fst q x_1;let an:=bj [l.a0,l.a1,l.a2,l.a3,l.a4,l.a5] x_1.toNat b;let B:=an - ag;let ao:=if x_1.toNat=0 then B else l.a0;let ap:=if x_1.toNat=1 then B else l.a1;let aq:=if x_1.toNat=2 then B else l.a2;let ar:=if x_1.toNat=3 then B else l.a3;let au:=if x_1.toNat=4 then B else l.a4;let av:=if x_1.toNat=5 then B else l.a5;let G:=min (bj [ao,ap,aq,ar,au,av] x_1.toNat b) O;let P:=if x_1.toNat=0 then G else ao;let Q:=if x_1.toNat=1 then G else ap;let R:=if x_1.toNat=2 then G else aq;let S:=if x_1.toNat=3 then G else ar;let T:=if x_1.toNat=4 then G else au;let U:=if x_1.toNat=5 then G else av;let M:=f (jG o q m);let y:=a m;let V:=a ah;let W:=a ai;let X:=a aj;let Y:=a ak;let Z:=a al;let a6:=a am;let H:=iD d.fst o m;let I:=iD d.snd.fst q m;let a7:=e (a H.a0::a H.a1::a H.a2::a H.a3::a H.a4::a H.a5::a I.a0::a I.a1::a I.a2::a I.a3::a I.a4::a I.a5::z) 103 22 false;let J:=min an O;let aw:=if x_1.toNat=0 then J else l.a0;let ax:=if x_1.toNat=1 then J else l.a1;let ay:=if x_1.toNat=2 then J else l.a2;let az:=if x_1.toNat=3 then J else l.a3;let aA:=if x_1.toNat=4 then J else l.a4;let aB:=if x_1.toNat=5 then J else l.a5;let aC:=decide (x_1<c);let aD:=bj aL x_1.toNat b;let aE:=decide (aD=b);let aF:=decide (aD≠bj p.classes x.bX.toNat b);let aM:=let aG:=g m/\((r.same r/\s.same s/\t.same t/\(j).same M/\u.same u/\y.same y/\True)/\(e (V::W::X::Y::Z::a6::a P::a Q::a R::a S::a T::a U::z) 103 22 false).same a7/\v.same v/\w.same w/\True)/\(b<=m/\m<=c)/\(c - m).toNat<(c - x_1).toNat;x_1.toNat<6/\b<=x_1/\x_1<c/\x_1.toNat<6/\b<=x_1/\x_1<c/\x_1.toNat<6/\(K=true->b<=x_1/\x_1<c/\x_1.toNat<6/\(L=true->b<=x_1/\x_1<c/\x_1.toNat<6/\g m/\((r.same r/\s.same s/\t.same t/\(f (decide (b<=bj [P,Q,R,S,T,U] x_1.toNat b))).same M/\u.same u/\y.same y/\True)/\(e (V::W::X::Y::Z::a6::a P::a Q::a R::a S::a T::a U::z) 103 22 false).same a7/\v.same v/\w.same w/\True)/\(b<=m/\m<=c)/\(c - m).toNat<(c - x_1).toNat)/\(L=false->aG))/\(K=false->aG);let aH:=(e (V::W::X::Y::Z::a6::a aw::a ax::a ay::a az::a aA::a aB::z) 103 22 false).same a7;let aI:=b<=x_1/\x_1<c/\x_1.toNat<6/\g B/\b<=x_1/\x_1<c/\x_1.toNat<6/\b<=x_1/\x_1<c/\aM;let aJ:=g m/\((r.same r/\s.same s/\t.same t/\(j).same M/\u.same u/\y.same y/\True)/\aH/\v.same v/\w.same w/\True)/\(b<=m/\m<=c)/\(c - m).toNat<(c - x_1).toNat;b<=x_1/\x_1<=c->(aC=true->b<=x_1/\x_1<c/\b<=x_1/\x_1<c/\x_1.toNat<6/\g A/\b<=x_1/\x_1<c/\x_1.toNat<6/\b<=x_1/\x_1<c/\x_1.toNat<6/\(aE=true->aI)/\(aE=false->b<=x_1/\x_1<c/\x_1.toNat<6/\b<=x.bX/\x.bX<(↑p.classes.length:Int)/\x.bX.toNat<p.classes.length/\(aF=true->aI)/\(aF=false->b<=x_1/\x_1<c/\x_1.toNat<6/\b<=x_1/\x_1<c/\x_1.toNat<6/\b<=x_1/\x_1<c/\x_1.toNat<6/\(K=true->b<=x_1/\x_1<c/\x_1.toNat<6/\(L=true->b<=x_1/\x_1<c/\x_1.toNat<6/\g m/\((r.same r/\s.same s/\t.same t/\(f (decide (b<=bj [aw,ax,ay,az,aA,aB] x_1.toNat b))).same M/\u.same u/\y.same y/\True)/\aH/\v.same v/\w.same w/\True)/\(b<=m/\m<=c)/\(c - m).toNat<(c - x_1).toNat)/\(L=false->aJ))/\(K=false->aJ))))/\(aC=false->(f K).same (f (o.pos&&q.pos))/\(e (a n.a0::a n.a1::a n.a2::a n.a3::a n.a4::a n.a5::a l.a0::a l.a1::a l.a2::a l.a3::a l.a4::a l.a5::z) 103 22 false).same (e (a o.a0::a o.a1::a o.a2::a o.a3::a o.a4::a o.a5::a q.a0::a q.a1::a q.a2::a q.a3::a q.a4::a q.a5::z) 103 22 false)/\True)) (by kernel_rfl) ?_;simp only[vcs];refine⟨⟨⟨rfl,rfl⟩,by omega,by omega⟩,?_⟩;rintro k ⟨k0,k6⟩;simp only[show bj p.classes x.bX.toNat 0=lq p x from rfl];generalize hcl:lq p x=cl at*;constructor
 ·intro hk;rcases(show k=0\/k=1\/k=2\/k=3\/k=4\/k=5 by omega) with rfl|rfl|rfl|rfl|rfl|rfl
  ·have hb0:=hb 0 (by omega);have hw0:0<=x.want.a0/\x.want.a0<=4:=by have:=bD.jz.1 hw;omega
   have b1: -1000<=d.1.a0/\d.1.a0<=1000:=hb0.1;have b2: -1000<=d.2.1.a0/\d.2.1.a0<=1000:=hb0.2;have eo:(gu p (xP d) x).a0=min (d.2.1.a0 - nd p.cls.a0 x.want.a0 cl) (d.1.a0 - x.want.a0):=by rw[<-hcl];rfl
   generalize gu p (xP d) x=O at*;by_cases h1:p.cls.a0=0;·simp[iD,bj,bD.sub,jG,pk,eo,nd,h1,kT];grind
   ·by_cases h2:p.cls.a0=cl
    ·subst h2;simp[iD,bj,bD.sub,jG,pk,eo,nd,h1,kT];grind
    ·simp[iD,bj,bD.sub,jG,pk,eo,nd,h1,h2,kT];grind
  ·have hb0:=hb 1 (by omega);have hw0:0<=x.want.a1/\x.want.a1<=4:=by have:=bD.jz.1 hw;omega
   have b1: -1000<=d.1.a1/\d.1.a1<=1000:=hb0.1;have b2: -1000<=d.2.1.a1/\d.2.1.a1<=1000:=hb0.2;have eo:(gu p (xP d) x).a1=min (d.2.1.a1 - nd p.cls.a1 x.want.a1 cl) (d.1.a1 - x.want.a1):=by rw[<-hcl];rfl
   generalize gu p (xP d) x=O at*;by_cases h1:p.cls.a1=0;·simp[iD,bj,bD.sub,jG,pk,eo,nd,h1,kT];grind
   ·by_cases h2:p.cls.a1=cl
    ·subst h2;simp[iD,bj,bD.sub,jG,pk,eo,nd,h1,kT];grind
    ·simp[iD,bj,bD.sub,jG,pk,eo,nd,h1,h2,kT];grind
  ·have hb0:=hb 2 (by omega);have hw0:0<=x.want.a2/\x.want.a2<=4:=by have:=bD.jz.1 hw;omega
   have b1: -1000<=d.1.a2/\d.1.a2<=1000:=hb0.1;have b2: -1000<=d.2.1.a2/\d.2.1.a2<=1000:=hb0.2;have eo:(gu p (xP d) x).a2=min (d.2.1.a2 - nd p.cls.a2 x.want.a2 cl) (d.1.a2 - x.want.a2):=by rw[<-hcl];rfl
   generalize gu p (xP d) x=O at*;by_cases h1:p.cls.a2=0;·simp[iD,bj,bD.sub,jG,pk,eo,nd,h1,kT];grind
   ·by_cases h2:p.cls.a2=cl
    ·subst h2;simp[iD,bj,bD.sub,jG,pk,eo,nd,h1,kT];grind
    ·simp[iD,bj,bD.sub,jG,pk,eo,nd,h1,h2,kT];grind
  ·have hb0:=hb 3 (by omega);have hw0:0<=x.want.a3/\x.want.a3<=4:=by have:=bD.jz.1 hw;omega
   have b1: -1000<=d.1.a3/\d.1.a3<=1000:=hb0.1;have b2: -1000<=d.2.1.a3/\d.2.1.a3<=1000:=hb0.2;have eo:(gu p (xP d) x).a3=min (d.2.1.a3 - nd p.cls.a3 x.want.a3 cl) (d.1.a3 - x.want.a3):=by rw[<-hcl];rfl
   generalize gu p (xP d) x=O at*;by_cases h1:p.cls.a3=0;·simp[iD,bj,bD.sub,jG,pk,eo,nd,h1,kT];grind
   ·by_cases h2:p.cls.a3=cl
    ·subst h2;simp[iD,bj,bD.sub,jG,pk,eo,nd,h1,kT];grind
    ·simp[iD,bj,bD.sub,jG,pk,eo,nd,h1,h2,kT];grind
  ·have hb0:=hb 4 (by omega);have hw0:0<=x.want.a4/\x.want.a4<=4:=by have:=bD.jz.1 hw;omega
   have b1: -1000<=d.1.a4/\d.1.a4<=1000:=hb0.1;have b2: -1000<=d.2.1.a4/\d.2.1.a4<=1000:=hb0.2;have eo:(gu p (xP d) x).a4=min (d.2.1.a4 - nd p.cls.a4 x.want.a4 cl) (d.1.a4 - x.want.a4):=by rw[<-hcl];rfl
   generalize gu p (xP d) x=O at*;by_cases h1:p.cls.a4=0;·simp[iD,bj,bD.sub,jG,pk,eo,nd,h1,kT];grind
   ·by_cases h2:p.cls.a4=cl
    ·subst h2;simp[iD,bj,bD.sub,jG,pk,eo,nd,h1,kT];grind
    ·simp[iD,bj,bD.sub,jG,pk,eo,nd,h1,h2,kT];grind
  ·have hb0:=hb 5 (by omega);have hw0:0<=x.want.a5/\x.want.a5<=4:=by have:=bD.jz.1 hw;omega
   have b1: -1000<=d.1.a5/\d.1.a5<=1000:=hb0.1;have b2: -1000<=d.2.1.a5/\d.2.1.a5<=1000:=hb0.2;have eo:(gu p (xP d) x).a5=min (d.2.1.a5 - nd p.cls.a5 x.want.a5 cl) (d.1.a5 - x.want.a5):=by rw[<-hcl];rfl
   generalize gu p (xP d) x=O at*;by_cases h1:p.cls.a5=0;·simp[iD,bj,bD.sub,jG,pk,eo,nd,h1,kT];grind
   ·by_cases h2:p.cls.a5=cl
    ·subst h2;simp[iD,bj,bD.sub,jG,pk,eo,nd,h1,kT];grind
    ·simp[iD,bj,bD.sub,jG,pk,eo,nd,h1,h2,kT];grind
 ·intro hk;have:k=6:=by omega
  subst this;simp[iD,bD.sub,jG,pk,bD.pos,Bool.and_assoc];exact⟨by ac_rfl,rfl⟩
noncomputable def EV (L:List bL) (W:kQ) (sp:Nat->Option (Nat×Nat×Nat)):iR:=⟨⟨vo L,W.C⟩,mX,mY,sp,fO,λ_=>false⟩
theorem agP {L:List bL} {W:kQ} (e:Nat->Option (Nat×Nat×Nat)) (c:bL) (g:c.α->Nat->cC) (i:mW Tryz.prog W) (k:∀c∈L,Holds Tryz.prog c)
  
  (h:∀a,c.dom a->Vc (py (EV L W e) (g a) (fG c.f) (c.A.put a) λv=>v.qk (c.res a))) (l:(fO c.f).isSome=true:=by kernel_rfl) (d:lL c.f L=none:=by kernel_rfl) (b:∀a,(c.A.put a).length=(fG c.f).params:=by intro _;kernel_rfl):Holds Tryz.prog c:=
 λa j=>zz (p:=EV L W e) (Λ:=g a) (rZ i k qp) (r7 i) (λ_ _ h=>h) (vt l) (CH d) (b a) (λ_ h=>vp h) (h a j).out
theorem aen {L:List bL} {W:kQ} (sp:Nat->Option (Nat×Nat×Nat)) (c:bL) (F:eZ) (Λ:c.α->Nat->cC) (hW:mW Tryz.prog W) (hL:∀c∈L,Holds Tryz.prog c)
  
  (h:∀a,c.dom a->Vc (py (EV L W sp) (Λ a) F (c.A.put a) λv=>v.qk (c.res a))) (hF:fO c.f=some F:=by kernel_rfl) (hfr:lL c.f L=none:=by kernel_rfl) (hlen:∀a,(c.A.put a).length=F.params:=by intro _;kernel_rfl):Holds Tryz.prog c:=
 λa hd=>zz (p:=EV L W sp) (Λ:=Λ a) (rZ hW hL qp) (r7 hW) (λ_ _ h=>h) hF (CH hfr) (hlen a) (λ_ h=>vp h) (h a hd).out
def pN (p:bn) (u:jq) (i:Int):jq:=if iQ p u (oI p i)=true then eY p u i else zX
def A8 (u:jq):Prop:=(∀k,k<6->(-1000<=u.left.at k/\u.left.at k<=1000)/\(-1000<=u.opn.at k/\u.opn.at k<=1000))/\(0<=u.value/\u.value<=160000000)/\u.chosen.length<=1000
def EW:bL:=⟨55,yH×bn×Int,.cons (eG rF) (.cons dE (.one (eK .i64))),λa=>bB a.2.1=0/\A8 (xP a.1)/\0<=a.2.2/\a.2.2<a.2.1.offers.length,
 λa=> .bJ [.agg (encS rF (fP (pN a.2.1 (xP a.1) a.2.2))),.sb (iQ a.2.1 (xP a.1) (oI a.2.1 a.2.2))]⟩
def aeo (n:Nat):Option (Nat×Nat×Nat):=if n=2 then some (3,0,8) else none
theorem h443:Holds Tryz.prog EW:=by
 refine aen (L:=[]) (W:=gB [KV]) aeo EW (fG 55) lk (ln (by simpa using h450)) (by simp) ?_;rintro⟨⟨l,o,c,v,w0,w1,w2,w3,w4,w5,w6,w7⟩,p,i⟩ ⟨hc,hd,i0,i1⟩;simp only at hc hd i0 i1;refine bO (let a:=γe .i64;let b:=γw;let d:=(-1000:Int);let e:=(1000:Int);let f:=γQ;let g:=SV.bJ;let h:=(0:Int);let j:=δa true;let m:=cn .i64;let n:=(1:Int);let q:=(2:Int);let r:=(3:Int);let s:=(4:Int);let t:=(5:Int);let u:=(6:Int);let w:=(7:Int);let x:=Θ;let L:=γx .i64 0;let ac:=bp.i .i64;let P:=x ac [];let Q:=δa false;let M:=xP (l,o,c,v,w0,w1,w2,w3,w4,w5,w6,w7);let aa:=(fP (pN p M i)).fst;let N:=(fP (pN p M i)).snd;let ab:=N.snd.snd.snd.snd.snd;let y:=g [f [a aa.a0,a aa.a1,a aa.a2,a aa.a3,a aa.a4,a aa.a5,a N.fst.a0,a N.fst.a1,a N.fst.a2,a N.fst.a3,a N.fst.a4,a N.fst.a5,x ac N.snd.fst,a N.snd.snd.fst,b N.snd.snd.snd.fst,b N.snd.snd.snd.snd.fst,b ab.fst,b ab.snd.fst,b ab.snd.snd.fst,b ab.snd.snd.snd.fst,b ab.snd.snd.snd.snd.fst,b ab.snd.snd.snd.snd.snd],b (iQ p M (oI p i))];let ad:=bj p.offers i.toNat bp.off.dflt;let O:=ad.bX;let G:=ad.want;let R:=(↑p.classes.length:Int);let a9:=l.sub G;let I:=a9.pos;let H:=ad.value;let S:=gu p M (Off.mk h G H);let A:=a a9.a0;let B:=a a9.a1;let C:=a a9.a2;let D:=a a9.a3;let E:=a a9.a4;let F:=a a9.a5;let ae:=a S.a0;let af:=a S.a1;let ag:=a S.a2;let ah:=a S.a3;let ai:=a S.a4;let aj:=a S.a5;let T:=a (v+H);let ak:=[b w6,b w7];let al:=b w4::b w5::ak;let bc:=b w2::b w3::al;let am:=T::j::b w1::bc;let z:=[j];let U:=x ac [i];let J:=c.length+1;let V:=x ac (c++[i]);let W:=gu p M (Off.mk n G H);let an:=a W.a0;let ao:=a W.a1;let ap:=a W.a2;let aq:=a W.a3;let ar:=a W.a4;let au:=a W.a5;let av:=T::b w0::j::bc;let X:=gu p M (Off.mk q G H);let aw:=a X.a0;let ax:=a X.a1;let ay:=a X.a2;let az:=a X.a3;let aA:=a X.a4;let aB:=a X.a5;let aC:=T::b w0::b w1::j::b w3::al;let Y:=gu p M (Off.mk r G H);let aD:=a Y.a0;let aE:=a Y.a1;let aF:=a Y.a2;let aG:=a Y.a3;let aH:=a Y.a4;let aI:=a Y.a5;let aJ:=T::b w0::b w1::b w2::j::al;let Z:=gu p M (Off.mk s G H);let aK:=a Z.a0;let aL:=a Z.a1;let aM:=a Z.a2;let aN:=a Z.a3;let aO:=a Z.a4;let aP:=a Z.a5;let aQ:=T::b w0::b w1::b w2::b w3::j::b w5::ak;let a6:=gu p M (Off.mk t G H);let aR:=a a6.a0;let aS:=a a6.a1;let aT:=a a6.a2;let aU:=a a6.a3;let aV:=a a6.a4;let aW:=a a6.a5;let aX:=T::b w0::b w1::b w2::b w3::b w4::j::ak;let a7:=gu p M (Off.mk u G H);let aY:=a a7.a0;let aZ:=a a7.a1;let b0:=a a7.a2;let b1:=a a7.a3;let b2:=a a7.a4;let b3:=a a7.a5;let b4:=[T,b w0,b w1,b w2,b w3,b w4,b w5,j,b w7];let a8:=gu p M (Off.mk w G H);let b5:=a a8.a0;let b6:=a a8.a1;let b7:=a a8.a2;let b8:=a a8.a3;let b9:=a a8.a4;let ba:=a a8.a5;let bb:=T::b w0::b w1::b w2::b w3::b w4::b w5::b w6::z;let K:=(g [f [L,L,L,L,L,L,L,L,L,L,L,L,P,L,Q,Q,Q,Q,Q,Q,Q,Q],Q]).same y;h<=i/\i<(↑p.offers.length:Int)/\i.toNat<p.offers.length/\(O=h->(w0=true->K)/\(w0=false->(((∀(k:Nat),k<6->(d<=l.at k/\l.at k<=e)/\d<=o.at k/\o.at k<=e)/\G.ok=true)/\h<=h/\h<R)/\((!(I&&S.pos))=true->K)/\((!(I&&S.pos))=false->m (v+H)/\(c.length=0->(1=0->(g (f (A::B::C::D::E::F::ae::af::ag::ah::ai::aj::P::am)::z)).same y)/\(1≠0->8<=140737488355328/\1<=1000000000000/\1=1/\(g (f (A::B::C::D::E::F::ae::af::ag::ah::ai::aj::U::am)::z)).same y))/\(c.length≠0->c.length*8<=140737488355328/\c.length<=1000000000000/\c.length=c.length/\J*8<=140737488355328/\J<=1000000000000/\(c++[i]).length=(c++[i]).length/\(g (f (A::B::C::D::E::F::ae::af::ag::ah::ai::aj::V::am)::z)).same y))))/\(O=n->(w1=true->K)/\(w1=false->(((∀(k:Nat),k<6->(d<=l.at k/\l.at k<=e)/\d<=o.at k/\o.at k<=e)/\G.ok=true)/\h<=n/\n<R)/\((!(I&&W.pos))=true->K)/\((!(I&&W.pos))=false->m (v+H)/\(c.length=0->(1=0->(g (f (A::B::C::D::E::F::an::ao::ap::aq::ar::au::P::av)::z)).same y)/\(1≠0->8<=140737488355328/\1<=1000000000000/\1=1/\(g (f (A::B::C::D::E::F::an::ao::ap::aq::ar::au::U::av)::z)).same y))/\(c.length≠0->c.length*8<=140737488355328/\c.length<=1000000000000/\c.length=c.length/\J*8<=140737488355328/\J<=1000000000000/\(c++[i]).length=(c++[i]).length/\(g (f (A::B::C::D::E::F::an::ao::ap::aq::ar::au::V::av)::z)).same y))))/\(O=q->(w2=true->K)/\(w2=false->(((∀(k:Nat),k<6->(d<=l.at k/\l.at k<=e)/\d<=o.at k/\o.at k<=e)/\G.ok=true)/\h<=q/\q<R)/\((!(I&&X.pos))=true->K)/\((!(I&&X.pos))=false->m (v+H)/\(c.length=0->(1=0->(g (f (A::B::C::D::E::F::aw::ax::ay::az::aA::aB::P::aC)::z)).same y)/\(1≠0->8<=140737488355328/\1<=1000000000000/\1=1/\(g (f (A::B::C::D::E::F::aw::ax::ay::az::aA::aB::U::aC)::z)).same y))/\(c.length≠0->c.length*8<=140737488355328/\c.length<=1000000000000/\c.length=c.length/\J*8<=140737488355328/\J<=1000000000000/\(c++[i]).length=(c++[i]).length/\(g (f (A::B::C::D::E::F::aw::ax::ay::az::aA::aB::V::aC)::z)).same y))))/\(O=r->(w3=true->K)/\(w3=false->(((∀(k:Nat),k<6->(d<=l.at k/\l.at k<=e)/\d<=o.at k/\o.at k<=e)/\G.ok=true)/\h<=r/\r<R)/\((!(I&&Y.pos))=true->K)/\((!(I&&Y.pos))=false->m (v+H)/\(c.length=0->(1=0->(g (f (A::B::C::D::E::F::aD::aE::aF::aG::aH::aI::P::aJ)::z)).same y)/\(1≠0->8<=140737488355328/\1<=1000000000000/\1=1/\(g (f (A::B::C::D::E::F::aD::aE::aF::aG::aH::aI::U::aJ)::z)).same y))/\(c.length≠0->c.length*8<=140737488355328/\c.length<=1000000000000/\c.length=c.length/\J*8<=140737488355328/\J<=1000000000000/\(c++[i]).length=(c++[i]).length/\(g (f (A::B::C::D::E::F::aD::aE::aF::aG::aH::aI::V::aJ)::z)).same y))))/\(O=s->(w4=true->K)/\(w4=false->(((∀(k:Nat),k<6->(d<=l.at k/\l.at k<=e)/\d<=o.at k/\o.at k<=e)/\G.ok=true)/\h<=s/\s<R)/\((!(I&&Z.pos))=true->K)/\((!(I&&Z.pos))=false->m (v+H)/\(c.length=0->(1=0->(g (f (A::B::C::D::E::F::aK::aL::aM::aN::aO::aP::P::aQ)::z)).same y)/\(1≠0->8<=140737488355328/\1<=1000000000000/\1=1/\(g (f (A::B::C::D::E::F::aK::aL::aM::aN::aO::aP::U::aQ)::z)).same y))/\(c.length≠0->c.length*8<=140737488355328/\c.length<=1000000000000/\c.length=c.length/\J*8<=140737488355328/\J<=1000000000000/\(c++[i]).length=(c++[i]).length/\(g (f (A::B::C::D::E::F::aK::aL::aM::aN::aO::aP::V::aQ)::z)).same y))))/\(O=t->(w5=true->K)/\(w5=false->(((∀(k:Nat),k<6->(d<=l.at k/\l.at k<=e)/\d<=o.at k/\o.at k<=e)/\G.ok=true)/\h<=t/\t<R)/\((!(I&&a6.pos))=true->K)/\((!(I&&a6.pos))=false->m (v+H)/\(c.length=0->(1=0->(g (f (A::B::C::D::E::F::aR::aS::aT::aU::aV::aW::P::aX)::z)).same y)/\(1≠0->8<=140737488355328/\1<=1000000000000/\1=1/\(g (f (A::B::C::D::E::F::aR::aS::aT::aU::aV::aW::U::aX)::z)).same y))/\(c.length≠0->c.length*8<=140737488355328/\c.length<=1000000000000/\c.length=c.length/\J*8<=140737488355328/\J<=1000000000000/\(c++[i]).length=(c++[i]).length/\(g (f (A::B::C::D::E::F::aR::aS::aT::aU::aV::aW::V::aX)::z)).same y))))/\(O=u->(w6=true->K)/\(w6=false->(((∀(k:Nat),k<6->(d<=l.at k/\l.at k<=e)/\d<=o.at k/\o.at k<=e)/\G.ok=true)/\h<=u/\u<R)/\((!(I&&a7.pos))=true->K)/\((!(I&&a7.pos))=false->m (v+H)/\(c.length=0->(1=0->(g (f (A::B::C::D::E::F::aY::aZ::b0::b1::b2::b3::P::b4)::z)).same y)/\(1≠0->8<=140737488355328/\1<=1000000000000/\1=1/\(g (f (A::B::C::D::E::F::aY::aZ::b0::b1::b2::b3::U::b4)::z)).same y))/\(c.length≠0->c.length*8<=140737488355328/\c.length<=1000000000000/\c.length=c.length/\J*8<=140737488355328/\J<=1000000000000/\(c++[i]).length=(c++[i]).length/\(g (f (A::B::C::D::E::F::aY::aZ::b0::b1::b2::b3::V::b4)::z)).same y))))/\(O=w->(w7=true->K)/\(w7=false->(((∀(k:Nat),k<6->(d<=l.at k/\l.at k<=e)/\d<=o.at k/\o.at k<=e)/\G.ok=true)/\h<=w/\w<R)/\((!(I&&a8.pos))=true->K)/\((!(I&&a8.pos))=false->m (v+H)/\(c.length=0->(1=0->(g (f (A::B::C::D::E::F::b5::b6::b7::b8::b9::ba::P::bb)::z)).same y)/\(1≠0->8<=140737488355328/\1<=1000000000000/\1=1/\(g (f (A::B::C::D::E::F::b5::b6::b7::b8::b9::ba::U::bb)::z)).same y))/\(c.length≠0->c.length*8<=140737488355328/\c.length<=1000000000000/\c.length=c.length/\J*8<=140737488355328/\J<=1000000000000/\(c++[i]).length=(c++[i]).length/\(g (f (A::B::C::D::E::F::b5::b6::b7::b8::b9::ba::V::bb)::z)).same y))))/\h<=O/\O<(8:Int)) (by kernel_rfl) ?_;simp only[vcs];have hg:=(dN hc).2.2.2.2 (oI p i) (dj (by omega));have hc8:=(dN hc).1;obtain⟨h1,h2,h3⟩:=hd;have h1':∀k,k<6->(-1000<=l.at k/\l.at k<=1000)/\(-1000<=o.at k/\o.at k<=1000):=h1;have h2':0<=v/\v<=160000000:=h2;have h3':c.length<=1000:=h3;refine⟨i0,i1,by omega,?_⟩;have eo:bj p.offers i.toNat bp.off.dflt=oI p i:=rfl;simp only[eo];generalize hr:fP (pN p (xP (l,o,c,v,w0,w1,w2,w3,w4,w5,w6,w7)) i)=r;simp only[pN,eY] at hr;generalize hW:iQ p (xP (l,o,c,v,w0,w1,w2,w3,w4,w5,w6,w7)) (oI p i)=W at*;simp only[iQ] at hW;generalize oI p i=x at*;obtain⟨b,w,y⟩:=x;simp only at hg hW hr ⊢;refine⟨?_,?_,?_,?_,?_,?_,?_,?_,?_⟩;case refine_9=>
  exact⟨hg.1,by omega⟩
 all_goals
  rintro rfl;refine⟨λhw=>?_,λhw=>⟨⟨⟨h1',hg.2.2.1⟩,by omega,by omega⟩,λhq=>?_,λhq=>⟨by omega,λhl=>⟨λh=>absurd h (by decide),λ_=>⟨by omega,by omega,?_⟩⟩,λhl=>⟨by omega,by omega,by omega,by omega,?_⟩⟩⟩⟩;all_goals subst hw
  ·have e:W=false:=hW.symm;subst e;subst hr;exact⟨rfl,rfl⟩
  ·have e:W=false:=hW.symm.trans hq;subst e;subst hr;exact⟨rfl,rfl⟩
  ·have e:W=true:=hW.symm.trans (by simp only[ζ];exact⟨rfl,hq⟩);subst e;subst hr;have:=List.eq_nil_of_length_eq_zero hl;subst this;exact⟨rfl,rfl⟩
  ·have e:W=true:=hW.symm.trans (by simp only[ζ];exact⟨rfl,hq⟩);subst e;subst hr;exact⟨rfl,rfl⟩
def KW:bL:=⟨57,yH×bn×Int,.cons (eG rF) (.cons dE (.one (eK .i64))),λa=>bB a.2.1=0/\A8 (xP a.1)/\0<=a.2.2/\a.2.2<=a.2.1.offers.length,
 λa=> .agg (gP a.2.1 (xP a.1) a.2.2.toNat).ss⟩
def o5 (p:bn) (u:jq) (i k:Nat):List Off:=((p.offers.take k).drop i).filter (iQ p u)
theorem aep {p:bn} {u:jq} {i:Nat}:o5 p u i i=[]:=by
 unfold o5;rw[List.drop_eq_nil_of_le (by rw[γq];omega)];rfl
theorem aer {p:bn} {u:jq} {i k:Nat} (hi:i<=k) (hk:k<p.offers.length):o5 p u i (k+1)=o5 p u i k++if iQ p u (oI p k)=true then[oI p k] else[]:=by
 unfold o5;have e:oI p k=p.offers[k]:=cV (by simpa using hk);rw[List.take_succ_eq_append_getElem hk,List.drop_append_of_le_length (by rw[γq];omega),List.filter_append,e];congr 1;by_cases h:iQ p u p.offers[k]=true;·rw[if_pos h,List.filter_cons_of_pos h];rfl
 ·rw[if_neg h,List.filter_cons_of_neg h];rfl
theorem aes {p:bn} {u:jq} {i k:Nat}:(o5 p u i k).length<=p.offers.length:=by
 unfold o5;refine Nat.le_trans (γ0 _ _) ?_;rw[δ7,γq];omega
def aeu (l o:bD) (c:List Int) (v:Int) (w0 w1 w2 w3 w4 w5 w6 w7:Bool) (p:bn) (i:Int):Nat->cC
 |3=> .inv Int (λk=>⟨[(3,.ptr 0 0 22),(4,.ptr 1 0 20),(6,.ptr 2 0 20),(7,.ptr 3 0 20),(8,.si .i64 k)],
   [.cells (encS rF (l,o,c,v,w0,w1,w2,w3,w4,w5,w6,w7)) 103 22 false,.cells p.ss 27 20 false,
    .cells [.il .i64 0,.il .i64 0,.il .i64 0,.il .i64 0,.il .i64 0,.il .i64 0,.il .i64 0,.il .i64 0,.il .i64 0,.il .i64 0,.il .i64 0,.il .i64 0,.il .i64 0,.il .i64 0,.il .i64 0,.il .i64 0,.il .i64 0,.il .i64 0,.sc (.slice none 0 0),.sc (.slice none 0 0)] 27 20 false,
    .cells [.si .i64 l.a0,.si .i64 l.a1,.si .i64 l.a2,.si .i64 l.a3,.si .i64 l.a4,.si .i64 l.a5,.si .i64 o.a0,.si .i64 o.a1,.si .i64 o.a2,.si .i64 o.a3,.si .i64 o.a4,.si .i64 o.a5,
     .si .i64 p.cls.a0,.si .i64 p.cls.a1,.si .i64 p.cls.a2,.si .i64 p.cls.a3,.si .i64 p.cls.a4,.si .i64 p.cls.a5,.row (.i .i64) p.classes,.ow 4 (o5 p (xP (l,o,c,v,w0,w1,w2,w3,w4,w5,w6,w7)) i.toNat k.toNat).length 8] 27 20 false,
    .row .off (o5 p (xP (l,o,c,v,w0,w1,w2,w3,w4,w5,w6,w7)) i.toNat k.toNat) 55 true]⟩)
   (λs=>iS s 8) (λk=>i<=k/\k<=p.offers.length) (λk=>(p.offers.length - k).toNat) λ_ _=> .look
 |_=> .look
theorem h444:Holds Tryz.prog KW:=by
 refine cF (L:=[EW]) KW (λa=>aeu a.1.1 a.1.2.1 a.1.2.2.1 a.1.2.2.2.1 a.1.2.2.2.2.1 a.1.2.2.2.2.2.1 a.1.2.2.2.2.2.2.1 a.1.2.2.2.2.2.2.2.1 a.1.2.2.2.2.2.2.2.2.1 a.1.2.2.2.2.2.2.2.2.2.1 a.1.2.2.2.2.2.2.2.2.2.2.1 a.1.2.2.2.2.2.2.2.2.2.2.2 a.2.1 a.2.2) (by simpa using h443) ?_;rintro⟨⟨l,o,c,v,w0,w1,w2,w3,w4,w5,w6,w7⟩,p,i⟩ ⟨hc,hd,i0,i1⟩;simp only at hc hd i0 i1;refine bO (let a:=γe .i64;let b:=bq.cells;let d:=bq.row;let e:=γw;let f:=Θ;let g:=γP;let h:=(0:Int);let j:=SV.ow;let y:=a p.cls.a0;let z:=a p.cls.a1;let A:=a p.cls.a2;let B:=a p.cls.a3;let C:=a p.cls.a4;let D:=a p.cls.a5;let Z:=bp.i .i64;let E:=f Z p.classes;let G:=g 0 0 22;let H:=g 1 0 20;let I:=g 2 0 20;let J:=g 3 0 20;let K:=a l.a0;let L:=a l.a1;let M:=a l.a2;let N:=a l.a3;let O:=a l.a4;let P:=a l.a5;let Q:=a o.a0;let R:=a o.a1;let S:=a o.a2;let T:=a o.a3;let U:=a o.a4;let V:=a o.a5;let W:=b [K,L,M,N,O,P,Q,R,S,T,U,V,f Z c,a v,e w0,e w1,e w2,e w3,e w4,e w5,e w6,e w7] 103 22 false;let X:=f bp.off p.offers;let k:=γx .i64 0;let a8:=SV.sc (Value.slice none 0 0);let Y:=b [k,k,k,k,k,k,k,k,k,k,k,k,k,k,k,k,k,k,a8,a8] 27 20 false;let n:=xP (l,o,c,v,w0,w1,w2,w3,w4,w5,w6,w7);let a9:=o5 p n i.toNat i.toNat;let q:=(↑p.offers.length:Int);let a6:=(↑p.offers.length:Int);let F:=gP p n i.toNat;let r:=F.supply;let s:=F.opn;let t:=F.cls;let a7:=λ(u u_1:bD) (u_2 u_3:SV) ↦let aa:=a u.a0;let ab:=a u.a1;let ac:=a u.a2;let ad:=a u.a3;let ae:=a u.a4;let af:=a u.a5;let ag:=a u_1.a0;let ah:=a u_1.a1;let ai:=a u_1.a2;let aj:=a u_1.a3;let ak:=a u_1.a4;let al:=a u_1.a5;(b [aa,ab,ac,ad,ae,af,ag,ah,ai,aj,ak,al,y,z,A,B,C,D,E,u_2] 27 20 false).same (b [aa,ab,ac,ad,ae,af,ag,ah,ai,aj,ak,al,y,z,A,B,C,D,E,u_3] 27 20 false);(((G.same G/\H.same H/\I.same I/\J.same J/\(a i).same (a i)/\True)/\W.same W/\a7 p.supply p.opn X X/\Y.same Y/\a7 l o (j 4 0 8) (j 4 a9.length 8)/\(d bp.off [] 55 true).same (d bp.off a9 55 true)/\True)/\i<=i/\i<=q)/\∀(x:Int),let w:=x+(1:Int);let am:=a w;let an:=o5 p n i.toNat w.toNat;let ao:=iQ p n (oI p x);let m:=o5 p n i.toNat x.toNat;let ap:=m.length+1;let aq:=m++[bj p.offers x.toNat bp.off.dflt];let ar:=λ(u:Nat) (u_1:bq) ↦cn .i64 w/\((G.same G/\H.same H/\I.same I/\J.same J/\am.same am/\True)/\W.same W/\a7 p.supply p.opn X X/\Y.same Y/\(b [K,L,M,N,O,P,Q,R,S,T,U,V,y,z,A,B,C,D,E,j 4 u 8] 27 20 false).same (b [K,L,M,N,O,P,Q,R,S,T,U,V,y,z,A,B,C,D,E,j 4 an.length 8] 27 20 false)/\u_1.same (d bp.off an 55 true)/\True)/\(i<=w/\w<=q)/\(q - w).toNat<(q - x).toNat;i<=x/\x<=q->(decide (x<a6)=true->(bB p=h/\A8 n/\h<=x/\x<q)/\(ao=true->h<=x/\x<a6/\x.toNat<p.offers.length/\1=1/\m.length=m.length/\ap*64<=140737488355328/\ap<=1000000000000/\ar aq.length (d bp.off aq 55 true))/\(ao=false->ar m.length (d bp.off m 55 true)))/\(decide (x<a6)=false->m.length=m.length/\(γQ [K,L,M,N,O,P,Q,R,S,T,U,V,y,z,A,B,C,D,E,f bp.off m]).same (γQ [a r.a0,a r.a1,a r.a2,a r.a3,a r.a4,a r.a5,a s.a0,a s.a1,a s.a2,a s.a3,a s.a4,a s.a5,a t.a0,a t.a1,a t.a2,a t.a3,a t.a4,a t.a5,f Z F.classes,f bp.off F.offers]))) (by kernel_rfl) ?_;simp only[vcs];have hl:p.offers.length<=160:=(dN hc).2.1;generalize hu:xP (l,o,c,v,w0,w1,w2,w3,w4,w5,w6,w7)=u at*;have e0:=@aep p u i.toNat;refine⟨⟨⟨by rw[e0];rfl,by rw[e0];rfl⟩,by omega,by omega⟩,?_⟩;rintro k ⟨k0,k1⟩;have hlen:=@aes p u i.toNat k.toNat;refine⟨λhk=>?_,λhk=>?_⟩
 ·have eS:=@aer p u i.toNat k.toNat (by omega) (by omega);rw[show((k.toNat:Nat):Int)=k by omega] at eS;have eo:bj p.offers k.toNat bp.off.dflt=oI p k:=rfl;rw[show(k+1).toNat=k.toNat+1 by omega,eS,eo];refine⟨⟨hc,hd,by omega,by omega⟩,λhw=>?_,λhw=>?_⟩
  ·rw[if_pos hw];refine⟨?_,?_,?_,?_,?_,?_,⟨rfl,rfl⟩,?_,?_⟩<;>omega
  ·rw[if_neg (by rw[hw];simp),γL];refine⟨?_,⟨rfl,rfl⟩,?_,?_⟩<;>omega
 ·rw[show k.toNat=p.offers.length by omega];subst hu;unfold o5;rw[List.take_length];rfl
noncomputable def KX:bL:=⟨29,bn×Int,.cons dE (.one (eK .i64)),λa=>(bB a.1=0/\a.1.offers.length<=15)/\a.2=(cz a.1).value,
 λa=> .bJ [.row (.i .i64) (cz a.1).chosen,.si .i64 0]⟩
noncomputable def aev (p:bn) (m:Int):Nat->cC
 |3=> .inv Int (λk=>⟨[(1,.si .i64 m),(2,.ptr 0 0 20),(6,.ptr 1 0 22),(21,.si .i64 p.offers.length),(22,.si .i64 k)],
   [.cells p.ss 27 20 false,.cells (encS rF (fP (jT p m k.toNat))) 103 22 false,.dead]⟩)
   (λs=>iS s 22) (λk=>0<=k/\k<=p.offers.length) (λk=>(p.offers.length - k).toNat) λ_ _=> .look
 |_=> .look
theorem aew {α β:Type} (x:α×β):(x.1,x.2)=x:=rfl
theorem Ut {p:bn} {m:Int} {k:Nat} (h:(jT p m k).value=m):∀n,jT p m (k+n)=jT p m k
 |0=>rfl
 |n+1=>by
  have ih:=Ut h n;show pM p m (jT p m (k+n)) _=_;rw[ih];unfold pM;rw[if_pos h]
theorem aex {p:bn} {u:jq} {i:Int} (h:u.won.length=8):(pN p u i).won.length=8:=by
 unfold pN;split
 ·show(u.won.set _ true).length=8;rw[τ];exact h
 ·rfl
theorem Uu {p:bn} {u:jq} (hc:bB p=0) (hG:rE p u):A8 u:=by
 have hq:=ES hc hG (k:=0);have h1:=yG.1 (tM (tP hq).1).1;have h2:∀k,k<6->0<=u.opn.at k/\u.opn.at k<=u.left.at k:=λk hk=>⟨(wh hq hk).2.2.1,(wh hq hk).2.2.2.1⟩;have hf:=(qy hc).2 hG.f;obtain⟨v0,v1,v2⟩:=sO hc hf;have hv:u.value=de p u.chosen:=by rw[hG.v,xH hc hG.f]
 refine⟨λk hk=>?_,by omega,by omega⟩;have a:=h1 k hk;have b:=h2 k hk;have a':0<=u.left.at k/\u.left.at k<=4:=a;omega
theorem h436:Holds Tryz.prog KX:=by
 refine cF (L:=[EW,KW,KG]) KX (λa=>aev a.1 a.2) (by simpa using⟨h443,h444,h434⟩) ?_;rintro⟨p,m⟩ ⟨⟨hc,h15⟩,hm⟩;simp only at hc h15 hm;refine bO (let a:=γe .i64;let b:=γw;let c:=(0:Int);let d:=bq.cells;let e:=Θ;let f:=cn .i64;let g:=(65536:Int);let h:=SV.bJ;let A:=γP 0 0 20;let B:=γP 1 0 22;let k:=(↑p.offers.length:Int);let M:=a k;let Q:=γx .i64 0;let U:=a 0;let V:=a p.supply.a0;let W:=a p.supply.a1;let X:=a p.supply.a2;let Y:=a p.supply.a3;let Z:=a p.supply.a4;let a6:=a p.supply.a5;let a7:=a p.opn.a0;let a8:=a p.opn.a1;let a9:=a p.opn.a2;let aa:=a p.opn.a3;let ab:=a p.opn.a4;let ac:=a p.opn.a5;let o:=bp.i .i64;let C:=d [V,W,X,Y,Z,a6,a7,a8,a9,aa,ab,ac,a p.cls.a0,a p.cls.a1,a p.cls.a2,a p.cls.a3,a p.cls.a4,a p.cls.a5,e o p.classes,e bp.off p.offers] 27 20 false;let q:=δa false;let D:=fP (jT p m 0);let E:=D.fst;let F:=D.snd.fst;let G:=D.snd.snd.snd.snd.snd;let ad:=G.snd.snd.snd.snd.snd;let ae:=h [e o (cz p).chosen,U];0=0/\((((a m).same (a m)/\A.same A/\B.same B/\(a (↑p.offers.length:Int)).same M/\Q.same U/\True)/\C.same C/\(d [V,W,X,Y,Z,a6,a7,a8,a9,aa,ab,ac,e o [],Q,q,q,q,q,q,q,q,q] 103 22 false).same (d [a E.a0,a E.a1,a E.a2,a E.a3,a E.a4,a E.a5,a F.a0,a F.a1,a F.a2,a F.a3,a F.a4,a F.a5,e o D.snd.snd.fst,a D.snd.snd.snd.fst,b D.snd.snd.snd.snd.fst,b G.fst,b G.snd.fst,b G.snd.snd.fst,b G.snd.snd.snd.fst,b G.snd.snd.snd.snd.fst,b ad.fst,b ad.snd] 103 22 false)/\bq.dead.same bq.dead/\True)/\c<=c/\c<=k)/\∀(x:Int),let j:=x+(1:Int);let N:=a j;let s:=fP (jT p m x.toNat);let t:=s.fst;let v:=s.snd.fst;let af:=e o s.snd.snd.fst;let R:=s.snd.snd.snd.fst;let ag:=s.snd.snd.snd.snd.fst;let l:=s.snd.snd.snd.snd.snd;let ah:=l.snd.snd.snd.snd.fst;let O:=l.snd.snd.snd.snd.snd;let H:=fP (jT p m j.toNat);let I:=H.fst;let J:=H.snd.fst;let K:=H.snd.snd.snd.snd.snd;let ai:=K.snd.snd.snd.snd.snd;let aj:=d [a I.a0,a I.a1,a I.a2,a I.a3,a I.a4,a I.a5,a J.a0,a J.a1,a J.a2,a J.a3,a J.a4,a J.a5,e o H.snd.snd.fst,a H.snd.snd.snd.fst,b H.snd.snd.snd.snd.fst,b K.fst,b K.snd.fst,b K.snd.snd.fst,b K.snd.snd.snd.fst,b K.snd.snd.snd.snd.fst,b ai.fst,b ai.snd] 103 22 false;let P:=xP (t,v,s.snd.snd.fst,R,ag,l.fst,l.snd.fst,l.snd.snd.fst,l.snd.snd.snd.fst,ah,O.fst,O.snd);let w:=(fP (pN p P x)).fst;let r:=(fP (pN p P x)).snd;let y:=r.fst;let z:=r.snd.snd.fst;let ak:=r.snd.snd.snd.snd.fst;let n:=r.snd.snd.snd.snd.snd;let al:=n.snd.snd.snd.snd.fst;let am:=n.snd.snd.snd.snd.snd;let S:=gP p (xP (w,y,r.snd.fst,z,r.snd.snd.snd.fst,ak,n.fst,n.snd.fst,n.snd.snd.fst,n.snd.snd.snd.fst,al,am)) j.toNat;let an:=jc S (m - z) g;let ao:=f j/\(((a m).same (a m)/\A.same A/\B.same B/\M.same M/\N.same N/\True)/\C.same C/\(d [a t.a0,a t.a1,a t.a2,a t.a3,a t.a4,a t.a5,a v.a0,a v.a1,a v.a2,a v.a3,a v.a4,a v.a5,af,a R,b ag,b l.fst,b l.snd.fst,b l.snd.snd.fst,b l.snd.snd.snd.fst,b ah,b O.fst,b O.snd] 103 22 false).same aj/\bq.dead.same bq.dead/\True)/\(c<=j/\j<=k)/\(k - j).toNat<(k - x).toNat;let ap:=(h [af,Q]).same ae;let aq:=λ(u:Bool) ↦jS S (m - z) g=u;let ar:=λ(u:Bool) ↦decide (an≠c)=u;let au:=λ(u:jq) ↦let L:=(fP u).snd.snd.snd.snd;let T:=L.snd.snd.snd.snd.snd;A8 (xP ((fP u).fst,(fP u).snd.fst,(fP u).snd.snd.fst,(fP u).snd.snd.snd.fst,L.fst,L.snd.fst,L.snd.snd.fst,L.snd.snd.snd.fst,L.snd.snd.snd.snd.fst,T.fst,T.snd.fst,T.snd.snd));let av:=λ(u:Bool) ↦(!iQ p P (oI p x))=u;let aw:=λ(u:Bool) ↦decide (R=m)=u;c<=x/\x<=k->(decide (x<k)=true->(aw true->ap)/\(aw false->(bB p=c/\au (jT p m x.toNat)/\c<=x/\x<k)/\(av true->ao)/\(av false->f j/\(bB p=c/\au (pN p P x)/\c<=j/\j<=k)/\f (m - z)/\(S.offers.length<=20/\(-9223372036854775808:Int)<=m - z/\m - z<=(9223372036854775807:Int))/\(ar true->(h [e o [],a an]).same ae)/\(ar false->(aq true->f j/\(((a m).same (a m)/\A.same A/\B.same B/\M.same M/\N.same N/\True)/\C.same C/\(d [a w.a0,a w.a1,a w.a2,a w.a3,a w.a4,a w.a5,a y.a0,a y.a1,a y.a2,a y.a3,a y.a4,a y.a5,e o r.snd.fst,a z,b r.snd.snd.snd.fst,b ak,b n.fst,b n.snd.fst,b n.snd.snd.fst,b n.snd.snd.snd.fst,b al,b am] 103 22 false).same aj/\bq.dead.same bq.dead/\True)/\(c<=j/\j<=k)/\(k - j).toNat<(k - x).toNat)/\(aq false->ao)))))/\(decide (x<k)=false->ap)) (by kernel_rfl) ?_;simp only[vcs];simp only[aew];refine⟨⟨rfl,by omega,by omega⟩,?_⟩;rintro k ⟨k0,k1⟩;obtain⟨hG,hC⟩:=KU hc h15 k.toNat (by omega);rw[<-hm] at hG hC;generalize hu:jT p m k.toNat=u at*;have hW:=@aex p u k hG.wl;simp only[Us hG.wl,Us hW];have hrun:jT p m (k+1).toNat=pM p m u k:=by
  rw[show(k+1).toNat=k.toNat+1 by omega];show pM p m (jT p m k.toNat) _=_;rw[hu,show((k.toNat:Nat):Int)=k by omega]
 have hD:=Uu hc hG;refine⟨λhk=>⟨λhv=>?_,λhv0=>⟨⟨hc,hD,by omega,by omega⟩,λhw=>?_,λhw=>?_⟩⟩,λhk=>?_⟩
 ·have h1:=@Ut p m k.toNat (by rw[hu];exact hv) (p.offers.length - k.toNat);rw[show k.toNat+(p.offers.length - k.toNat)=p.offers.length by omega,hu] at h1;show u.chosen=_;rw[<-h1,hm,Ur hc h15]
 ·have hv:¬u.value=m:=hv0;have e:jT p m (k+1).toNat=u:=by rw[hrun];unfold pM;rw[if_neg hv,if_neg (by rw[hw];simp)]
  rw[e];refine⟨?_,rfl,?_,?_⟩<;>omega
 ·have hv:¬u.value=m:=hv0;have hy:pN p u k=eY p u k:=by unfold pN;rw[if_pos hw]
  rw[hy];have hlt:∀j∈u.chosen,j<k:=λj hj=>by
   rw[hC] at hj;have:=of_decide_eq_true (γD.1 hj).2;omega
  have hG2:=hG.next hc hlt ⟨by omega,by omega⟩ hw;have hD2:=Uu hc hG2;have hq:=ES hc hG2 (k:=(k+1).toNat);have Ao:(gP p (eY p u k) (k+1).toNat).offers.length<=15:=by
   have h1:=γ0 (iQ p (eY p u k)) (p.offers.drop (k+1).toNat);rw[δ7] at h1;show((p.offers.drop _).filter _).length<=15;omega
  have hroom:jc (gP p (eY p u k) (k+1).toNat) (m - (eY p u k).value) 65536=0:=KH hq (by omega) (by
   have:2^((gP p (eY p u k) (k+1).toNat).offers.length+1)<=2^16:=δq (by omega) (by omega);have h16:(2:Nat)^16=65536:=rfl;omega);have hmb:0<=m/\m<=160000000:=by
   obtain⟨f1,f2⟩:=EU hc;have:=sO hc ((qy hc).2 f1);rw[xH hc f1] at this;omega
  have hv2:0<=(eY p u k).value/\(eY p u k).value<=160000000:=hD2.2.1;have ev:(fP (eY p u k)).2.2.2.1=(eY p u k).value:=rfl;rw[ev,hroom];have er:jT p m (k+1).toNat=if jS (gP p (eY p u k) (k+1).toNat) (m - (eY p u k).value) 65536=true then eY p u k else u:=by
   rw[hrun];unfold pM;rw[if_neg hv,if_pos hw]
  refine⟨by omega,⟨hc,hD2,by omega,by omega⟩,by omega,⟨by omega,by omega,by omega⟩,λh=>absurd rfl h,λ_=>⟨λhb=>?_,λhb=>?_⟩⟩
  ·rw[er,if_pos hb];refine⟨?_,rfl,?_,?_⟩<;>omega
  ·rw[er,if_neg (by rw[hb];simp)];refine⟨?_,rfl,?_,?_⟩<;>omega
 ·show u.chosen=_;rw[<-hu,hm,show k.toNat=p.offers.length by omega,Ur hc h15]
noncomputable def nD (p:bn):List cQ:=(iF p (gn p (jO p)).chosen 65536).prf
noncomputable def wi:bL:=⟨12,bn,.one dE,λp=>bB p≠0\/p.offers.length<=15,
 λp=> .bJ [.agg [.row (.i .i64) (if bB p=0 then(cz p).chosen else[]),.si .i64 (if bB p=0 then(cz p).value else 0),.row bA (if bB p=0 then nD p else[])],.si .i64 (bB p)]⟩
theorem h427:Holds Tryz.prog wi:=by
 refine cF (L:=[qs,AG,AI,KF,KX]) wi lk (by simpa using⟨h79,h312,h315,h429,h436⟩) ?_;rintro(p:bn) (hd:bB p≠0\/p.offers.length<=15);refine bO (let a:=(0:Int);let b:=γe .i64;let c:=Θ;let d:=(65536:Int);let e:=SV.bJ;let f:=γQ;let g:=bp.i .i64;let l:=[b (bB p)];let j:=e (f [c g (if bB p=a then(cz p).chosen else[]),b (if bB p=a then(cz p).value else a),c bA (if bB p=a then nD p else[])]::l);let m:=γx .i64 0;let n:=f [c g [],m,c g []];let o:=decide (bB p≠a);let k:=(gn p (jO p)).chosen;let h:=kn p k d;let q:=decide (h≠a);let r:=iF p k d;let s:=if h=a then r.val else a;let v:=λ(u u_1:Bool) (u_2:List SV) ↦u=u_1->(e u_2).same j;let t:=λ(u:Bool) (u_1:Int) ↦u=true->(e [n,b u_1]).same j;True/\(o=true->(e (n::l)).same j)/\(o=false->p.offers.length<=20/\(jO p).length<=9223372036854775807/\(p.offers.length<=20/\k.length<=9223372036854775807)/\t q h/\(q=false->((bB p=a/\p.offers.length<=15)/\s=(cz p).value)/\t false a/\v false false [f [c g (cz p).chosen,b s,c bA (if h=a then r.prf else[])],m]))) (by kernel_rfl) ?_;simp only[vcs];by_cases hc:bB p=0
 ·have h15:p.offers.length<=15:=hd.resolve_left λh=>h hc;obtain⟨i1,_⟩:=yB hc;have hst:=KE hc;have hil:=(sO hc i1).2.2;have EX:((1+2^(p.offers.length+1):Nat):Int)<=65536+2:=by
   have:2^(p.offers.length+1)<=2^16:=δq (by omega) (by omega);have h16:(2:Nat)^16=65536:=rfl;omega
  have hroom:kn p (gn p (jO p)).chosen 65536=0:=aeg hc i1 (by omega) EX;obtain⟨_,s2,s3⟩:=Kr hc i1 (most:=65536) (by omega);have hv:=(s2 (s3 EX)).2.1;simp only[hroom,hc,if_true];refine⟨λh=>absurd rfl h,λ_=>⟨by omega,by omega,⟨by omega,by omega⟩,λh=>absurd rfl h,λ_=>⟨⟨⟨trivial,h15⟩,hv⟩,λh=>(by cases h),λ_=>⟨?_,trivial⟩⟩⟩⟩;rw[hv];rfl
 ·refine⟨λ_=>?_,λh=>absurd hc h⟩;rw[if_neg hc,if_neg hc,if_neg hc];rfl
def pO (p:bn) (c:List Int) (b:Alloc):Alloc:=if b.value<de p c then⟨c,de p c⟩ else b
noncomputable def jd (p:bn):Nat->Int->List Int->Alloc->Alloc
 |0,_,_,b=>b
 |k+1,i,c,b=>jd p k (i+1) c (if bW p (c++[i])=0 then jd p k (i+1) (c++[i]) (pO p (c++[i]) b) else b)
noncomputable def kr (p:bn) (c:List Int) (i:Int) (b:Alloc):Alloc:=jd p (dS p i) i c (pO p c b)
theorem aey {c t:List Int}:¬cmpL (c++t) c<0:=by
 have h:=@A7 c t [];rw[γL] at h;rw[h];cases t<;>simp[cmpL]
theorem KY {p:bn} {Q:List Int->Prop}:∀{k:Nat} {i:Int} {c:List Int} {b:Alloc},(∀s,Q (c++s))->Q b.chosen->Q (jd p k i c b).chosen
 |0,_,_,_,_,h=>h
 |k+1,i,c,b,hs,h=>by
  simp only[jd];refine KY hs ?_;split
  ·refine KY (λs=>by rw[γK];exact hs _) ?_;unfold pO;split;·exact hs [i]
   ·exact h
  ·exact h
theorem KZ {p:bn} (hc:bB p=0):∀{k:Nat} {i:Int} {c:List Int} {b:Alloc},0<=i->i+k=p.offers.length->nc 0 i.toNat c->bW p c=0->(∀j t,i<=j->¬cmpL (c++j::t) b.chosen<0)->j6 p k i ⟨c,de p c⟩ b=jd p k i c b
 |0,_,_,_,_,_,_,_,_=>rfl
 |k+1,i,c,b,h0,h1,hi,hf,hb=>by
  simp only[j6,jd];have hin:nc 0 p.offers.length (c++[i]):=by
   refine⟨δE.2 ⟨hi.1,ζl _ _,λa ha b hb=>?_⟩,λj hj=>?_⟩
   ·rw[γT.1 hb];have:=hi.2 a ha;omega
   ·rcases γh.1 hj with hj|hj
    ·have:=hi.2 j hj;omega
    ·rw[γT.1 hj];omega
  have hcond:kE p (c++[i])=true↔bW p (c++[i])=0:=by
   rw[qy hc];unfold kE;rw[decide_eq_true_eq];exact⟨λh=>⟨hin,h⟩,λh=>h.2⟩
  have Uw:∀{b':Alloc},(∀j t,i+1<=j->¬cmpL (c++j::t) b'.chosen<0)->j6 p k (i+1) ⟨c,de p c⟩ b'=jd p k (i+1) c b':=λh=>
   KZ hc (by omega) (by omega) ⟨hi.1,λj hj=>by have:=hi.2 j hj;omega⟩ hf h;by_cases h:bW p (c++[i])=0
  ·rw[if_pos (hcond.2 h),if_pos h];have hv:de p c+kF p i=de p (c++[i]):=by
    rw[xH hc ((qy hc).1 hf),xH hc ((qy hc).1 h)];unfold cK;rw[γb,nU];simp[cu,kF,oI]
   have hu:better ⟨c++[i],de p (c++[i])⟩ b=pO p (c++[i]) b:=by
    unfold better pO;have:=hb i [] (by omega);by_cases hw:b.value<de p (c++[i]);·rw[if_pos (.inl hw),if_pos hw]
    ·rw[if_neg (λh=>h.elim hw λh=>this h.2),if_neg hw]
   rw[hv,hu];have hQ:∀j t,i+1<=j->¬cmpL (c++[i]++j::t) (pO p (c++[i]) b).chosen<0:=λj t hj=>by
    unfold pO;split;·exact aey
    ·rw[γK];exact hb i (j::t) (by omega)
   rw[KZ hc (by omega) (by omega) ⟨hin.1,λj hj=>by
    rcases γh.1 hj with hj|hj
    ·have:=hi.2 j hj;omega
    ·rw[γT.1 hj];omega⟩ h hQ];refine Uw (KY (Q:=λl=>∀j t,i+1<=j->¬cmpL (c++j::t) l<0) (λs j t hj=>?_) λj t hj=>?_)
   ·rw[γK,A7];show ¬cmpL (j::t) (i::s)<0;simp only[cmpL];rw[if_neg (by omega),if_pos (by omega)];decide
   ·unfold pO;split
    ·rw[A7];show ¬cmpL (j::t) [i]<0;simp only[cmpL];rw[if_neg (by omega),if_pos (by omega)];decide
    ·exact hb j t (by omega)
  ·rw[if_neg (λq=>h (hcond.1 q)),if_neg h];exact Uw λj t hj=>hb j t (by omega)
theorem aez {p:bn} (hc:bB p=0):kr p [] 0 ⟨[],0⟩=cz p:=by
 have hn:bW p []=0:=(qy hc).2 (Qp (dN hc));have hv:de p []=0:=by rw[xH hc ((qy hc).1 hn)];rfl
 have h:=KZ hc (k:=dS p 0) (i:=0) (c:=[]) (b:=⟨[],0⟩) (by omega) (by unfold dS;omega) ⟨δv,λj hj=>by cases hj⟩ hn (λj t _=>by simp[cmpL]);have hu:pO p [] ⟨[],0⟩=⟨[],0⟩:=by unfold pO;rw[hv];rfl
 have hb:better ⟨[],0⟩ ⟨[],0⟩=⟨[],0⟩:=by unfold better;simp[cmpL]
 unfold kr cz HQ;rw[hu,hb,<-h,hv]
end Go.Vi

/-
  Contracts: visits of nodes.
  Conditions: none.
-/
import Derived.Test.YtbnhiekmnpikhaaGreatDP12
import Derived.Test.YtbnhiekmnpikhaaGreatDP06
import Derived.Test.YtbnhiekmnpikhaaGreatDP07
import Derived.Test.YtbnhiekmnpikhaaGreatDP09
import Derived.Test.YtbnhiekmnpikhaaGreatDP10
import Derived.Test.YtbnhiekmnpikhaaGreatDP13
import Derived.Test.YtbnhiekmnpikhaaGreatDP08
import Derived.Test.YtbnhiekmnpikhaaGreatDP11
set_option maxRecDepth 100000
set_option maxHeartbeats 4000000
set_option linter.all false
open Bool renaming and_eq_true->θ
open Classical renaming not_not->γg
open Go.Vi.SV renaming si->γh,row->Ψ,sb->γv,il->γx,ptr->γO,agg->γM,bl->δc
open Int renaming ofNat_lt->εU,toNat_natCast->γl
open IntCast renaming intCast->κ
open List renaming length_set->Φ,getElem_of_mem->γI,length_append->γf,mem_map->Ω,length_replicate->γC,replicate->δ,map_cons->π,map_nil->γq,mem_filter->γs,set_eq_of_length_le->ζr,mem_cons->γz,all_eq_true->φ,mem_range->γy,mem_cons_self->γX,not_mem_nil->δO,length_map->Θ,filter_sublist->γP,getElem_map->δA,nodup_cons->γW,mem_cons_of_mem->γT
open List.cons renaming injEq->Γ
open Nat renaming lt_of_lt_of_le->γi,pow_le_pow_right->δp,le_refl->ξ
open Option renaming isSome_eq_false_iff->γ6,isNone_iff_eq_none->γN,isSome_iff_exists->γp,getD_some->γ7
open Option.some renaming injEq->γ
open Rat renaming not_lt->ε0
namespace Go.Vi
open Go.Proofs.YtbnhiekmnpikhaaGreat.Ir
open Go.Proofs
theorem afK {n:Nat} (hD:ec Tryz.prog (ET n)):ec Tryz.prog (wC (n+1)):=by
 refine ZM (L:=[oC,yq,KH,KQ]) (W:=[KO,KP,Bg,ET n]) (wC (n+1)) (fG 72) lk (by simpa using⟨h390w,h446,h439,hD⟩) (by simpa using⟨h94,h97,h445,h447⟩) ?_
 rintro⟨⟨p,ch,val,found,en,k1,k2,most,err,prf,fx⟩,a⟩ ⟨hok,ha,hn⟩
 simp only at hok ha hn
 have e1:k1=prf.length:=hok.k1
 have e2:k2=fx.length:=hok.k2
 subst e1;subst e2
 have hf:eK p fx:=hok.f
 have h160:=(dQ hf.c).2.1
 have hfl:fx.length=p.offers.length:=hf.l
 have hfe:=hf.e
 have hfo:=hf.j4
 have hv0:0<=val:=hok.v0
 have hv1:val<=9223372036854775806:=hok.v1
 have hm0:1<=most:=hok.m0
 have hm1:most<=65536:=hok.m1
 have hpl:prf.length<=65536:=hok.l
 rcases en with _|m
 ·refine bO (let b:=γh .i64;let c:=(0:Int);let d:=(1:Int);let e:=bq.cells;let f:=SV.bI;let g:=bq.row;let h:=cq .i64;let j:=(-9223372036854775808:Int);let k:=(-1:Int);let l:=(9223372036854775807:Int);let m:=(2:Int);let o:=Ψ;let q:=γv;let r:=SV.ow;let v:=vL (ku p fx);let x:=b p.supply.a0;let y:=b p.supply.a1;let z:=b p.supply.a2;let A:=b p.supply.a3;let B:=b p.supply.a4;let C:=b p.supply.a5;let D:=b p.opn.a0;let E:=b p.opn.a1;let F:=b p.opn.a2;let G:=b p.opn.a3;let H:=b p.opn.a4;let I:=b p.opn.a5;let J:=b p.cls.a0;let K:=b p.cls.a1;let L:=b p.cls.a2;let M:=b p.cls.a3;let N:=b p.cls.a4;let O:=b p.cls.a5;let U:=bp.i .i64;let P:=o U p.classes;let Q:=o bp.off p.offers;let ag:=o U ch;let ah:=b val;let R:=SV.fn (Fn.func 70) [] [];let ai:=r 1 prf.length 5;let V:=r 2 fx.length 1;let W:=b most;let aw:=[V,W,γx .i64 12];let ax:=cZ.mk ch val found prf err;let a7:=dG p (cy none) most (nF fx) ax a fx;let X:=e [x,y,z,A,B,C,D,E,F,G,H,I,J,K,L,M,N,O,P,Q,o U a7.ch,b a7.val,q a7.found,R,r 1 a7.prf.length 5,V,W,b a7.err] 126 28 false;let an:=g bE prf 108 true;let Y:=g bE a7.prf 108 true;let t:=g U fx 3 true;let Z:=(↑prf.length:Int);let ay:=decide (most<Z+m);let az:=prf.length+2;let a8:=Z+d;let ao:=(c,c,c,[]);let aj:=[(c,ao),(c,ao)];let z53:Nat:=(prf++aj).length;let w:=(jP v).getD c;let ap:=(prf++aj).set a.toNat (m,w,Z,a8,[]);let a9:=w.toNat;let ac:=fx.set a9 d;let S:=dG p (cy none) most (nF ac) (cZ.mk ch val found ap err) a8 ac;let ad:=fx.set a9 k;let aa:=dG p (cy none) most (nF ad) S Z ad;let ak:=((kr p fx).fst,(kr p fx).snd.fst,(kr p fx).snd.snd);let al:=val+d;let aq:=bu (κ al);let aA:=(aq.fst,aq.snd.fst,aq.snd.snd);let aB:=iU (bV ak) (bV aA);let aC:=decide (aB<c);let aD:=(d,c,c,c,qK p fx);let s:=dV (cy none) ax (Alloc.mk (eG v) (cJ (List.map (oI p) (eG v))));let z69:Nat:=(s.prf++aj).length;let ae:=s.prf.length;let am:=s.val+d;let ar:=bu (κ am);let ab:=(↑ae:Int);let aE:=decide (err≠c);let aF:=decide (je p fx≠c);let a6:=s.prf.length;let af:=ab+d;let au:=(s.prf++aj).set a.toNat (m,w,ab,af,[]);let T:=dG p (cy none) most (nF ac) (cZ.mk s.ch s.val s.found au s.err) af ac;let aG:=dG p (cy none) most (nF ad) T ab ad;let aT:=let aH:=(f []).same (f [])/\(e (x::y::z::A::B::C::D::E::F::G::H::I::J::K::L::M::N::O::P::Q::ag::ah::q found::R::ai::aw) 126 28 false).same X/\an.same Y/\t.same t/\True;pv (ku p fx)/\((!(jP v).isSome)=true->aH)/\((!(jP v).isSome)=false->h (Z+m)/\(ay=true->aH)/\(ay=false->2=2/\prf.length=prf.length/\az*56<=140737488355328/\az<=1000000000000/\h a8/\z53=z53/\c<=a/\a<(↑z53:Int)/\z53=z53/\a.toNat<z53/\h a8/\(fp (dJ.mk p ch val found none z53 fx.length most err ap fx)/\(c<=a8/\a8<(↑ap.length:Int))/\(c<=w/\w<(↑fx.length:Int))/\bj fx a9 c=c/\(d=d\/d=k)/\nF ac<n)/\(fp (dJ.mk p S.ch S.val S.found none S.prf.length fx.length most S.err S.prf fx)/\(c<=Z/\Z<(↑S.prf.length:Int))/\(c<=w/\w<(↑fx.length:Int))/\bj fx a9 c=c/\(k=d\/k=k)/\nF ad<n)/\(f []).same (f [])/\(e [x,y,z,A,B,C,D,E,F,G,H,I,J,K,L,M,N,O,P,Q,o U aa.ch,b aa.val,q aa.found,R,r 1 aa.prf.length 5,V,W,b aa.err] 126 28 false).same X/\(g bE aa.prf 108 true).same Y/\t.same t/\True));let aI:=(cC ak/\cC aA)/\(aC=true->prf.length=prf.length/\c<=a/\a<(↑prf.length:Int)/\prf.length=prf.length/\a.toNat<prf.length/\(f []).same (f [])/\(e [x,y,z,A,B,C,D,E,F,G,H,I,J,K,L,M,N,O,P,Q,ag,ah,q found,R,ai,V,W,b err] 126 28 false).same X/\(g bE (prf.set a.toNat aD) 108 true).same Y/\t.same t/\True)/\(aC=false->aT);let aJ:=z69=z69;let aK:=(f []).same (f [])/\(e (x::y::z::A::B::C::D::E::F::G::H::I::J::K::L::M::N::O::P::Q::o U s.ch::b s.val::q s.found::R::r 1 ae 5::aw) 126 28 false).same X/\(g bE s.prf 108 true).same Y/\t.same t/\True;let aL:=(f []).same (f [])/\(e [x,y,z,A,B,C,D,E,F,G,H,I,J,K,L,M,N,O,P,Q,ag,ah,q found,R,ai,V,W,b err] 126 28 false).same X/\an.same Y/\t.same t/\True;let aM:=λ(u:cZ) (u_1:bq) ↦(f []).same (f [])/\(e [x,y,z,A,B,C,D,E,F,G,H,I,J,K,L,M,N,O,P,Q,o U u.ch,b u.val,q u.found,R,r 1 u.prf.length 5,V,W,b u.err] 126 28 false).same X/\u_1.same Y/\t.same t/\True;let aN:=λ(u:dJ) (u_1:Int) (u_2:Nat) (u_3:Int) ↦fp u/\(c<=u_1/\u_1<(↑u_2:Int))/\(c<=w/\w<(↑fx.length:Int))/\bj fx a9 c=c/\(u_3=d\/u_3=k)/\nF (fx.set a9 u_3)<n;let aO:=λ(u:Int) (u_1:bq) ↦(f []).same (f [])/\(e [x,y,z,A,B,C,D,E,F,G,H,I,J,K,L,M,N,O,P,Q,ag,ah,q found,R,ai,V,W,b u] 126 28 false).same X/\u_1.same Y/\t.same t/\True;let aP:=λ(u:Bool) ↦decide (iU (bV ak) (bV (ar.fst,ar.snd.fst,ar.snd.snd))<c)=u;let aQ:=λ(u:Bool) ↦decide (c<=aB)=u;let aR:=λ(u:Int) ↦let av:=bu (κ (u+d));cC ak/\cC (av.fst,av.snd.fst,av.snd.snd);let aS:=λ(u:Bool) ↦decide (most<ab+m)=u;(aE=true->aL)/\(aE=false->(found=true->aL)/\(found=false->(fx.length=fx.length/\fx.length<=1000000000000)/\(aF=true->aO (je p fx) an)/\(aF=false->((!j4 p fx)=true->prf.length=prf.length/\c<=a/\a<(↑prf.length:Int)/\prf.length=prf.length/\a.toNat<prf.length/\aO err (g bE (prf.set a.toNat ((3:Int),ao)) 108 true))/\((!j4 p fx)=false->h al/\(j<=al/\al<=l)/\aR val/\(aQ true->pv (ku p fx)/\(mQ v=true->(fp (dJ.mk p ch val found none prf.length fx.length most err prf fx)/\pv (ku p fx)/\(ku p fx).length=p.offers.length)/\prf.length=prf.length/\h am/\(j<=am/\am<=l)/\aR s.val/\(aP true->ae=a6/\c<=a/\a<(↑a6:Int)/\ae=a6/\a.toNat<a6/\aM s (g bE (s.prf.set a.toNat aD) 108 true))/\(aP false->pv (ku p fx)/\((!(jP v).isSome)=true->aK)/\((!(jP v).isSome)=false->h (ab+m)/\(aS true->aK)/\(aS false->2=2/\ae=a6/\(a6+2)*56<=140737488355328/\a6+2<=1000000000000/\h af/\aJ/\c<=a/\a<(↑z69:Int)/\aJ/\a.toNat<z69/\h af/\aN (dJ.mk p s.ch s.val s.found none z69 fx.length most s.err au fx) af au.length d/\aN (dJ.mk p T.ch T.val T.found none T.prf.length fx.length most T.err T.prf fx) ab T.prf.length k/\aM aG (g bE aG.prf 108 true)))))/\(mQ v=false->aI))/\(aQ false->aI)))))) (by kernel_rfl) ?_
  simp only[vcs]
  refine⟨λh=>by rw[Bl hf (.inl h)];exact⟨rfl,rfl⟩,λh0=>⟨λh=>by rw[Bl hf (.inr h)];exact⟨rfl,rfl⟩,λh1=>⟨by omega,λh=>absurd hfe h,λ_=>⟨λh=>?_,λhb=>?_⟩⟩⟩⟩
  ·have hs:¬((⟨ch,val,found,prf,err⟩:cZ).err≠0\/(⟨ch,val,found,prf,err⟩:cZ).found=true):=by
    rintro(h|h)
    ·exact h0 h
    ·rw[show found=true from h] at h1;cases h1
   rw[UG hf hs (by rw[<-hfo];exact h)]
   refine⟨ha.1,ha.2,by omega,?_,rfl⟩
   simp only[Φ];rfl
  ·have hs:¬((⟨ch,val,found,prf,err⟩:cZ).err≠0\/(⟨ch,val,found,prf,err⟩:cZ).found=true):=by
    rintro(h|h)
    ·exact h0 h
    ·rw[show found=true from h] at h1;cases h1
   have hbf:hJ p fx=true:=by rw[<-hfo];exact hb
   have hfix:=hf.ok hbf
   have eB:kr p fx=bu (jf p fx):=by unfold kr;rw[if_pos hb]
   have eS:ku p fx=fL (dD p fx):=by unfold ku dD;rw[if_pos hb]
   have eP:qK p fx=fL (iC p fx):=by unfold qK;rw[if_pos hb]
   have hsl:(dD p fx).length=fx.length:=rI
   have oS:pv (fL (dD p fx)):=⟨dD p fx,rfl,by rw[fE];omega,λq hq=>by
    obtain⟨i,hi,rfl⟩:=γI hq
    have:=(ED hfix hf.r (i:=i) (by omega)).2.2
    rwa [cY hi] at this⟩
   have fB:cC (bu (jf p fx)):=dP (Vd hb) (by omega)
   have fI:∀v:Int,0<=v->v<=9223372036854775807->cC (bu (κ v)):=λv h0 h1=>dP (rN (by omega) h1) (by omega)
   have hcv:∀v:Int,iU (jf p fx) (κ v)<0↔jf p fx<((v:Int):Rat):=λv=>s7
   simp only[eB,eS,eP,kN,jM,eC]
   have hcm:eG (dD p fx)=(pr p fx).chosen:=rfl
   refine⟨by omega,by omega,⟨fB,fI _ (by omega) (by omega)⟩,λhge=>⟨oS,λhi=>?_,λhi=>?_⟩,λhlt=>?_⟩
   ·have hO:dp p (cy none) ⟨ch,val,found,prf,err⟩ fx=dV (cy none) ⟨ch,val,found,prf,err⟩ ⟨eG (dD p fx),cJ ((eG (dD p fx)).map (oI p))⟩:=by
     unfold dp
     rw[if_pos ⟨ε0.1 λh=>absurd ((hcv (val+1)).2 h) (Int.not_lt.2 hge),hi⟩]
     rfl
    have hok':fp (dJ.upd ⟨p,ch,val,found,none,prf.length,fx.length,most,err,prf,fx⟩ (dp p (cy none) ⟨ch,val,found,prf,err⟩ fx)):=hok.UH
    rw[hO] at hok'
    obtain⟨e1,e2,_⟩:=@EH (cy none) ⟨ch,val,found,prf,err⟩ ⟨eG (dD p fx),cJ ((eG (dD p fx)).map (oI p))⟩
    generalize dV (cy none) ⟨ch,val,found,prf,err⟩ ⟨eG (dD p fx),cJ ((eG (dD p fx)).map (oI p))⟩=O at*
    obtain⟨ch',val',found',prf',tc⟩:=O
    have e1:prf=prf':=Eq.symm e1
    have e2:err=tc:=Eq.symm e2
    subst e1;subst e2
    have w0:0<=val':=hok'.v0
    have w1:val'<=9223372036854775806:=hok'.v1
    dsimp only
    refine⟨⟨hok,oS,by rw[fE];omega⟩,by omega,by omega,⟨fB,fI _ (by omega) (by omega)⟩,?_⟩
    refine⟨λh=>?_,λh=>⟨oS,λhk=>?_,λhk=>⟨by omega,λhm=>?_,λhm=>?_⟩⟩⟩
    ·rw[yN hf hs hbf hO ((hcv _).1 h)]
     refine⟨ha.1,ha.2,by omega,?_,rfl⟩
     simp only[Φ];rfl
    ·rw[pU hf hs hbf hO (λh'=>h ((hcv _).2 h')) (.inl (γ6.1 hk |>γN.1))]
     exact⟨rfl,rfl⟩
    ·rw[pU hf hs hbf hO (λh'=>h ((hcv _).2 h')) (.inr hm)]
     exact⟨rfl,rfl⟩
    ·obtain⟨k,hk'⟩:=γp.1 hk
     rw[yO hf hs hbf hO (λh'=>h ((hcv _).2 h')) hk' hm];simp only[hk',γ7]
     obtain⟨hk1,hk2,hk3⟩:=sY hk'
     rw[hsl] at hk1
     have hk0:bj fx k.toNat 0=0:=sX hfix hf.r (by omega) hk2 hk3
     have n1:=mr hk1 hk0 (d:=1) (by omega)
     have n2:=mr hk1 hk0 (d:= -1) (by omega)
     have hl2:((prf++[zN,zN]).set a.toNat (j5 k prf.length)).length=prf.length+2:=by rw[Φ,γf];rfl
     have hl1:(prf++[zN,zN]).length=prf.length+2:=by rw[γf];rfl
     have o1:=fp.spl (x:=⟨p,ch',val',found',none,prf.length,fx.length,most,tc,prf,fx⟩) hok' (k:=(prf++[zN,zN]).length) (l:=(prf++[zN,zN]).set a.toNat (j5 k prf.length)) hm (by rw[hl1,hl2]) hl2
     have o2:=o1.vis (f:=fx.set k.toNat 1) (hf.set (by omega)) (n:=nF (fx.set k.toNat 1)) (a:=(prf.length:Int)+1)
     have o3:=(@rJ p (cy none) most (nF (fx.set k.toNat 1)) (gB ⟨ch',val',found',prf,tc⟩ a k) ((prf.length:Int)+1) (fx.set k.toNat 1) (hf.set (by omega))).1
     have o4:prf.length+2<=(dG p (cy none) most (nF (fx.set k.toNat 1)) (gB ⟨ch',val',found',prf,tc⟩ a k) ((prf.length:Int)+1) (fx.set k.toNat 1)).prf.length:=by rw[<-hl2];exact o3
     have q1:a<((prf++[zN,zN]).length:Int):=by omega
     have q3:(prf.length:Int)+1<(((prf++[zN,zN]).set a.toNat (j5 k prf.length)).length:Int):=by rw[hl2];omega
     have q2:a.toNat<(prf++[zN,zN]).length:=by omega
     exact⟨by omega,by omega,by omega,ha.1,q1,q2,by omega,⟨o1,⟨by omega,q3⟩,hk1,hk0,.inl trivial,by omega⟩,⟨o2,⟨by omega,εU.2 (γi (by omega) o4)⟩,hk1,hk0,.inr trivial,by omega⟩,rfl,rfl⟩
   ·have hO:dp p (cy none) ⟨ch,val,found,prf,err⟩ fx=⟨ch,val,found,prf,err⟩:=by
     unfold dp
     rw[if_neg (λh=>by rw[h.2] at hi;cases hi)]
    refine⟨⟨fB,fI _ (by omega) (by omega)⟩,?_⟩
    refine⟨λh=>?_,λh=>⟨oS,λhk=>?_,λhk=>⟨by omega,λhm=>?_,λhm=>?_⟩⟩⟩
    ·rw[yN hf hs hbf hO ((hcv _).1 h)]
     refine⟨ha.1,ha.2,by omega,?_,rfl⟩
     simp only[Φ];rfl
    ·rw[pU hf hs hbf hO (λh'=>h ((hcv _).2 h')) (.inl (γ6.1 hk |>γN.1))]
     exact⟨rfl,rfl⟩
    ·rw[pU hf hs hbf hO (λh'=>h ((hcv _).2 h')) (.inr hm)]
     exact⟨rfl,rfl⟩
    ·obtain⟨k,hk'⟩:=γp.1 hk
     rw[yO hf hs hbf hO (λh'=>h ((hcv _).2 h')) hk' hm];simp only[hk',γ7]
     obtain⟨hk1,hk2,hk3⟩:=sY hk'
     rw[hsl] at hk1
     have hk0:bj fx k.toNat 0=0:=sX hfix hf.r (by omega) hk2 hk3
     have n1:=mr hk1 hk0 (d:=1) (by omega)
     have n2:=mr hk1 hk0 (d:= -1) (by omega)
     have hl2:((prf++[zN,zN]).set a.toNat (j5 k prf.length)).length=prf.length+2:=by rw[Φ,γf];rfl
     have hl1:(prf++[zN,zN]).length=prf.length+2:=by rw[γf];rfl
     have o1:=fp.spl hok (k:=(prf++[zN,zN]).length) (l:=(prf++[zN,zN]).set a.toNat (j5 k prf.length)) hm (by rw[hl1,hl2]) hl2
     have o2:=o1.vis (f:=fx.set k.toNat 1) (hf.set (by omega)) (n:=nF (fx.set k.toNat 1)) (a:=(prf.length:Int)+1)
     have o3:=(@rJ p (cy none) most (nF (fx.set k.toNat 1)) (gB ⟨ch,val,found,prf,err⟩ a k) ((prf.length:Int)+1) (fx.set k.toNat 1) (hf.set (by omega))).1
     have o4:prf.length+2<=(dG p (cy none) most (nF (fx.set k.toNat 1)) (gB ⟨ch,val,found,prf,err⟩ a k) ((prf.length:Int)+1) (fx.set k.toNat 1)).prf.length:=by rw[<-hl2];exact o3
     have q1:a<((prf++[zN,zN]).length:Int):=by omega
     have q3:(prf.length:Int)+1<(((prf++[zN,zN]).set a.toNat (j5 k prf.length)).length:Int):=by rw[hl2];omega
     have q2:a.toNat<(prf++[zN,zN]).length:=by omega
     exact⟨by omega,by omega,by omega,ha.1,q1,q2,by omega,⟨o1,⟨by omega,q3⟩,hk1,hk0,.inl trivial,by omega⟩,⟨o2,⟨by omega,εU.2 (γi (by omega) o4)⟩,hk1,hk0,.inr trivial,by omega⟩,rfl,rfl⟩
   ·have hO:dp p (cy none) ⟨ch,val,found,prf,err⟩ fx=⟨ch,val,found,prf,err⟩:=by
     unfold dp;rw[if_neg (λh=>ε0.2 h.1 ((hcv (val+1)).1 (Int.not_le.1 hlt)))]
    refine⟨⟨fB,fI _ (by omega) (by omega)⟩,?_⟩
    refine⟨λh=>?_,λh=>⟨oS,λhk=>?_,λhk=>⟨by omega,λhm=>?_,λhm=>?_⟩⟩⟩
    ·rw[yN hf hs hbf hO ((hcv _).1 h)]
     refine⟨ha.1,ha.2,by omega,?_,rfl⟩
     simp only[Φ];rfl
    ·rw[pU hf hs hbf hO (λh'=>h ((hcv _).2 h')) (.inl (γ6.1 hk |>γN.1))]
     exact⟨rfl,rfl⟩
    ·rw[pU hf hs hbf hO (λh'=>h ((hcv _).2 h')) (.inr hm)]
     exact⟨rfl,rfl⟩
    ·obtain⟨k,hk'⟩:=γp.1 hk
     rw[yO hf hs hbf hO (λh'=>h ((hcv _).2 h')) hk' hm];simp only[hk',γ7]
     obtain⟨hk1,hk2,hk3⟩:=sY hk'
     rw[hsl] at hk1
     have hk0:bj fx k.toNat 0=0:=sX hfix hf.r (by omega) hk2 hk3
     have n1:=mr hk1 hk0 (d:=1) (by omega)
     have n2:=mr hk1 hk0 (d:= -1) (by omega)
     have hl2:((prf++[zN,zN]).set a.toNat (j5 k prf.length)).length=prf.length+2:=by rw[Φ,γf];rfl
     have hl1:(prf++[zN,zN]).length=prf.length+2:=by rw[γf];rfl
     have o1:=fp.spl hok (k:=(prf++[zN,zN]).length) (l:=(prf++[zN,zN]).set a.toNat (j5 k prf.length)) hm (by rw[hl1,hl2]) hl2
     have o2:=o1.vis (f:=fx.set k.toNat 1) (hf.set (by omega)) (n:=nF (fx.set k.toNat 1)) (a:=(prf.length:Int)+1)
     have o3:=(@rJ p (cy none) most (nF (fx.set k.toNat 1)) (gB ⟨ch,val,found,prf,err⟩ a k) ((prf.length:Int)+1) (fx.set k.toNat 1) (hf.set (by omega))).1
     have o4:prf.length+2<=(dG p (cy none) most (nF (fx.set k.toNat 1)) (gB ⟨ch,val,found,prf,err⟩ a k) ((prf.length:Int)+1) (fx.set k.toNat 1)).prf.length:=by rw[<-hl2];exact o3
     have q1:a<((prf++[zN,zN]).length:Int):=by omega
     have q3:(prf.length:Int)+1<(((prf++[zN,zN]).set a.toNat (j5 k prf.length)).length:Int):=by rw[hl2];omega
     have q2:a.toNat<(prf++[zN,zN]).length:=by omega
     exact⟨by omega,by omega,by omega,ha.1,q1,q2,by omega,⟨o1,⟨by omega,q3⟩,hk1,hk0,.inl trivial,by omega⟩,⟨o2,⟨by omega,εU.2 (γi (by omega) o4)⟩,hk1,hk0,.inr trivial,by omega⟩,rfl,rfl⟩
 ·refine bO (let b:=γh .i64;let c:=(0:Int);let d:=bq.cells;let e:=(1:Int);let f:=SV.bI;let g:=bq.row;let h:=cq .i64;let j:=(-9223372036854775808:Int);let k:=(-1:Int);let l:=(9223372036854775807:Int);let o:=(2:Int);let q:=Ψ;let r:=γv;let s:=SV.ow;let ai:=((kr p fx).fst,(kr p fx).snd.fst,(kr p fx).snd.snd);let aj:=val+e;let ap:=bu (κ aj);let ay:=(ap.fst,ap.snd.fst,ap.snd.snd);let az:=iU (bV ai) (bV ay);let aA:=decide (az<c);let z:=b p.supply.a0;let A:=b p.supply.a1;let B:=b p.supply.a2;let C:=b p.supply.a3;let D:=b p.supply.a4;let E:=b p.supply.a5;let F:=b p.opn.a0;let G:=b p.opn.a1;let H:=b p.opn.a2;let I:=b p.opn.a3;let J:=b p.opn.a4;let K:=b p.opn.a5;let L:=b p.cls.a0;let M:=b p.cls.a1;let N:=b p.cls.a2;let O:=b p.cls.a3;let P:=b p.cls.a4;let Q:=b p.cls.a5;let W:=bp.i .i64;let R:=q W p.classes;let S:=q bp.off p.offers;let ak:=q W ch;let al:=b val;let T:=SV.fn (Fn.func 116) [] [γO 1 0 1];let am:=s 2 prf.length 5;let X:=s 3 fx.length 1;let Y:=b most;let aB:=cZ.mk ch val found prf err;let a9:=dG p (cy (some m)) most (nF fx) aB a fx;let Z:=d [z,A,B,C,D,E,F,G,H,I,J,K,L,M,N,O,P,Q,R,S,q W a9.ch,b a9.val,r a9.found,T,s 2 a9.prf.length 5,X,Y,b a9.err] 126 28 false;let v:=d [b m] 2 1 false;let aC:=(e,c,c,c,qK p fx);let a6:=g bE a9.prf 108 true;let w:=g W fx 3 true;let x:=vL (ku p fx);let aD:=[X,Y,γx .i64 12];let aq:=g bE prf 108 true;let a7:=(↑prf.length:Int);let aE:=decide (most<a7+o);let aF:=prf.length+2;let aa:=a7+e;let ar:=(c,c,c,[]);let an:=[(c,ar),(c,ar)];let z61:Nat:=(prf++an).length;let y:=(jP x).getD c;let au:=(prf++an).set a.toNat (o,y,a7,aa,[]);let ab:=y.toNat;let ae:=fx.set ab e;let U:=dG p (cy (some m)) most (nF ae) (cZ.mk ch val found au err) aa ae;let af:=fx.set ab k;let ac:=dG p (cy (some m)) most (nF af) U a7 af;let t:=dV (cy (some m)) aB (Alloc.mk (eG x) (cJ (List.map (oI p) (eG x))));let ag:=t.prf.length;let z71:Nat:=(t.prf++an).length;let ao:=t.val+e;let av:=bu (κ ao);let ad:=(↑ag:Int);let aG:=decide (err≠c);let aH:=decide (je p fx≠c);let a8:=t.prf.length;let ah:=ad+e;let aw:=(t.prf++an).set a.toNat (o,y,ad,ah,[]);let V:=dG p (cy (some m)) most (nF ae) (cZ.mk t.ch t.val t.found aw t.err) ah ae;let aI:=dG p (cy (some m)) most (nF af) V ad af;let aV:=let aJ:=(f []).same (f [])/\(d (z::A::B::C::D::E::F::G::H::I::J::K::L::M::N::O::P::Q::R::S::ak::al::r found::T::am::aD) 126 28 false).same Z/\v.same v/\aq.same a6/\w.same w/\True;(aA=true->prf.length=prf.length/\c<=a/\a<(↑prf.length:Int)/\prf.length=prf.length/\a.toNat<prf.length/\(f []).same (f [])/\(d [z,A,B,C,D,E,F,G,H,I,J,K,L,M,N,O,P,Q,R,S,ak,al,r found,T,am,X,Y,b err] 126 28 false).same Z/\v.same v/\(g bE (prf.set a.toNat aC) 108 true).same a6/\w.same w/\True)/\(aA=false->pv (ku p fx)/\((!(jP x).isSome)=true->aJ)/\((!(jP x).isSome)=false->h (a7+o)/\(aE=true->aJ)/\(aE=false->2=2/\prf.length=prf.length/\aF*56<=140737488355328/\aF<=1000000000000/\h aa/\z61=z61/\c<=a/\a<(↑z61:Int)/\z61=z61/\a.toNat<z61/\h aa/\(fp (dJ.mk p ch val found (some m) z61 fx.length most err au fx)/\(c<=aa/\aa<(↑au.length:Int))/\(c<=y/\y<(↑fx.length:Int))/\bj fx ab c=c/\(e=e\/e=k)/\nF ae<n)/\(fp (dJ.mk p U.ch U.val U.found (some m) U.prf.length fx.length most U.err U.prf fx)/\(c<=a7/\a7<(↑U.prf.length:Int))/\(c<=y/\y<(↑fx.length:Int))/\bj fx ab c=c/\(k=e\/k=k)/\nF af<n)/\(f []).same (f [])/\(d [z,A,B,C,D,E,F,G,H,I,J,K,L,M,N,O,P,Q,R,S,q W ac.ch,b ac.val,r ac.found,T,s 2 ac.prf.length 5,X,Y,b ac.err] 126 28 false).same Z/\v.same v/\(g bE ac.prf 108 true).same a6/\w.same w/\True)));let aK:=(f []).same (f [])/\(d (z::A::B::C::D::E::F::G::H::I::J::K::L::M::N::O::P::Q::R::S::q W t.ch::b t.val::r t.found::T::s 2 ag 5::aD) 126 28 false).same Z/\v.same v/\(g bE t.prf 108 true).same a6/\w.same w/\True;let aL:=z71=z71;let aM:=(f []).same (f [])/\(d [z,A,B,C,D,E,F,G,H,I,J,K,L,M,N,O,P,Q,R,S,ak,al,r found,T,am,X,Y,b err] 126 28 false).same Z/\v.same v/\aq.same a6/\w.same w/\True;let aN:=(cC ai/\cC ay)/\aV;let aO:=λ(u:cZ) (u_1:bq) ↦(f []).same (f [])/\(d [z,A,B,C,D,E,F,G,H,I,J,K,L,M,N,O,P,Q,R,S,q W u.ch,b u.val,r u.found,T,s 2 u.prf.length 5,X,Y,b u.err] 126 28 false).same Z/\v.same v/\u_1.same a6/\w.same w/\True;let aP:=λ(u:dJ) (u_1:Int) (u_2:Nat) (u_3:Int) ↦fp u/\(c<=u_1/\u_1<(↑u_2:Int))/\(c<=y/\y<(↑fx.length:Int))/\bj fx ab c=c/\(u_3=e\/u_3=k)/\nF (fx.set ab u_3)<n;let aQ:=λ(u:Int) (u_1:bq) ↦(f []).same (f [])/\(d [z,A,B,C,D,E,F,G,H,I,J,K,L,M,N,O,P,Q,R,S,ak,al,r found,T,am,X,Y,b u] 126 28 false).same Z/\v.same v/\u_1.same a6/\w.same w/\True;let aR:=λ(u:Bool) ↦decide (iU (bV ai) (bV (av.fst,av.snd.fst,av.snd.snd))<c)=u;let aS:=λ(u:Bool) ↦decide (c<=az)=u;let aT:=λ(u:Int) ↦let ax:=bu (κ (u+e));cC ai/\cC (ax.fst,ax.snd.fst,ax.snd.snd);let aU:=λ(u:Bool) ↦decide (most<ad+o)=u;(aG=true->aM)/\(aG=false->(found=true->aM)/\(found=false->(fx.length=fx.length/\fx.length<=1000000000000)/\(aH=true->aQ (je p fx) aq)/\(aH=false->((!j4 p fx)=true->prf.length=prf.length/\c<=a/\a<(↑prf.length:Int)/\prf.length=prf.length/\a.toNat<prf.length/\aQ err (g bE (prf.set a.toNat ((3:Int),ar)) 108 true))/\((!j4 p fx)=false->h aj/\(j<=aj/\aj<=l)/\aT val/\(aS true->pv (ku p fx)/\(mQ x=true->(fp (dJ.mk p ch val found (some m) prf.length fx.length most err prf fx)/\pv (ku p fx)/\(ku p fx).length=p.offers.length)/\prf.length=prf.length/\h ao/\(j<=ao/\ao<=l)/\aT t.val/\(aR true->ag=a8/\c<=a/\a<(↑a8:Int)/\ag=a8/\a.toNat<a8/\aO t (g bE (t.prf.set a.toNat aC) 108 true))/\(aR false->pv (ku p fx)/\((!(jP x).isSome)=true->aK)/\((!(jP x).isSome)=false->h (ad+o)/\(aU true->aK)/\(aU false->2=2/\ag=a8/\(a8+2)*56<=140737488355328/\a8+2<=1000000000000/\h ah/\aL/\c<=a/\a<(↑z71:Int)/\aL/\a.toNat<z71/\h ah/\aP (dJ.mk p t.ch t.val t.found (some m) z71 fx.length most t.err aw fx) ah aw.length e/\aP (dJ.mk p V.ch V.val V.found (some m) V.prf.length fx.length most V.err V.prf fx) ad V.prf.length k/\aO aI (g bE aI.prf 108 true)))))/\(mQ x=false->aN))/\(aS false->aN)))))) (by kernel_rfl) ?_
  simp only[vcs]
  refine⟨λh=>by rw[Bl hf (.inl h)];exact⟨rfl,rfl⟩,λh0=>⟨λh=>by rw[Bl hf (.inr h)];exact⟨rfl,rfl⟩,λh1=>⟨by omega,λh=>absurd hfe h,λ_=>⟨λh=>?_,λhb=>?_⟩⟩⟩⟩
  ·have hs:¬((⟨ch,val,found,prf,err⟩:cZ).err≠0\/(⟨ch,val,found,prf,err⟩:cZ).found=true):=by
    rintro(h|h)
    ·exact h0 h
    ·rw[show found=true from h] at h1;cases h1
   rw[UG hf hs (by rw[<-hfo];exact h)]
   refine⟨ha.1,ha.2,by omega,?_,rfl⟩
   simp only[Φ];rfl
  ·have hs:¬((⟨ch,val,found,prf,err⟩:cZ).err≠0\/(⟨ch,val,found,prf,err⟩:cZ).found=true):=by
    rintro(h|h)
    ·exact h0 h
    ·rw[show found=true from h] at h1;cases h1
   have hbf:hJ p fx=true:=by rw[<-hfo];exact hb
   have hfix:=hf.ok hbf
   have eB:kr p fx=bu (jf p fx):=by unfold kr;rw[if_pos hb]
   have eS:ku p fx=fL (dD p fx):=by unfold ku dD;rw[if_pos hb]
   have eP:qK p fx=fL (iC p fx):=by unfold qK;rw[if_pos hb]
   have hsl:(dD p fx).length=fx.length:=rI
   have oS:pv (fL (dD p fx)):=⟨dD p fx,rfl,by rw[fE];omega,λq hq=>by
    obtain⟨i,hi,rfl⟩:=γI hq
    have:=(ED hfix hf.r (i:=i) (by omega)).2.2
    rwa [cY hi] at this⟩
   have fB:cC (bu (jf p fx)):=dP (Vd hb) (by omega)
   have fI:∀v:Int,0<=v->v<=9223372036854775807->cC (bu (κ v)):=λv h0 h1=>dP (rN (by omega) h1) (by omega)
   have hcv:∀v:Int,iU (jf p fx) (κ v)<0↔jf p fx<((v:Int):Rat):=λv=>s7
   simp only[eB,eS,eP,kN,jM,eC]
   have hcm:eG (dD p fx)=(pr p fx).chosen:=rfl
   refine⟨by omega,by omega,⟨fB,fI _ (by omega) (by omega)⟩,λhge=>⟨oS,λhi=>?_,λhi=>?_⟩,λhlt=>?_⟩
   ·have hO:dp p (cy (some m)) ⟨ch,val,found,prf,err⟩ fx=dV (cy (some m)) ⟨ch,val,found,prf,err⟩ ⟨eG (dD p fx),cJ ((eG (dD p fx)).map (oI p))⟩:=by
     unfold dp
     rw[if_pos ⟨ε0.1 λh=>absurd ((hcv (val+1)).2 h) (Int.not_lt.2 hge),hi⟩]
     rfl
    have hok':fp (dJ.upd ⟨p,ch,val,found,(some m),prf.length,fx.length,most,err,prf,fx⟩ (dp p (cy (some m)) ⟨ch,val,found,prf,err⟩ fx)):=hok.UH
    rw[hO] at hok'
    obtain⟨e1,e2,_⟩:=@EH (cy (some m)) ⟨ch,val,found,prf,err⟩ ⟨eG (dD p fx),cJ ((eG (dD p fx)).map (oI p))⟩
    generalize dV (cy (some m)) ⟨ch,val,found,prf,err⟩ ⟨eG (dD p fx),cJ ((eG (dD p fx)).map (oI p))⟩=O at*
    obtain⟨ch',val',found',prf',tc⟩:=O
    have e1:prf=prf':=Eq.symm e1
    have e2:err=tc:=Eq.symm e2
    subst e1;subst e2
    have w0:0<=val':=hok'.v0
    have w1:val'<=9223372036854775806:=hok'.v1
    dsimp only
    refine⟨⟨hok,oS,by rw[fE];omega⟩,by omega,by omega,⟨fB,fI _ (by omega) (by omega)⟩,?_⟩
    refine⟨λh=>?_,λh=>⟨oS,λhk=>?_,λhk=>⟨by omega,λhm=>?_,λhm=>?_⟩⟩⟩
    ·rw[yN hf hs hbf hO ((hcv _).1 h)]
     refine⟨ha.1,ha.2,by omega,?_,rfl⟩
     simp only[Φ];rfl
    ·rw[pU hf hs hbf hO (λh'=>h ((hcv _).2 h')) (.inl (γ6.1 hk |>γN.1))]
     exact⟨rfl,rfl⟩
    ·rw[pU hf hs hbf hO (λh'=>h ((hcv _).2 h')) (.inr hm)]
     exact⟨rfl,rfl⟩
    ·obtain⟨k,hk'⟩:=γp.1 hk
     rw[yO hf hs hbf hO (λh'=>h ((hcv _).2 h')) hk' hm];simp only[hk',γ7]
     obtain⟨hk1,hk2,hk3⟩:=sY hk'
     rw[hsl] at hk1
     have hk0:bj fx k.toNat 0=0:=sX hfix hf.r (by omega) hk2 hk3
     have n1:=mr hk1 hk0 (d:=1) (by omega)
     have n2:=mr hk1 hk0 (d:= -1) (by omega)
     have hl2:((prf++[zN,zN]).set a.toNat (j5 k prf.length)).length=prf.length+2:=by rw[Φ,γf];rfl
     have hl1:(prf++[zN,zN]).length=prf.length+2:=by rw[γf];rfl
     have o1:=fp.spl (x:=⟨p,ch',val',found',(some m),prf.length,fx.length,most,tc,prf,fx⟩) hok' (k:=(prf++[zN,zN]).length) (l:=(prf++[zN,zN]).set a.toNat (j5 k prf.length)) hm (by rw[hl1,hl2]) hl2
     have o2:=o1.vis (f:=fx.set k.toNat 1) (hf.set (by omega)) (n:=nF (fx.set k.toNat 1)) (a:=(prf.length:Int)+1)
     have o3:=(@rJ p (cy (some m)) most (nF (fx.set k.toNat 1)) (gB ⟨ch',val',found',prf,tc⟩ a k) ((prf.length:Int)+1) (fx.set k.toNat 1) (hf.set (by omega))).1
     have o4:prf.length+2<=(dG p (cy (some m)) most (nF (fx.set k.toNat 1)) (gB ⟨ch',val',found',prf,tc⟩ a k) ((prf.length:Int)+1) (fx.set k.toNat 1)).prf.length:=by rw[<-hl2];exact o3
     have q1:a<((prf++[zN,zN]).length:Int):=by omega
     have q3:(prf.length:Int)+1<(((prf++[zN,zN]).set a.toNat (j5 k prf.length)).length:Int):=by rw[hl2];omega
     have q2:a.toNat<(prf++[zN,zN]).length:=by omega
     exact⟨by omega,by omega,by omega,ha.1,q1,q2,by omega,⟨o1,⟨by omega,q3⟩,hk1,hk0,.inl trivial,by omega⟩,⟨o2,⟨by omega,εU.2 (γi (by omega) o4)⟩,hk1,hk0,.inr trivial,by omega⟩,rfl,rfl⟩
   ·have hO:dp p (cy (some m)) ⟨ch,val,found,prf,err⟩ fx=⟨ch,val,found,prf,err⟩:=by
     unfold dp
     rw[if_neg (λh=>by rw[h.2] at hi;cases hi)]
    refine⟨⟨fB,fI _ (by omega) (by omega)⟩,?_⟩
    refine⟨λh=>?_,λh=>⟨oS,λhk=>?_,λhk=>⟨by omega,λhm=>?_,λhm=>?_⟩⟩⟩
    ·rw[yN hf hs hbf hO ((hcv _).1 h)]
     refine⟨ha.1,ha.2,by omega,?_,rfl⟩
     simp only[Φ];rfl
    ·rw[pU hf hs hbf hO (λh'=>h ((hcv _).2 h')) (.inl (γ6.1 hk |>γN.1))]
     exact⟨rfl,rfl⟩
    ·rw[pU hf hs hbf hO (λh'=>h ((hcv _).2 h')) (.inr hm)]
     exact⟨rfl,rfl⟩
    ·obtain⟨k,hk'⟩:=γp.1 hk
     rw[yO hf hs hbf hO (λh'=>h ((hcv _).2 h')) hk' hm];simp only[hk',γ7]
     obtain⟨hk1,hk2,hk3⟩:=sY hk'
     rw[hsl] at hk1
     have hk0:bj fx k.toNat 0=0:=sX hfix hf.r (by omega) hk2 hk3
     have n1:=mr hk1 hk0 (d:=1) (by omega)
     have n2:=mr hk1 hk0 (d:= -1) (by omega)
     have hl2:((prf++[zN,zN]).set a.toNat (j5 k prf.length)).length=prf.length+2:=by rw[Φ,γf];rfl
     have hl1:(prf++[zN,zN]).length=prf.length+2:=by rw[γf];rfl
     have o1:=fp.spl hok (k:=(prf++[zN,zN]).length) (l:=(prf++[zN,zN]).set a.toNat (j5 k prf.length)) hm (by rw[hl1,hl2]) hl2
     have o2:=o1.vis (f:=fx.set k.toNat 1) (hf.set (by omega)) (n:=nF (fx.set k.toNat 1)) (a:=(prf.length:Int)+1)
     have o3:=(@rJ p (cy (some m)) most (nF (fx.set k.toNat 1)) (gB ⟨ch,val,found,prf,err⟩ a k) ((prf.length:Int)+1) (fx.set k.toNat 1) (hf.set (by omega))).1
     have o4:prf.length+2<=(dG p (cy (some m)) most (nF (fx.set k.toNat 1)) (gB ⟨ch,val,found,prf,err⟩ a k) ((prf.length:Int)+1) (fx.set k.toNat 1)).prf.length:=by rw[<-hl2];exact o3
     have q1:a<((prf++[zN,zN]).length:Int):=by omega
     have q3:(prf.length:Int)+1<(((prf++[zN,zN]).set a.toNat (j5 k prf.length)).length:Int):=by rw[hl2];omega
     have q2:a.toNat<(prf++[zN,zN]).length:=by omega
     exact⟨by omega,by omega,by omega,ha.1,q1,q2,by omega,⟨o1,⟨by omega,q3⟩,hk1,hk0,.inl trivial,by omega⟩,⟨o2,⟨by omega,εU.2 (γi (by omega) o4)⟩,hk1,hk0,.inr trivial,by omega⟩,rfl,rfl⟩
   ·have hO:dp p (cy (some m)) ⟨ch,val,found,prf,err⟩ fx=⟨ch,val,found,prf,err⟩:=by
     unfold dp;rw[if_neg (λh=>ε0.2 h.1 ((hcv (val+1)).1 (Int.not_le.1 hlt)))]
    refine⟨⟨fB,fI _ (by omega) (by omega)⟩,?_⟩
    refine⟨λh=>?_,λh=>⟨oS,λhk=>?_,λhk=>⟨by omega,λhm=>?_,λhm=>?_⟩⟩⟩
    ·rw[yN hf hs hbf hO ((hcv _).1 h)]
     refine⟨ha.1,ha.2,by omega,?_,rfl⟩
     simp only[Φ];rfl
    ·rw[pU hf hs hbf hO (λh'=>h ((hcv _).2 h')) (.inl (γ6.1 hk |>γN.1))]
     exact⟨rfl,rfl⟩
    ·rw[pU hf hs hbf hO (λh'=>h ((hcv _).2 h')) (.inr hm)]
     exact⟨rfl,rfl⟩
    ·obtain⟨k,hk'⟩:=γp.1 hk
     rw[yO hf hs hbf hO (λh'=>h ((hcv _).2 h')) hk' hm];simp only[hk',γ7]
     obtain⟨hk1,hk2,hk3⟩:=sY hk'
     rw[hsl] at hk1
     have hk0:bj fx k.toNat 0=0:=sX hfix hf.r (by omega) hk2 hk3
     have n1:=mr hk1 hk0 (d:=1) (by omega)
     have n2:=mr hk1 hk0 (d:= -1) (by omega)
     have hl2:((prf++[zN,zN]).set a.toNat (j5 k prf.length)).length=prf.length+2:=by rw[Φ,γf];rfl
     have hl1:(prf++[zN,zN]).length=prf.length+2:=by rw[γf];rfl
     have o1:=fp.spl hok (k:=(prf++[zN,zN]).length) (l:=(prf++[zN,zN]).set a.toNat (j5 k prf.length)) hm (by rw[hl1,hl2]) hl2
     have o2:=o1.vis (f:=fx.set k.toNat 1) (hf.set (by omega)) (n:=nF (fx.set k.toNat 1)) (a:=(prf.length:Int)+1)
     have o3:=(@rJ p (cy (some m)) most (nF (fx.set k.toNat 1)) (gB ⟨ch,val,found,prf,err⟩ a k) ((prf.length:Int)+1) (fx.set k.toNat 1) (hf.set (by omega))).1
     have o4:prf.length+2<=(dG p (cy (some m)) most (nF (fx.set k.toNat 1)) (gB ⟨ch,val,found,prf,err⟩ a k) ((prf.length:Int)+1) (fx.set k.toNat 1)).prf.length:=by rw[<-hl2];exact o3
     have q1:a<((prf++[zN,zN]).length:Int):=by omega
     have q3:(prf.length:Int)+1<(((prf++[zN,zN]).set a.toNat (j5 k prf.length)).length:Int):=by rw[hl2];omega
     have q2:a.toNat<(prf++[zN,zN]).length:=by omega
     exact⟨by omega,by omega,by omega,ha.1,q1,q2,by omega,⟨o1,⟨by omega,q3⟩,hk1,hk0,.inl trivial,by omega⟩,⟨o2,⟨by omega,εU.2 (γi (by omega) o4)⟩,hk1,hk0,.inr trivial,by omega⟩,rfl,rfl⟩
theorem LK:∀n,ec Tryz.prog (wC n)
 |0=>λa b=>absurd b.2.2 (by omega)
 |n+1=>afK (ae3 (LK n))
theorem uN {p:bn} (a:bz p=0) {c:List Int} (f:dh p c=0):0<=ei p c/\ei p c<=160000000/\c.length<=160:=by
 obtain⟨_,b⟩:=uw f
 have d:=(dQ a).2.1
 have j:c.length<=p.offers.length:=uv b
 have h:=sJ (dQ a) (l:=c.map (oI p)) λx g=>by
  obtain⟨i,e,rfl⟩:=Ω.1 g
  have:=b.2 i e
  exact dr (by omega)
 grind[yF]
theorem LL {p:bn} (a:bz p=0):(jY p).length<=160:=(uN a (SY a)).2.2
theorem afL {p:bn} {c:List Int} {a:Int} {k:Nat} (e:bz p=0) (h:dh p c=0) (l:1<=a) (m:a<=65536) (i:k=p.offers.length):fp ⟨p,(kR p c).ch,(kR p c).val,(kR p c).found,none,(kR p c).prf.length,k,a,(kR p c).err,(kR p c).prf,iD p⟩:=by
 have b:=Jz e h
 have d:=yL e
 have f:dh p (kR p c).ch=0/\ei p (kR p c).ch=(kR p c).val:=
  yK (G:=λc w _=>dh p c=0/\ei p c=w) (λ_ _ _ _ _ _ b d _=>⟨b,d⟩) (yK (G:=λc w _=>dh p c=0/\ei p c=w) (λ_ _ _ _ _ _ b d _=>⟨b,d⟩) (s:=⟨c,ei p c,false,[zN],0⟩) ⟨h,rfl⟩ b.2.1 b.2.2.1) d.1 d.2
 obtain⟨g,j,n⟩:=uN e f.1
 obtain⟨o,_,_⟩:=@KC p c
 rw[f.2] at g j
 exact⟨oG e,rfl,by rw[i];exact(γC).symm,g,by grind,l,m,by simp_all,by grind⟩
theorem afM {p:bn} {m a:Int} {k:Nat} (b:bz p=0) (q:0<m/\m<=9223372036854775807) (h:1<=a) (i:a<=65536) (g:k=p.offers.length):fp ⟨p,(kS p m).ch,(kS p m).val,(kS p m).found,some m,(kS p m).prf.length,k,a,(kS p m).err,(kS p m).prf,iD p⟩:=by
 have d:=yL b
 have e:(0<=(kS p m).val/\(kS p m).val<=9223372036854775806)/\(kS p m).ch.length<=160:=
  yK (G:=λc w _=>(0<=w/\w<=9223372036854775806)/\c.length<=160) (λ_ _ _ t l _ f d _=>by
   obtain⟨j,n,o⟩:=uN b f
   omega) (s:=⟨[],m - 1,false,[zN],0⟩) ⟨⟨by grind,by grind⟩,by simp_all⟩ d.1 d.2
 obtain⟨r,_⟩:=@KE p m
 exact⟨oG b,rfl,by rw[g];exact(γC).symm,e.1.1,e.1.2,h,i,by simp_all,by grind⟩
noncomputable def LM:bM:=⟨53,bn×Alloc×Int,.cons dK (.cons nu (.one (eZ .i64))),λa=>a.1.offers.length<=20/\a.2.1.chosen.length<=9223372036854775807,
 λa=> .bI [.agg [.row (.i .i64) (if kx a.1 a.2.1.chosen a.2.2=0 then(iK a.1 a.2.1.chosen a.2.2).ch else[]),.si .i64 (if kx a.1 a.2.1.chosen a.2.2=0 then(iK a.1 a.2.1.chosen a.2.2).val else 0)],.row bE (if kx a.1 a.2.1.chosen a.2.2=0 then(iK a.1 a.2.1.chosen a.2.2).prf else[]),.si .i64 (kx a.1 a.2.1.chosen a.2.2)]⟩
theorem h429:Holds Tryz.prog LM:=by
 refine con (L:=[xN,EP,AK,AH]) (W:=gK [Bg,wC 161]) LM lk (kZ (by grind[h439,LK])) (by grind[h100,h437,h315,h312]) ?_
 rintro⟨p,⟨c,v⟩,a⟩ ⟨o,f⟩
 simp only at o f
 refine bO (let e:=(0:Int);let f:=γh .i64;let h:=(140737488355328:Int);let k:=(1000000000000:Int);let o:=(1:Int);let v:=Ψ;let w:=γM;let z:=SV.bI;let D:=bp.i .i64;let s:=v D [];let t:=γx .i64 0;let A:=iK p c a;let E:=z [w [v D (if kx p c a=e then A.ch else[]),f (if kx p c a=e then A.val else e)],v bE (if kx p c a=e then A.prf else[]),f (kx p c a)];let g:=(↑p.offers.length:Int);let r:=δ g.toNat e;let j:=dV (cy none) (cZ.mk c (ei p c) false [(e,e,e,e,[])] e) (gw p c);let b:=dV (cy none) j (gw p (jY p));let d:=dG p (cy none) a (nF r) b e r;let m:=decide (dh p c≠e);let n:=decide (a<o);let q:=decide ((65536:Int)<a);let l:=0+c.length;let G:=(z [w [s,t],s,γx .i64 4]).same E;let x:=λ(u:List Int) (y B C:SV) ↦(z [w [v D u,y],B,C]).same E;let F:=λ(u:Bool) ↦decide (d.err≠e)=u;c.length<=9223372036854775807/\(m=true->x [] t s (f (dh p c)))/\(m=false->(n=true->G)/\(n=false->(q=true->G)/\(q=false->0=0/\l*8<=140737488355328/\l<=1000000000000/\(bz p=e/\c.length<=9223372036854775807)/\e<=o/\o<=o/\(56:Int)<=h/\o<=k/\e<=g/\g<=g/\g*(8:Int)<=h/\g<=k/\c.length=c.length/\c.length=c.length/\c.length<=9223372036854775807/\1=1/\p.offers.length<=20/\(jY p).length<=9223372036854775807/\j.prf.length=j.prf.length/\(fp (dJ.mk p b.ch b.val b.found none b.prf.length g.toNat a b.err b.prf r)/\(e<=e/\e<(↑b.prf.length:Int))/\nF r<161)/\(F true->x [] t s (f d.err))/\(F false->d.prf.length=d.prf.length/\x d.ch (f d.val) (v bE d.prf) t))))) (by kernel_rfl) ?_
 simp only[vcs]
 have M:(δ ((p.offers.length:Int)).toNat 0:List Int)=iD p:=by grind[iD]
 have P:dV (cy none) (dV (cy none) ⟨c,ei p c,false,[(0,(0,(0,(0,[]))))],0⟩ (gw p c)) (gw p (jY p))=kR p c:=rfl
 have J:nF (iD p)=p.offers.length:=yJ
 simp only[M,P,J]
 refine⟨f,λh=>?_,λh=>⟨λH=>?_,λH=>⟨λN=>?_,λN=>?_⟩⟩⟩
 ·have e:kx p c a=dh p c:=by simp_all[kx]
  rw[e,if_neg h,if_neg h,if_neg h]
  exact⟨rfl,rfl,rfl⟩
 ·have e:kx p c a=4:=by simp_all[kx]
  rw[e]
  exact⟨rfl,rfl,rfl⟩
 ·have e:kx p c a=4:=by simp_all[kx]
  rw[e]
  exact⟨rfl,rfl,rfl⟩
 ·have z:dh p c=0:=γg.1 h
  have w:bz p=0:=(uw z).1
  obtain⟨Q,T,U⟩:=uN w z
  obtain⟨I,R,S⟩:=@KC p c
  have e:kx p c a=(iK p c a).err:=by simp_all[kx,if_neg]
  have O:dG p (cy none) a p.offers.length (kR p c) 0 (iD p)=iK p c a:=rfl
  have K:=LL w
  rw[O,e]
  refine⟨by omega,by omega,⟨w,f⟩,by omega,by omega,by omega,by omega,by omega,by omega,by omega,by omega,f,o,by omega,⟨afL w z (by omega) (by omega) (by omega),⟨by omega,by rw[I];decide⟩,by omega⟩,λk=>?_,λk=>?_⟩
  ·rw[if_neg k,if_neg k,if_neg k]
   exact⟨rfl,rfl,rfl⟩
  ·rw[γg] at k
   rw[k]
   exact⟨rfl,rfl,rfl⟩
noncomputable def LN:bM:=⟨80,bn×Int×Int,.cons dK (.cons (eZ .i64) (.one (eZ .i64))),λa=>a.1.offers.length<=20/\ -9223372036854775808<=a.2.1/\a.2.1<=9223372036854775807,
 λa=> .bI [.agg [.row (.i .i64) (oH a.1 a.2.1 a.2.2).chosen,.si .i64 (oH a.1 a.2.1 a.2.2).value],.sb (j6 a.1 a.2.1 a.2.2),.si .i64 (jh a.1 a.2.1 a.2.2)]⟩
theorem h434:Holds Tryz.prog LN:=by
 refine con (L:=[o7,AK,AH]) (W:=gK [Bg,wC 161]) LN lk (kZ (by grind[h439,LK])) (by grind[h79,h315,h312]) ?_
 rintro⟨p,m,b⟩ ⟨x,H,G⟩
 simp only at x H G
 refine bO (let a:=(0:Int);let c:=γh .i64;let e:=(1:Int);let f:=(140737488355328:Int);let h:=SV.bI;let l:=(1000000000000:Int);let v:=γx .i64;let x:=Ψ;let y:=γM;let w:=bp.i .i64;let t:=[v 0];let k:=h [y [x w (oH p m b).chosen,c (oH p m b).value],γv (j6 p m b),c (jh p m b)];let n:=y (x w []::t);let s:=δc false;let g:=dV (cy (some m)) (cZ.mk [] (m - e) false [(a,a,a,a,[])] a) (gw p (jY p));let A:=decide (bz p≠a);let C:=decide (b<e);let r:=decide ((65536:Int)<b);let q:=decide (m<=a);let d:=(↑p.offers.length:Int);let j:=δ d.toNat a;let z:=λ(u:cZ) ↦let o:=decide (u.err≠a);(u.found=true->(h (y [x w u.ch,c u.val]::δc true::t)).same k)/\(u.found=false->(o=true->(h [n,s,c u.err]).same k)/\(o=false->(h (n::s::t)).same k));let B:=λ(u:Bool) ↦(!g.found)=u;True/\(A=true->(h [n,s,c (bz p)]).same k)/\(A=false->(C=true->(h [n,s,v 4]).same k)/\(C=false->(r=true->(h [n,s,v 4]).same k)/\(r=false->(q=true->(h (n::δc true::t)).same k)/\(q=false->cq .i64 (m - e)/\a<=e/\e<=e/\(56:Int)<=f/\e<=l/\a<=d/\d<=d/\d*(8:Int)<=f/\d<=l/\0=0/\p.offers.length<=20/\(jY p).length<=9223372036854775807/\1=1/\(B true->(fp (dJ.mk p g.ch g.val g.found (some m) g.prf.length d.toNat b g.err g.prf j)/\(a<=a/\a<(↑g.prf.length:Int))/\nF j<161)/\z (dG p (cy (some m)) b (nF j) g a j))/\(B false->z g)))))) (by kernel_rfl) ?_
 simp only[vcs]
 have P:(δ ((p.offers.length:Int)).toNat 0:List Int)=iD p:=by grind[iD]
 have O:dV (cy (some m)) ⟨[],m - 1,false,[(0,(0,(0,(0,[]))))],0⟩ (gw p (jY p))=kS p m:=rfl
 have K:nF (iD p)=p.offers.length:=yJ
 simp only[P,O,K]
 have I:∀e:Int,jh p m b=e->j6 p m b=(decide (e=0)&&(decide (m<=0)||(fY p m b).found)):=λe h=>by grind[j6]
 have c:j6 p m b=false\/m<=0->oH p m b=⟨[],0⟩:=λh=>by
  unfold oH
  grind
 refine⟨λh=>?_,λh=>⟨λM=>?_,λM=>⟨λN=>?_,λN=>⟨λE=>?_,λE=>?_⟩⟩⟩⟩
 ·have e:jh p m b=bz p:=by simp_all[jh]
  have f:j6 p m b=false:=by simp_all
  rw[e,f,c (.inl f)]
  exact⟨rfl,rfl,rfl⟩
 ·have e:jh p m b=4:=by simp_all[jh]
  have f:j6 p m b=false:=by simp_all
  rw[e,f,c (.inl f)]
  exact⟨rfl,rfl,rfl⟩
 ·have e:jh p m b=4:=by simp_all[jh]
  have f:j6 p m b=false:=by simp_all
  rw[e,f,c (.inl f)]
  exact⟨rfl,rfl,rfl⟩
 ·have e:jh p m b=0:=by simp_all[jh]
  have f:j6 p m b=true:=by simp_all
  rw[e,f,c (.inr E)]
  exact⟨rfl,rfl,rfl⟩
 ·have J:bz p=0:=γg.1 h
  obtain⟨R,Q⟩:=@KE p m
  have S:dG p (cy (some m)) b p.offers.length (kS p m) 0 (iD p)=fY p m b:=rfl
  have F:=LL J
  have l:jh p m b=if(fY p m b).found=true then 0 else(fY p m b).err:=by simp_all[jh,if_neg]
  have y:((fY p m b).found=true->(γM [Ψ (bp.i .i64) (fY p m b).ch,γh .i64 (fY p m b).val]).same (γM [Ψ (bp.i .i64) (oH p m b).chosen,γh .i64 (oH p m b).value])/\true=j6 p m b/\0=jh p m b)/\
    ((fY p m b).found=false->((fY p m b).err≠0->(γM [Ψ (bp.i .i64) [],γx .i64 0]).same (γM [Ψ (bp.i .i64) (oH p m b).chosen,γh .i64 (oH p m b).value])/\false=j6 p m b/\(fY p m b).err=jh p m b)/\
     (¬(fY p m b).err≠0->(γM [Ψ (bp.i .i64) [],γx .i64 0]).same (γM [Ψ (bp.i .i64) (oH p m b).chosen,γh .i64 (oH p m b).value])/\false=j6 p m b/\0=jh p m b)):=by
   refine⟨λv=>?_,λv=>⟨λD=>?_,λD=>?_⟩⟩
   ·rw[if_pos v] at l
    have f:j6 p m b=true:=by simp_all
    have a:oH p m b=⟨(fY p m b).ch,(fY p m b).val⟩:=by simp_all[oH]
    rw[l,f,a]
    exact⟨rfl,rfl,rfl⟩
   ·rw[if_neg (by rw[v];simp)] at l
    have f:j6 p m b=false:=by simp_all
    rw[l,f,c (.inl f)]
    exact⟨rfl,rfl,rfl⟩
   ·rw[if_neg (by rw[v];simp),γg.1 D] at l
    have f:j6 p m b=false:=by simp_all
    rw[l,f,c (.inl f)]
    exact⟨rfl,rfl,rfl⟩
  grind[afM,Bl,oG]
abbrev yX:=bB×(bB×(List Int×(Int×(Bool×(Bool×(Bool×(Bool×(Bool×(Bool×(Bool×Bool))))))))))
@[reducible] def rU:bp:=.pair .ff (.pair .ff (.pair (.bF (.i .i64)) (.pair (.i .i64) (.pair .b (.pair .b (.pair .b (.pair .b (.pair .b (.pair .b (.pair .b .b))))))))))
def xP (d:yX):jz:=⟨d.1,d.2.1,d.2.2.1,d.2.2.2.1,[d.2.2.2.2.1,d.2.2.2.2.2.1,d.2.2.2.2.2.2.1,d.2.2.2.2.2.2.2.1,d.2.2.2.2.2.2.2.2.1,d.2.2.2.2.2.2.2.2.2.1,d.2.2.2.2.2.2.2.2.2.2.1,d.2.2.2.2.2.2.2.2.2.2.2]⟩
def fP (u:jz):yX:=(u.left,(u.opn,(u.chosen,(u.value,(bj u.won 0 false,(bj u.won 1 false,(bj u.won 2 false,(bj u.won 3 false,(bj u.won 4 false,(bj u.won 5 false,(bj u.won 6 false,bj u.won 7 false)))))))))))
theorem Ve {u:jz} (h:u.won.length=8):xP (fP u)=u:=by
 obtain⟨l,o,c,v,w⟩:=u
 simp only at h
 match w,h with
 |[a,b,c,d,e,f,g,i],_=>rfl
def zX:jz:=⟨bB.zero,bB.zero,[],0,δ 8 false⟩
def pk (k j:Int) (a b:Int):Bool:=decide (k<=j)||(decide (0<=a)&&decide (0<=b))
def jQ (a b:bB) (k:Int):Bool:=pk k 0 a.a0 b.a0&&(pk k 1 a.a1 b.a1&&(pk k 2 a.a2 b.a2&&(pk k 3 a.a3 b.a3&&(pk k 4 a.a4 b.a4&&pk k 5 a.a5 b.a5))))
def LO:dH where
 f:=115
 α:=yX×bn×Off
 put a:=[.ptr 0 0 22,dK.put a.2.1,(eh .off).put a.2.2]
 st a:=[.cells (encS rU a.1) 142 22 false]
 dec v o:=match v,o with
  |[.ptr 0 0 22,p,x],[.cells cs 142 22 false]=>match jT rU cs,dK.dec p,(eh .off).dec x with
   |some d,some p,some x=>some (d,p,x)
   |_,_,_=>none
  |_,_=>none
 ok v o a h:=by
  split at h
  ·split at h
   ·rename_i h1 h2 h3
    simp only[γ] at h;subst h
    refine⟨by simp only[gL,dK.ok _ _ h2,(eh .off).ok _ _ h3],?_⟩
    simp only[gO,π,γq,bq.g,gj,nU h1,tV]
   ·cases h
  ·cases h
 inj a b h1 h2:=by
  obtain⟨d,p,x⟩:=a
  obtain⟨d',p',x'⟩:=b
  simp only[gL,Γ,and_true,true_and] at h1;simp only[gO,π,γq,bq.g,Γ,bR.cells.injEq,and_true,gj,tV] at h2;rw[xE rU d d' h2,dK.inj p p' h1.1,(eh .off).inj x x' h1.2]
 dom a:=((∀k,k<6->(-1000<=a.1.1.at k/\a.1.1.at k<=1000)/\(-1000<=a.1.2.1.at k/\a.1.2.1.at k<=1000))/\a.2.2.want.ok=true)/\0<=a.2.2.bX/\a.2.2.bX<a.2.1.classes.length
 res a:=.sb ((a.1.1.sub a.2.2.want).pos&&(gC a.2.1 (xP a.1) a.2.2).pos)
 out a:=[.cells (encS rU (a.1.1.sub a.2.2.want,(gC a.2.1 (xP a.1) a.2.2,a.1.2.2))) 142 22 false]
def afN (d:yX) (p:bn) (x:Off):Nat->cE
 |3=> .inv Int (λk=>⟨[(0,.ptr 0 0 22),(4,.ptr 1 0 20),(5,.ptr 2 0 8),(7,.sb (jQ (d.1.sub x.want) (gC p (xP d) x) k)),(11,.agg (encS .ff x.want)),(12,.si .i64 k)],
   [.cells (encS rU (iI d.1 (d.1.sub x.want) k,(iI d.2.1 (gC p (xP d) x) k,d.2.2))) 142 22 false,.cells p.ss 27 20 false,.cells (encS .off x) 65 8 false]⟩)
   (λs=>iS s 12) (λk=>0<=k/\k<=6) (λk=>(6 - k).toNat) λ_ _=> .look
 |_=> .look
theorem h450:ec Tryz.prog LO:=by
 refine lA (L:=[]) (W:=[]) LO (λa=>afN a.1 a.2.1 a.2.2) (by simp) (by simp) ?_
 rintro⟨d,p,x⟩ ⟨⟨hb,hw⟩,hx0,hx1⟩
 simp only at hb hw hx0 hx1
 refine bO (let a:=γh .i64;let b:=(0:Int);let c:=(6:Int);let e:=bq.cells;let f:=γv;let g:=cq .i64;let h:=Ψ;let j:=δc false;let k:=γO;let r:=k 0 0 22;let s:=k 1 0 20;let t:=k 2 0 8;let o:=d.fst.sub x.want;let q:=gC p (xP d) x;let a9:=a x.want.a0;let aa:=a x.want.a1;let ab:=a x.want.a2;let ac:=a x.want.a3;let ad:=a x.want.a4;let ae:=a x.want.a5;let v:=γM [a9,aa,ab,ac,ad,ae];let N:=bp.i .i64;let D:=d.snd.snd.snd.snd.snd;let af:=D.snd.snd.snd.snd.snd;let E:=iI d.fst o b;let F:=iI d.snd.fst q b;let G:=d.snd.snd.snd.snd.snd;let ag:=G.snd.snd.snd.snd.snd;let A:=[h N d.snd.snd.fst,a d.snd.snd.snd.fst,f d.snd.snd.snd.snd.fst,f G.fst,f G.snd.fst,f G.snd.snd.fst,f G.snd.snd.snd.fst,f G.snd.snd.snd.snd.fst,f ag.fst,f ag.snd];let w:=e [a p.supply.a0,a p.supply.a1,a p.supply.a2,a p.supply.a3,a p.supply.a4,a p.supply.a5,a p.opn.a0,a p.opn.a1,a p.opn.a2,a p.opn.a3,a p.opn.a4,a p.opn.a5,a p.cls.a0,a p.cls.a1,a p.cls.a2,a p.cls.a3,a p.cls.a4,a p.cls.a5,h N p.classes,h bp.off p.offers] 27 20 false;let y:=e [a x.bX,a9,aa,ab,ac,ad,ae,a x.value] 65 8 false;let aM:=[x.want.a0,x.want.a1,x.want.a2,x.want.a3,x.want.a4,x.want.a5];let aN:=[p.cls.a0,p.cls.a1,p.cls.a2,p.cls.a3,p.cls.a4,p.cls.a5];(((r.same r/\s.same s/\t.same t/\(δc true).same (f (jQ o q b))/\v.same v/\(γx .i64 0).same (a 0)/\True)/\(e [a d.fst.a0,a d.fst.a1,a d.fst.a2,a d.fst.a3,a d.fst.a4,a d.fst.a5,a d.snd.fst.a0,a d.snd.fst.a1,a d.snd.fst.a2,a d.snd.fst.a3,a d.snd.fst.a4,a d.snd.fst.a5,h N d.snd.snd.fst,a d.snd.snd.snd.fst,f d.snd.snd.snd.snd.fst,f D.fst,f D.snd.fst,f D.snd.snd.fst,f D.snd.snd.snd.fst,f D.snd.snd.snd.snd.fst,f af.fst,f af.snd] 142 22 false).same (e (a E.a0::a E.a1::a E.a2::a E.a3::a E.a4::a E.a5::a F.a0::a F.a1::a F.a2::a F.a3::a F.a4::a F.a5::A) 142 22 false)/\w.same w/\y.same y/\True)/\b<=b/\b<=c)/\∀(x_1:Int),let L:=jQ o q x_1;let n:=iI d.fst o x_1;let ah:=bj aM x_1.toNat b;let B:=bj [n.a0,n.a1,n.a2,n.a3,n.a4,n.a5] x_1.toNat b - ah;let ai:=if x_1.toNat=0 then B else n.a0;let aj:=if x_1.toNat=1 then B else n.a1;let ak:=if x_1.toNat=2 then B else n.a2;let al:=if x_1.toNat=3 then B else n.a3;let am:=if x_1.toNat=4 then B else n.a4;let an:=if x_1.toNat=5 then B else n.a5;let O:=bj [ai,aj,ak,al,am,an] x_1.toNat b;let P:=decide (b<=O);let m:=x_1+(1:Int);let l:=iI d.snd.fst q x_1;let ao:=bj [l.a0,l.a1,l.a2,l.a3,l.a4,l.a5] x_1.toNat b;let C:=ao - ah;let ap:=if x_1.toNat=0 then C else l.a0;let aq:=if x_1.toNat=1 then C else l.a1;let ar:=if x_1.toNat=2 then C else l.a2;let au:=if x_1.toNat=3 then C else l.a3;let av:=if x_1.toNat=4 then C else l.a4;let aw:=if x_1.toNat=5 then C else l.a5;let H:=min (bj [ap,aq,ar,au,av,aw] x_1.toNat b) O;let Q:=if x_1.toNat=0 then H else ap;let R:=if x_1.toNat=1 then H else aq;let S:=if x_1.toNat=2 then H else ar;let T:=if x_1.toNat=3 then H else au;let U:=if x_1.toNat=4 then H else av;let V:=if x_1.toNat=5 then H else aw;let M:=f (jQ o q m);let z:=a m;let W:=a ai;let X:=a aj;let Y:=a ak;let Z:=a al;let a6:=a am;let a7:=a an;let I:=iI d.fst o m;let J:=iI d.snd.fst q m;let a8:=e (a I.a0::a I.a1::a I.a2::a I.a3::a I.a4::a I.a5::a J.a0::a J.a1::a J.a2::a J.a3::a J.a4::a J.a5::A) 142 22 false;let K:=min ao O;let ax:=if x_1.toNat=0 then K else l.a0;let ay:=if x_1.toNat=1 then K else l.a1;let az:=if x_1.toNat=2 then K else l.a2;let aA:=if x_1.toNat=3 then K else l.a3;let aB:=if x_1.toNat=4 then K else l.a4;let aC:=if x_1.toNat=5 then K else l.a5;let aD:=decide (x_1<c);let aE:=bj aN x_1.toNat b;let aF:=decide (aE=b);let aG:=decide (aE≠bj p.classes x.bX.toNat b);let aO:=let aH:=g m/\((r.same r/\s.same s/\t.same t/\(j).same M/\v.same v/\z.same z/\True)/\(e (W::X::Y::Z::a6::a7::a Q::a R::a S::a T::a U::a V::A) 142 22 false).same a8/\w.same w/\y.same y/\True)/\(b<=m/\m<=c)/\(c - m).toNat<(c - x_1).toNat;x_1.toNat<6/\b<=x_1/\x_1<c/\x_1.toNat<6/\b<=x_1/\x_1<c/\x_1.toNat<6/\(L=true->b<=x_1/\x_1<c/\x_1.toNat<6/\(P=true->b<=x_1/\x_1<c/\x_1.toNat<6/\g m/\((r.same r/\s.same s/\t.same t/\(f (decide (b<=bj [Q,R,S,T,U,V] x_1.toNat b))).same M/\v.same v/\z.same z/\True)/\(e (W::X::Y::Z::a6::a7::a Q::a R::a S::a T::a U::a V::A) 142 22 false).same a8/\w.same w/\y.same y/\True)/\(b<=m/\m<=c)/\(c - m).toNat<(c - x_1).toNat)/\(P=false->aH))/\(L=false->aH);let aI:=(e (W::X::Y::Z::a6::a7::a ax::a ay::a az::a aA::a aB::a aC::A) 142 22 false).same a8;let aJ:=b<=x_1/\x_1<c/\x_1.toNat<6/\g C/\b<=x_1/\x_1<c/\x_1.toNat<6/\b<=x_1/\x_1<c/\aO;let aK:=g m/\((r.same r/\s.same s/\t.same t/\(j).same M/\v.same v/\z.same z/\True)/\aI/\w.same w/\y.same y/\True)/\(b<=m/\m<=c)/\(c - m).toNat<(c - x_1).toNat;let aL:=λ(u:Bool) ↦P=u;b<=x_1/\x_1<=c->(aD=true->b<=x_1/\x_1<c/\b<=x_1/\x_1<c/\x_1.toNat<6/\g B/\b<=x_1/\x_1<c/\x_1.toNat<6/\b<=x_1/\x_1<c/\x_1.toNat<6/\(aF=true->aJ)/\(aF=false->b<=x_1/\x_1<c/\x_1.toNat<6/\b<=x.bX/\x.bX<(↑p.classes.length:Int)/\x.bX.toNat<p.classes.length/\(aG=true->aJ)/\(aG=false->b<=x_1/\x_1<c/\x_1.toNat<6/\b<=x_1/\x_1<c/\x_1.toNat<6/\b<=x_1/\x_1<c/\x_1.toNat<6/\(L=true->b<=x_1/\x_1<c/\x_1.toNat<6/\(aL true->b<=x_1/\x_1<c/\x_1.toNat<6/\g m/\((r.same r/\s.same s/\t.same t/\(f (decide (b<=bj [ax,ay,az,aA,aB,aC] x_1.toNat b))).same M/\v.same v/\z.same z/\True)/\aI/\w.same w/\y.same y/\True)/\(b<=m/\m<=c)/\(c - m).toNat<(c - x_1).toNat)/\(aL false->aK))/\(L=false->aK))))/\(aD=false->(f L).same (f (o.pos&&q.pos))/\(e (a n.a0::a n.a1::a n.a2::a n.a3::a n.a4::a n.a5::a l.a0::a l.a1::a l.a2::a l.a3::a l.a4::a l.a5::A) 142 22 false).same (e (a o.a0::a o.a1::a o.a2::a o.a3::a o.a4::a o.a5::a q.a0::a q.a1::a q.a2::a q.a3::a q.a4::a q.a5::A) 142 22 false)/\True)) (by kernel_rfl) ?_
 simp only[vcs]
 refine⟨⟨⟨rfl,rfl⟩,by omega,by omega⟩,?_⟩
 rintro k ⟨k0,k6⟩
 simp only[show bj p.classes x.bX.toNat 0=lU p x from rfl]
 generalize hcl:lU p x=cl at*
 constructor
 ·intro hk
  rcases(show k=0\/k=1\/k=2\/k=3\/k=4\/k=5 by omega) with rfl|rfl|rfl|rfl|rfl|rfl
  ·have hb0:=hb 0 (by omega)
   have hw0:0<=x.want.a0/\x.want.a0<=4:=by have:=bB.ja.1 hw;omega
   have b1: -1000<=d.1.a0/\d.1.a0<=1000:=hb0.1
   have b2: -1000<=d.2.1.a0/\d.2.1.a0<=1000:=hb0.2
   have eo:(gC p (xP d) x).a0=min (d.2.1.a0 - nd p.cls.a0 x.want.a0 cl) (d.1.a0 - x.want.a0):=by rw[<-hcl];rfl
   generalize gC p (xP d) x=O at*
   by_cases h1:p.cls.a0=0
   ·simp[iI,bj,bB.sub,jQ,pk,eo,nd,h1,lg];grind
   ·by_cases h2:p.cls.a0=cl
    ·subst h2
     simp[iI,bj,bB.sub,jQ,pk,eo,nd,h1,lg];grind
    ·simp[iI,bj,bB.sub,jQ,pk,eo,nd,h1,h2,lg];grind
  ·have hb0:=hb 1 (by omega)
   have hw0:0<=x.want.a1/\x.want.a1<=4:=by have:=bB.ja.1 hw;omega
   have b1: -1000<=d.1.a1/\d.1.a1<=1000:=hb0.1
   have b2: -1000<=d.2.1.a1/\d.2.1.a1<=1000:=hb0.2
   have eo:(gC p (xP d) x).a1=min (d.2.1.a1 - nd p.cls.a1 x.want.a1 cl) (d.1.a1 - x.want.a1):=by rw[<-hcl];rfl
   generalize gC p (xP d) x=O at*
   by_cases h1:p.cls.a1=0
   ·simp[iI,bj,bB.sub,jQ,pk,eo,nd,h1,lg];grind
   ·by_cases h2:p.cls.a1=cl
    ·subst h2
     simp[iI,bj,bB.sub,jQ,pk,eo,nd,h1,lg];grind
    ·simp[iI,bj,bB.sub,jQ,pk,eo,nd,h1,h2,lg];grind
  ·have hb0:=hb 2 (by omega)
   have hw0:0<=x.want.a2/\x.want.a2<=4:=by have:=bB.ja.1 hw;omega
   have b1: -1000<=d.1.a2/\d.1.a2<=1000:=hb0.1
   have b2: -1000<=d.2.1.a2/\d.2.1.a2<=1000:=hb0.2
   have eo:(gC p (xP d) x).a2=min (d.2.1.a2 - nd p.cls.a2 x.want.a2 cl) (d.1.a2 - x.want.a2):=by rw[<-hcl];rfl
   generalize gC p (xP d) x=O at*
   by_cases h1:p.cls.a2=0
   ·simp[iI,bj,bB.sub,jQ,pk,eo,nd,h1,lg];grind
   ·by_cases h2:p.cls.a2=cl
    ·subst h2
     simp[iI,bj,bB.sub,jQ,pk,eo,nd,h1,lg];grind
    ·simp[iI,bj,bB.sub,jQ,pk,eo,nd,h1,h2,lg];grind
  ·have hb0:=hb 3 (by omega)
   have hw0:0<=x.want.a3/\x.want.a3<=4:=by have:=bB.ja.1 hw;omega
   have b1: -1000<=d.1.a3/\d.1.a3<=1000:=hb0.1
   have b2: -1000<=d.2.1.a3/\d.2.1.a3<=1000:=hb0.2
   have eo:(gC p (xP d) x).a3=min (d.2.1.a3 - nd p.cls.a3 x.want.a3 cl) (d.1.a3 - x.want.a3):=by rw[<-hcl];rfl
   generalize gC p (xP d) x=O at*
   by_cases h1:p.cls.a3=0
   ·simp[iI,bj,bB.sub,jQ,pk,eo,nd,h1,lg];grind
   ·by_cases h2:p.cls.a3=cl
    ·subst h2
     simp[iI,bj,bB.sub,jQ,pk,eo,nd,h1,lg];grind
    ·simp[iI,bj,bB.sub,jQ,pk,eo,nd,h1,h2,lg];grind
  ·have hb0:=hb 4 (by omega)
   have hw0:0<=x.want.a4/\x.want.a4<=4:=by have:=bB.ja.1 hw;omega
   have b1: -1000<=d.1.a4/\d.1.a4<=1000:=hb0.1
   have b2: -1000<=d.2.1.a4/\d.2.1.a4<=1000:=hb0.2
   have eo:(gC p (xP d) x).a4=min (d.2.1.a4 - nd p.cls.a4 x.want.a4 cl) (d.1.a4 - x.want.a4):=by rw[<-hcl];rfl
   generalize gC p (xP d) x=O at*
   by_cases h1:p.cls.a4=0
   ·simp[iI,bj,bB.sub,jQ,pk,eo,nd,h1,lg];grind
   ·by_cases h2:p.cls.a4=cl
    ·subst h2
     simp[iI,bj,bB.sub,jQ,pk,eo,nd,h1,lg];grind
    ·simp[iI,bj,bB.sub,jQ,pk,eo,nd,h1,h2,lg];grind
  ·have hb0:=hb 5 (by omega)
   have hw0:0<=x.want.a5/\x.want.a5<=4:=by have:=bB.ja.1 hw;omega
   have b1: -1000<=d.1.a5/\d.1.a5<=1000:=hb0.1
   have b2: -1000<=d.2.1.a5/\d.2.1.a5<=1000:=hb0.2
   have eo:(gC p (xP d) x).a5=min (d.2.1.a5 - nd p.cls.a5 x.want.a5 cl) (d.1.a5 - x.want.a5):=by rw[<-hcl];rfl
   generalize gC p (xP d) x=O at*
   by_cases h1:p.cls.a5=0
   ·simp[iI,bj,bB.sub,jQ,pk,eo,nd,h1,lg];grind
   ·by_cases h2:p.cls.a5=cl
    ·subst h2
     simp[iI,bj,bB.sub,jQ,pk,eo,nd,h1,lg];grind
    ·simp[iI,bj,bB.sub,jQ,pk,eo,nd,h1,h2,lg];grind
 ·intro hk
  have:k=6:=by omega
  subst this
  simp[iI,bB.sub,jQ,pk,bB.pos,Bool.and_assoc]
  exact⟨by ac_rfl,rfl⟩
noncomputable def Vf (L:List bM) (W:np) (a:Nat->Option (Nat×Nat×Nat)):i6:=⟨⟨vI L,W.C⟩,rk,rl,a,jJ,λ_=>false⟩
theorem afO {L:List bM} {W:np} (e:Nat->Option (Nat×Nat×Nat)) (c:bM) (F:fy) (g:c.α->Nat->cE) (i:qw Tryz.prog W) (k:∀c∈L,Holds Tryz.prog c)
  
  (h:∀a,c.dom a->Vc (t7 (Vf L W e) (g a) F (c.A.put a) λv=>v.sy (c.res a))) (l:jJ c.f=some F:=by kernel_rfl) (d:pK c.f L=none:=by kernel_rfl) (b:∀a,(c.A.put a).length=F.params:=by intro _;kernel_rfl):Holds Tryz.prog c:=
 λa j=>Hr (p:=Vf L W e) (Λ:=g a) (vJ i k sE) (vK i) (λ_ _ h=>h) l (Hu d) (b a) (λ_ h=>zR h) (h a j).out
def pW (p:bn) (u:jz) (i:Int):jz:=if ji p u (oI p i)=true then fe p u i else zX
def Bq (u:jz):Prop:=(∀k,k<6->(-1000<=u.left.at k/\u.left.at k<=1000)/\(-1000<=u.opn.at k/\u.opn.at k<=1000))/\(0<=u.value/\u.value<=160000000)/\u.chosen.length<=1000
def E4:bM:=⟨79,yX×bn×Int,.cons (eh rU) (.cons dK (.one (eZ .i64))),λa=>bz a.2.1=0/\Bq (xP a.1)/\0<=a.2.2/\a.2.2<a.2.1.offers.length,
 λa=> .bI [.agg (encS rU (fP (pW a.2.1 (xP a.1) a.2.2))),.sb (ji a.2.1 (xP a.1) (oI a.2.1 a.2.2))]⟩
def afP (n:Nat):Option (Nat×Nat×Nat):=if n=2 then some (3,0,8) else none
theorem h443:Holds Tryz.prog E4:=by
 refine afO (L:=[]) (W:=gK [LO]) afP E4 (fG 79) lk (kZ (by simpa using h450)) (by simp) ?_
 rintro⟨⟨l,o,c,v,w0,w1,w2,w3,w4,w5,w6,w7⟩,p,i⟩ ⟨hc,hd,i0,i1⟩
 simp only at hc hd i0 i1
 refine bO (let a:=γh .i64;let b:=γv;let d:=(-1000:Int);let e:=(1000:Int);let f:=γM;let g:=SV.bI;let h:=(0:Int);let j:=δc true;let m:=cq .i64;let n:=(1:Int);let q:=(2:Int);let r:=(3:Int);let s:=(4:Int);let t:=(5:Int);let u:=(6:Int);let w:=(7:Int);let x:=Ψ;let L:=γx .i64 0;let ac:=bp.i .i64;let P:=x ac [];let Q:=δc false;let M:=xP (l,o,c,v,w0,w1,w2,w3,w4,w5,w6,w7);let aa:=(fP (pW p M i)).fst;let N:=(fP (pW p M i)).snd;let ab:=N.snd.snd.snd.snd.snd;let y:=g [f [a aa.a0,a aa.a1,a aa.a2,a aa.a3,a aa.a4,a aa.a5,a N.fst.a0,a N.fst.a1,a N.fst.a2,a N.fst.a3,a N.fst.a4,a N.fst.a5,x ac N.snd.fst,a N.snd.snd.fst,b N.snd.snd.snd.fst,b N.snd.snd.snd.snd.fst,b ab.fst,b ab.snd.fst,b ab.snd.snd.fst,b ab.snd.snd.snd.fst,b ab.snd.snd.snd.snd.fst,b ab.snd.snd.snd.snd.snd],b (ji p M (oI p i))];let ad:=bj p.offers i.toNat bp.off.dflt;let O:=ad.bX;let G:=ad.want;let R:=(↑p.classes.length:Int);let a9:=l.sub G;let I:=a9.pos;let H:=ad.value;let S:=gC p M (Off.mk h G H);let A:=a a9.a0;let B:=a a9.a1;let C:=a a9.a2;let D:=a a9.a3;let E:=a a9.a4;let F:=a a9.a5;let ae:=a S.a0;let af:=a S.a1;let ag:=a S.a2;let ah:=a S.a3;let ai:=a S.a4;let aj:=a S.a5;let T:=a (v+H);let ak:=[b w6,b w7];let al:=b w4::b w5::ak;let bc:=b w2::b w3::al;let am:=T::j::b w1::bc;let z:=[j];let U:=x ac [i];let J:=c.length+1;let V:=x ac (c++[i]);let W:=gC p M (Off.mk n G H);let an:=a W.a0;let ao:=a W.a1;let ap:=a W.a2;let aq:=a W.a3;let ar:=a W.a4;let au:=a W.a5;let av:=T::b w0::j::bc;let X:=gC p M (Off.mk q G H);let aw:=a X.a0;let ax:=a X.a1;let ay:=a X.a2;let az:=a X.a3;let aA:=a X.a4;let aB:=a X.a5;let aC:=T::b w0::b w1::j::b w3::al;let Y:=gC p M (Off.mk r G H);let aD:=a Y.a0;let aE:=a Y.a1;let aF:=a Y.a2;let aG:=a Y.a3;let aH:=a Y.a4;let aI:=a Y.a5;let aJ:=T::b w0::b w1::b w2::j::al;let Z:=gC p M (Off.mk s G H);let aK:=a Z.a0;let aL:=a Z.a1;let aM:=a Z.a2;let aN:=a Z.a3;let aO:=a Z.a4;let aP:=a Z.a5;let aQ:=T::b w0::b w1::b w2::b w3::j::b w5::ak;let a6:=gC p M (Off.mk t G H);let aR:=a a6.a0;let aS:=a a6.a1;let aT:=a a6.a2;let aU:=a a6.a3;let aV:=a a6.a4;let aW:=a a6.a5;let aX:=T::b w0::b w1::b w2::b w3::b w4::j::ak;let a7:=gC p M (Off.mk u G H);let aY:=a a7.a0;let aZ:=a a7.a1;let b0:=a a7.a2;let b1:=a a7.a3;let b2:=a a7.a4;let b3:=a a7.a5;let b4:=[T,b w0,b w1,b w2,b w3,b w4,b w5,j,b w7];let a8:=gC p M (Off.mk w G H);let b5:=a a8.a0;let b6:=a a8.a1;let b7:=a a8.a2;let b8:=a a8.a3;let b9:=a a8.a4;let ba:=a a8.a5;let bb:=T::b w0::b w1::b w2::b w3::b w4::b w5::b w6::z;let K:=(g [f [L,L,L,L,L,L,L,L,L,L,L,L,P,L,Q,Q,Q,Q,Q,Q,Q,Q],Q]).same y;h<=i/\i<(↑p.offers.length:Int)/\i.toNat<p.offers.length/\(O=h->(w0=true->K)/\(w0=false->(((∀(k:Nat),k<6->(d<=l.at k/\l.at k<=e)/\d<=o.at k/\o.at k<=e)/\G.ok=true)/\h<=h/\h<R)/\((!(I&&S.pos))=true->K)/\((!(I&&S.pos))=false->m (v+H)/\(c.length=0->(1=0->(g (f (A::B::C::D::E::F::ae::af::ag::ah::ai::aj::P::am)::z)).same y)/\(1≠0->8<=140737488355328/\1<=1000000000000/\1=1/\(g (f (A::B::C::D::E::F::ae::af::ag::ah::ai::aj::U::am)::z)).same y))/\(c.length≠0->c.length*8<=140737488355328/\c.length<=1000000000000/\c.length=c.length/\J*8<=140737488355328/\J<=1000000000000/\(c++[i]).length=(c++[i]).length/\(g (f (A::B::C::D::E::F::ae::af::ag::ah::ai::aj::V::am)::z)).same y))))/\(O=n->(w1=true->K)/\(w1=false->(((∀(k:Nat),k<6->(d<=l.at k/\l.at k<=e)/\d<=o.at k/\o.at k<=e)/\G.ok=true)/\h<=n/\n<R)/\((!(I&&W.pos))=true->K)/\((!(I&&W.pos))=false->m (v+H)/\(c.length=0->(1=0->(g (f (A::B::C::D::E::F::an::ao::ap::aq::ar::au::P::av)::z)).same y)/\(1≠0->8<=140737488355328/\1<=1000000000000/\1=1/\(g (f (A::B::C::D::E::F::an::ao::ap::aq::ar::au::U::av)::z)).same y))/\(c.length≠0->c.length*8<=140737488355328/\c.length<=1000000000000/\c.length=c.length/\J*8<=140737488355328/\J<=1000000000000/\(c++[i]).length=(c++[i]).length/\(g (f (A::B::C::D::E::F::an::ao::ap::aq::ar::au::V::av)::z)).same y))))/\(O=q->(w2=true->K)/\(w2=false->(((∀(k:Nat),k<6->(d<=l.at k/\l.at k<=e)/\d<=o.at k/\o.at k<=e)/\G.ok=true)/\h<=q/\q<R)/\((!(I&&X.pos))=true->K)/\((!(I&&X.pos))=false->m (v+H)/\(c.length=0->(1=0->(g (f (A::B::C::D::E::F::aw::ax::ay::az::aA::aB::P::aC)::z)).same y)/\(1≠0->8<=140737488355328/\1<=1000000000000/\1=1/\(g (f (A::B::C::D::E::F::aw::ax::ay::az::aA::aB::U::aC)::z)).same y))/\(c.length≠0->c.length*8<=140737488355328/\c.length<=1000000000000/\c.length=c.length/\J*8<=140737488355328/\J<=1000000000000/\(c++[i]).length=(c++[i]).length/\(g (f (A::B::C::D::E::F::aw::ax::ay::az::aA::aB::V::aC)::z)).same y))))/\(O=r->(w3=true->K)/\(w3=false->(((∀(k:Nat),k<6->(d<=l.at k/\l.at k<=e)/\d<=o.at k/\o.at k<=e)/\G.ok=true)/\h<=r/\r<R)/\((!(I&&Y.pos))=true->K)/\((!(I&&Y.pos))=false->m (v+H)/\(c.length=0->(1=0->(g (f (A::B::C::D::E::F::aD::aE::aF::aG::aH::aI::P::aJ)::z)).same y)/\(1≠0->8<=140737488355328/\1<=1000000000000/\1=1/\(g (f (A::B::C::D::E::F::aD::aE::aF::aG::aH::aI::U::aJ)::z)).same y))/\(c.length≠0->c.length*8<=140737488355328/\c.length<=1000000000000/\c.length=c.length/\J*8<=140737488355328/\J<=1000000000000/\(c++[i]).length=(c++[i]).length/\(g (f (A::B::C::D::E::F::aD::aE::aF::aG::aH::aI::V::aJ)::z)).same y))))/\(O=s->(w4=true->K)/\(w4=false->(((∀(k:Nat),k<6->(d<=l.at k/\l.at k<=e)/\d<=o.at k/\o.at k<=e)/\G.ok=true)/\h<=s/\s<R)/\((!(I&&Z.pos))=true->K)/\((!(I&&Z.pos))=false->m (v+H)/\(c.length=0->(1=0->(g (f (A::B::C::D::E::F::aK::aL::aM::aN::aO::aP::P::aQ)::z)).same y)/\(1≠0->8<=140737488355328/\1<=1000000000000/\1=1/\(g (f (A::B::C::D::E::F::aK::aL::aM::aN::aO::aP::U::aQ)::z)).same y))/\(c.length≠0->c.length*8<=140737488355328/\c.length<=1000000000000/\c.length=c.length/\J*8<=140737488355328/\J<=1000000000000/\(c++[i]).length=(c++[i]).length/\(g (f (A::B::C::D::E::F::aK::aL::aM::aN::aO::aP::V::aQ)::z)).same y))))/\(O=t->(w5=true->K)/\(w5=false->(((∀(k:Nat),k<6->(d<=l.at k/\l.at k<=e)/\d<=o.at k/\o.at k<=e)/\G.ok=true)/\h<=t/\t<R)/\((!(I&&a6.pos))=true->K)/\((!(I&&a6.pos))=false->m (v+H)/\(c.length=0->(1=0->(g (f (A::B::C::D::E::F::aR::aS::aT::aU::aV::aW::P::aX)::z)).same y)/\(1≠0->8<=140737488355328/\1<=1000000000000/\1=1/\(g (f (A::B::C::D::E::F::aR::aS::aT::aU::aV::aW::U::aX)::z)).same y))/\(c.length≠0->c.length*8<=140737488355328/\c.length<=1000000000000/\c.length=c.length/\J*8<=140737488355328/\J<=1000000000000/\(c++[i]).length=(c++[i]).length/\(g (f (A::B::C::D::E::F::aR::aS::aT::aU::aV::aW::V::aX)::z)).same y))))/\(O=u->(w6=true->K)/\(w6=false->(((∀(k:Nat),k<6->(d<=l.at k/\l.at k<=e)/\d<=o.at k/\o.at k<=e)/\G.ok=true)/\h<=u/\u<R)/\((!(I&&a7.pos))=true->K)/\((!(I&&a7.pos))=false->m (v+H)/\(c.length=0->(1=0->(g (f (A::B::C::D::E::F::aY::aZ::b0::b1::b2::b3::P::b4)::z)).same y)/\(1≠0->8<=140737488355328/\1<=1000000000000/\1=1/\(g (f (A::B::C::D::E::F::aY::aZ::b0::b1::b2::b3::U::b4)::z)).same y))/\(c.length≠0->c.length*8<=140737488355328/\c.length<=1000000000000/\c.length=c.length/\J*8<=140737488355328/\J<=1000000000000/\(c++[i]).length=(c++[i]).length/\(g (f (A::B::C::D::E::F::aY::aZ::b0::b1::b2::b3::V::b4)::z)).same y))))/\(O=w->(w7=true->K)/\(w7=false->(((∀(k:Nat),k<6->(d<=l.at k/\l.at k<=e)/\d<=o.at k/\o.at k<=e)/\G.ok=true)/\h<=w/\w<R)/\((!(I&&a8.pos))=true->K)/\((!(I&&a8.pos))=false->m (v+H)/\(c.length=0->(1=0->(g (f (A::B::C::D::E::F::b5::b6::b7::b8::b9::ba::P::bb)::z)).same y)/\(1≠0->8<=140737488355328/\1<=1000000000000/\1=1/\(g (f (A::B::C::D::E::F::b5::b6::b7::b8::b9::ba::U::bb)::z)).same y))/\(c.length≠0->c.length*8<=140737488355328/\c.length<=1000000000000/\c.length=c.length/\J*8<=140737488355328/\J<=1000000000000/\(c++[i]).length=(c++[i]).length/\(g (f (A::B::C::D::E::F::b5::b6::b7::b8::b9::ba::V::bb)::z)).same y))))/\h<=O/\O<(8:Int)) (by kernel_rfl) ?_
 simp only[vcs]
 have hg:=(dQ hc).2.2.2.2 (oI p i) (dr (by omega))
 have hc8:=(dQ hc).1
 obtain⟨h1,h2,h3⟩:=hd
 have h1':∀k,k<6->(-1000<=l.at k/\l.at k<=1000)/\(-1000<=o.at k/\o.at k<=1000):=h1
 have h2':0<=v/\v<=160000000:=h2
 have h3':c.length<=1000:=h3
 refine⟨i0,i1,by omega,?_⟩
 have eo:bj p.offers i.toNat bp.off.dflt=oI p i:=rfl
 simp only[eo]
 generalize hr:fP (pW p (xP (l,o,c,v,w0,w1,w2,w3,w4,w5,w6,w7)) i)=r
 simp only[pW,fe] at hr
 generalize hW:ji p (xP (l,o,c,v,w0,w1,w2,w3,w4,w5,w6,w7)) (oI p i)=W at*
 simp only[ji] at hW
 generalize oI p i=x at*
 obtain⟨b,w,y⟩:=x
 simp only at hg hW hr ⊢
 refine⟨?_,?_,?_,?_,?_,?_,?_,?_,?_⟩
 case refine_9=>
  exact⟨hg.1,by omega⟩
 all_goals
  rintro rfl
  refine⟨λhw=>?_,λhw=>⟨⟨⟨h1',hg.2.2.1⟩,by omega,by omega⟩,λhq=>?_,λhq=>⟨by omega,λhl=>⟨λh=>absurd h (by decide),λ_=>⟨by omega,by omega,?_⟩⟩,λhl=>⟨by omega,by omega,by omega,by omega,?_⟩⟩⟩⟩
  all_goals subst hw
  ·have e:W=false:=hW.symm
   subst e;subst hr
   exact⟨rfl,rfl⟩
  ·have e:W=false:=hW.symm.trans hq
   subst e;subst hr
   exact⟨rfl,rfl⟩
  ·have e:W=true:=hW.symm.trans (by simp only[θ];exact⟨rfl,hq⟩)
   subst e;subst hr
   have:=List.eq_nil_of_length_eq_zero hl
   subst this
   exact⟨rfl,rfl⟩
  ·have e:W=true:=hW.symm.trans (by simp only[θ];exact⟨rfl,hq⟩)
   subst e;subst hr
   exact⟨rfl,rfl⟩
def LP:bM:=⟨81,yX×bn×Int,.cons (eh rU) (.cons dK (.one (eZ .i64))),λa=>bz a.2.1=0/\Bq (xP a.1)/\0<=a.2.2/\a.2.2<=a.2.1.offers.length,
 λa=> .agg (gR a.2.1 (xP a.1) a.2.2.toNat).ss⟩
def px (p:bn) (u:jz) (i k:Nat):List Off:=((p.offers.take k).drop i).filter (ji p u)
theorem afQ {p:bn} {u:jz} {i:Nat}:px p u i i=[]:=by
 grind[px]
theorem afR {p:bn} {u:jz} {i k:Nat} (b:i<=k) (a:k<p.offers.length):px p u i (k+1)=px p u i k++if ji p u (oI p k)=true then[oI p k] else[]:=by
 unfold px
 have e:oI p k=p.offers[k]:=cY (by omega)
 rw[List.take_succ_eq_append_getElem a,List.drop_append_of_le_length (by grind),List.filter_append,e]
 grind
theorem afS {p:bn} {u:jz} {i k:Nat}:(px p u i k).length<=p.offers.length:=by
 grind[px]
def afT (l o:bB) (c:List Int) (v:Int) (w0 w1 w2 w3 w4 w5 w6 w7:Bool) (p:bn) (i:Int):Nat->cE
 |3=> .inv Int (λk=>⟨[(3,.ptr 0 0 22),(4,.ptr 1 0 20),(6,.ptr 2 0 20),(7,.ptr 3 0 20),(8,.si .i64 k)],
   [.cells (encS rU (l,o,c,v,w0,w1,w2,w3,w4,w5,w6,w7)) 142 22 false,.cells p.ss 27 20 false,
    .cells [.il .i64 0,.il .i64 0,.il .i64 0,.il .i64 0,.il .i64 0,.il .i64 0,.il .i64 0,.il .i64 0,.il .i64 0,.il .i64 0,.il .i64 0,.il .i64 0,.il .i64 0,.il .i64 0,.il .i64 0,.il .i64 0,.il .i64 0,.il .i64 0,.sc (.slice none 0 0),.sc (.slice none 0 0)] 27 20 false,
    .cells [.si .i64 l.a0,.si .i64 l.a1,.si .i64 l.a2,.si .i64 l.a3,.si .i64 l.a4,.si .i64 l.a5,.si .i64 o.a0,.si .i64 o.a1,.si .i64 o.a2,.si .i64 o.a3,.si .i64 o.a4,.si .i64 o.a5,
     .si .i64 p.cls.a0,.si .i64 p.cls.a1,.si .i64 p.cls.a2,.si .i64 p.cls.a3,.si .i64 p.cls.a4,.si .i64 p.cls.a5,.row (.i .i64) p.classes,.ow 4 (px p (xP (l,o,c,v,w0,w1,w2,w3,w4,w5,w6,w7)) i.toNat k.toNat).length 8] 27 20 false,
    .row .off (px p (xP (l,o,c,v,w0,w1,w2,w3,w4,w5,w6,w7)) i.toNat k.toNat) 65 true]⟩)
   (λs=>iS s 8) (λk=>i<=k/\k<=p.offers.length) (λk=>(p.offers.length - k).toNat) λ_ _=> .look
 |_=> .look
theorem h444:Holds Tryz.prog LP:=by
 refine cF (L:=[E4]) LP (λa=>afT a.1.1 a.1.2.1 a.1.2.2.1 a.1.2.2.2.1 a.1.2.2.2.2.1 a.1.2.2.2.2.2.1 a.1.2.2.2.2.2.2.1 a.1.2.2.2.2.2.2.2.1 a.1.2.2.2.2.2.2.2.2.1 a.1.2.2.2.2.2.2.2.2.2.1 a.1.2.2.2.2.2.2.2.2.2.2.1 a.1.2.2.2.2.2.2.2.2.2.2.2 a.2.1 a.2.2) (by simpa using h443) ?_
 rintro⟨⟨l,o,c,v,w0,w1,w2,w3,w4,w5,w6,w7⟩,p,i⟩ ⟨hc,hd,i0,i1⟩
 simp only at hc hd i0 i1
 refine bO (let a:=γh .i64;let b:=bq.cells;let d:=bq.row;let e:=γv;let f:=Ψ;let g:=γO;let h:=(0:Int);let j:=SV.ow;let y:=a p.cls.a0;let z:=a p.cls.a1;let A:=a p.cls.a2;let B:=a p.cls.a3;let C:=a p.cls.a4;let D:=a p.cls.a5;let Z:=bp.i .i64;let E:=f Z p.classes;let G:=g 0 0 22;let H:=g 1 0 20;let I:=g 2 0 20;let J:=g 3 0 20;let K:=a l.a0;let L:=a l.a1;let M:=a l.a2;let N:=a l.a3;let O:=a l.a4;let P:=a l.a5;let Q:=a o.a0;let R:=a o.a1;let S:=a o.a2;let T:=a o.a3;let U:=a o.a4;let V:=a o.a5;let W:=b [K,L,M,N,O,P,Q,R,S,T,U,V,f Z c,a v,e w0,e w1,e w2,e w3,e w4,e w5,e w6,e w7] 142 22 false;let X:=f bp.off p.offers;let k:=γx .i64 0;let a8:=SV.sc (Value.slice none 0 0);let Y:=b [k,k,k,k,k,k,k,k,k,k,k,k,k,k,k,k,k,k,a8,a8] 27 20 false;let n:=xP (l,o,c,v,w0,w1,w2,w3,w4,w5,w6,w7);let a9:=px p n i.toNat i.toNat;let q:=(↑p.offers.length:Int);let a6:=(↑p.offers.length:Int);let F:=gR p n i.toNat;let r:=F.supply;let s:=F.opn;let t:=F.cls;let a7:=λ(u u_1:bB) (u_2 u_3:SV) ↦let aa:=a u.a0;let ab:=a u.a1;let ac:=a u.a2;let ad:=a u.a3;let ae:=a u.a4;let af:=a u.a5;let ag:=a u_1.a0;let ah:=a u_1.a1;let ai:=a u_1.a2;let aj:=a u_1.a3;let ak:=a u_1.a4;let al:=a u_1.a5;(b [aa,ab,ac,ad,ae,af,ag,ah,ai,aj,ak,al,y,z,A,B,C,D,E,u_2] 27 20 false).same (b [aa,ab,ac,ad,ae,af,ag,ah,ai,aj,ak,al,y,z,A,B,C,D,E,u_3] 27 20 false);(((G.same G/\H.same H/\I.same I/\J.same J/\(a i).same (a i)/\True)/\W.same W/\a7 p.supply p.opn X X/\Y.same Y/\a7 l o (j 4 0 8) (j 4 a9.length 8)/\(d bp.off [] 65 true).same (d bp.off a9 65 true)/\True)/\i<=i/\i<=q)/\∀(x:Int),let w:=x+(1:Int);let am:=a w;let an:=px p n i.toNat w.toNat;let ao:=ji p n (oI p x);let m:=px p n i.toNat x.toNat;let ap:=m.length+1;let aq:=m++[bj p.offers x.toNat bp.off.dflt];let ar:=λ(u:Nat) (u_1:bq) ↦cq .i64 w/\((G.same G/\H.same H/\I.same I/\J.same J/\am.same am/\True)/\W.same W/\a7 p.supply p.opn X X/\Y.same Y/\(b [K,L,M,N,O,P,Q,R,S,T,U,V,y,z,A,B,C,D,E,j 4 u 8] 27 20 false).same (b [K,L,M,N,O,P,Q,R,S,T,U,V,y,z,A,B,C,D,E,j 4 an.length 8] 27 20 false)/\u_1.same (d bp.off an 65 true)/\True)/\(i<=w/\w<=q)/\(q - w).toNat<(q - x).toNat;i<=x/\x<=q->(decide (x<a6)=true->(bz p=h/\Bq n/\h<=x/\x<q)/\(ao=true->h<=x/\x<a6/\x.toNat<p.offers.length/\1=1/\m.length=m.length/\ap*64<=140737488355328/\ap<=1000000000000/\ar aq.length (d bp.off aq 65 true))/\(ao=false->ar m.length (d bp.off m 65 true)))/\(decide (x<a6)=false->m.length=m.length/\(γM [K,L,M,N,O,P,Q,R,S,T,U,V,y,z,A,B,C,D,E,f bp.off m]).same (γM [a r.a0,a r.a1,a r.a2,a r.a3,a r.a4,a r.a5,a s.a0,a s.a1,a s.a2,a s.a3,a s.a4,a s.a5,a t.a0,a t.a1,a t.a2,a t.a3,a t.a4,a t.a5,f Z F.classes,f bp.off F.offers]))) (by kernel_rfl) ?_
 simp only[vcs]
 have hl:p.offers.length<=160:=(dQ hc).2.1
 generalize hu:xP (l,o,c,v,w0,w1,w2,w3,w4,w5,w6,w7)=u at*
 have e0:=@afQ p u i.toNat
 refine⟨⟨⟨by rw[e0];rfl,by rw[e0];rfl⟩,by omega,by omega⟩,?_⟩
 rintro k ⟨k0,k1⟩
 have hlen:=@afS p u i.toNat k.toNat
 refine⟨λhk=>?_,λhk=>?_⟩
 ·have eS:=@afR p u i.toNat k.toNat (by omega) (by omega)
  rw[show((k.toNat:Nat):Int)=k by omega] at eS
  have eo:bj p.offers k.toNat bp.off.dflt=oI p k:=rfl
  rw[show(k+1).toNat=k.toNat+1 by omega,eS,eo]
  refine⟨⟨hc,hd,by omega,by omega⟩,λhw=>?_,λhw=>?_⟩
  ·rw[if_pos hw]
   refine⟨?_,?_,?_,?_,?_,?_,⟨rfl,rfl⟩,?_,?_⟩<;>omega
  ·rw[if_neg (by rw[hw];simp),List.append_nil]
   refine⟨?_,⟨rfl,rfl⟩,?_,?_⟩<;>omega
 ·rw[show k.toNat=p.offers.length by omega]
  subst hu;unfold px;rw[List.take_length];rfl
noncomputable def LQ:bM:=⟨56,bn×Int,.cons dK (.one (eZ .i64)),λa=>(bz a.1=0/\a.1.offers.length<=15)/\a.2=(cz a.1).value,
 λa=> .bI [.row (.i .i64) (cz a.1).chosen,.si .i64 0]⟩
noncomputable def afU (p:bn) (m:Int):Nat->cE
 |3=> .inv Int (λk=>⟨[(1,.si .i64 m),(2,.ptr 0 0 20),(6,.ptr 1 0 22),(21,.si .i64 p.offers.length),(22,.si .i64 k)],
   [.cells p.ss 27 20 false,.cells (encS rU (fP (j7 p m k.toNat))) 142 22 false,.dead]⟩)
   (λs=>iS s 22) (λk=>0<=k/\k<=p.offers.length) (λk=>(p.offers.length - k).toNat) λ_ _=> .look
 |_=> .look
theorem afV {b a:Type} (x:b×a):(x.1,x.2)=x:=rfl
theorem Vg {p:bn} {m:Int} {k:Nat} (h:(j7 p m k).value=m):∀n,j7 p m (k+n)=j7 p m k
 |0=>rfl
 |n+1=>by
  have a:=Vg h n
  simp_all[qM,j7]
theorem afW {p:bn} {u:jz} {i:Int} (h:u.won.length=8):(pW p u i).won.length=8:=by
 unfold pW;split
 ·show(u.won.set _ true).length=8
  simp_all
 ·rfl
theorem Vh {p:bn} {u:jz} (e:bz p=0) (d:rL p u):Bq u:=by
 have g:=EX e d (k:=0)
 have j:=yQ.1 (vO (vP g).1).1
 have i:∀k,k<6->0<=u.opn.at k/\u.opn.at k<=u.left.at k:=λk c=>⟨(wE g c).2.2.1,(wE g c).2.2.2.1⟩
 have h:=(yI e).2 d.f
 obtain⟨m,q,n⟩:=uN e h
 have o:u.value=ei p u.chosen:=by rw[d.v,KA e d.f]
 refine⟨λk c=>?_,by omega,by omega⟩
 have a:=j k c
 have b:=i k c
 have l:0<=u.left.at k/\u.left.at k<=4:=a
 omega
theorem h436:Holds Tryz.prog LQ:=by
 refine cF (L:=[E4,LP,LN]) LQ (λa=>afU a.1 a.2) (by simpa using⟨h443,h444,h434⟩) ?_
 rintro⟨p,m⟩ ⟨⟨hc,h15⟩,hm⟩
 simp only at hc h15 hm
 refine bO (let a:=γh .i64;let b:=γv;let c:=(0:Int);let d:=bq.cells;let e:=Ψ;let f:=cq .i64;let g:=(65536:Int);let h:=SV.bI;let A:=γO 0 0 20;let B:=γO 1 0 22;let k:=(↑p.offers.length:Int);let M:=a k;let Q:=γx .i64 0;let U:=a 0;let V:=a p.supply.a0;let W:=a p.supply.a1;let X:=a p.supply.a2;let Y:=a p.supply.a3;let Z:=a p.supply.a4;let a6:=a p.supply.a5;let a7:=a p.opn.a0;let a8:=a p.opn.a1;let a9:=a p.opn.a2;let aa:=a p.opn.a3;let ab:=a p.opn.a4;let ac:=a p.opn.a5;let o:=bp.i .i64;let C:=d [V,W,X,Y,Z,a6,a7,a8,a9,aa,ab,ac,a p.cls.a0,a p.cls.a1,a p.cls.a2,a p.cls.a3,a p.cls.a4,a p.cls.a5,e o p.classes,e bp.off p.offers] 27 20 false;let q:=δc false;let D:=fP (j7 p m 0);let E:=D.fst;let F:=D.snd.fst;let G:=D.snd.snd.snd.snd.snd;let ad:=G.snd.snd.snd.snd.snd;let ae:=h [e o (cz p).chosen,U];0=0/\((((a m).same (a m)/\A.same A/\B.same B/\(a (↑p.offers.length:Int)).same M/\Q.same U/\True)/\C.same C/\(d [V,W,X,Y,Z,a6,a7,a8,a9,aa,ab,ac,e o [],Q,q,q,q,q,q,q,q,q] 142 22 false).same (d [a E.a0,a E.a1,a E.a2,a E.a3,a E.a4,a E.a5,a F.a0,a F.a1,a F.a2,a F.a3,a F.a4,a F.a5,e o D.snd.snd.fst,a D.snd.snd.snd.fst,b D.snd.snd.snd.snd.fst,b G.fst,b G.snd.fst,b G.snd.snd.fst,b G.snd.snd.snd.fst,b G.snd.snd.snd.snd.fst,b ad.fst,b ad.snd] 142 22 false)/\bq.dead.same bq.dead/\True)/\c<=c/\c<=k)/\∀(x:Int),let j:=x+(1:Int);let N:=a j;let s:=fP (j7 p m x.toNat);let t:=s.fst;let v:=s.snd.fst;let af:=e o s.snd.snd.fst;let R:=s.snd.snd.snd.fst;let ag:=s.snd.snd.snd.snd.fst;let l:=s.snd.snd.snd.snd.snd;let ah:=l.snd.snd.snd.snd.fst;let O:=l.snd.snd.snd.snd.snd;let H:=fP (j7 p m j.toNat);let I:=H.fst;let J:=H.snd.fst;let K:=H.snd.snd.snd.snd.snd;let ai:=K.snd.snd.snd.snd.snd;let aj:=d [a I.a0,a I.a1,a I.a2,a I.a3,a I.a4,a I.a5,a J.a0,a J.a1,a J.a2,a J.a3,a J.a4,a J.a5,e o H.snd.snd.fst,a H.snd.snd.snd.fst,b H.snd.snd.snd.snd.fst,b K.fst,b K.snd.fst,b K.snd.snd.fst,b K.snd.snd.snd.fst,b K.snd.snd.snd.snd.fst,b ai.fst,b ai.snd] 142 22 false;let P:=xP (t,v,s.snd.snd.fst,R,ag,l.fst,l.snd.fst,l.snd.snd.fst,l.snd.snd.snd.fst,ah,O.fst,O.snd);let w:=(fP (pW p P x)).fst;let r:=(fP (pW p P x)).snd;let y:=r.fst;let z:=r.snd.snd.fst;let ak:=r.snd.snd.snd.snd.fst;let n:=r.snd.snd.snd.snd.snd;let al:=n.snd.snd.snd.snd.fst;let am:=n.snd.snd.snd.snd.snd;let S:=gR p (xP (w,y,r.snd.fst,z,r.snd.snd.snd.fst,ak,n.fst,n.snd.fst,n.snd.snd.fst,n.snd.snd.snd.fst,al,am)) j.toNat;let an:=jh S (m - z) g;let ao:=f j/\(((a m).same (a m)/\A.same A/\B.same B/\M.same M/\N.same N/\True)/\C.same C/\(d [a t.a0,a t.a1,a t.a2,a t.a3,a t.a4,a t.a5,a v.a0,a v.a1,a v.a2,a v.a3,a v.a4,a v.a5,af,a R,b ag,b l.fst,b l.snd.fst,b l.snd.snd.fst,b l.snd.snd.snd.fst,b ah,b O.fst,b O.snd] 142 22 false).same aj/\bq.dead.same bq.dead/\True)/\(c<=j/\j<=k)/\(k - j).toNat<(k - x).toNat;let ap:=(h [af,Q]).same ae;let aq:=λ(u:Bool) ↦j6 S (m - z) g=u;let ar:=λ(u:Bool) ↦decide (an≠c)=u;let au:=λ(u:jz) ↦let L:=(fP u).snd.snd.snd.snd;let T:=L.snd.snd.snd.snd.snd;Bq (xP ((fP u).fst,(fP u).snd.fst,(fP u).snd.snd.fst,(fP u).snd.snd.snd.fst,L.fst,L.snd.fst,L.snd.snd.fst,L.snd.snd.snd.fst,L.snd.snd.snd.snd.fst,T.fst,T.snd.fst,T.snd.snd));let av:=λ(u:Bool) ↦(!ji p P (oI p x))=u;let aw:=λ(u:Bool) ↦decide (R=m)=u;c<=x/\x<=k->(decide (x<k)=true->(aw true->ap)/\(aw false->(bz p=c/\au (j7 p m x.toNat)/\c<=x/\x<k)/\(av true->ao)/\(av false->f j/\(bz p=c/\au (pW p P x)/\c<=j/\j<=k)/\f (m - z)/\(S.offers.length<=20/\(-9223372036854775808:Int)<=m - z/\m - z<=(9223372036854775807:Int))/\(ar true->(h [e o [],a an]).same ae)/\(ar false->(aq true->f j/\(((a m).same (a m)/\A.same A/\B.same B/\M.same M/\N.same N/\True)/\C.same C/\(d [a w.a0,a w.a1,a w.a2,a w.a3,a w.a4,a w.a5,a y.a0,a y.a1,a y.a2,a y.a3,a y.a4,a y.a5,e o r.snd.fst,a z,b r.snd.snd.snd.fst,b ak,b n.fst,b n.snd.fst,b n.snd.snd.fst,b n.snd.snd.snd.fst,b al,b am] 142 22 false).same aj/\bq.dead.same bq.dead/\True)/\(c<=j/\j<=k)/\(k - j).toNat<(k - x).toNat)/\(aq false->ao)))))/\(decide (x<k)=false->ap)) (by kernel_rfl) ?_
 simp only[vcs];simp only[afV]
 refine⟨⟨rfl,by omega,by omega⟩,?_⟩
 rintro k ⟨k0,k1⟩
 obtain⟨hG,hC⟩:=K2 hc h15 k.toNat (by omega)
 rw[<-hm] at hG hC
 generalize hu:j7 p m k.toNat=u at*
 have hW:=@afW p u k hG.wl
 simp only[Ve hG.wl,Ve hW]
 have hrun:j7 p m (k+1).toNat=qM p m u k:=by
  rw[show(k+1).toNat=k.toNat+1 by omega]
  show qM p m (j7 p m k.toNat) _=_
  rw[hu,show((k.toNat:Nat):Int)=k by omega]
 have hD:=Vh hc hG
 refine⟨λhk=>⟨λhv=>?_,λhv0=>⟨⟨hc,hD,by omega,by omega⟩,λhw=>?_,λhw=>?_⟩⟩,λhk=>?_⟩
 ·have h1:=@Vg p m k.toNat (by rw[hu];exact hv) (p.offers.length - k.toNat)
  rw[show k.toNat+(p.offers.length - k.toNat)=p.offers.length by omega,hu] at h1
  show u.chosen=_
  rw[<-h1,hm,UO hc h15]
 ·have hv:¬u.value=m:=hv0
  have e:j7 p m (k+1).toNat=u:=by rw[hrun];unfold qM;rw[if_neg hv,if_neg (by rw[hw];simp)]
  rw[e]
  refine⟨?_,rfl,?_,?_⟩<;>omega
 ·have hv:¬u.value=m:=hv0
  have hy:pW p u k=fe p u k:=by unfold pW;rw[if_pos hw]
  rw[hy]
  have hlt:∀j∈u.chosen,j<k:=λj hj=>by
   rw[hC] at hj
   have:=of_decide_eq_true (γs.1 hj).2
   omega
  have hG2:=hG.next hc hlt ⟨by omega,by omega⟩ hw
  have hD2:=Vh hc hG2
  have hq:=EX hc hG2 (k:=(k+1).toNat)
  have A2:(gR p (fe p u k) (k+1).toNat).offers.length<=15:=by
   have h1:=List.length_filter_le (ji p (fe p u k)) (p.offers.drop (k+1).toNat)
   rw[List.length_drop] at h1
   show((p.offers.drop _).filter _).length<=15
   omega
  have hroom:jh (gR p (fe p u k) (k+1).toNat) (m - (fe p u k).value) 65536=0:=KF hq (by omega) (by
   have:2^((gR p (fe p u k) (k+1).toNat).offers.length+1)<=2^16:=δp (by omega) (by omega)
   have h16:(2:Nat)^16=65536:=rfl
   omega)
  have hmb:0<=m/\m<=160000000:=by
   obtain⟨f1,f2⟩:=Bo hc
   have:=uN hc ((yI hc).2 f1)
   rw[KA hc f1] at this;omega
  have hv2:0<=(fe p u k).value/\(fe p u k).value<=160000000:=hD2.2.1
  have ev:(fP (fe p u k)).2.2.2.1=(fe p u k).value:=rfl
  rw[ev,hroom]
  have er:j7 p m (k+1).toNat=if j6 (gR p (fe p u k) (k+1).toNat) (m - (fe p u k).value) 65536=true then fe p u k else u:=by
   rw[hrun];unfold qM;rw[if_neg hv,if_pos hw]
  refine⟨by omega,⟨hc,hD2,by omega,by omega⟩,by omega,⟨by omega,by omega,by omega⟩,λh=>absurd rfl h,λ_=>⟨λhb=>?_,λhb=>?_⟩⟩
  ·rw[er,if_pos hb]
   refine⟨?_,rfl,?_,?_⟩<;>omega
  ·rw[er,if_neg (by rw[hb];simp)]
   refine⟨?_,rfl,?_,?_⟩<;>omega
 ·show u.chosen=_
  rw[<-hu,hm,show k.toNat=p.offers.length by omega,UO hc h15]
noncomputable def qN (p:bn):List di:=(iK p (gw p (jY p)).chosen 65536).prf
noncomputable def LR:bM:=⟨33,bn,.one dK,λp=>bz p≠0\/p.offers.length<=15,
 λp=> .bI [.agg [.row (.i .i64) (if bz p=0 then(cz p).chosen else[]),.si .i64 (if bz p=0 then(cz p).value else 0),.row bE (if bz p=0 then qN p else[])],.si .i64 (bz p)]⟩
theorem h427:Holds Tryz.prog LR:=by
 refine cF (L:=[o7,AH,AK,LM,LQ]) LR lk (by grind[h79,h312,h315,h429,h436]) ?_
 rintro(p:bn) (y:bz p≠0\/p.offers.length<=15)
 refine bO (let a:=(0:Int);let b:=γh .i64;let d:=Ψ;let h:=(65536:Int);let l:=SV.bI;let o:=γM;let k:=bp.i .i64;let w:=[b (bz p)];let m:=l (o [d k (if bz p=a then(cz p).chosen else[]),b (if bz p=a then(cz p).value else a),d bE (if bz p=a then qN p else[])]::w);let t:=γx .i64 0;let v:=o [d k [],t,d k []];let x:=decide (bz p≠a);let q:=(gw p (jY p)).chosen;let j:=kx p q h;let f:=decide (j≠a);let g:=iK p q h;let e:=if j=a then g.val else a;let B:=λ(u c:Bool) (n:List SV) ↦u=c->(l n).same m;let r:=λ(u:Bool) (c:Int) ↦u=true->(l [v,b c]).same m;True/\(x=true->(l (v::w)).same m)/\(x=false->p.offers.length<=20/\(jY p).length<=9223372036854775807/\(p.offers.length<=20/\q.length<=9223372036854775807)/\r f j/\(f=false->((bz p=a/\p.offers.length<=15)/\e=(cz p).value)/\r false a/\B false false [o [d k (cz p).chosen,b e,d bE (if j=a then g.prf else[])],t]))) (by kernel_rfl) ?_
 simp only[vcs]
 by_cases a:bz p=0
 ·have l:p.offers.length<=15:=y.resolve_left λh=>h a
  obtain⟨o,_⟩:=yL a
  have D:=LL a
  have A:=(uN a o).2.2
  have b:((1+2^(p.offers.length+1):Nat):Int)<=65536+2:=by
   have:2^(p.offers.length+1)<=2^16:=δp (by omega) (by omega)
   omega
  have d:kx p (gw p (jY p)).chosen 65536=0:=aeN a o (by omega) b
  obtain⟨_,C,z⟩:=KD a o (most:=65536) (by omega)
  have s:=(C (z b)).2.1
  simp only[d,a,if_true]
  refine⟨λh=>absurd rfl h,λ_=>⟨by omega,by omega,⟨by omega,by omega⟩,λh=>absurd rfl h,λ_=>⟨⟨⟨trivial,l⟩,s⟩,λh=>(by cases h),λ_=>⟨?_,trivial⟩⟩⟩⟩
  rw[s];rfl
 ·refine⟨λ_=>?_,λh=>absurd a h⟩
  rw[if_neg a,if_neg a,if_neg a];rfl
theorem afX {t:List di} {u:List (Int×Bool)} {k:Int} {f g h:List Int} (c:f.length=g.length) (a:∀i,bj f i 0=if bj g i 0≠0 then bj g i 0 else bj h i 0):
  ∀i,bj (oL t u k f) i 0=if bj (oL t u k g) i 0≠0 then bj (oL t u k g) i 0 else bj h i 0:=λi=>by
 unfold oL;rw[c]
 generalize (bj t (bj u k.toNat (0,false)).1.toNat bE.dflt).2.1=o
 generalize (bj u k.toNat (0,false)).2=b
 split
 ·by_cases d:o.toNat<g.length
  ·rw[iT (by omega),iT d]
   grind
  ·rw[ζr (by omega),ζr (by omega)]
   exact a i
 ·exact a i
theorem Vj {t:List di} {u:List (Int×Bool)} {h:List Int}:∀{m:Nat} {k:Int} {f g:List Int},f.length=g.length->(∀i,bj f i 0=if bj g i 0≠0 then bj g i 0 else bj h i 0)->
  ∀i,bj (iE t u m k f) i 0=if bj (iE t u m k g) i 0≠0 then bj (iE t u m k g) i 0 else bj h i 0
 |0,_,_,_,_,a=>a
 |m+1,k,f,g,b,a=>by
  unfold iE;split
  ·exact Vj (by grind[U9]) (afX b a)
  ·exact a
theorem Vk {t:List di} {u a:List (Int×Bool)}:∀{m:Nat} {k:Int} {f:List Int},(∀x:Nat,(x:Int)<=k->bj u x (0,false)=bj a x (0,false))->(∀x:Nat,(x:Int)<=k->0<x->0<=(bj u x (0,false)).1/\(bj u x (0,false)).1<x)->iE t u m k f=iE t a m k f
 |0,_,_,_,_=>rfl
 |m+1,k,f,b,c=>by
  unfold iE;split
  ·rename_i j
   have e:=b k.toNat (by omega)
   have d:=c k.toNat (by omega) (by omega)
   have i:oL t u k f=oL t a k f:=by unfold oL;rw[e]
   rw[i,<-e]
   exact Vk (λx g=>b x (by omega)) λx g h=>c x (by omega) h
  ·rfl
theorem Vl {n:Nat} {i:Int}:∀{l c:List Int},uK n i c l=true->∀x∈l,(i<x/\x<n)/\x∉c
 |[],_,_,x,a=>by cases a
 |y::l,c,h,x,a=>by
  simp only[uK,θ,decide_eq_true_eq] at h
  rcases γz.1 a with rfl|a
  ·simp_all
  ·have:=Vl h.2 x a
   simp_all
theorem E5 {t:List di} (h:dT t=true) {i:Nat} (b:i<t.length):∀x∈jA (bj t i bE.dflt),((i:Int)<x/\x<t.length)/\x∉ic t i:=by
 unfold dT at h;simp only[θ,φ,γy] at h
 have a:=h.2.1 i b
 unfold kT at a;simp only[θ] at a
 exact Vl a.2
theorem E6 {t:List di} {x:Int}:∀{i:Nat},i<=t.length->(x∈ic t i↔∃q,q<i/\x∈jA (bj t q bE.dflt))
 |0,_=>by simp[ic]
 |i+1,b=>by
  have a:=@UQ t i (by omega) (by omega)
  rw[show((i:Int)+1).toNat=i+1 by omega,γl] at a
  rw[a,List.mem_append,E6 (by omega)]
  grind
theorem Vm {t:List di} (b:dT t=true) {i:Nat}:∀{j:Nat},i<=j->j<=t.length->∀x,x<=i->bj (eT t j) x (0,false)=bj (eT t i) x (0,false)
 |0,c,_,_,_=>by simp_all
 |j+1,c,g,x,d=>by
  by_cases e:i=j+1
  ·rw[e]
  ·rw[<-Vm b (j:=j) (by omega) (by omega) x d]
   conv=>lhs;unfold eT
   split
   ·rename_i f
    have a:∀y∈[(bj t j bE.dflt).2.2.1,(bj t j bE.dflt).2.2.2.1],((j:Int)<y/\y<t.length)/\y∉ic t j:=by
     have:=E5 b (i:=j) (by omega)
     simp_all[jA]
    have h:=(a _ (γX ..)).1
    have k:=(a (bj t j bE.dflt).2.2.2.1 (by simp)).1
    have l:=@s9 t j
    rw[iT (by grind),if_neg (by omega),iT (by omega),if_neg (by omega)]
   ·rfl
theorem LS {t:List di} (b:dT t=true) {q:Nat} (k:q<t.length) (f:(bj t q bE.dflt).1=2):∀{j:Nat},q<j->j<=t.length->
  bj (eT t j) (bj t q bE.dflt).2.2.1.toNat (0,false)=((q:Int),false)/\bj (eT t j) (bj t q bE.dflt).2.2.2.1.toNat (0,false)=((q:Int),true)
 |0,h,_=>by omega
 |j+1,h,C=>by
  have u:jA (bj t q bE.dflt)=[(bj t q bE.dflt).2.2.1,(bj t q bE.dflt).2.2.2.1]:=if_pos f
  have g:=E5 b k
  rw[u] at g
  have D:=(g _ (γX ..)).1
  have F:=(g (bj t q bE.dflt).2.2.2.1 (by simp)).1
  have A:(bj t q bE.dflt).2.2.1≠(bj t q bE.dflt).2.2.2.1:=by
   unfold dT at b;simp only[θ,φ,γy] at b
   have d:=b.2.1 q k
   unfold kT at d;rw[u] at d;simp only[uK,θ,decide_eq_true_eq] at d
   grind
  have l:=@s9 t j
  by_cases e:q=j
  ·subst e
   unfold eT;rw[if_pos f]
   have B:((eT t q).set (bj t q bE.dflt).2.2.1.toNat ((q:Int),false)).length=t.length:=by simp_all
   rw[iT (by omega),iT (by omega),if_neg (by omega),iT (by omega),if_pos rfl,if_pos rfl]
   simp_all
  ·have r:=LS b k f (j:=j) (by omega) (by omega)
   unfold eT;split
   ·rename_i w
    have a:=E5 b (i:=j) (by omega)
    unfold jA at a;rw[if_pos w] at a
    have s:=a _ (γX ..)
    have n:=a (bj t j bE.dflt).2.2.2.1 (by simp)
    have o:∀x∈[(bj t q bE.dflt).2.2.1,(bj t q bE.dflt).2.2.2.1],x∈ic t j:=λx v=>(E6 (by omega)).2 ⟨q,by omega,by simp_all⟩
    have m:=o _ (γX ..)
    have p:=o (bj t q bE.dflt).2.2.2.1 (by simp)
    have c:∀x y:Int,x∈ic t j->y∉ic t j->x≠y:=λx y v z e=>z (e▸v)
    have G:=c _ _ m s.2
    have H:=c _ _ m n.2
    have I:=c _ _ p s.2
    have E:=c _ _ p n.2
    have B:((eT t j).set (bj t j bE.dflt).2.2.1.toNat ((j:Int),false)).length=t.length:=by rw[Φ,l]
    rw[iT (by omega),if_neg (by omega),iT (by omega),if_neg (by omega),iT (by omega),if_neg (by omega),iT (by omega),if_neg (by omega)]
    exact r
   ·exact r
theorem Vn {n i:Nat}:bj (δ n (0:Int)) i 0=0:=by
 grind[bj]
theorem Vo {p:bn} {t:List di} {i:Nat}:(iY p t i).length=p.offers.length:=by
 grind[iY,Va]
theorem afY {p:bn} {t:List di} (a:dT t=true) {q:Nat} (g:q<t.length) (f:(bj t q bE.dflt).1=2) (y:0<=(bj t q bE.dflt).2.1/\(bj t q bE.dflt).2.1<p.offers.length) (B:bj (iY p t q) (bj t q bE.dflt).2.1.toNat 0=0):
  iY p t (bj t q bE.dflt).2.2.1.toNat=(iY p t q).set (bj t q bE.dflt).2.1.toNat (-1)/\iY p t (bj t q bE.dflt).2.2.2.1.toNat=(iY p t q).set (bj t q bE.dflt).2.1.toNat 1:=by
 have e:=E5 a g
 unfold jA at e;rw[if_pos f] at e
 have w:=(e _ (γX ..)).1
 have z:=(e (bj t q bE.dflt).2.2.2.1 (by simp)).1
 have r:∀(c:Int) (b:Bool),((q:Int)<c/\c<t.length)->bj (eT t c.toNat) c.toNat (0,false)=((q:Int),b)->iY p t c.toNat=(iY p t q).set (bj t q bE.dflt).2.1.toNat (if b then 1 else -1):=λc b D l=>by
  have k:=LG a (i:=c.toNat) (by omega)
  have h:=@Vb t (eT t c.toNat) k c (δ p.offers.length 0) (by omega) (by omega)
  rw[l] at h;simp only[γl] at h
  have m:iY p t c.toNat=iE t (eT t c.toNat) c.toNat c (δ p.offers.length 0):=by
   grind[iY]
  have u:oL t (eT t c.toNat) c (δ p.offers.length 0)=(δ p.offers.length 0).set (bj t q bE.dflt).2.1.toNat (if b then 1 else -1):=by
   simp_all[oL]
  have o:iE t (eT t c.toNat) q q ((δ p.offers.length 0).set (bj t q bE.dflt).2.1.toNat (if b then 1 else -1))=iE t (eT t q) q q ((δ p.offers.length 0).set (bj t q bE.dflt).2.1.toNat (if b then 1 else -1)):=
   Vk (λx s=>Vm a (by omega) (by omega) x (by omega)) λx s v=>⟨(k.2 x (by omega)).1,(k.2 x (by omega)).2 v⟩
  rw[m,h,u,o]
  have n:iE t (eT t q) q q (δ p.offers.length 0)=iY p t q:=rfl
  have d:=@Vj t (eT t q) ((δ p.offers.length 0).set (bj t q bE.dflt).2.1.toNat (if b then 1 else -1)) q q ((δ p.offers.length 0).set (bj t q bE.dflt).2.1.toNat (if b then 1 else -1)) (δ p.offers.length 0) (by simp_all) (λi=>by grind[Vn])
  rw[n] at d
  refine Lh 0 (by grind[Vo]) λi _=>?_
  rw[d i,iT (by simp_all),iT (by rw[Vo];omega),Vn]
  grind
 have A:=(LS a g f (j:=(bj t q bE.dflt).2.2.1.toNat) (by omega) (by omega)).1
 have C:=(LS a g f (j:=(bj t q bE.dflt).2.2.2.1.toNat) (by omega) (by omega)).2
 simp_all
def inT (a b c j:Nat):Prop:=j=a\/(b<=j/\j<c)
section
variable {p:bn} {v:Int} {t:List di} {a lo hi:Nat} {f:List Int}
theorem afZ (h:eV p f) (a:eK p f):wF p f (fL (iC p f)):=
 ⟨⟨a.c,a.l,a.r⟩,iC p f,rfl,EF,λ_=>1000,λk b=>(Kt h b).2,by
  have:∀n,rO n (λ_=>1000)=n*1000:=λn=>by
   induction n<;>grind[rO]
  have d:=E2 a.c
  grind⟩
theorem af0 (h:eV p f):posB (fL (iC p f))=true:=by
 unfold posB fL;rw[φ];intro x b
 obtain⟨q,a,rfl⟩:=Ω.1 b
 obtain⟨i,d,rfl⟩:=γI a
 have c:=(Kt h (r:=i) (by grind[EF])).1
 grind[cY,bu]
theorem af2 {l:List Rat} {K:Nat} (s:K<=1000000) (h:∀k,k<l.length->Sz K (bj l k 0)):∀x∈fL l,iW x:=λx b=>by
 unfold fL at b
 obtain⟨q,e,rfl⟩:=Ω.1 b
 obtain⟨i,a,rfl⟩:=γI e
 have c:=h i a
 rw[cY a] at c
 obtain⟨m,⟨f,p,n⟩,⟨d,g,j⟩⟩:=mj l[i]
 obtain⟨o,r⟩:=pn c
 exact⟨⟨f,d⟩,by omega,by omega⟩
theorem af4 (a:eK p f) (b:hJ p f=true):s8 (qL p f)=true/\my p (qL p f)=true/\(∀x∈(qL p f).2.2.2.2,iW x)/\jA (qL p f)=[]:=by
 have h:mF p<=20:=by have:=(dQ a.c).1;grind
 have d:(fL (iC p f)).length=mF p:=by rw[fE,EF]
 refine⟨?_,?_,af2 (K:=1000) (by omega) λk g=>(Kt (a.ok b) (by grind[EF])).2,rfl⟩
 ·show wf1 (qL p f)=true
  have e:(qL p f).2.2.2.2=fL (iC p f):=rfl
  unfold wf1
  rw[e,d,decide_eq_true (show mF p<=40 by omega)]
  grind[rM,qL,fL,ER]
 simp_all[qL,my,de]
theorem af5 (h:jg p v t a f lo hi) (hf:eK p f) (hl:t.length<=65536):
  (∀j,inT a lo hi j->j<t.length/\s8 (bj t j bE.dflt)=true/\my p (bj t j bE.dflt)=true/\(∀x∈(bj t j bE.dflt).2.2.2.2,iW x)/\(jA (bj t j bE.dflt)=[]\/∃x:Nat,jA (bj t j bE.dflt)=[(x:Int),((x+1:Nat):Int)]/\j<x/\lo<=x/\x+1<hi))
  /\(∀q r (x:Int),inT a lo hi q->inT a lo hi r->x∈jA (bj t q bE.dflt)->x∈jA (bj t r bE.dflt)->q=r)
  /\(∀x:Nat,lo<=x->x<hi->∃q,inT a lo hi q/\(x:Int)∈jA (bj t q bE.dflt)):=by
 induction h with
 |@bnd a f lo h1 h2 h3=>
  grind[yW,af4,inT]
 |@con a f lo h1 h2=>
  obtain⟨e1,e2⟩:=yW (d:=bE.dflt) h1
  have hj:∀j,inT a lo lo j->j=a:=λj h=>by grind[inT]
  refine⟨λj h=>?_,λq r x hq hr _ _=>by grind,λx h0 h1=>by omega⟩
  rw[hj j h,e1]
  exact⟨e2,by decide,rfl,(λx hx=>by cases hx),.inl rfl⟩
 |@sZ a f lo mid hi k h1 h2 h3 h4 h5 h6 i1 i2=>
  obtain⟨e1,e2⟩:=yW (d:=bE.dflt) h1
  have l1:=h5.le
  have l2:=h6.le
  have yn:=(jg.sZ h1 h2 h3 h4 h5 h6).top.2 (by omega)
  have h160:=(dQ hf.c).2.1
  have hfl:=hf.l
  obtain⟨f1,g1,c1⟩:=i1 (hf.set (by omega))
  obtain⟨f2,g2,c2⟩:=i2 (hf.set (by omega))
  have hk:jA (bj t a bE.dflt)=[(lo:Int),((lo+1:Nat):Int)]:=by rw[e1];rfl
  have hin:∀j,inT a lo hi j->j=a\/inT (lo+1) (lo+2) mid j\/inT lo mid hi j:=λj h=>by unfold inT at h ⊢;omega
  have s1:∀j (x:Int),inT (lo+1) (lo+2) mid j->x∈jA (bj t j bE.dflt)->(lo:Int)+2<=x/\x<mid:=λj x hj hx=>by
   rcases(f1 j hj).2.2.2.2 with h|⟨y,h,_,_,_⟩
   ·rw[h] at hx;cases hx
   ·rw[h] at hx
    simp only[γz,δO,or_false] at hx;omega
  have s2:∀j (x:Int),inT lo mid hi j->x∈jA (bj t j bE.dflt)->(mid:Int)<=x/\x<hi:=λj x hj hx=>by
   rcases(f2 j hj).2.2.2.2 with h|⟨y,h,_,_,_⟩
   ·rw[h] at hx;cases hx
   ·rw[h] at hx
    simp only[γz,δO,or_false] at hx;omega
  have s0:∀x:Int,x∈jA (bj t a bE.dflt)->(lo:Int)<=x/\x<lo+2:=λx hx=>by
   grind
  refine⟨λj h=>?_,λq r x hq hr xq xr=>?_,λx h0 h1=>?_⟩
  ·rcases hin j h with rfl|h|h
   ·refine⟨e2,?_,?_,?_,.inr ⟨lo,hk,h2,ξ _,by omega⟩⟩
    ·rw[e1]
     show wf2 (j5 k lo)=true
     have r1:oJ k=true:=by grind[oJ]
     have r2:oJ (lo:Int)=true:=by grind[oJ]
     have r3:oJ ((lo:Int)+1)=true:=by grind[oJ]
     show(oJ k&&oJ (lo:Int)&&oJ ((lo:Int)+1)&&decide (([]:List bL)=[]))=true
     rw[r1,r2,r3];rfl
    ·rw[e1];rfl
    ·rw[e1];intro x hx;cases hx
   ·grind
   grind
  ·grind
  ·by_cases q1:x<lo+2
   ·refine⟨a,.inl rfl,?_⟩
    rw[hk];simp only[γz,δO,or_false];omega
   grind[inT]
theorem af6 (h:jg p v t 0 f 1 t.length) (m:eK p f) (s:1<=t.length) (d:t.length<=65536):dT t=true/\t.all (my p)=true/\∀n∈t,∀x∈n.2.2.2.2,iW x:=by
 obtain⟨l,B,o⟩:=af5 h m d
 have b:∀j,j<t.length->inT 0 1 t.length j:=λj c=>by unfold inT;omega
 refine⟨?_,φ.2 λn a=>?_,λn a=>?_⟩
 ·unfold dT
  simp only[θ,decide_eq_true_eq,φ,γy]
  refine⟨⟨s,d⟩,λi g=>?_,λk z=>?_⟩
  ·obtain⟨D,r,_,_,e⟩:=l i (b i g)
   unfold kT;rw[r,Bool.true_and]
   rcases e with w|⟨x,w,A,E,J⟩
   ·rw[w];rfl
   ·have a:∀y:Int,y∈jA (bj t i bE.dflt)->y∉ic t i:=λy I C=>by
     grind[E6]
    rw[w] at a ⊢
    have F:=a (x:Int) (by simp)
    have G:=a ((x+1:Nat):Int) (by simp)
    simp only[uK,θ,decide_eq_true_eq,Bool.and_true]
    grind
  ·obtain⟨q,H,u⟩:=o (k+1) (by omega) (by omega)
   grind[E6]
 ·obtain⟨j,c,rfl⟩:=γI a
  grind[cY]
 ·obtain⟨j,c,rfl⟩:=γI a
  grind[cY]
theorem af7 (h:eV p f):jk p f (vL (fL (iC p f))) f.length=jf p f:=by
 have a:f.length=p.offers.length:=h.2.1
 unfold jk;rw[kN,afn h]
 have:bP f.length (λk=>if bj f k 0=0/\0<jj p (iC p f) (mF p) k then jj p (iC p f) (mF p) k else 0)=0:=by
  rw[dL (g:=λ_=>0) λk b=>?_,iR]
  simp_all[if_neg,afm,ε0]
 grind
theorem af8 (h:jg p v t a f lo hi) (z:dT t=true) (e:eK p f) (o:iY p t a=f):∀j,inT a lo hi j->rR p v (iY p t j) (bj t j bE.dflt)=true/\((bj t j bE.dflt).1=1->wF p (iY p t j) (bj t j bE.dflt).2.2.2.2):=by
 induction h with
 |@bnd a f lo n i B=>
  obtain⟨b,s⟩:=yW (d:=bE.dflt) n
  intro j g
  have:j=a:=by grind[inT]
  rw[this,o,b]
  refine⟨?_,λ_=>afZ (e.ok i) e⟩
  show(posB (fL (iC p f))&&decide (jk p f (vL (fL (iC p f))) f.length<κ v+1))=true
  rw[af7 (e.ok i),af0 (e.ok i),Bool.true_and,decide_eq_true_eq]
  simp_all
 |@con a f lo n i=>
  obtain⟨b,s⟩:=yW (d:=bE.dflt) n
  intro j g
  have:j=a:=by grind[inT]
  rw[this,o,b]
  have A:dh p (bD f 1)≠0:=λh=>by
   have:=(Kv e.c (afI e.l)).1 h
   grind[hJ]
  refine⟨?_,λh=>?_⟩
  ·show decide (dh p (bD f 1)≠0)=true
   simp_all
  ·have:(3:Int)=1:=h
   omega
 |@sZ a f lo m hi k n i B F G D C y=>
  obtain⟨b,s⟩:=yW (d:=bE.dflt) n
  have u:(bj t a bE.dflt).1=2:=by rw[b];rfl
  have x:(bj t a bE.dflt).2.1=k:=by rw[b];rfl
  have q:(bj t a bE.dflt).2.2.1=lo:=by rw[b];rfl
  have r:(bj t a bE.dflt).2.2.2.1=(lo:Int)+1:=by rw[b];rfl
  have E:=e.l
  have w:=afY (p:=p) z s u (by rw[x];omega) (by simp_all)
  rw[x,q,r,o,γl,show((lo:Int)+1).toNat=lo+1 by omega] at w
  intro j g
  rcases(show j=a\/inT (lo+1) (lo+2) m j\/inT lo m hi j by grind[inT]) with rfl|g|g
  ·rw[o,b]
   refine⟨?_,λh=>?_⟩
   ·show(decide (k<f.length)&&decide (bj f k.toNat 0=0))=true
    simp_all
   simp_all
  ·exact C (e.set (by omega)) w.2 j g
  ·exact y (e.set (by omega)) w.1 j g
theorem af9 (h:jg p v t 0 (iD p) 1 t.length) (a:bz p=0) (m:1<=t.length) (k:t.length<=65536):(∀w, -9223372036854775808<=w/\w<=9223372036854775807->wH p w t)/\uL p v t=0:=by
 obtain⟨d,o,g⟩:=af6 h (oG a) m k
 have c:=af8 h d (oG a) rfl
 have b:∀j,j<t.length->inT 0 1 t.length j:=λj n=>by grind[inT]
 refine⟨λw f=>⟨g,by omega,λ_ _ _=>⟨⟨a,d⟩,f,λi l e=>(c i (b i l)).2 e⟩⟩,?_⟩
 ·have q:rT p v t=true:=by
   grind[rT]
  unfold uL
  grind
end
theorem aga {p:bn} (hc:bz p=0) (h15:p.offers.length<=15):jg p (cz p).value (qN p) 0 (iD p) 1 (qN p).length/\((qN p).length:Int)<=65536:=by
 obtain⟨i1,_⟩:=yL hc
 have agb:((1+2^(p.offers.length+1):Nat):Int)<=65536+2:=by
  have:2^(p.offers.length+1)<=2^16:=δp (by omega) (by omega)
  have h16:(2:Nat)^16=65536:=rfl
  omega
 obtain⟨_,s2,s3⟩:=KD hc i1 (most:=65536) (by omega)
 obtain⟨_,_,s4,s5,_⟩:=s2 (s3 agb)
 exact⟨s5,s4⟩
theorem Vp {p:bn} (hc:bz p=0) (h15:p.offers.length<=15):(∀w, -9223372036854775808<=w/\w<=9223372036854775807->wH p w (qN p))/\uL p (cz p).value (qN p)=0:=by
 obtain⟨s5,s4⟩:=aga hc h15
 have s6:=s5.top.1
 exact af9 s5 hc (by omega) (by omega)
theorem E7 {p:bn} (a:bz p=0):dh p (cz p).chosen=0/\ei p (cz p).chosen=(cz p).value/\(0<=(cz p).value/\(cz p).value<=160000000)/\(cz p).chosen.length<=160:=by
 obtain⟨b,d,_⟩:=afa a
 have c:=(yI a).2 b
 have:=uN a c
 omega
theorem agc {p:bn} (b:bz p=0) (a:p.offers.length<=15):uM p ((cz p).chosen,(cz p).value,qN p)=0:=by
 simp_all[E7,uM,Vp]
def lq (a b:Off):Bool:=decide (a.bX=b.bX)||([0,1,2,3,4,5].any λk=>decide (0<a.want.at k)&&decide (0<b.want.at k))
theorem Vq {a b:Off}:lq a b=lq b a:=by
 unfold lq
 grind
inductive Cn (p:bn):Nat->Nat->Prop
 |refl {i:Nat}:i<p.offers.length->Cn p i i
 |step {i j k:Nat}:Cn p i j->k<p.offers.length->lq (oI p j) (oI p k)=true->Cn p i k
section
variable {p:bn} {i j k:Nat}
theorem LU (h:Cn p i j):i<p.offers.length/\j<p.offers.length:=by
 induction h<;>omega
theorem Br (h:Cn p i j) (g:Cn p j k):Cn p i k:=by
 induction g with
 |refl _=>exact h
 |step _ a b c=>exact .step c a b
theorem LV (b:i<p.offers.length) (a:j<p.offers.length) (h:lq (oI p i) (oI p j)=true):Cn p i j:=.step (.refl b) a h
theorem agd (h:Cn p i j):Cn p j i:=by
 induction h with
 |refl h=>exact .refl h
 |@step j k a b c d=>grind[Br,LV,LU,Vq]
end
def qO (l:List Int) (a b:Int):List Int:=l.map λx=>if x=a then b else x
def mU (p:bn) (i:Nat) (l:List Int):Nat->List Int
 |0=>l
 |k+1=>if lq (oI p i) (oI p k)=true then qO (mU p i l k) (bj (mU p i l k) k 0) (bj (mU p i l k) i 0) else mU p i l k
def nO (p:bn):Nat->List Int
 |0=>δ p.offers.length 0
 |i+1=>mU p i ((nO p i).set i (i:Int)) i
theorem Vr {l:List Int} {a b:Int}:(qO l a b).length=l.length:=Θ _
theorem agf {l:List Int} {a b:Int} {k:Nat} (h:k<l.length):bj (qO l a b) k 0=if bj l k 0=a then b else bj l k 0:=by
 grind[qO,cY]
def LW (p:bn) (i:Nat) (m:List Int):Prop:=m.length=p.offers.length/\(∀a,a<i->0<=bj m a 0/\bj m a 0<i)/\(∀a b,a<i->b<i->lq (oI p a) (oI p b)=true->bj m a 0=bj m b 0)/\∀a b,a<i->b<i->bj m a 0=bj m b 0->Cn p a b
def agh (p:bn) (i k:Nat) (m:List Int):Prop:=m.length=p.offers.length/\(∀a,a<=i->0<=bj m a 0/\bj m a 0<=i)/\(∀a b,a<i->b<i->lq (oI p a) (oI p b)=true->bj m a 0=bj m b 0)/\(∀j,j<k->lq (oI p i) (oI p j)=true->bj m i 0=bj m j 0)/\∀a b,a<=i->b<=i->bj m a 0=bj m b 0->Cn p a b
theorem Vs {p:bn} {i:Nat} {m:List Int} (v:i<p.offers.length) (h:LW p i m):∀{k:Nat},k<=i->agh p i k (mU p i (m.set i (i:Int)) k)
 |0,_=>by
  obtain⟨s,y,u,t⟩:=h
  have e:∀a,bj (m.set i (i:Int)) a 0=if a=i then(i:Int) else bj m a 0:=λa=>iT (by omega)
  refine⟨by show(m.set i (i:Int)).length=_;simp_all,λa d=>?_,λa b d g r=>?_,λj w=>by omega,λa b d g c=>?_⟩
  ·show 0<=bj (m.set i (i:Int)) a 0/\bj (m.set i (i:Int)) a 0<=i
   grind
  ·show bj (m.set i (i:Int)) a 0=bj (m.set i (i:Int)) b 0
   grind
  ·have c:bj (m.set i (i:Int)) a 0=bj (m.set i (i:Int)) b 0:=c
   rw[e,e] at c
   by_cases o:a=i
   ·by_cases l:b=i
    ·rw[o,l];exact .refl v
    grind
   grind
 |k+1,B=>by
  have z:=Vs v h (k:=k) (by omega)
  unfold mU
  generalize mU p i (m.set i (i:Int)) k=q at z ⊢
  obtain⟨s,y,u,t,n⟩:=z
  split
  ·rename_i r
   have e:∀a,a<=i->bj (qO q (bj q k 0) (bj q i 0)) a 0=if bj q a 0=bj q k 0 then bj q i 0 else bj q a 0:=λa d=>agf (by omega)
   have x:Cn p i k:=LV v (by omega) r
   refine⟨by rw[Vr,s],λa d=>?_,λa b d g c=>?_,λj w f=>?_,λa b d g c=>?_⟩
   ·rw[e a d]
    grind
   ·rw[e a (by omega),e b (by omega),u a b d g c]
   ·rw[e i (ξ _),e j (by omega)]
    by_cases A:j=k
    ·simp_all
    ·rw[t j (by omega) f]
   ·rw[e a d,e b g] at c
    by_cases o:bj q a 0=bj q k 0
    ·by_cases l:bj q b 0=bj q k 0
     ·exact n a b d g (by rw[o,l])
     ·rw[if_pos o,if_neg l] at c
      exact Br (n a k d (by omega) o) (Br (agd x) (n i b (ξ _) g c))
    ·by_cases l:bj q b 0=bj q k 0
     ·rw[if_neg o,if_pos l] at c
      exact Br (n a i d (ξ _) c) (Br x (n k b (by omega) g l.symm))
     ·rw[if_neg o,if_neg l] at c
      exact n a b d g c
  ·rename_i r
   refine⟨s,y,u,λj w f=>?_,n⟩
   by_cases A:j=k
   ·subst A;exact absurd f r
   ·exact t j (by omega) f
theorem Vt {p:bn}:∀{i:Nat},i<=p.offers.length->LW p i (nO p i)
 |0,_=>⟨γC,λa h=>by omega,λa b h=>by omega,λa b h=>by omega⟩
 |i+1,r=>by
  obtain⟨j,n,f,o,e⟩:=Vs (by omega) (Vt (p:=p) (i:=i) (by omega)) (k:=i) (ξ _)
  show LW p (i+1) (mU p i ((nO p i).set i (i:Int)) i)
  generalize mU p i ((nO p i).set i (i:Int)) i=q at*
  refine⟨j,λa d=>by grind,λa b d l g=>?_,λa b d l c=>e a b (by omega) (by omega) c⟩
  by_cases s:a=i
  ·grind
  ·by_cases m:b=i
   ·grind[Vq]
   ·exact f a b (by omega) (by omega) g
def td (p:bn):List Int:=nO p p.offers.length
def pX (p:bn) (i:Int):Int:=bj (td p) i.toNat 0
theorem agi {p:bn} {a b:Nat} (m:a<p.offers.length) (f:b<p.offers.length):bj (td p) a 0=bj (td p) b 0↔Cn p a b:=by
 obtain⟨_,_,g,i⟩:=Vt (p:=p) (ξ _)
 refine⟨i a b m f,λh=>?_⟩
 induction h with
 |refl _=>rfl
 |@step j k c d e l=>exact(l (LU c).2).trans (g j k (LU c).2 d e)
def qP (p:bn) (f:Int):List Int:=(dm p.offers.length).filter λi=>decide (pX p i=pX p f)
def rV (p:bn) (f:Int):Bool:=(dm f.toNat).all λj=>decide (pX p j≠pX p f)
def cO (p:bn):List (List Int):=((dm p.offers.length).filter (rV p)).map (qP p)
theorem E8 {p:bn} {f i:Int}:i∈qP p f↔(0<=i/\i<p.offers.length)/\pX p i=pX p f:=by
 simp_all[qP,kK]
theorem agj {p:bn} {f:Int}:eM p.offers.length (qP p f):=⟨rD.sublist γP,λx a=>(E8.1 a).1⟩
theorem E9 {p:bn} {f:Int} (c:0<=f):rV p f=true↔∀j,0<=j->j<f->pX p j≠pX p f:=by
 unfold rV;rw[φ]
 exact⟨λh j a b=>of_decide_eq_true (h j (kK.2 ⟨a,by omega⟩)),λh j d=>by
  grind[kK]⟩
theorem agk {p:bn} {c:List Int}:c∈cO p↔∃f:Int,((0<=f/\f<p.offers.length)/\rV p f=true)/\qP p f=c:=by
 grind[cO,kK]
theorem agl {p:bn} {i j:Int} (b:0<=i/\i<p.offers.length) (a:0<=j/\j<p.offers.length):pX p i=pX p j↔Cn p i.toNat j.toNat:=agi (by omega) (by omega)
def Fa (p:bn) (l:List Off):bn:={p with offers:=l}
theorem agm {α:Type} {a:α} {l:List α} {d:α}:bj (a::l) 0 d=a:=rfl
theorem agn {α:Type} {a:α} {l:List α} {n:Nat} {d:α}:bj (a::l) (n+1) d=bj l n d:=by simp[bj]
theorem agp {p:bn} (h:bz p=0):(p.offers.map Off.key).Nodup:=by
 unfold bz at h;split at h
 ·rename_i h1;exact absurd h h1
 ·exact(Dy h).1
theorem agq {p:bn} (hc:bz p=0) {L:List Off} (hl:L.length<=p.offers.length) (hm:∀x∈L,x∈p.offers) (hn:(L.map Off.key).Nodup):bz (Fa p L)=0:=by
 have hz:=vP hc
 refine UK ?_ (λx hx=>?_) hn
 ·obtain⟨f1,f2,f3,f4,f5⟩:=vO hz.1
  exact HL (p:=Fa p L) f1 (λj hj=>by have h:=(om (p:=p) (k:=j)).1 (f2 j hj);exact om.2 h) (by simp only[Fa];omega) f5
 ·exact hz.2 x (hm x hx)
theorem agr {p:bn} (hc:bz p=0) {i j:Int} (hi:0<=i/\i<p.offers.length) (hj:0<=j/\j<p.offers.length) (h:(oI p i).key=(oI p j).key):i=j:=by
 have hn:=agp hc
 have h1:i.toNat<(p.offers.map Off.key).length:=by rw[Θ];omega
 have h2:j.toNat<(p.offers.map Off.key).length:=by rw[Θ];omega
 have e:(p.offers.map Off.key)[i.toNat]=(p.offers.map Off.key)[j.toNat]:=by
  rw[δA,δA];unfold oI at h
  rwa [cY (by omega),cY (by omega)] at h
 have:=(List.getElem_inj hn).1 e
 omega
theorem LX {α β:Type} {f:α->β}:∀{l:List α},l.Nodup->(∀x∈l,∀y∈l,f x=f y->x=y)->(l.map f).Nodup
 |[],_,_=>by simp
 |x::l,h,hi=>by
  rw[γW] at h;rw[π,γW]
  refine⟨λhm=>?_,LX h.2 λa ha b hb=>hi a (γT _ ha) b (γT _ hb)⟩
  obtain⟨y,hy,he⟩:=Ω.1 hm
  exact h.1 (hi x (γX ..) y (γT _ hy) he.symm▸hy)
def fH (p:bn) (c:List Int):bn:=Fa p (c.map (oI p))
def qQ (c t:List Int):List Int:=t.map λk=>bj c k.toNat 0
theorem Fb {p:bn} {c:List Int}:(fH p c).offers.length=c.length:=Θ _
theorem LY {p:bn} (b:bz p=0) {c:List Int} (h:eM p.offers.length c):bz (fH p c)=0:=by
 refine agq b (by simp_all[uv]) (λx f=>?_) ?_
 ·obtain⟨i,a,rfl⟩:=Ω.1 f
  have:=h.2 i a
  exact dr (by omega)
 ·rw[List.map_map]
  exact LX (AI h) λi a j d e=>agr b (h.2 i a) (h.2 j d) e
theorem Fe {p:bn} {c:List Int} (h:c∈cO p):eM p.offers.length c:=by
 grind[agk,agj]
theorem ags {a b:Off} (h:a.bX=b.bX):lq a b=true:=by grind[lq]
theorem agt {n:Nat} {t:List Int}:ny 0 n t↔eM n t:=by
 grind[ny,eM]
theorem agu {l:List Int} {m:Nat} (a:l.Nodup) (h:∀x∈l,0<=x/\x<m):l.length<=m:=by
 have b:l.Perm ((dm m).filter λx=>decide (x∈l)):=by
  refine(List.perm_ext_iff_of_nodup a ((rD.sublist γP).imp λh=>by omega)).2 λx=>?_
  simp_all[kK]
 rw[b.length_eq]
 grind[iP]
theorem LZ {p:bn} (hc:bz p=0):(cO p).length<=p.classes.length:=by
 have hl:(cO p).length=((dm p.offers.length).filter (rV p)).length:=by unfold cO;rw[Θ]
 rw[hl]
 have e:((dm p.offers.length).filter (rV p)).length=(((dm p.offers.length).filter (rV p)).map λf=>(oI p f).bX).length:=by rw[Θ]
 rw[e]
 refine agu (LX ((rD.sublist γP).imp λh=>by omega) λi hi j hj hb=>?_) λx hx=>?_
 ·obtain⟨i1,i2⟩:=γs.1 hi
  obtain⟨j1,j2⟩:=γs.1 hj
  have i1:=kK.1 i1
  have j1:=kK.1 j1
  have hn:pX p i=pX p j:=(agl i1 j1).2 (LV (by omega) (by omega) (by
   rw[show((i.toNat:Nat):Int)=i by omega,show((j.toNat:Nat):Int)=j by omega]
   exact ags hb))
  by_cases h1:i<j
  ·exact absurd hn ((E9 j1.1).1 j2 i i1.1 h1)
  ·by_cases h2:j<i
   ·exact absurd hn.symm ((E9 i1.1).1 i2 j j1.1 h2)
   ·omega
 ·obtain⟨f,hf,rfl⟩:=Ω.1 hx
  have:=kQ hc (kK.1 (γs.1 hf).1)
  exact⟨this.1,this.2.1⟩
def Bt:bn:=⟨.zero,.zero,.zero,[],[]⟩
end Go.Vi

/-
  Contracts: visits of nodes.
  Conditions: none.
-/
import Derived.Test.YtjcmncmajmoiiaaGreatTX13
import Derived.Test.YtjcmncmajmoiiaaGreatTX06
import Derived.Test.YtjcmncmajmoiiaaGreatTX07
import Derived.Test.YtjcmncmajmoiiaaGreatTX09
import Derived.Test.YtjcmncmajmoiiaaGreatTX10
import Derived.Test.YtjcmncmajmoiiaaGreatTX11
import Derived.Test.YtjcmncmajmoiiaaGreatTX12
import Derived.Test.YtjcmncmajmoiiaaGreatTX08
set_option maxRecDepth 100000
set_option maxHeartbeats 4000000
set_option linter.all false
open Bool renaming and_eq_true->θ,not_eq_true'->δe
open Classical renaming not_not->Γ
open Go.Vi.SV renaming si->γe,row->Φ,sb->γI,il->γq,ptr->γW,agg->γK,bl->δs
open Int renaming ofNat_lt->εX,toNat_natCast->γz
open IntCast renaming intCast->Ω
open List renaming length_set->γb,getElem_of_mem->δa,length_append->ν,mem_map->γf,length_replicate->γS,replicate->ε,map_cons->ι,sum_cons->δ0,mem_cons_of_mem->γ6,mem_cons_self->εL,map_append->γa,map_nil->γs,nodup_append->γu,mem_singleton->γJ,pairwise_append->δg,mem_append->ω,mem_append_right->δY,nodup_cons->γD,mem_map_of_mem->γ3,append_nil->γY,mem_filter->γi,mem_of_mem_drop->γL,length_filter_le->γC,length_drop->γH,filter_sublist->δn,drop_sublist->ζv,pairwise_cons->γE,append_assoc->γg,cons_append->γB,mem_cons->γp,filter_cons_of_pos->δv,filter_cons_of_neg->δw,filter_eq_nil_iff->δy,filter_eq_self->δS,length_take->Ξ,append_of_mem->εG,perm_middle->ε1,filter_append->δt,foldl_cons->γw,foldl_append->δP
open List.Perm renaming append_left->εW
open List.cons renaming injEq->π
open Nat renaming lt_of_lt_of_le->γr,pow_le_pow_right->δK
open Option renaming isSome_eq_false_iff->γ1,isNone_iff_eq_none->γR,isSome_iff_exists->γk,getD_some->γX
open Option.some renaming injEq->γ
open Rat renaming not_lt->ζu
namespace Go.Vi
open Go.Proofs.YtjcmncmajmoiiaaGreat.Ir
open Go.Proofs
theorem afd {n:Nat} (hD:dK Tryz.prog (E3 n)):dK Tryz.prog (vY (n+1)):=by
 refine Zi (L:=[qB,Ab,K8,Lj]) (W:=[Le,Lh,AZ,E3 n]) (vY (n+1)) (fG 84) lk (by simpa using⟨h390w,h446,h439,hD⟩) (by simpa using⟨h94,h97,h445,h447⟩) ?_
 rintro⟨⟨p,ch,val,found,en,k1,k2,most,err,prf,fx⟩,a⟩ ⟨hok,ha,hn⟩
 simp only at hok ha hn
 have e1:k1=prf.length:=hok.k1
 have e2:k2=fx.length:=hok.k2
 subst e1;subst e2
 have hf:eQ p fx:=hok.f
 have h160:=(dL hf.c).2.1
 have hfl:fx.length=p.offers.length:=hf.l
 have hfe:=hf.e
 have hfo:=hf.jO
 have hv0:0<=val:=hok.v0
 have hv1:val<=9223372036854775806:=hok.v1
 have hm0:1<=most:=hok.m0
 have hm1:most<=65536:=hok.m1
 have hpl:prf.length<=65536:=hok.l
 rcases en with _|m
 ·refine bR (let b:=γe .i64;let c:=(0:Int);let d:=(1:Int);let e:=bq.cells;let f:=SV.bH;let g:=bq.row;let h:=bX .i64;let j:=(-9223372036854775808:Int);let k:=(-1:Int);let l:=(9223372036854775807:Int);let m:=(2:Int);let o:=Φ;let q:=γI;let r:=SV.ow;let v:=vL (j9 p fx);let x:=b p.supply.a0;let y:=b p.supply.a1;let z:=b p.supply.a2;let A:=b p.supply.a3;let B:=b p.supply.a4;let C:=b p.supply.a5;let D:=b p.opn.a0;let E:=b p.opn.a1;let F:=b p.opn.a2;let G:=b p.opn.a3;let H:=b p.opn.a4;let I:=b p.opn.a5;let J:=b p.cls.a0;let K:=b p.cls.a1;let L:=b p.cls.a2;let M:=b p.cls.a3;let N:=b p.cls.a4;let O:=b p.cls.a5;let U:=bn.i .i64;let P:=o U p.classes;let Q:=o bn.off p.offers;let ag:=o U ch;let ah:=b val;let R:=SV.fn (Fn.func 82) [] [];let ai:=r 1 prf.length 5;let V:=r 2 fx.length 1;let W:=b most;let aw:=[V,W,γq .i64 12];let ax:=cH.mk ch val found prf err;let a7:=dB p (cq none) most (nF fx) ax a fx;let X:=e [x,y,z,A,B,C,D,E,F,G,H,I,J,K,L,M,N,O,P,Q,o U a7.ch,b a7.val,q a7.found,R,r 1 a7.prf.length 5,V,W,b a7.err] 119 28 false;let an:=g ek prf 93 true;let Y:=g ek a7.prf 93 true;let t:=g U fx 3 true;let Z:=(↑prf.length:Int);let ay:=decide (most<Z+m);let az:=prf.length+2;let a8:=Z+d;let ao:=(c,c,c,[]);let aj:=[(c,ao),(c,ao)];let z53:Nat:=(prf++aj).length;let w:=(jv v).getD c;let ap:=(prf++aj).set a.toNat (m,w,Z,a8,[]);let a9:=w.toNat;let ac:=fx.set a9 d;let S:=dB p (cq none) most (nF ac) (cH.mk ch val found ap err) a8 ac;let ad:=fx.set a9 k;let aa:=dB p (cq none) most (nF ad) S Z ad;let ak:=((j8 p fx).fst,(j8 p fx).snd.fst,(j8 p fx).snd.snd);let al:=val+d;let aq:=bu (Ω al);let aA:=(aq.fst,aq.snd.fst,aq.snd.snd);let aB:=i7 (cj ak) (cj aA);let aC:=decide (aB<c);let aD:=(d,c,c,c,qI p fx);let s:=dU (cq none) ax (Alloc.mk (eD v) (ck (List.map (oI p) (eD v))));let z69:Nat:=(s.prf++aj).length;let ae:=s.prf.length;let am:=s.val+d;let ar:=bu (Ω am);let ab:=(↑ae:Int);let aE:=decide (err≠c);let aF:=decide (kL p fx≠c);let a6:=s.prf.length;let af:=ab+d;let au:=(s.prf++aj).set a.toNat (m,w,ab,af,[]);let T:=dB p (cq none) most (nF ac) (cH.mk s.ch s.val s.found au s.err) af ac;let aG:=dB p (cq none) most (nF ad) T ab ad;let aT:=let aH:=(f []).same (f [])/\(e (x::y::z::A::B::C::D::E::F::G::H::I::J::K::L::M::N::O::P::Q::ag::ah::q found::R::ai::aw) 119 28 false).same X/\an.same Y/\t.same t/\True;o8 (j9 p fx)/\((!(jv v).isSome)=true->aH)/\((!(jv v).isSome)=false->h (Z+m)/\(ay=true->aH)/\(ay=false->2=2/\prf.length=prf.length/\az*56<=140737488355328/\az<=1000000000000/\h a8/\z53=z53/\c<=a/\a<(↑z53:Int)/\z53=z53/\a.toNat<z53/\h a8/\(eZ (dD.mk p ch val found none z53 fx.length most err ap fx)/\(c<=a8/\a8<(↑ap.length:Int))/\(c<=w/\w<(↑fx.length:Int))/\bj fx a9 c=c/\(d=d\/d=k)/\nF ac<n)/\(eZ (dD.mk p S.ch S.val S.found none S.prf.length fx.length most S.err S.prf fx)/\(c<=Z/\Z<(↑S.prf.length:Int))/\(c<=w/\w<(↑fx.length:Int))/\bj fx a9 c=c/\(k=d\/k=k)/\nF ad<n)/\(f []).same (f [])/\(e [x,y,z,A,B,C,D,E,F,G,H,I,J,K,L,M,N,O,P,Q,o U aa.ch,b aa.val,q aa.found,R,r 1 aa.prf.length 5,V,W,b aa.err] 119 28 false).same X/\(g ek aa.prf 93 true).same Y/\t.same t/\True));let aI:=(cY ak/\cY aA)/\(aC=true->prf.length=prf.length/\c<=a/\a<(↑prf.length:Int)/\prf.length=prf.length/\a.toNat<prf.length/\(f []).same (f [])/\(e [x,y,z,A,B,C,D,E,F,G,H,I,J,K,L,M,N,O,P,Q,ag,ah,q found,R,ai,V,W,b err] 119 28 false).same X/\(g ek (prf.set a.toNat aD) 93 true).same Y/\t.same t/\True)/\(aC=false->aT);let aJ:=z69=z69;let aK:=(f []).same (f [])/\(e (x::y::z::A::B::C::D::E::F::G::H::I::J::K::L::M::N::O::P::Q::o U s.ch::b s.val::q s.found::R::r 1 ae 5::aw) 119 28 false).same X/\(g ek s.prf 93 true).same Y/\t.same t/\True;let aL:=(f []).same (f [])/\(e [x,y,z,A,B,C,D,E,F,G,H,I,J,K,L,M,N,O,P,Q,ag,ah,q found,R,ai,V,W,b err] 119 28 false).same X/\an.same Y/\t.same t/\True;let aM:=λ(u:cH) (u_1:bq) ↦(f []).same (f [])/\(e [x,y,z,A,B,C,D,E,F,G,H,I,J,K,L,M,N,O,P,Q,o U u.ch,b u.val,q u.found,R,r 1 u.prf.length 5,V,W,b u.err] 119 28 false).same X/\u_1.same Y/\t.same t/\True;let aN:=λ(u:dD) (u_1:Int) (u_2:Nat) (u_3:Int) ↦eZ u/\(c<=u_1/\u_1<(↑u_2:Int))/\(c<=w/\w<(↑fx.length:Int))/\bj fx a9 c=c/\(u_3=d\/u_3=k)/\nF (fx.set a9 u_3)<n;let aO:=λ(u:Int) (u_1:bq) ↦(f []).same (f [])/\(e [x,y,z,A,B,C,D,E,F,G,H,I,J,K,L,M,N,O,P,Q,ag,ah,q found,R,ai,V,W,b u] 119 28 false).same X/\u_1.same Y/\t.same t/\True;let aP:=λ(u:Bool) ↦decide (i7 (cj ak) (cj (ar.fst,ar.snd.fst,ar.snd.snd))<c)=u;let aQ:=λ(u:Bool) ↦decide (c<=aB)=u;let aR:=λ(u:Int) ↦let av:=bu (Ω (u+d));cY ak/\cY (av.fst,av.snd.fst,av.snd.snd);let aS:=λ(u:Bool) ↦decide (most<ab+m)=u;(aE=true->aL)/\(aE=false->(found=true->aL)/\(found=false->(fx.length=fx.length/\fx.length<=1000000000000)/\(aF=true->aO (kL p fx) an)/\(aF=false->((!jO p fx)=true->prf.length=prf.length/\c<=a/\a<(↑prf.length:Int)/\prf.length=prf.length/\a.toNat<prf.length/\aO err (g ek (prf.set a.toNat ((3:Int),ao)) 93 true))/\((!jO p fx)=false->h al/\(j<=al/\al<=l)/\aR val/\(aQ true->o8 (j9 p fx)/\(mL v=true->(eZ (dD.mk p ch val found none prf.length fx.length most err prf fx)/\o8 (j9 p fx)/\(j9 p fx).length=p.offers.length)/\prf.length=prf.length/\h am/\(j<=am/\am<=l)/\aR s.val/\(aP true->ae=a6/\c<=a/\a<(↑a6:Int)/\ae=a6/\a.toNat<a6/\aM s (g ek (s.prf.set a.toNat aD) 93 true))/\(aP false->o8 (j9 p fx)/\((!(jv v).isSome)=true->aK)/\((!(jv v).isSome)=false->h (ab+m)/\(aS true->aK)/\(aS false->2=2/\ae=a6/\(a6+2)*56<=140737488355328/\a6+2<=1000000000000/\h af/\aJ/\c<=a/\a<(↑z69:Int)/\aJ/\a.toNat<z69/\h af/\aN (dD.mk p s.ch s.val s.found none z69 fx.length most s.err au fx) af au.length d/\aN (dD.mk p T.ch T.val T.found none T.prf.length fx.length most T.err T.prf fx) ab T.prf.length k/\aM aG (g ek aG.prf 93 true)))))/\(mL v=false->aI))/\(aQ false->aI)))))) (by kernel_rfl) ?_
  simp only[vcs]
  refine⟨λh=>by rw[A2 hf (.inl h)];exact⟨rfl,rfl⟩,λh0=>⟨λh=>by rw[A2 hf (.inr h)];exact⟨rfl,rfl⟩,λh1=>⟨by omega,λh=>absurd hfe h,λ_=>⟨λh=>?_,λhb=>?_⟩⟩⟩⟩
  ·have hs:¬((⟨ch,val,found,prf,err⟩:cH).err≠0\/(⟨ch,val,found,prf,err⟩:cH).found=true):=by
    rintro(h|h)
    ·exact h0 h
    ·rw[show found=true from h] at h1;cases h1
   rw[UX hf hs (by rw[<-hfo];exact h)]
   refine⟨ha.1,ha.2,by omega,?_,rfl⟩
   simp only[γb];rfl
  ·have hs:¬((⟨ch,val,found,prf,err⟩:cH).err≠0\/(⟨ch,val,found,prf,err⟩:cH).found=true):=by
    rintro(h|h)
    ·exact h0 h
    ·rw[show found=true from h] at h1;cases h1
   have hbf:iw p fx=true:=by rw[<-hfo];exact hb
   have hfix:=hf.ok hbf
   have eB:j8 p fx=bu (jN p fx):=by unfold j8;rw[if_pos hb]
   have eS:j9 p fx=fL (dr p fx):=by unfold j9 dr;rw[if_pos hb]
   have eP:qI p fx=fL (yr p fx):=by unfold qI;rw[if_pos hb]
   have hsl:(dr p fx).length=fx.length:=rI
   have oS:o8 (fL (dr p fx)):=⟨dr p fx,rfl,by rw[fJ];omega,λq hq=>by
    obtain⟨i,hi,rfl⟩:=δa hq
    have:=(ER hfix hf.r (i:=i) (by omega)).2.2
    rwa [cO hi] at this⟩
   have fB:cY (bu (jN p fx)):=ei (U6 hb) (by omega)
   have fI:∀v:Int,0<=v->v<=9223372036854775807->cY (bu (Ω v)):=λv h0 h1=>ei (U5 (by omega) h1) (by omega)
   have hcv:∀v:Int,i7 (jN p fx) (Ω v)<0↔jN p fx<((v:Int):Rat):=λv=>uw
   simp only[eB,eS,eP,lV,kF,eW]
   have hcm:eD (dr p fx)=(o7 p fx).chosen:=rfl
   refine⟨by omega,by omega,⟨fB,fI _ (by omega) (by omega)⟩,λhge=>⟨oS,λhi=>?_,λhi=>?_⟩,λhlt=>?_⟩
   ·have hO:dh p (cq none) ⟨ch,val,found,prf,err⟩ fx=dU (cq none) ⟨ch,val,found,prf,err⟩ ⟨eD (dr p fx),ck ((eD (dr p fx)).map (oI p))⟩:=by
     unfold dh
     rw[if_pos ⟨ζu.1 λh=>absurd ((hcv (val+1)).2 h) (Int.not_lt.2 hge),hi⟩]
     rfl
    have hok':eZ (dD.upd ⟨p,ch,val,found,none,prf.length,fx.length,most,err,prf,fx⟩ (dh p (cq none) ⟨ch,val,found,prf,err⟩ fx)):=hok.UY
    rw[hO] at hok'
    obtain⟨e1,e2,_⟩:=@ET (cq none) ⟨ch,val,found,prf,err⟩ ⟨eD (dr p fx),ck ((eD (dr p fx)).map (oI p))⟩
    generalize dU (cq none) ⟨ch,val,found,prf,err⟩ ⟨eD (dr p fx),ck ((eD (dr p fx)).map (oI p))⟩=O at*
    obtain⟨ch',val',found',prf',sS⟩:=O
    have e1:prf=prf':=Eq.symm e1
    have e2:err=sS:=Eq.symm e2
    subst e1;subst e2
    have w0:0<=val':=hok'.v0
    have w1:val'<=9223372036854775806:=hok'.v1
    dsimp only
    refine⟨⟨hok,oS,by rw[fJ];omega⟩,by omega,by omega,⟨fB,fI _ (by omega) (by omega)⟩,?_⟩
    refine⟨λh=>?_,λh=>⟨oS,λhk=>?_,λhk=>⟨by omega,λhm=>?_,λhm=>?_⟩⟩⟩
    ·rw[yy hf hs hbf hO ((hcv _).1 h)]
     refine⟨ha.1,ha.2,by omega,?_,rfl⟩
     simp only[γb];rfl
    ·rw[pO hf hs hbf hO (λh'=>h ((hcv _).2 h')) (.inl (γ1.1 hk |>γR.1))]
     exact⟨rfl,rfl⟩
    ·rw[pO hf hs hbf hO (λh'=>h ((hcv _).2 h')) (.inr hm)]
     exact⟨rfl,rfl⟩
    ·obtain⟨k,hk'⟩:=γk.1 hk
     rw[yz hf hs hbf hO (λh'=>h ((hcv _).2 h')) hk' hm];simp only[hk',γX]
     obtain⟨hk1,hk2,hk3⟩:=sQ hk'
     rw[hsl] at hk1
     have hk0:bj fx k.toNat 0=0:=sP hfix hf.r (by omega) hk2 hk3
     have n1:=me hk1 hk0 (d:=1) (by omega)
     have n2:=me hk1 hk0 (d:= -1) (by omega)
     have hl2:((prf++[zN,zN]).set a.toNat (kg k prf.length)).length=prf.length+2:=by rw[γb,ν];rfl
     have hl1:(prf++[zN,zN]).length=prf.length+2:=by rw[ν];rfl
     have o1:=eZ.spl (x:=⟨p,ch',val',found',none,prf.length,fx.length,most,sS,prf,fx⟩) hok' (k:=(prf++[zN,zN]).length) (l:=(prf++[zN,zN]).set a.toNat (kg k prf.length)) hm (by rw[hl1,hl2]) hl2
     have o2:=o1.vis (f:=fx.set k.toNat 1) (hf.set (by omega)) (n:=nF (fx.set k.toNat 1)) (a:=(prf.length:Int)+1)
     have o3:=(@rJ p (cq none) most (nF (fx.set k.toNat 1)) (gp ⟨ch',val',found',prf,sS⟩ a k) ((prf.length:Int)+1) (fx.set k.toNat 1) (hf.set (by omega))).1
     have o4:prf.length+2<=(dB p (cq none) most (nF (fx.set k.toNat 1)) (gp ⟨ch',val',found',prf,sS⟩ a k) ((prf.length:Int)+1) (fx.set k.toNat 1)).prf.length:=by rw[<-hl2];exact o3
     have q1:a<((prf++[zN,zN]).length:Int):=by omega
     have q3:(prf.length:Int)+1<(((prf++[zN,zN]).set a.toNat (kg k prf.length)).length:Int):=by rw[hl2];omega
     have q2:a.toNat<(prf++[zN,zN]).length:=by omega
     exact⟨by omega,by omega,by omega,ha.1,q1,q2,by omega,⟨o1,⟨by omega,q3⟩,hk1,hk0,.inl trivial,by omega⟩,⟨o2,⟨by omega,εX.2 (γr (by omega) o4)⟩,hk1,hk0,.inr trivial,by omega⟩,rfl,rfl⟩
   ·have hO:dh p (cq none) ⟨ch,val,found,prf,err⟩ fx=⟨ch,val,found,prf,err⟩:=by
     unfold dh
     rw[if_neg (λh=>by rw[h.2] at hi;cases hi)]
    refine⟨⟨fB,fI _ (by omega) (by omega)⟩,?_⟩
    refine⟨λh=>?_,λh=>⟨oS,λhk=>?_,λhk=>⟨by omega,λhm=>?_,λhm=>?_⟩⟩⟩
    ·rw[yy hf hs hbf hO ((hcv _).1 h)]
     refine⟨ha.1,ha.2,by omega,?_,rfl⟩
     simp only[γb];rfl
    ·rw[pO hf hs hbf hO (λh'=>h ((hcv _).2 h')) (.inl (γ1.1 hk |>γR.1))]
     exact⟨rfl,rfl⟩
    ·rw[pO hf hs hbf hO (λh'=>h ((hcv _).2 h')) (.inr hm)]
     exact⟨rfl,rfl⟩
    ·obtain⟨k,hk'⟩:=γk.1 hk
     rw[yz hf hs hbf hO (λh'=>h ((hcv _).2 h')) hk' hm];simp only[hk',γX]
     obtain⟨hk1,hk2,hk3⟩:=sQ hk'
     rw[hsl] at hk1
     have hk0:bj fx k.toNat 0=0:=sP hfix hf.r (by omega) hk2 hk3
     have n1:=me hk1 hk0 (d:=1) (by omega)
     have n2:=me hk1 hk0 (d:= -1) (by omega)
     have hl2:((prf++[zN,zN]).set a.toNat (kg k prf.length)).length=prf.length+2:=by rw[γb,ν];rfl
     have hl1:(prf++[zN,zN]).length=prf.length+2:=by rw[ν];rfl
     have o1:=eZ.spl hok (k:=(prf++[zN,zN]).length) (l:=(prf++[zN,zN]).set a.toNat (kg k prf.length)) hm (by rw[hl1,hl2]) hl2
     have o2:=o1.vis (f:=fx.set k.toNat 1) (hf.set (by omega)) (n:=nF (fx.set k.toNat 1)) (a:=(prf.length:Int)+1)
     have o3:=(@rJ p (cq none) most (nF (fx.set k.toNat 1)) (gp ⟨ch,val,found,prf,err⟩ a k) ((prf.length:Int)+1) (fx.set k.toNat 1) (hf.set (by omega))).1
     have o4:prf.length+2<=(dB p (cq none) most (nF (fx.set k.toNat 1)) (gp ⟨ch,val,found,prf,err⟩ a k) ((prf.length:Int)+1) (fx.set k.toNat 1)).prf.length:=by rw[<-hl2];exact o3
     have q1:a<((prf++[zN,zN]).length:Int):=by omega
     have q3:(prf.length:Int)+1<(((prf++[zN,zN]).set a.toNat (kg k prf.length)).length:Int):=by rw[hl2];omega
     have q2:a.toNat<(prf++[zN,zN]).length:=by omega
     exact⟨by omega,by omega,by omega,ha.1,q1,q2,by omega,⟨o1,⟨by omega,q3⟩,hk1,hk0,.inl trivial,by omega⟩,⟨o2,⟨by omega,εX.2 (γr (by omega) o4)⟩,hk1,hk0,.inr trivial,by omega⟩,rfl,rfl⟩
   ·have hO:dh p (cq none) ⟨ch,val,found,prf,err⟩ fx=⟨ch,val,found,prf,err⟩:=by
     unfold dh;rw[if_neg (λh=>ζu.2 h.1 ((hcv (val+1)).1 (Int.not_le.1 hlt)))]
    refine⟨⟨fB,fI _ (by omega) (by omega)⟩,?_⟩
    refine⟨λh=>?_,λh=>⟨oS,λhk=>?_,λhk=>⟨by omega,λhm=>?_,λhm=>?_⟩⟩⟩
    ·rw[yy hf hs hbf hO ((hcv _).1 h)]
     refine⟨ha.1,ha.2,by omega,?_,rfl⟩
     simp only[γb];rfl
    ·rw[pO hf hs hbf hO (λh'=>h ((hcv _).2 h')) (.inl (γ1.1 hk |>γR.1))]
     exact⟨rfl,rfl⟩
    ·rw[pO hf hs hbf hO (λh'=>h ((hcv _).2 h')) (.inr hm)]
     exact⟨rfl,rfl⟩
    ·obtain⟨k,hk'⟩:=γk.1 hk
     rw[yz hf hs hbf hO (λh'=>h ((hcv _).2 h')) hk' hm];simp only[hk',γX]
     obtain⟨hk1,hk2,hk3⟩:=sQ hk'
     rw[hsl] at hk1
     have hk0:bj fx k.toNat 0=0:=sP hfix hf.r (by omega) hk2 hk3
     have n1:=me hk1 hk0 (d:=1) (by omega)
     have n2:=me hk1 hk0 (d:= -1) (by omega)
     have hl2:((prf++[zN,zN]).set a.toNat (kg k prf.length)).length=prf.length+2:=by rw[γb,ν];rfl
     have hl1:(prf++[zN,zN]).length=prf.length+2:=by rw[ν];rfl
     have o1:=eZ.spl hok (k:=(prf++[zN,zN]).length) (l:=(prf++[zN,zN]).set a.toNat (kg k prf.length)) hm (by rw[hl1,hl2]) hl2
     have o2:=o1.vis (f:=fx.set k.toNat 1) (hf.set (by omega)) (n:=nF (fx.set k.toNat 1)) (a:=(prf.length:Int)+1)
     have o3:=(@rJ p (cq none) most (nF (fx.set k.toNat 1)) (gp ⟨ch,val,found,prf,err⟩ a k) ((prf.length:Int)+1) (fx.set k.toNat 1) (hf.set (by omega))).1
     have o4:prf.length+2<=(dB p (cq none) most (nF (fx.set k.toNat 1)) (gp ⟨ch,val,found,prf,err⟩ a k) ((prf.length:Int)+1) (fx.set k.toNat 1)).prf.length:=by rw[<-hl2];exact o3
     have q1:a<((prf++[zN,zN]).length:Int):=by omega
     have q3:(prf.length:Int)+1<(((prf++[zN,zN]).set a.toNat (kg k prf.length)).length:Int):=by rw[hl2];omega
     have q2:a.toNat<(prf++[zN,zN]).length:=by omega
     exact⟨by omega,by omega,by omega,ha.1,q1,q2,by omega,⟨o1,⟨by omega,q3⟩,hk1,hk0,.inl trivial,by omega⟩,⟨o2,⟨by omega,εX.2 (γr (by omega) o4)⟩,hk1,hk0,.inr trivial,by omega⟩,rfl,rfl⟩
 ·refine bR (let b:=γe .i64;let c:=(0:Int);let d:=bq.cells;let e:=(1:Int);let f:=SV.bH;let g:=bq.row;let h:=bX .i64;let j:=(-9223372036854775808:Int);let k:=(-1:Int);let l:=(9223372036854775807:Int);let o:=(2:Int);let q:=Φ;let r:=γI;let s:=SV.ow;let ai:=((j8 p fx).fst,(j8 p fx).snd.fst,(j8 p fx).snd.snd);let aj:=val+e;let ap:=bu (Ω aj);let ay:=(ap.fst,ap.snd.fst,ap.snd.snd);let az:=i7 (cj ai) (cj ay);let aA:=decide (az<c);let z:=b p.supply.a0;let A:=b p.supply.a1;let B:=b p.supply.a2;let C:=b p.supply.a3;let D:=b p.supply.a4;let E:=b p.supply.a5;let F:=b p.opn.a0;let G:=b p.opn.a1;let H:=b p.opn.a2;let I:=b p.opn.a3;let J:=b p.opn.a4;let K:=b p.opn.a5;let L:=b p.cls.a0;let M:=b p.cls.a1;let N:=b p.cls.a2;let O:=b p.cls.a3;let P:=b p.cls.a4;let Q:=b p.cls.a5;let W:=bn.i .i64;let R:=q W p.classes;let S:=q bn.off p.offers;let ak:=q W ch;let al:=b val;let T:=SV.fn (Fn.func 132) [] [γW 1 0 1];let am:=s 2 prf.length 5;let X:=s 3 fx.length 1;let Y:=b most;let aB:=cH.mk ch val found prf err;let a9:=dB p (cq (some m)) most (nF fx) aB a fx;let Z:=d [z,A,B,C,D,E,F,G,H,I,J,K,L,M,N,O,P,Q,R,S,q W a9.ch,b a9.val,r a9.found,T,s 2 a9.prf.length 5,X,Y,b a9.err] 119 28 false;let v:=d [b m] 2 1 false;let aC:=(e,c,c,c,qI p fx);let a6:=g ek a9.prf 93 true;let w:=g W fx 3 true;let x:=vL (j9 p fx);let aD:=[X,Y,γq .i64 12];let aq:=g ek prf 93 true;let a7:=(↑prf.length:Int);let aE:=decide (most<a7+o);let aF:=prf.length+2;let aa:=a7+e;let ar:=(c,c,c,[]);let an:=[(c,ar),(c,ar)];let z61:Nat:=(prf++an).length;let y:=(jv x).getD c;let au:=(prf++an).set a.toNat (o,y,a7,aa,[]);let ab:=y.toNat;let ae:=fx.set ab e;let U:=dB p (cq (some m)) most (nF ae) (cH.mk ch val found au err) aa ae;let af:=fx.set ab k;let ac:=dB p (cq (some m)) most (nF af) U a7 af;let t:=dU (cq (some m)) aB (Alloc.mk (eD x) (ck (List.map (oI p) (eD x))));let ag:=t.prf.length;let z71:Nat:=(t.prf++an).length;let ao:=t.val+e;let av:=bu (Ω ao);let ad:=(↑ag:Int);let aG:=decide (err≠c);let aH:=decide (kL p fx≠c);let a8:=t.prf.length;let ah:=ad+e;let aw:=(t.prf++an).set a.toNat (o,y,ad,ah,[]);let V:=dB p (cq (some m)) most (nF ae) (cH.mk t.ch t.val t.found aw t.err) ah ae;let aI:=dB p (cq (some m)) most (nF af) V ad af;let aV:=let aJ:=(f []).same (f [])/\(d (z::A::B::C::D::E::F::G::H::I::J::K::L::M::N::O::P::Q::R::S::ak::al::r found::T::am::aD) 119 28 false).same Z/\v.same v/\aq.same a6/\w.same w/\True;(aA=true->prf.length=prf.length/\c<=a/\a<(↑prf.length:Int)/\prf.length=prf.length/\a.toNat<prf.length/\(f []).same (f [])/\(d [z,A,B,C,D,E,F,G,H,I,J,K,L,M,N,O,P,Q,R,S,ak,al,r found,T,am,X,Y,b err] 119 28 false).same Z/\v.same v/\(g ek (prf.set a.toNat aC) 93 true).same a6/\w.same w/\True)/\(aA=false->o8 (j9 p fx)/\((!(jv x).isSome)=true->aJ)/\((!(jv x).isSome)=false->h (a7+o)/\(aE=true->aJ)/\(aE=false->2=2/\prf.length=prf.length/\aF*56<=140737488355328/\aF<=1000000000000/\h aa/\z61=z61/\c<=a/\a<(↑z61:Int)/\z61=z61/\a.toNat<z61/\h aa/\(eZ (dD.mk p ch val found (some m) z61 fx.length most err au fx)/\(c<=aa/\aa<(↑au.length:Int))/\(c<=y/\y<(↑fx.length:Int))/\bj fx ab c=c/\(e=e\/e=k)/\nF ae<n)/\(eZ (dD.mk p U.ch U.val U.found (some m) U.prf.length fx.length most U.err U.prf fx)/\(c<=a7/\a7<(↑U.prf.length:Int))/\(c<=y/\y<(↑fx.length:Int))/\bj fx ab c=c/\(k=e\/k=k)/\nF af<n)/\(f []).same (f [])/\(d [z,A,B,C,D,E,F,G,H,I,J,K,L,M,N,O,P,Q,R,S,q W ac.ch,b ac.val,r ac.found,T,s 2 ac.prf.length 5,X,Y,b ac.err] 119 28 false).same Z/\v.same v/\(g ek ac.prf 93 true).same a6/\w.same w/\True)));let aK:=(f []).same (f [])/\(d (z::A::B::C::D::E::F::G::H::I::J::K::L::M::N::O::P::Q::R::S::q W t.ch::b t.val::r t.found::T::s 2 ag 5::aD) 119 28 false).same Z/\v.same v/\(g ek t.prf 93 true).same a6/\w.same w/\True;let aL:=z71=z71;let aM:=(f []).same (f [])/\(d [z,A,B,C,D,E,F,G,H,I,J,K,L,M,N,O,P,Q,R,S,ak,al,r found,T,am,X,Y,b err] 119 28 false).same Z/\v.same v/\aq.same a6/\w.same w/\True;let aN:=(cY ai/\cY ay)/\aV;let aO:=λ(u:cH) (u_1:bq) ↦(f []).same (f [])/\(d [z,A,B,C,D,E,F,G,H,I,J,K,L,M,N,O,P,Q,R,S,q W u.ch,b u.val,r u.found,T,s 2 u.prf.length 5,X,Y,b u.err] 119 28 false).same Z/\v.same v/\u_1.same a6/\w.same w/\True;let aP:=λ(u:dD) (u_1:Int) (u_2:Nat) (u_3:Int) ↦eZ u/\(c<=u_1/\u_1<(↑u_2:Int))/\(c<=y/\y<(↑fx.length:Int))/\bj fx ab c=c/\(u_3=e\/u_3=k)/\nF (fx.set ab u_3)<n;let aQ:=λ(u:Int) (u_1:bq) ↦(f []).same (f [])/\(d [z,A,B,C,D,E,F,G,H,I,J,K,L,M,N,O,P,Q,R,S,ak,al,r found,T,am,X,Y,b u] 119 28 false).same Z/\v.same v/\u_1.same a6/\w.same w/\True;let aR:=λ(u:Bool) ↦decide (i7 (cj ai) (cj (av.fst,av.snd.fst,av.snd.snd))<c)=u;let aS:=λ(u:Bool) ↦decide (c<=az)=u;let aT:=λ(u:Int) ↦let ax:=bu (Ω (u+e));cY ai/\cY (ax.fst,ax.snd.fst,ax.snd.snd);let aU:=λ(u:Bool) ↦decide (most<ad+o)=u;(aG=true->aM)/\(aG=false->(found=true->aM)/\(found=false->(fx.length=fx.length/\fx.length<=1000000000000)/\(aH=true->aQ (kL p fx) aq)/\(aH=false->((!jO p fx)=true->prf.length=prf.length/\c<=a/\a<(↑prf.length:Int)/\prf.length=prf.length/\a.toNat<prf.length/\aQ err (g ek (prf.set a.toNat ((3:Int),ar)) 93 true))/\((!jO p fx)=false->h aj/\(j<=aj/\aj<=l)/\aT val/\(aS true->o8 (j9 p fx)/\(mL x=true->(eZ (dD.mk p ch val found (some m) prf.length fx.length most err prf fx)/\o8 (j9 p fx)/\(j9 p fx).length=p.offers.length)/\prf.length=prf.length/\h ao/\(j<=ao/\ao<=l)/\aT t.val/\(aR true->ag=a8/\c<=a/\a<(↑a8:Int)/\ag=a8/\a.toNat<a8/\aO t (g ek (t.prf.set a.toNat aC) 93 true))/\(aR false->o8 (j9 p fx)/\((!(jv x).isSome)=true->aK)/\((!(jv x).isSome)=false->h (ad+o)/\(aU true->aK)/\(aU false->2=2/\ag=a8/\(a8+2)*56<=140737488355328/\a8+2<=1000000000000/\h ah/\aL/\c<=a/\a<(↑z71:Int)/\aL/\a.toNat<z71/\h ah/\aP (dD.mk p t.ch t.val t.found (some m) z71 fx.length most t.err aw fx) ah aw.length e/\aP (dD.mk p V.ch V.val V.found (some m) V.prf.length fx.length most V.err V.prf fx) ad V.prf.length k/\aO aI (g ek aI.prf 93 true)))))/\(mL x=false->aN))/\(aS false->aN)))))) (by kernel_rfl) ?_
  simp only[vcs]
  refine⟨λh=>by rw[A2 hf (.inl h)];exact⟨rfl,rfl⟩,λh0=>⟨λh=>by rw[A2 hf (.inr h)];exact⟨rfl,rfl⟩,λh1=>⟨by omega,λh=>absurd hfe h,λ_=>⟨λh=>?_,λhb=>?_⟩⟩⟩⟩
  ·have hs:¬((⟨ch,val,found,prf,err⟩:cH).err≠0\/(⟨ch,val,found,prf,err⟩:cH).found=true):=by
    rintro(h|h)
    ·exact h0 h
    ·rw[show found=true from h] at h1;cases h1
   rw[UX hf hs (by rw[<-hfo];exact h)]
   refine⟨ha.1,ha.2,by omega,?_,rfl⟩
   simp only[γb];rfl
  ·have hs:¬((⟨ch,val,found,prf,err⟩:cH).err≠0\/(⟨ch,val,found,prf,err⟩:cH).found=true):=by
    rintro(h|h)
    ·exact h0 h
    ·rw[show found=true from h] at h1;cases h1
   have hbf:iw p fx=true:=by rw[<-hfo];exact hb
   have hfix:=hf.ok hbf
   have eB:j8 p fx=bu (jN p fx):=by unfold j8;rw[if_pos hb]
   have eS:j9 p fx=fL (dr p fx):=by unfold j9 dr;rw[if_pos hb]
   have eP:qI p fx=fL (yr p fx):=by unfold qI;rw[if_pos hb]
   have hsl:(dr p fx).length=fx.length:=rI
   have oS:o8 (fL (dr p fx)):=⟨dr p fx,rfl,by rw[fJ];omega,λq hq=>by
    obtain⟨i,hi,rfl⟩:=δa hq
    have:=(ER hfix hf.r (i:=i) (by omega)).2.2
    rwa [cO hi] at this⟩
   have fB:cY (bu (jN p fx)):=ei (U6 hb) (by omega)
   have fI:∀v:Int,0<=v->v<=9223372036854775807->cY (bu (Ω v)):=λv h0 h1=>ei (U5 (by omega) h1) (by omega)
   have hcv:∀v:Int,i7 (jN p fx) (Ω v)<0↔jN p fx<((v:Int):Rat):=λv=>uw
   simp only[eB,eS,eP,lV,kF,eW]
   have hcm:eD (dr p fx)=(o7 p fx).chosen:=rfl
   refine⟨by omega,by omega,⟨fB,fI _ (by omega) (by omega)⟩,λhge=>⟨oS,λhi=>?_,λhi=>?_⟩,λhlt=>?_⟩
   ·have hO:dh p (cq (some m)) ⟨ch,val,found,prf,err⟩ fx=dU (cq (some m)) ⟨ch,val,found,prf,err⟩ ⟨eD (dr p fx),ck ((eD (dr p fx)).map (oI p))⟩:=by
     unfold dh
     rw[if_pos ⟨ζu.1 λh=>absurd ((hcv (val+1)).2 h) (Int.not_lt.2 hge),hi⟩]
     rfl
    have hok':eZ (dD.upd ⟨p,ch,val,found,(some m),prf.length,fx.length,most,err,prf,fx⟩ (dh p (cq (some m)) ⟨ch,val,found,prf,err⟩ fx)):=hok.UY
    rw[hO] at hok'
    obtain⟨e1,e2,_⟩:=@ET (cq (some m)) ⟨ch,val,found,prf,err⟩ ⟨eD (dr p fx),ck ((eD (dr p fx)).map (oI p))⟩
    generalize dU (cq (some m)) ⟨ch,val,found,prf,err⟩ ⟨eD (dr p fx),ck ((eD (dr p fx)).map (oI p))⟩=O at*
    obtain⟨ch',val',found',prf',sS⟩:=O
    have e1:prf=prf':=Eq.symm e1
    have e2:err=sS:=Eq.symm e2
    subst e1;subst e2
    have w0:0<=val':=hok'.v0
    have w1:val'<=9223372036854775806:=hok'.v1
    dsimp only
    refine⟨⟨hok,oS,by rw[fJ];omega⟩,by omega,by omega,⟨fB,fI _ (by omega) (by omega)⟩,?_⟩
    refine⟨λh=>?_,λh=>⟨oS,λhk=>?_,λhk=>⟨by omega,λhm=>?_,λhm=>?_⟩⟩⟩
    ·rw[yy hf hs hbf hO ((hcv _).1 h)]
     refine⟨ha.1,ha.2,by omega,?_,rfl⟩
     simp only[γb];rfl
    ·rw[pO hf hs hbf hO (λh'=>h ((hcv _).2 h')) (.inl (γ1.1 hk |>γR.1))]
     exact⟨rfl,rfl⟩
    ·rw[pO hf hs hbf hO (λh'=>h ((hcv _).2 h')) (.inr hm)]
     exact⟨rfl,rfl⟩
    ·obtain⟨k,hk'⟩:=γk.1 hk
     rw[yz hf hs hbf hO (λh'=>h ((hcv _).2 h')) hk' hm];simp only[hk',γX]
     obtain⟨hk1,hk2,hk3⟩:=sQ hk'
     rw[hsl] at hk1
     have hk0:bj fx k.toNat 0=0:=sP hfix hf.r (by omega) hk2 hk3
     have n1:=me hk1 hk0 (d:=1) (by omega)
     have n2:=me hk1 hk0 (d:= -1) (by omega)
     have hl2:((prf++[zN,zN]).set a.toNat (kg k prf.length)).length=prf.length+2:=by rw[γb,ν];rfl
     have hl1:(prf++[zN,zN]).length=prf.length+2:=by rw[ν];rfl
     have o1:=eZ.spl (x:=⟨p,ch',val',found',(some m),prf.length,fx.length,most,sS,prf,fx⟩) hok' (k:=(prf++[zN,zN]).length) (l:=(prf++[zN,zN]).set a.toNat (kg k prf.length)) hm (by rw[hl1,hl2]) hl2
     have o2:=o1.vis (f:=fx.set k.toNat 1) (hf.set (by omega)) (n:=nF (fx.set k.toNat 1)) (a:=(prf.length:Int)+1)
     have o3:=(@rJ p (cq (some m)) most (nF (fx.set k.toNat 1)) (gp ⟨ch',val',found',prf,sS⟩ a k) ((prf.length:Int)+1) (fx.set k.toNat 1) (hf.set (by omega))).1
     have o4:prf.length+2<=(dB p (cq (some m)) most (nF (fx.set k.toNat 1)) (gp ⟨ch',val',found',prf,sS⟩ a k) ((prf.length:Int)+1) (fx.set k.toNat 1)).prf.length:=by rw[<-hl2];exact o3
     have q1:a<((prf++[zN,zN]).length:Int):=by omega
     have q3:(prf.length:Int)+1<(((prf++[zN,zN]).set a.toNat (kg k prf.length)).length:Int):=by rw[hl2];omega
     have q2:a.toNat<(prf++[zN,zN]).length:=by omega
     exact⟨by omega,by omega,by omega,ha.1,q1,q2,by omega,⟨o1,⟨by omega,q3⟩,hk1,hk0,.inl trivial,by omega⟩,⟨o2,⟨by omega,εX.2 (γr (by omega) o4)⟩,hk1,hk0,.inr trivial,by omega⟩,rfl,rfl⟩
   ·have hO:dh p (cq (some m)) ⟨ch,val,found,prf,err⟩ fx=⟨ch,val,found,prf,err⟩:=by
     unfold dh
     rw[if_neg (λh=>by rw[h.2] at hi;cases hi)]
    refine⟨⟨fB,fI _ (by omega) (by omega)⟩,?_⟩
    refine⟨λh=>?_,λh=>⟨oS,λhk=>?_,λhk=>⟨by omega,λhm=>?_,λhm=>?_⟩⟩⟩
    ·rw[yy hf hs hbf hO ((hcv _).1 h)]
     refine⟨ha.1,ha.2,by omega,?_,rfl⟩
     simp only[γb];rfl
    ·rw[pO hf hs hbf hO (λh'=>h ((hcv _).2 h')) (.inl (γ1.1 hk |>γR.1))]
     exact⟨rfl,rfl⟩
    ·rw[pO hf hs hbf hO (λh'=>h ((hcv _).2 h')) (.inr hm)]
     exact⟨rfl,rfl⟩
    ·obtain⟨k,hk'⟩:=γk.1 hk
     rw[yz hf hs hbf hO (λh'=>h ((hcv _).2 h')) hk' hm];simp only[hk',γX]
     obtain⟨hk1,hk2,hk3⟩:=sQ hk'
     rw[hsl] at hk1
     have hk0:bj fx k.toNat 0=0:=sP hfix hf.r (by omega) hk2 hk3
     have n1:=me hk1 hk0 (d:=1) (by omega)
     have n2:=me hk1 hk0 (d:= -1) (by omega)
     have hl2:((prf++[zN,zN]).set a.toNat (kg k prf.length)).length=prf.length+2:=by rw[γb,ν];rfl
     have hl1:(prf++[zN,zN]).length=prf.length+2:=by rw[ν];rfl
     have o1:=eZ.spl hok (k:=(prf++[zN,zN]).length) (l:=(prf++[zN,zN]).set a.toNat (kg k prf.length)) hm (by rw[hl1,hl2]) hl2
     have o2:=o1.vis (f:=fx.set k.toNat 1) (hf.set (by omega)) (n:=nF (fx.set k.toNat 1)) (a:=(prf.length:Int)+1)
     have o3:=(@rJ p (cq (some m)) most (nF (fx.set k.toNat 1)) (gp ⟨ch,val,found,prf,err⟩ a k) ((prf.length:Int)+1) (fx.set k.toNat 1) (hf.set (by omega))).1
     have o4:prf.length+2<=(dB p (cq (some m)) most (nF (fx.set k.toNat 1)) (gp ⟨ch,val,found,prf,err⟩ a k) ((prf.length:Int)+1) (fx.set k.toNat 1)).prf.length:=by rw[<-hl2];exact o3
     have q1:a<((prf++[zN,zN]).length:Int):=by omega
     have q3:(prf.length:Int)+1<(((prf++[zN,zN]).set a.toNat (kg k prf.length)).length:Int):=by rw[hl2];omega
     have q2:a.toNat<(prf++[zN,zN]).length:=by omega
     exact⟨by omega,by omega,by omega,ha.1,q1,q2,by omega,⟨o1,⟨by omega,q3⟩,hk1,hk0,.inl trivial,by omega⟩,⟨o2,⟨by omega,εX.2 (γr (by omega) o4)⟩,hk1,hk0,.inr trivial,by omega⟩,rfl,rfl⟩
   ·have hO:dh p (cq (some m)) ⟨ch,val,found,prf,err⟩ fx=⟨ch,val,found,prf,err⟩:=by
     unfold dh;rw[if_neg (λh=>ζu.2 h.1 ((hcv (val+1)).1 (Int.not_le.1 hlt)))]
    refine⟨⟨fB,fI _ (by omega) (by omega)⟩,?_⟩
    refine⟨λh=>?_,λh=>⟨oS,λhk=>?_,λhk=>⟨by omega,λhm=>?_,λhm=>?_⟩⟩⟩
    ·rw[yy hf hs hbf hO ((hcv _).1 h)]
     refine⟨ha.1,ha.2,by omega,?_,rfl⟩
     simp only[γb];rfl
    ·rw[pO hf hs hbf hO (λh'=>h ((hcv _).2 h')) (.inl (γ1.1 hk |>γR.1))]
     exact⟨rfl,rfl⟩
    ·rw[pO hf hs hbf hO (λh'=>h ((hcv _).2 h')) (.inr hm)]
     exact⟨rfl,rfl⟩
    ·obtain⟨k,hk'⟩:=γk.1 hk
     rw[yz hf hs hbf hO (λh'=>h ((hcv _).2 h')) hk' hm];simp only[hk',γX]
     obtain⟨hk1,hk2,hk3⟩:=sQ hk'
     rw[hsl] at hk1
     have hk0:bj fx k.toNat 0=0:=sP hfix hf.r (by omega) hk2 hk3
     have n1:=me hk1 hk0 (d:=1) (by omega)
     have n2:=me hk1 hk0 (d:= -1) (by omega)
     have hl2:((prf++[zN,zN]).set a.toNat (kg k prf.length)).length=prf.length+2:=by rw[γb,ν];rfl
     have hl1:(prf++[zN,zN]).length=prf.length+2:=by rw[ν];rfl
     have o1:=eZ.spl hok (k:=(prf++[zN,zN]).length) (l:=(prf++[zN,zN]).set a.toNat (kg k prf.length)) hm (by rw[hl1,hl2]) hl2
     have o2:=o1.vis (f:=fx.set k.toNat 1) (hf.set (by omega)) (n:=nF (fx.set k.toNat 1)) (a:=(prf.length:Int)+1)
     have o3:=(@rJ p (cq (some m)) most (nF (fx.set k.toNat 1)) (gp ⟨ch,val,found,prf,err⟩ a k) ((prf.length:Int)+1) (fx.set k.toNat 1) (hf.set (by omega))).1
     have o4:prf.length+2<=(dB p (cq (some m)) most (nF (fx.set k.toNat 1)) (gp ⟨ch,val,found,prf,err⟩ a k) ((prf.length:Int)+1) (fx.set k.toNat 1)).prf.length:=by rw[<-hl2];exact o3
     have q1:a<((prf++[zN,zN]).length:Int):=by omega
     have q3:(prf.length:Int)+1<(((prf++[zN,zN]).set a.toNat (kg k prf.length)).length:Int):=by rw[hl2];omega
     have q2:a.toNat<(prf++[zN,zN]).length:=by omega
     exact⟨by omega,by omega,by omega,ha.1,q1,q2,by omega,⟨o1,⟨by omega,q3⟩,hk1,hk0,.inl trivial,by omega⟩,⟨o2,⟨by omega,εX.2 (γr (by omega) o4)⟩,hk1,hk0,.inr trivial,by omega⟩,rfl,rfl⟩
theorem Ls:∀n,dK Tryz.prog (vY n)
 |0=>λa ha=>absurd ha.2.2 (by omega)
 |n+1=>afd (ae7 (Ls n))
theorem vZ {p:bp} (hc:bC p=0) {c:List Int} (hf:cM p c=0):0<=eC p c/\eC p c<=160000000/\c.length<=160:=by
 obtain⟨_,ha⟩:=uq hf
 have h160:=(dL hc).2.1
 have hl:c.length<=p.offers.length:=yl ha
 have h1:=sA (dL hc) (l:=c.map (oI p)) λx hx=>by
  obtain⟨i,hi,rfl⟩:=γf.1 hx
  have:=ha.2 i hi
  exact de (by omega)
 rw[List.length_map] at h1;rw[yv hc ha]
 have e:ck (c.map (oI p))=ck (cy p c):=rfl
 omega
theorem Lt {p:bp} (hc:bC p=0):(jK p).length<=160:=(vZ hc (TL hc)).2.2
theorem afe {p:bp} {c:List Int} {most:Int} {k:Nat} (hc:bC p=0) (hf:cM p c=0) (m0:1<=most) (m1:most<=65536) (hk:k=p.offers.length):eZ ⟨p,(jw p c).ch,(jw p c).val,(jw p c).found,none,(jw p c).prf.length,k,most,(jw p c).err,(jw p c).prf,ix p⟩:=by
 have h1:=Kx hc hf
 have h2:=A4 hc
 have hG:cM p (jw p c).ch=0/\eC p (jw p c).ch=(jw p c).val:=
  yB (G:=λc w _=>cM p c=0/\eC p c=w) (λ_ _ _ _ _ _ h1 h2 _=>⟨h1,h2⟩) (yB (G:=λc w _=>cM p c=0/\eC p c=w) (λ_ _ _ _ _ _ h1 h2 _=>⟨h1,h2⟩) (s:=⟨c,eC p c,false,[zN],0⟩) ⟨hf,rfl⟩ h1.2.1 h1.2.2.1) h2.1 h2.2
 obtain⟨b0,b1,b2⟩:=vZ hc hG.1
 obtain⟨e1,_,_⟩:=@Ln p c
 rw[hG.2] at b0 b1
 exact⟨pP hc,rfl,by rw[hk];exact(γS).symm,b0,by show(jw p c).val<=_;omega,m0,m1,by show(jw p c).prf.length<=_;rw[e1];decide,by show(jw p c).ch.length<=_;omega⟩
theorem aff {p:bp} {m most:Int} {k:Nat} (hc:bC p=0) (hm:0<m/\m<=9223372036854775807) (m0:1<=most) (m1:most<=65536) (hk:k=p.offers.length):eZ ⟨p,(jy p m).ch,(jy p m).val,(jy p m).found,some m,(jy p m).prf.length,k,most,(jy p m).err,(jy p m).prf,ix p⟩:=by
 have h2:=A4 hc
 have hG:(0<=(jy p m).val/\(jy p m).val<=9223372036854775806)/\(jy p m).ch.length<=160:=
  yB (G:=λc w _=>(0<=w/\w<=9223372036854775806)/\c.length<=160) (λ_ _ _ c' w' _ h1 h2 _=>by
   obtain⟨b0,b1,b2⟩:=vZ hc h1
   omega) (s:=⟨[],m - 1,false,[zN],0⟩) ⟨⟨by show 0<=m - 1;omega,by show m - 1<=_;omega⟩,by show([]:List Int).length<=160;decide⟩ h2.1 h2.2
 obtain⟨e1,_⟩:=@Lq p m
 exact⟨pP hc,rfl,by rw[hk];exact(γS).symm,hG.1.1,hG.1.2,m0,m1,by show(jy p m).prf.length<=_;rw[e1];decide,by show(jy p m).ch.length<=_;omega⟩
noncomputable def Lu:bM:=⟨52,bp×Alloc×Int,.cons dG (.cons lj (.one (ez .i64))),λa=>a.1.offers.length<=40/\a.2.1.chosen.length<=9223372036854775807,
 λa=> .bH [.agg [.row (.i .i64) (if kj a.1 a.2.1.chosen a.2.2=0 then(iy a.1 a.2.1.chosen a.2.2).ch else[]),.si .i64 (if kj a.1 a.2.1.chosen a.2.2=0 then(iy a.1 a.2.1.chosen a.2.2).val else 0)],.row ek (if kj a.1 a.2.1.chosen a.2.2=0 then(iy a.1 a.2.1.chosen a.2.2).prf else[]),.si .i64 (kj a.1 a.2.1.chosen a.2.2)]⟩
theorem h429:Holds Tryz.prog Lu:=by
 refine con (L:=[zy,K6,AB,AA]) (W:=fY [AZ,vY 161]) Lu lk (ln (by simpa using⟨h439,Ls 161⟩)) (by simpa using⟨h100,h437,h315,h312⟩) ?_
 rintro⟨p,⟨c,v⟩,most⟩ ⟨h40,hcl⟩
 simp only at h40 hcl
 refine bR (let a:=(0:Int);let b:=γe .i64;let d:=(140737488355328:Int);let e:=(1000000000000:Int);let f:=(1:Int);let g:=Φ;let h:=γK;let j:=SV.bH;let r:=bn.i .i64;let n:=g r [];let o:=γq .i64 0;let s:=iy p c most;let w:=j [h [g r (if kj p c most=a then s.ch else[]),b (if kj p c most=a then s.val else a)],g ek (if kj p c most=a then s.prf else[]),b (kj p c most)];let l:=(↑p.offers.length:Int);let q:=ε l.toNat a;let t:=dU (cq none) (cH.mk c (eC p c) false [(a,a,a,a,[])] a) (gn p c);let k:=dU (cq none) t (gn p (jK p));let m:=dB p (cq none) most (nF q) k a q;let x:=decide (cM p c≠a);let y:=decide (most<f);let z:=decide ((65536:Int)<most);let A:=0+c.length;let B:=(j [h [n,o],n,γq .i64 4]).same w;let v:=λ(u:List Int) (u_1 u_2 u_3:SV) ↦(j [h [g r u,u_1],u_2,u_3]).same w;let C:=λ(u:Bool) ↦decide (m.err≠a)=u;c.length<=9223372036854775807/\(x=true->v [] o n (b (cM p c)))/\(x=false->(y=true->B)/\(y=false->(z=true->B)/\(z=false->0=0/\A*8<=140737488355328/\A<=1000000000000/\(bC p=a/\c.length<=9223372036854775807)/\a<=f/\f<=f/\(56:Int)<=d/\f<=e/\a<=l/\l<=l/\l*(8:Int)<=d/\l<=e/\c.length=c.length/\c.length=c.length/\c.length<=9223372036854775807/\1=1/\p.offers.length<=40/\(jK p).length<=9223372036854775807/\t.prf.length=t.prf.length/\(eZ (dD.mk p k.ch k.val k.found none k.prf.length l.toNat most k.err k.prf q)/\(a<=a/\a<(↑k.prf.length:Int))/\nF q<161)/\(C true->v [] o n (b m.err))/\(C false->m.prf.length=m.prf.length/\v m.ch (b m.val) (g ek m.prf) o))))) (by kernel_rfl) ?_
 simp only[vcs]
 have hz:(ε ((p.offers.length:Int)).toNat 0:List Int)=ix p:=by unfold ix;rw[γz]
 have e0:dU (cq none) (dU (cq none) ⟨c,eC p c,false,[(0,(0,(0,(0,[]))))],0⟩ (gn p c)) (gn p (jK p))=jw p c:=rfl
 have en:nF (ix p)=p.offers.length:=yA
 simp only[hz,e0,en]
 refine⟨hcl,λh=>?_,λh=>⟨λh1=>?_,λh1=>⟨λh2=>?_,λh2=>?_⟩⟩⟩
 ·have e:kj p c most=cM p c:=by unfold kj;rw[if_pos h]
  rw[e,if_neg h,if_neg h,if_neg h]
  exact⟨rfl,rfl,rfl⟩
 ·have e:kj p c most=4:=by unfold kj;rw[if_neg h,if_pos (.inl h1)]
  rw[e]
  exact⟨rfl,rfl,rfl⟩
 ·have e:kj p c most=4:=by unfold kj;rw[if_neg h,if_pos (.inr h2)]
  rw[e]
  exact⟨rfl,rfl,rfl⟩
 ·have hf:cM p c=0:=Γ.1 h
  have hc:bC p=0:=(uq hf).1
  obtain⟨b0,b1,b2⟩:=vZ hc hf
  obtain⟨e1,e2,e3⟩:=@Ln p c
  have e:kj p c most=(iy p c most).err:=by unfold kj;rw[if_neg h,if_neg (by omega)]
  have hv:dB p (cq none) most p.offers.length (jw p c) 0 (ix p)=iy p c most:=rfl
  have hst:=Lt hc
  rw[hv,e]
  refine⟨by omega,by omega,⟨hc,hcl⟩,by omega,by omega,by omega,by omega,by omega,by omega,by omega,by omega,hcl,h40,by omega,⟨afe hc hf (by omega) (by omega) (by omega),⟨by omega,by rw[e1];decide⟩,by omega⟩,λh3=>?_,λh3=>?_⟩
  ·rw[if_neg h3,if_neg h3,if_neg h3]
   exact⟨rfl,rfl,rfl⟩
  ·rw[Γ] at h3
   rw[h3]
   exact⟨rfl,rfl,rfl⟩
noncomputable def Lx:bM:=⟨93,bp×Int×Int,.cons dG (.cons (ez .i64) (.one (ez .i64))),λa=>a.1.offers.length<=40/\ -9223372036854775808<=a.2.1/\a.2.1<=9223372036854775807,
 λa=> .bH [.agg [.row (.i .i64) (oa a.1 a.2.1 a.2.2).chosen,.si .i64 (oa a.1 a.2.1 a.2.2).value],.sb (jP a.1 a.2.1 a.2.2),.si .i64 (iP a.1 a.2.1 a.2.2)]⟩
theorem h434:Holds Tryz.prog Lx:=by
 refine con (L:=[ri,AB,AA]) (W:=fY [AZ,vY 161]) Lx lk (ln (by simpa using⟨h439,Ls 161⟩)) (by simpa using⟨h79,h315,h312⟩) ?_
 rintro⟨p,m,most⟩ ⟨h40,m0,m1⟩
 simp only at h40 m0 m1
 refine bR (let a:=(0:Int);let b:=γe .i64;let c:=(1:Int);let d:=(140737488355328:Int);let e:=SV.bH;let f:=(1000000000000:Int);let g:=γq .i64;let h:=Φ;let j:=γK;let t:=bn.i .i64;let r:=[g 0];let l:=e [j [h t (oa p m most).chosen,b (oa p m most).value],γI (jP p m most),b (iP p m most)];let o:=j (h t []::r);let q:=δs false;let k:=dU (cq (some m)) (cH.mk [] (m - c) false [(a,a,a,a,[])] a) (gn p (jK p));let v:=decide (bC p≠a);let w:=decide (most<c);let x:=decide ((65536:Int)<most);let y:=decide (m<=a);let n:=(↑p.offers.length:Int);let s:=ε n.toNat a;let z:=λ(u:cH) ↦let A:=decide (u.err≠a);(u.found=true->(e (j [h t u.ch,b u.val]::δs true::r)).same l)/\(u.found=false->(A=true->(e [o,q,b u.err]).same l)/\(A=false->(e (o::q::r)).same l));let B:=λ(u:Bool) ↦(!k.found)=u;True/\(v=true->(e [o,q,b (bC p)]).same l)/\(v=false->(w=true->(e [o,q,g 4]).same l)/\(w=false->(x=true->(e [o,q,g 4]).same l)/\(x=false->(y=true->(e (o::δs true::r)).same l)/\(y=false->bX .i64 (m - c)/\a<=c/\c<=c/\(56:Int)<=d/\c<=f/\a<=n/\n<=n/\n*(8:Int)<=d/\n<=f/\0=0/\p.offers.length<=40/\(jK p).length<=9223372036854775807/\1=1/\(B true->(eZ (dD.mk p k.ch k.val k.found (some m) k.prf.length n.toNat most k.err k.prf s)/\(a<=a/\a<(↑k.prf.length:Int))/\nF s<161)/\z (dB p (cq (some m)) most (nF s) k a s))/\(B false->z k)))))) (by kernel_rfl) ?_
 simp only[vcs]
 have hz:(ε ((p.offers.length:Int)).toNat 0:List Int)=ix p:=by unfold ix;rw[γz]
 have e0:dU (cq (some m)) ⟨[],m - 1,false,[(0,(0,(0,(0,[]))))],0⟩ (gn p (jK p))=jy p m:=rfl
 have en:nF (ix p)=p.offers.length:=yA
 simp only[hz,e0,en]
 have key:∀e:Int,iP p m most=e->jP p m most=(decide (e=0)&&(decide (m<=0)||(fK p m most).found)):=λe h=>by unfold jP;rw[h]
 have k9:jP p m most=false\/m<=0->oa p m most=⟨[],0⟩:=λh=>by
  unfold oa;rw[if_neg]
  rintro⟨h1,h2⟩
  rcases h with h|h
  ·rw[h] at h1;cases h1
  ·omega
 refine⟨λh=>?_,λh=>⟨λh1=>?_,λh1=>⟨λh2=>?_,λh2=>⟨λh3=>?_,λh3=>?_⟩⟩⟩⟩
 ·have e:iP p m most=bC p:=by unfold iP;rw[if_pos h]
  have f:jP p m most=false:=by rw[key _ e,decide_eq_false h];rfl
  rw[e,f,k9 (.inl f)]
  exact⟨rfl,rfl,rfl⟩
 ·have e:iP p m most=4:=by unfold iP;rw[if_neg h,if_pos (.inl h1)]
  have f:jP p m most=false:=by rw[key _ e];rfl
  rw[e,f,k9 (.inl f)]
  exact⟨rfl,rfl,rfl⟩
 ·have e:iP p m most=4:=by unfold iP;rw[if_neg h,if_pos (.inr h2)]
  have f:jP p m most=false:=by rw[key _ e];rfl
  rw[e,f,k9 (.inl f)]
  exact⟨rfl,rfl,rfl⟩
 ·have e:iP p m most=0:=by unfold iP;rw[if_neg h,if_neg (by omega),if_pos h3]
  have f:jP p m most=true:=by rw[key _ e,decide_eq_true h3];rfl
  rw[e,f,k9 (.inr h3)]
  exact⟨rfl,rfl,rfl⟩
 ·have hc:bC p=0:=Γ.1 h
  obtain⟨e1,e2⟩:=@Lq p m
  have hv:dB p (cq (some m)) most p.offers.length (jy p m) 0 (ix p)=fK p m most:=rfl
  have hst:=Lt hc
  have hE:iP p m most=if(fK p m most).found=true then 0 else(fK p m most).err:=by unfold iP;rw[if_neg h,if_neg (by omega),if_neg h3]
  have tail:((fK p m most).found=true->(γK [Φ (bn.i .i64) (fK p m most).ch,γe .i64 (fK p m most).val]).same (γK [Φ (bn.i .i64) (oa p m most).chosen,γe .i64 (oa p m most).value])/\true=jP p m most/\0=iP p m most)/\
    ((fK p m most).found=false->((fK p m most).err≠0->(γK [Φ (bn.i .i64) [],γq .i64 0]).same (γK [Φ (bn.i .i64) (oa p m most).chosen,γe .i64 (oa p m most).value])/\false=jP p m most/\(fK p m most).err=iP p m most)/\
     (¬(fK p m most).err≠0->(γK [Φ (bn.i .i64) [],γq .i64 0]).same (γK [Φ (bn.i .i64) (oa p m most).chosen,γe .i64 (oa p m most).value])/\false=jP p m most/\0=iP p m most)):=by
   refine⟨λhf=>?_,λhf=>⟨λhe=>?_,λhe=>?_⟩⟩
   ·rw[if_pos hf] at hE
    have f:jP p m most=true:=by rw[key _ hE,hf,Bool.or_true];rfl
    have a:oa p m most=⟨(fK p m most).ch,(fK p m most).val⟩:=by unfold oa;rw[if_pos ⟨f,by omega⟩]
    rw[hE,f,a]
    exact⟨rfl,rfl,rfl⟩
   ·rw[if_neg (by rw[hf];simp)] at hE
    have f:jP p m most=false:=by rw[key _ hE,decide_eq_false he];rfl
    rw[hE,f,k9 (.inl f)]
    exact⟨rfl,rfl,rfl⟩
   ·rw[if_neg (by rw[hf];simp),Γ.1 he] at hE
    have f:jP p m most=false:=by rw[key _ hE,hf,decide_eq_false h3];rfl
    rw[hE,f,k9 (.inl f)]
    exact⟨rfl,rfl,rfl⟩
  rw[hv]
  refine⟨by omega,by omega,by omega,by omega,by omega,by omega,by omega,by omega,by omega,h40,by omega,λh4=>⟨⟨aff hc (by omega) (by omega) (by omega) (by omega),⟨by omega,by rw[e1];decide⟩,by omega⟩,tail⟩,λh4=>?_⟩
  have hb:fK p m most=jy p m:=by
   have:=A2 (f:=ix p) (en:=cq (some m)) (most:=most) (a:=0) (pP hc) (.inr h4)
   rw[en] at this;exact this
  rw[hb] at tail;exact tail
structure jc where
 left:bz
 opn:bz
 chosen:List Int
 value:Int
 won:List Bool
def nd (c w cl:Int):Int:=if c=0\/c≠cl then w else 0
def v7 (p:bp) (x:Off):bz:=⟨nd p.cls.a0 x.want.a0 (iE p x),nd p.cls.a1 x.want.a1 (iE p x),nd p.cls.a2 x.want.a2 (iE p x),nd p.cls.a3 x.want.a3 (iE p x),nd p.cls.a4 x.want.a4 (iE p x),nd p.cls.a5 x.want.a5 (iE p x)⟩
def bz.pos (b:bz):Bool:=decide (0<=b.a0)&&decide (0<=b.a1)&&decide (0<=b.a2)&&decide (0<=b.a3)&&decide (0<=b.a4)&&decide (0<=b.a5)
def fQ (p:bp) (u:jc) (x:Off):bz:=(u.opn.sub (v7 p x)).meet (u.left.sub x.want)
def iH (p:bp) (u:jc) (x:Off):Bool:=!(bj u.won x.bF.toNat false)&&((u.left.sub x.want).pos&&(fQ p u x).pos)
def eT (p:bp) (u:jc) (i:Int):jc:=⟨u.left.sub (oI p i).want,fQ p u (oI p i),u.chosen++[i],u.value+(oI p i).value,u.won.set (oI p i).bF.toNat true⟩
def gq (p:bp) (u:jc) (k:Nat):bp:=⟨u.left,u.opn,p.cls,p.classes,(p.offers.drop k).filter (iH p u)⟩
theorem Ly {x:bz}:dS [x]=x:=by simp[dS]
theorem six {P:Nat->Prop} (h0:P 0) (h1:P 1) (h2:P 2) (h3:P 3) (h4:P 4) (h5:P 5):∀k,k<6->P k:=by
 intro k hk
 rcases(show k=0\/k=1\/k=2\/k=3\/k=4\/k=5 by omega) with rfl|rfl|rfl|rfl|rfl|rfl
 ·exact h0
 ·exact h1
 ·exact h2
 ·exact h3
 ·exact h4
 ·exact h5
theorem A5 {a b:bz}:∀k,k<6->(a.sub b).at k=a.at k - b.at k:=six rfl rfl rfl rfl rfl rfl
theorem yC {a b:bz}:∀k,k<6->(a.add b).at k=a.at k+b.at k:=six rfl rfl rfl rfl rfl rfl
theorem U7 {a b:bz}:∀k,k<6->(a.meet b).at k=min (a.at k) (b.at k):=six rfl rfl rfl rfl rfl rfl
theorem LA {p:bp} {x:Off}:∀k,k<6->(v7 p x).at k=nd (p.cls.at k) (x.want.at k) (iE p x):=six rfl rfl rfl rfl rfl rfl
theorem E4 {p:bp} {x:Off}:∀k,k<6->(dR p x).at k=if p.cls.at k=0\/p.cls.at k=iE p x then 0 else x.want.at k:=by
 refine six ?_ ?_ ?_ ?_ ?_ ?_<;>(show oc _ _ _ _ _=_;unfold oc;simp only[show((0:Int)<6)=True by simp,show((1:Int)<6)=True by simp,show((2:Int)<6)=True by simp,show((3:Int)<6)=True by simp,show((4:Int)<6)=True by simp,show((5:Int)<6)=True by simp,true_and];rfl)
theorem U8 {b:bz}:b.pos=true↔∀k,k<6->0<=b.at k:=by
 unfold bz.pos;simp only[θ,decide_eq_true_eq]
 constructor
 ·rintro⟨⟨⟨⟨⟨h0,h1⟩,h2⟩,h3⟩,h4⟩,h5⟩
  exact six h0 h1 h2 h3 h4 h5
 ·intro h
  exact⟨⟨⟨⟨⟨h 0 (by omega),h 1 (by omega)⟩,h 2 (by omega)⟩,h 3 (by omega)⟩,h 4 (by omega)⟩,h 5 (by omega)⟩
theorem yD {b:bz}:b.ok=true↔∀k,k<6->0<=b.at k/\b.at k<=4:=by
 rw[bz.fA]
 constructor
 ·rintro⟨h0,h1,h2,h3,h4,h5⟩
  exact six h0 h1 h2 h3 h4 h5
 ·intro h
  exact⟨h 0 (by omega),h 1 (by omega),h 2 (by omega),h 3 (by omega),h 4 (by omega),h 5 (by omega)⟩
theorem LH {p:bp} {k:Nat} (hk:k<6):∀L:List Off,(dS (L.map (v7 p))).at k=if p.cls.at k=0 then(dS (L.map Off.want)).at k else(dS (L.map (dR p))).at k:=by
 intro L;rw[mD,mD,mD]
 induction L with
 |nil=>simp
 |cons x L ih=>
  simp only[ι,δ0];rw[ih,LA k hk,E4 k hk];unfold nd
  by_cases h:p.cls.at k=0
  ·simp[h]
  ·simp only[h,false_or,if_false]
   by_cases h2:p.cls.at k=iE p x
   ·simp[h2]
   ·simp[h2]
theorem LI {p:bp} {k:Nat} (hk:k<6) (h0:p.cls.at k=0):∀L:List Off,(dS (L.map (dR p))).at k=0:=by
 intro L;rw[mD]
 induction L with
 |nil=>simp
 |cons x L ih=>
  simp only[ι,δ0];rw[ih,E4 k hk,if_pos (.inl h0)];rfl
theorem E5 {p:bp} (hg:Good p) {k:Nat} (hk:k<6):∀{L:List Off},(∀x∈L,x∈p.offers)->0<=(dS (L.map Off.want)).at k/\(dS (L.map (dR p))).at k<=(dS (L.map Off.want)).at k/\0<=(dS (L.map (dR p))).at k:=by
 intro L;rw[mD,mD]
 induction L with
 |nil=>intro _;simp
 |cons x L ih=>
  intro h
  have i1:=ih λy hy=>h y (γ6 _ hy)
  have hw:=(yD.1 (hg.2.2.2.2 x (h x (εL ..))).2.2.1 k hk)
  simp only[ι,δ0];rw[E4 k hk]
  split<;>omega
theorem v8 {p:bp} (hc:bC p=0) {k:Nat} (hk:k<6):0<=p.cls.at k/\p.cls.at k<=4/\0<=p.opn.at k/\p.opn.at k<=p.supply.at k/\(p.cls.at k=0->p.opn.at k=p.supply.at k):=by
 have h:=nP.1 ((sr (rj hc).1).2.1 k hk)
 exact⟨h.1,h.2.1,h.2.2.1,h.2.2.2.1,λh0=>by rcases h.2.2.2.2 with h1|h1;exact absurd h0 h1;exact h1⟩
theorem E6 {a b:bz}:a.le b=true↔∀k,k<6->a.at k<=b.at k:=⟨λh k _=>Dv h k,Dx⟩
structure rK (p:bp) (u:jc):Prop where
 f:rq p u.chosen
 v:u.value=ck (cy p u.chosen)
 l:∀k,k<6->u.left.at k=p.supply.at k - (dS ((cy p u.chosen).map Off.want)).at k
 o:∀k,k<6->u.opn.at k=min (p.opn.at k - (dS ((cy p u.chosen).map (v7 p))).at k) (u.left.at k)
 wl:u.won.length=8
 w:∀b:Int,0<=b->b<8->bj u.won b.toNat false=decide (b∈(cy p u.chosen).map Off.bF)
theorem LK {p:bp} {t:List Int} (h:oQ 0 p.offers.length t):∀x∈cy p t,x∈p.offers:=λx hx=>by
 obtain⟨i,hi,rfl⟩:=γf.1 hx
 have:=h.2 i hi
 exact de (by omega)
section
variable {p:bp} {u:jc}
theorem LL {L M:List Off}:gy p (L++M)↔((L.map Off.bF++M.map Off.bF).Nodup/\(∀k,k<6->(dS (L.map Off.want)).at k+(dS (M.map Off.want)).at k<=p.supply.at k)/\∀k,k<6->(dS (L.map (dR p))).at k+(dS (M.map (dR p))).at k<=p.opn.at k):=by
 unfold gy;rw[γa,γa,γa,vt,vt,E6,E6]
 constructor
 ·rintro⟨h1,h2,h3⟩
  exact⟨h1,λk hk=>by rw[<-yC k hk];exact h2 k hk,λk hk=>by rw[<-yC k hk];exact h3 k hk⟩
 ·rintro⟨h1,h2,h3⟩
  exact⟨h1,λk hk=>by rw[yC k hk];exact h2 k hk,λk hk=>by rw[yC k hk];exact h3 k hk⟩
theorem E7 (hc:bC p=0) (hg:rK p u) {x:Off} (hx:x∈p.offers):iH p u x=true↔gy p (cy p u.chosen++[x]):=by
 have hgo:=dL hc
 have hb:=hgo.2.2.2.2 x hx
 have hc8:=hgo.1
 have hm:=LK hg.f.1
 rw[LL];unfold iH
 rw[θ,θ,U8,U8,δe,hg.w _ hb.1 (by omega),decide_eq_false_iff_not]
 simp only[ι,γs,Ly]
 have key:∀k,k<6->((0<=(u.left.sub x.want).at k/\0<=(fQ p u x).at k)↔((dS ((cy p u.chosen).map Off.want)).at k+x.want.at k<=p.supply.at k/\(dS ((cy p u.chosen).map (dR p))).at k+(dR p x).at k<=p.opn.at k)):=λk hk=>by
  have e1:=hg.l k hk
  have e2:=hg.o k hk
  have e3:=LH (p:=p) hk (cy p u.chosen)
  have e4:=@LA p x k hk
  have e5:=@E4 p x k hk
  have hp:=v8 hc hk
  have hw:=yD.1 hb.2.2.1 k hk
  have hpos:=E5 hgo hk hm
  unfold fQ;rw[U7 k hk,A5 k hk,A5 k hk,e4,e5];unfold nd
  by_cases h0:p.cls.at k=0
  ·have e6:=LI hk h0 (cy p u.chosen)
   have:=hp.2.2.2.2 h0
   simp only[h0,true_or,if_true] at e3 ⊢;omega
  ·simp only[h0,false_or,if_false] at e3 ⊢
   by_cases h2:p.cls.at k=iE p x
   ·simp only[h2,ne_eq,not_true_eq_false,if_false,if_true] at e3 ⊢
    omega
   ·simp only[h2,ne_eq,not_false_eq_true,if_true,if_false] at e3 ⊢
    omega
 constructor
 ·rintro⟨h1,h2,h3⟩
  refine⟨?_,λk hk=>((key k hk).1 ⟨h2 k hk,h3 k hk⟩).1,λk hk=>((key k hk).1 ⟨h2 k hk,h3 k hk⟩).2⟩
  rw[γu]
  refine⟨hg.f.2.1,by simp,?_⟩
  intro a ha b hb2;simp only[γJ] at hb2;subst hb2
  exact λe=>h1 (e▸ha)
 ·rintro⟨h1,h2,h3⟩
  refine⟨λhmem=>?_,λk hk=>((key k hk).2 ⟨h2 k hk,h3 k hk⟩).1,λk hk=>((key k hk).2 ⟨h2 k hk,h3 k hk⟩).2⟩
  rw[γu] at h1
  exact h1.2.2 _ hmem _ (γJ.2 rfl) rfl
theorem rK.next (hc:bC p=0) (hg:rK p u) {i:Int} (h0:∀j∈u.chosen,j<i) (hi:0<=i/\i<p.offers.length) (hw:iH p u (oI p i)=true):rK p (eT p u i):=by
 have hx:oI p i∈p.offers:=de (by omega)
 have hF:=(E7 hc hg hx).1 hw
 have hgo:=dL hc
 have hb:=hgo.2.2.2.2 _ hx
 have hc8:=hgo.1
 have e:cy p (u.chosen++[i])=cy p u.chosen++[oI p i]:=by unfold cy;rw[γa];rfl
 refine⟨⟨⟨?_,?_⟩,?_⟩,?_,?_,?_,?_,?_⟩
 ·show(u.chosen++[i]).Pairwise _
  rw[δg]
  exact⟨hg.f.1.1,List.pairwise_singleton _ _,λa ha b hb=>by rw[γJ] at hb;subst hb;exact h0 a ha⟩
 ·intro j hj
  rcases ω.1 hj with h|h
  ·exact hg.f.1.2 j h
  ·rw[γJ] at h;subst h;omega
 ·show gy p (cy p (u.chosen++[i]))
  rw[e];exact hF
 ·show u.value+_=ck (cy p (u.chosen++[i]))
  rw[e,pG,hg.v]
  simp[ck]
 ·intro k hk
  show(u.left.sub _).at k=_ - (dS ((cy p (u.chosen++[i])).map Off.want)).at k
  rw[e,γa,vt,yC k hk,A5 k hk,hg.l k hk];simp only[ι,γs,Ly];omega
 ·intro k hk
  show(fQ p u (oI p i)).at k=min (_ - (dS ((cy p (u.chosen++[i])).map (v7 p))).at k) ((u.left.sub (oI p i).want).at k)
  unfold fQ;rw[e,γa,vt,yC k hk,U7 k hk,A5 k hk,A5 k hk,hg.o k hk];simp only[ι,γs,Ly]
  have e4:=@LA p (oI p i) k hk
  have hw:=yD.1 hb.2.2.1 k hk
  have:(v7 p (oI p i)).at k<=(oI p i).want.at k:=by
   rw[e4];unfold nd;split<;>omega
  omega
 ·show(u.won.set _ true).length=8
  rw[γb];exact hg.wl
 ·intro b b0 b8
  show bj (u.won.set (oI p i).bF.toNat true) b.toNat false=decide (b∈(cy p (u.chosen++[i])).map Off.bF)
  have hwl:=hg.wl
  rw[e,γa,sH (by omega)]
  simp only[ι,γs]
  by_cases h:b=(oI p i).bF
  ·subst h
   rw[if_pos rfl]
   exact(decide_eq_true (δY _ (γJ.2 rfl))).symm
  ·rw[if_neg (by omega),hg.w b b0 b8]
   congr 1
   rw[ω,γJ]
   simp[h]
theorem LM (hc:bC p=0) (hg:rK p u) {k:Nat} {M:List Off} (hM:∀x∈M,x∈p.offers) (hw:∀x∈M,iH p u x=true):gy (gq p u k) M↔gy p (cy p u.chosen++M):=by
 have hgo:=dL hc
 have hc8:=hgo.1
 have hm:=LK hg.f.1
 rw[LL];unfold gy;rw[E6,E6]
 have eo:∀x:Off,dR (gq p u k) x=dR p x:=λx=>rfl
 have eo2:M.map (dR (gq p u k))=M.map (dR p):=rfl
 rw[eo2]
 have key:∀j,j<6->(((dS (M.map Off.want)).at j<=(gq p u k).supply.at j/\(dS (M.map (dR p))).at j<=(gq p u k).opn.at j)↔((dS ((cy p u.chosen).map Off.want)).at j+(dS (M.map Off.want)).at j<=p.supply.at j/\(dS ((cy p u.chosen).map (dR p))).at j+(dS (M.map (dR p))).at j<=p.opn.at j)):=λj hj=>by
  have e1:=hg.l j hj
  have e2:=hg.o j hj
  have e3:=LH (p:=p) hj (cy p u.chosen)
  have hp:=v8 hc hj
  have w1:=E5 hgo hj hm
  have w2:=E5 hgo hj hM
  have r1:(gq p u k).supply.at j=u.left.at j:=rfl
  have r2:(gq p u k).opn.at j=u.opn.at j:=rfl
  rw[r1,r2,e2]
  by_cases h0:p.cls.at j=0
  ·have e6:=LI hj h0 (cy p u.chosen)
   have e7:=LI hj h0 M
   have:=hp.2.2.2.2 h0
   simp only[h0,if_true] at e3;omega
  ·simp only[h0,if_false] at e3
   omega
 constructor
 ·rintro⟨h1,h2,h3⟩
  refine⟨?_,λj hj=>((key j hj).1 ⟨h2 j hj,h3 j hj⟩).1,λj hj=>((key j hj).1 ⟨h2 j hj,h3 j hj⟩).2⟩
  rw[γu]
  refine⟨hg.f.2.1,h1,?_⟩
  intro a ha b hb e;subst e
  obtain⟨x,hx,rfl⟩:=γf.1 hb
  have h4:=hw x hx
  have hb:=hgo.2.2.2.2 x (hM x hx)
  unfold iH at h4
  rw[θ,δe,hg.w _ hb.1 (by omega),decide_eq_false_iff_not] at h4
  exact h4.1 ha
 ·rintro⟨h1,h2,h3⟩
  refine⟨(γu.1 h1).2.1,λj hj=>((key j hj).2 ⟨h2 j hj,h3 j hj⟩).1,λj hj=>((key j hj).2 ⟨h2 j hj,h3 j hj⟩).2⟩
theorem afh {q:bp} (hf:gY q=0) (h:∀x∈q.offers,jF q x=0) (hn:(q.offers.map Off.key).Nodup):bC q=0:=by
 have key:∀(l:List Off) (s:List mV),(∀x∈l,jF q x=0)->(l.map Off.key).Nodup->(∀x∈l,x.key∉s)->gK q s l=0:=by
  intro l
  induction l with
  |nil=>intro s _ _ _;rfl
  |cons x l ih=>
   intro s h1 h2 h3;unfold gK
   rw[if_neg (by rw[h1 x (εL ..)];simp),if_neg (h3 x (εL ..))]
   rw[ι,γD] at h2
   refine ih _ (λy hy=>h1 y (γ6 _ hy)) h2.2 λy hy hm=>?_
   rcases ω.1 hm with h|h
   ·exact h3 y (γ6 _ hy) h
   ·rw[γJ] at h
    exact h2.1 (h▸γ3 hy)
 unfold bC
 rw[if_neg (by rw[hf];simp)]
 exact key _ _ h hn λ_ _=>by simp
theorem E8 (hc:bC p=0) (hg:rK p u) {k:Nat}:bC (gq p u k)=0:=by
 have hgo:=dL hc
 have hm:=LK hg.f.1
 have hF:=(LL (p:=p) (L:=cy p u.chosen) (M:=[])).1 (by rw[γY];exact hg.f.2)
 obtain⟨hfr,hof⟩:=rj hc
 obtain⟨f1,f2,f3,f4,f5⟩:=sr hfr
 have hin:∀x∈(gq p u k).offers,x∈p.offers/\iH p u x=true:=λx hx=>by
  obtain⟨h1,h2⟩:=γi.1 hx
  exact⟨γL h1,h2⟩
 have hz:(dS (([]:List Off).map Off.want))=bz.zero:=rfl
 have hla:∀j,j<6->0<=u.left.at j/\u.left.at j<=4:=λj hj=>by
  have e1:=hg.l j hj
  have w1:=E5 hgo hj hm
  have h2:=hF.2.1 j hj
  have h3:(dS (([]:List Off).map Off.want)).at j=0:=by rw[mD];rfl
  have h4:=yD.1 f1 j hj
  omega
 have hoa:∀j,j<6->0<=u.opn.at j/\u.opn.at j<=u.left.at j/\(p.cls.at j=0->u.opn.at j=u.left.at j):=λj hj=>by
  have e1:=hg.l j hj
  have e2:=hg.o j hj
  have e3:=LH (p:=p) hj (cy p u.chosen)
  have hp:=v8 hc hj
  have h2:=hF.2.1 j hj
  have h5:=hF.2.2 j hj
  have h3:(dS (([]:List Off).map Off.want)).at j=0:=by rw[mD];rfl
  have h6:(dS (([]:List Off).map (dR p))).at j=0:=by rw[mD];rfl
  by_cases h0:p.cls.at j=0
  ·have:=hp.2.2.2.2 h0
   simp only[h0,if_true] at e3;omega
  ·simp only[h0,if_false] at e3
   omega
 refine afh ?_ (λx hx=>?_) ?_
 ·have a1:(gq p u k).supply.ok=true:=yD.2 hla
  have a2:CS (gq p u k)=true:=zx.2 λj hj=>nP.2 (by
   have hp:=v8 hc hj
   have ho:=hoa j hj
   refine⟨hp.1,hp.2.1,ho.1,ho.2.1,?_⟩
   by_cases h0:p.cls.at j=0
   ·exact .inr (ho.2.2 h0)
   ·exact .inl h0)
  have a3:(gq p u k).offers.length<=p.offers.length:=by
   have h1:=γC (iH p u) (p.offers.drop k)
   rw[γH] at h1
   show((p.offers.drop k).filter (iH p u)).length<=_
   omega
  have a4:(gq p u k).classes=p.classes:=rfl
  unfold gY
  rw[a1,a2,a4,if_neg (by simp),if_neg (by simp),if_neg (by omega),if_neg (by simpa using f5)]
 ·obtain⟨h1,h2⟩:=hin x hx
  have ho:=hof x h1
  unfold jF at ho ⊢
  have a4:(gq p u k).classes=p.classes:=rfl
  rw[a4];split at ho
  ·rename_i h3;exact absurd ho h3
  ·rename_i h3
   rw[if_neg h3];split at ho
   ·cases ho
   ·rename_i h4
    rw[if_neg h4]
    have hb:=hgo.2.2.2.2 x h1
    have hF:gy (gq p u k) [x]:=(LM hc hg (λy hy=>by rw[γJ] at hy;subst hy;exact h1) (λy hy=>by rw[γJ] at hy;subst hy;exact h2)).2 ((E7 hc hg h1).1 h2)
    rw[QC hF];rfl
 ·have h1:=(IA (by
   have:=hc
   unfold bC at this
   rw[if_neg (by rw[hfr];simp)] at this
   exact this)).1
  exact((δn.trans (ζv k _)).map Off.key).nodup h1
end
theorem A6 {a b c:Alloc} (h:¬lM a b) (k:¬lM b c):¬lM a c:=λhac=>by
 by_cases hba:lM b a
 ·exact k (QT hba hac)
 ·exact k (aaP h hba▸hac)
theorem U9 {a b:Alloc}:¬lM a (better a b)/\¬lM b (better a b):=by
 unfold better;split
 ·rename_i h
  have h:lM a b:=h
  exact⟨xB,λhb=>xB (QT h hb)⟩
 ·rename_i h
  exact⟨h,xB⟩
theorem A7 {p:bp}:∀{k:Nat} {i:Int} {a b:Alloc},¬lM b (lr p k i a b)
 |0,_,_,b=>by simp only[lr];exact xB
 |k+1,i,a,b=>by
  simp only[lr]
  refine A6 ?_ A7
  split
  ·exact A6 U9.2 A7
  ·exact xB
theorem LN {p:bp} (hg:Good p):∀{k:Nat} {i:Int} {a b:Alloc} {t:List Int},0<=i->i+k<=p.offers.length->t≠[]->oQ i k t->lq p (a.chosen++t)=true->¬lM ⟨a.chosen++t,a.value+ck (cy p t)⟩ (lr p k i a b)
 |0,i,a,b,t,_,_,hn,ht,_=>by
  cases t with
  |nil=>exact absurd rfl hn
  |cons j t=>
   have:=ht.2 j (by simp)
   omega
 |k+1,i,a,b,t,h0,h1,hn,ht,hr=>by
  cases t with
  |nil=>exact absurd rfl hn
  |cons j t=>
   have hj:=ht.2 j (by simp)
   have hp:=γE.1 ht.1
   simp only[lr]
   by_cases hji:j=i
   ·subst hji
    have hidx:vx p t:=λm hm=>by
     have:=ht.2 m (by simp[hm])
     omega
    have hr2:lq p (a.chosen++[j]++t)=true:=by simpa using hr
    have hr1:lq p (a.chosen++[j])=true:=Qh hg hidx hr2
    rw[if_pos hr1]
    refine A6 ?_ A7
    rw[qp];simp only[ck]
    cases t with
    |nil=>
     refine A6 ?_ A7
     refine A6 ?_ U9.1
     have e:(⟨a.chosen++[j],a.value+(bj p.offers j.toNat bn.off.dflt).value+ck (cy p [])⟩:Alloc)=⟨a.chosen++[j],a.value+jZ p j⟩:=by simp[ck,cy,jZ]
     have e2:(⟨a.chosen++[j],a.value+((bj p.offers j.toNat bn.off.dflt).value+ck (cy p []))⟩:Alloc)=⟨a.chosen++[j],a.value+jZ p j⟩:=by simp[ck,cy,jZ]
     rw[e2];exact xB
    |cons j2 t2=>
     have:=LN hg (k:=k) (i:=j+1) (a:=⟨a.chosen++[j],a.value+jZ p j⟩) (b:=better ⟨a.chosen++[j],a.value+jZ p j⟩ b) (t:=j2::t2) (by omega) (by omega) (by simp) ⟨hp.2,λm hm=>by
      have q1:=ht.2 m (γ6 _ hm)
      have q2:=hp.1 m hm
      omega⟩ hr2
     have e:(⟨a.chosen++j::j2::t2,a.value+((bj p.offers j.toNat bn.off.dflt).value+ck (cy p (j2::t2)))⟩:Alloc)=⟨a.chosen++[j]++j2::t2,a.value+jZ p j+ck (cy p (j2::t2))⟩:=by
      simp only[Alloc.mk.injEq,γg,γB,List.nil_append,jZ,true_and];omega
     rw[e];exact this
   ·exact LN hg (by omega) (by omega) (by simp) ⟨ht.1,λm hm=>by
     have q1:=ht.2 m hm
     rcases γp.1 hm with rfl|hm
     ·omega
     ·have q2:=hp.1 m hm
      omega⟩ hr
theorem afi {p:bp} (hg:Good p) {t:List Int} (ht:rq p t):¬lM ⟨t,ck (cy p t)⟩ (bZ p):=by
 rw[Is]
 by_cases hn:t=[]
 ·subst hn
  exact A7
 ·have:=LN hg (k:=p.offers.length) (i:=0) (a:=⟨[],0⟩) (b:=⟨[],0⟩) (t:=t) (by omega) (by omega) hn ht.1 (by simpa[lq] using ht.2)
  simpa using this
theorem Va:∀{c a b:List Int},cmpL (c++a) (c++b)=cmpL a b
 |[],_,_=>rfl
 |x::c,a,b=>by
  simp only[γB,cmpL,Int.lt_irrefl,if_false];exact Va
noncomputable def pQ (p:bp) (most:Int) (u:jc) (i:Int):jc:=
 if u.value=most then u else if iH p u (oI p i)=true then(if jP (gq p (eT p u i) (i+1).toNat) (most - (eT p u i).value) 65536=true then eT p u i else u) else u
noncomputable def jQ (p:bp) (most:Int):Nat->jc
 |0=>⟨p.supply,p.opn,[],0,ε 8 false⟩
 |n+1=>pQ p most (jQ p most n) n
theorem good_start {p:bp} (hc:bC p=0):rK p ⟨p.supply,p.opn,[],0,ε 8 false⟩:=by
 have hg:=dL hc
 refine⟨aaO hg,rfl,λk hk=>?_,λk hk=>?_,rfl,λb h0 h1=>?_⟩
 ·show _=_ - (dS (([]:List Off).map Off.want)).at k
  rw[mD]
  simp
 ·show _=min (_ - (dS (([]:List Off).map (v7 p))).at k) _
  rw[mD]
  have:=v8 hc hk
  simp only[γs,List.sum_nil]
  show p.opn.at k=min (p.opn.at k - 0) (p.supply.at k)
  omega
 ·show _=decide (b∈([]:List Int))
  rw[cO (by rw[γS];omega),List.getElem_replicate]
  simp
theorem Vb {i:Int}:∀{L:List Int},L.Pairwise (·<·)->L=L.filter (λj=>decide (j<i))++L.filter (λj=>!decide (j<i))
 |[],_=>rfl
 |x::L,h=>by
  have hp:=γE.1 h
  have ih:=Vb (i:=i) hp.2
  by_cases hx:x<i
  ·rw[δv (by simp[hx]),δw (by simp[hx]),γB,<-ih]
  ·have e:L.filter (λj=>decide (j<i))=[]:=δy.2 λj hj=>by have:=hp.1 j hj;simp;omega
   have e2:L.filter (λj=>!decide (j<i))=L:=δS.2 λj hj=>by have:=hp.1 j hj;simp;omega
   rw[δw (by simp[hx]),δv (by simp[hx]),e,e2]
   rfl
theorem afj {i:Int} {L:List Int} (h:i∉L):L.filter (λj=>decide (j<i+1))=L.filter (λj=>decide (j<i)):=by
 refine List.filter_congr λj hj=>?_
 have:j≠i:=λe=>h (e▸hj)
 rw[Bool.eq_iff_iff,decide_eq_true_eq,decide_eq_true_eq];omega
theorem afk {i:Int} {L:List Int} (hs:L.Pairwise (·<·)) (h:i∈L):L.filter (λj=>decide (j<i+1))=L.filter (λj=>decide (j<i))++[i]/\L=L.filter (λj=>decide (j<i))++i::L.filter (λj=>decide (i<j)):=by
 induction L with
 |nil=>cases h
 |cons x L ih=>
  have hp:=γE.1 hs
  by_cases hx:x=i
  ·subst hx
   have e:L.filter (λj=>decide (j<x))=[]:=δy.2 λj hj=>by have:=hp.1 j hj;simp;omega
   have e1:L.filter (λj=>decide (j<x+1))=[]:=δy.2 λj hj=>by have:=hp.1 j hj;simp;omega
   have e2:L.filter (λj=>decide (x<j))=L:=δS.2 λj hj=>by have:=hp.1 j hj;simp;omega
   rw[δv (by simp;omega),δw (by simp),δw (by simp),e,e1,e2]
   exact⟨rfl,rfl⟩
  ·rcases γp.1 h with h|h
   ·exact absurd h.symm hx
   ·have hlt:=hp.1 i h
    obtain⟨i1,i2⟩:=ih hp.2 h
    rw[δv (by simp;omega),δv (by simp;omega),δw (by simp;omega),i1]
    refine⟨rfl,?_⟩
    rw[γB,<-i2]
theorem afl {p:bp} (hg:Good p):∀{L:List Off},(∀x∈L,x∈p.offers)->L≠[]->0<ck L
 |[],_,h=>absurd rfl h
 |x::L,h,_=>by
  have h1:=(hg.2.2.2.2 x (h x (εL ..))).2.2.2.1
  have h2:=(sA hg (l:=L) λy hy=>h y (γ6 _ hy)).1
  simp only[ck];omega
theorem afm {p:bp} (hc:bC p=0) {k:Nat} (hk:k<=p.offers.length) {M:List Off} (hM:∀x∈M,x∈p.offers.drop k) (hn:M.Nodup):∃t:List Int,t.Pairwise (·<·)/\(∀j∈t,(k:Int)<=j/\j<p.offers.length)/\(cy p t).Perm M:=by
 obtain⟨t,h1,h2,h3⟩:=Iz (λx=>decide (x∈M)) (p.offers.drop k) (p.offers.take k)
 have hl:(p.offers.take k).length=k:=by rw[Ξ];omega
 refine⟨t,h1,λj hj=>?_,?_⟩
 ·have:=h2 j hj
  rw[hl,γH] at this;omega
 ·rw[List.take_append_drop] at h3
  unfold cy;rw[h3]
  refine(List.perm_ext_iff_of_nodup ?_ hn).2 λx=>?_
  ·exact((δn.trans (ζv k _))).nodup (Qn hc)
  ·rw[γi,decide_eq_true_eq]
   exact⟨λh=>h.2,λh=>⟨hM x h,h⟩⟩
theorem E9 {p:bp} (hc:bC p=0):rq p (bZ p).chosen/\(bZ p).value=ck (cy p (bZ p).chosen):=by
 obtain⟨_,h1,h2,h3⟩:=xx hc
 exact⟨⟨h2,h1⟩,h3⟩
theorem LO {p:bp} (hc:bC p=0) (h15:p.offers.length<=15):∀n:Nat,n<=p.offers.length->rK p (jQ p (bZ p).value n)/\(jQ p (bZ p).value n).chosen=(bZ p).chosen.filter λ(j:Int)=>decide (j<(n:Int))
 |0,_=>⟨good_start hc,by
   have h:=(E9 hc).1.1.2
   exact(δy.2 λj hj=>by have:=h j hj;simp;omega).symm⟩
 |n+1,hn=>by
  obtain⟨hG,hC⟩:=LO hc h15 n (by omega)
  have hgo:=dL hc
  obtain⟨⟨⟨hs,hr⟩,hF⟩,hv⟩:=E9 hc
  have hF2:rq p (bZ p).chosen:=⟨⟨hs,hr⟩,hF⟩
  have hlt:∀j∈(jQ p (bZ p).value n).chosen,j<(n:Int):=λj hj=>by
   rw[hC] at hj
   simpa using(γi.1 hj).2
  have hno:((n:Nat):Int)+1=((n+1:Nat):Int):=by omega
  have hin:(0:Int)<=n/\(n:Int)<p.offers.length:=by omega
  have hx:oI p n∈p.offers:=de (by omega)
  have hsp:=Vb (i:=(n:Int)) hs
  show rK p (pQ p (bZ p).value (jQ p (bZ p).value n) n)/\(pQ p (bZ p).value (jQ p (bZ p).value n) n).chosen=_
  generalize jQ p (bZ p).value n=u at*
  have hmem:∀{t:List Int},(∀j∈t,j∈(bZ p).chosen)->∀x∈cy p t,x∈p.offers:=λht x hx=>by
   obtain⟨j,hj,rfl⟩:=γf.1 hx
   have:=hr j (ht j hj)
   exact de (by omega)
  by_cases hval:u.value=(bZ p).value
  ·unfold pQ
   rw[if_pos hval]
   refine⟨hG,?_⟩
   have hd:(bZ p).chosen.filter (λj=>!decide (j<(n:Int)))=[]:=by
    refine Classical.byContradiction λhne=>?_
    have h1:=afl hgo (L:=cy p ((bZ p).chosen.filter (λj=>!decide (j<(n:Int))))) (hmem λj hj=>(γi.1 hj).1) (by unfold cy;simpa using hne)
    rw[hG.v,hC,hv] at hval;rw[hsp] at hval;simp only[<-hsp] at hval
    have h2:ck (cy p (bZ p).chosen)=ck (cy p ((bZ p).chosen.filter λj=>decide (j<(n:Int))))+ck (cy p ((bZ p).chosen.filter λj=>!decide (j<(n:Int)))):=by
     conv=>lhs;rw[hsp,tZ,pG]
    omega
   have hall:∀j∈(bZ p).chosen,j<(n:Int):=λj hj=>by
    have:=(δy.1 hd) j hj
    simpa using this
   rw[hC,δS.2 λj hj=>by simpa using hall j hj]
   exact(δS.2 λj hj=>by have:=hall j hj;simp;omega).symm
  ·by_cases LP:(n:Int)∈(bZ p).chosen
   ·obtain⟨f1,f2⟩:=afk hs LP
    rw[<-hC] at f1 f2
    have A8:gy p (cy p u.chosen++[oI p n]++cy p ((bZ p).chosen.filter λj=>decide ((n:Int)<j))):=by
     have:cy p u.chosen++[oI p n]++cy p ((bZ p).chosen.filter λj=>decide ((n:Int)<j))=cy p (bZ p).chosen:=by
      conv=>rhs;rw[f2]
      rw[tZ,qp,γg];rfl
     rw[this];exact hF
    have hmd:=hmem (t:=(bZ p).chosen.filter λj=>decide ((n:Int)<j)) λj hj=>(γi.1 hj).1
    have hw:iH p u (oI p n)=true:=(E7 hc hG hx).2 (Io hgo hmd A8)
    have hG2:=hG.next hc hlt hin hw
    have hq:=E8 (k:=((n:Int)+1).toNat) hc hG2
    have yE:cy p (eT p u n).chosen=cy p u.chosen++[oI p n]:=by
     show cy p (u.chosen++[(n:Int)])=_
     rw[tZ];rfl
    have hwx:∀x∈cy p ((bZ p).chosen.filter λj=>decide ((n:Int)<j)),iH p (eT p u n) x=true:=λx hxm=>by
     refine(E7 hc hG2 (hmd x hxm)).2 ?_
     rw[yE]
     obtain⟨s,t,hst⟩:=εG hxm
     have hperm:(cy p u.chosen++[oI p n]++cy p ((bZ p).chosen.filter λj=>decide ((n:Int)<j))).Perm (cy p u.chosen++[oI p n]++[x]++(s++t)):=by
      rw[hst,γg (cy p u.chosen++[oI p n])]
      refine εW _ ?_
      exact ε1
     refine Io hgo (M:=s++t) (λy hy=>hmd y ?_) (Dq hperm A8)
     rw[hst]
     rcases ω.1 hy with h|h
     ·exact List.mem_append_left _ h
     ·exact δY _ (γ6 _ h)
    have hqF:=(LM (k:=((n:Int)+1).toNat) hc hG2 hmd hwx).2 (by rw[yE];exact A8)
    have hqm:∀x∈cy p ((bZ p).chosen.filter λj=>decide ((n:Int)<j)),x∈(gq p (eT p u n) ((n:Int)+1).toNat).offers:=λx hxm=>by
     refine γi.2 ⟨?_,hwx x hxm⟩
     obtain⟨j,hj,rfl⟩:=γf.1 hxm
     obtain⟨hj1,hj2⟩:=γi.1 hj
     have h3:=hr j hj1
     have h4:(n:Int)<j:=by simpa using hj2
     rw[cO (by omega)]
     rw[List.mem_iff_getElem]
     exact⟨j.toNat - ((n:Int)+1).toNat,by rw[γH];omega,by rw[List.getElem_drop];congr 1;omega⟩
    have hup:=xA hq hqF hqm
    rw[Dw hq] at hup
    have hsum:(bZ p).value=(eT p u n).value+ck (cy p ((bZ p).chosen.filter λj=>decide ((n:Int)<j))):=by
     rw[hG2.v,yE,hv]
     conv=>lhs;rw[f2,tZ,qp,pG]
     rw[pG];simp only[ck]
     have:(bj p.offers (n:Int).toNat bn.off.dflt).value=(oI p n).value:=rfl
     omega
    have vD:(gq p (eT p u n) ((n:Int)+1).toNat).offers.length<=15:=by
     have h1:=γC (iH p (eT p u n)) (p.offers.drop ((n:Int)+1).toNat)
     rw[γH] at h1
     show((p.offers.drop _).filter _).length<=15
     omega
    have hroom:iP (gq p (eT p u n) ((n:Int)+1).toNat) ((bZ p).value - (eT p u n).value) 65536=0:=Lr hq (by omega) (by
     have:2^((gq p (eT p u n) ((n:Int)+1).toNat).offers.length+1)<=2^16:=δK (by omega) (by omega)
     have h16:(2:Nat)^16=65536:=rfl
     omega)
    have hbf:jP (gq p (eT p u n) ((n:Int)+1).toNat) ((bZ p).value - (eT p u n).value) 65536=true:=(U4 hq hroom).2 (by omega)
    unfold pQ;rw[if_neg hval,if_pos hw,if_pos hbf]
    refine⟨hG2,?_⟩
    rw[<-hno,f1];rfl
   ·rw[<-hno,afj LP,<-hC]
    unfold pQ;rw[if_neg hval];split
    ·rename_i hw
     split
     ·rename_i hbf
      exfalso
      have hG2:=hG.next hc hlt hin hw
      have hq:=E8 (k:=((n:Int)+1).toNat) hc hG2
      have yE:cy p (eT p u n).chosen=cy p u.chosen++[oI p n]:=by
       show cy p (u.chosen++[(n:Int)])=_
       rw[tZ];rfl
      have vD:(gq p (eT p u n) ((n:Int)+1).toNat).offers.length<=15:=by
       have h1:=γC (iH p (eT p u n)) (p.offers.drop ((n:Int)+1).toNat)
       rw[γH] at h1
       show((p.offers.drop _).filter _).length<=15
       omega
      have hroom:iP (gq p (eT p u n) ((n:Int)+1).toNat) ((bZ p).value - (eT p u n).value) 65536=0:=Lr hq (by omega) (by
       have:2^((gq p (eT p u n) ((n:Int)+1).toNat).offers.length+1)<=2^16:=δK (by omega) (by omega)
       have h16:(2:Nat)^16=65536:=rfl
       omega)
      have hge:=(U4 hq hroom).1 hbf
      obtain⟨M,m1,m2,m3⟩:=IJ hq
      rw[Dw hq] at m3
      have LQ:∀x∈M,x∈p.offers.drop ((n:Int)+1).toNat/\iH p (eT p u n) x=true:=λx hx=>γi.1 (m2 x hx)
      have A8:=(LM hc hG2 (λx hx=>γL (LQ x hx).1) λx hx=>(LQ x hx).2).1 m1
      obtain⟨t,t1,t2,t3⟩:=afm hc (k:=((n:Int)+1).toNat) (by omega) (λx hx=>(LQ x hx).1) (Dt Off.bF m1.1)
      have hT:rq p (u.chosen++(n:Int)::t):=by
       refine⟨⟨?_,?_⟩,?_⟩
       ·rw[δg]
        refine⟨hG.f.1.1,γE.2 ⟨λj hj=>by have:=t2 j hj;omega,t1⟩,λa ha b hb=>?_⟩
        have h1:=hlt a ha
        rcases γp.1 hb with rfl|hb
        ·exact h1
        ·have:=t2 b hb;omega
       ·intro j hj
        rcases ω.1 hj with h|h
        ·exact hG.f.1.2 j h
        ·rcases γp.1 h with rfl|h
         ·omega
         ·have:=t2 j h;omega
       ·rw[tZ,qp]
        refine Dq ?_ A8
        rw[yE,γg]
        exact εW _ (List.Perm.cons _ t3.symm)
      have hTv:ck (cy p (u.chosen++(n:Int)::t))=(eT p u n).value+ck M:=by
       rw[hG2.v,yE,tZ,qp,pG,pG,<-Iy t3];simp only[ck]
       have:(bj p.offers (n:Int).toNat bn.off.dflt).value=(oI p n).value:=rfl
       omega
      have hup:=Iu hgo hT.1 (decide_eq_true hT.2)
      refine afi hgo hT (.inr ⟨(show ck (cy p (u.chosen++(n:Int)::t))=(bZ p).value by omega),?_⟩)
      show cmpL (u.chosen++(n:Int)::t) (bZ p).chosen<0
      have hd:(bZ p).chosen=u.chosen++(bZ p).chosen.filter (λj=>!decide (j<(n:Int))):=by rw[hC];exact hsp
      have hdn:(bZ p).chosen.filter (λj=>!decide (j<(n:Int)))≠[]:=λh=>by
       rw[h,γY] at hd
       refine hval ?_
       rw[hG.v,<-hd,hv]
      have hdg:∀j∈(bZ p).chosen.filter (λj=>!decide (j<(n:Int))),(n:Int)<j:=λj hj=>by
       obtain⟨a1,a2⟩:=γi.1 hj
       have:j≠(n:Int):=λe=>LP (e▸a1)
       simp at a2;omega
      rw[hd]
      generalize (bZ p).chosen.filter (λj=>!decide (j<(n:Int)))=d at*
      cases d with
      |nil=>exact absurd rfl hdn
      |cons j d=>
       rw[Va]
       have:=hdg j (by simp)
       simp only[cmpL];rw[if_pos this]
       decide
     ·exact⟨hG,rfl⟩
    ·exact⟨hG,rfl⟩
theorem Vd {p:bp} (hc:bC p=0) (h15:p.offers.length<=15):(jQ p (bZ p).value p.offers.length).chosen=(bZ p).chosen:=by
 rw[(LO hc h15 p.offers.length (Nat.le_refl _)).2]
 have h:=(E9 hc).1.1.2
 exact δS.2 λj hj=>by have:=h j hj;simp;omega
abbrev yF:=bz×(bz×(List Int×(Int×(Bool×(Bool×(Bool×(Bool×(Bool×(Bool×(Bool×Bool))))))))))
@[reducible] def rL:bn:=.pair .dX (.pair .dX (.pair (.bK (.i .i64)) (.pair (.i .i64) (.pair .b (.pair .b (.pair .b (.pair .b (.pair .b (.pair .b (.pair .b .b))))))))))
def xP (d:yF):jc:=⟨d.1,d.2.1,d.2.2.1,d.2.2.2.1,[d.2.2.2.2.1,d.2.2.2.2.2.1,d.2.2.2.2.2.2.1,d.2.2.2.2.2.2.2.1,d.2.2.2.2.2.2.2.2.1,d.2.2.2.2.2.2.2.2.2.1,d.2.2.2.2.2.2.2.2.2.2.1,d.2.2.2.2.2.2.2.2.2.2.2]⟩
def fP (u:jc):yF:=(u.left,(u.opn,(u.chosen,(u.value,(bj u.won 0 false,(bj u.won 1 false,(bj u.won 2 false,(bj u.won 3 false,(bj u.won 4 false,(bj u.won 5 false,(bj u.won 6 false,bj u.won 7 false)))))))))))
theorem Ve {u:jc} (h:u.won.length=8):xP (fP u)=u:=by
 obtain⟨l,o,c,v,w⟩:=u
 simp only at h
 match w,h with
 |[a,b,c,d,e,f,g,i],_=>rfl
def zX:jc:=⟨bz.zero,bz.zero,[],0,ε 8 false⟩
def pk (k j:Int) (a b:Int):Bool:=decide (k<=j)||(decide (0<=a)&&decide (0<=b))
def jz (a b:bz) (k:Int):Bool:=pk k 0 a.a0 b.a0&&(pk k 1 a.a1 b.a1&&(pk k 2 a.a2 b.a2&&(pk k 3 a.a3 b.a3&&(pk k 4 a.a4 b.a4&&pk k 5 a.a5 b.a5))))
def LR:cV where
 f:=131
 α:=yF×bp×Off
 put a:=[.ptr 0 0 22,dG.put a.2.1,(eG .off).put a.2.2]
 st a:=[.cells (encS rL a.1) 137 22 false]
 dec v o:=match v,o with
  |[.ptr 0 0 22,p,x],[.cells cs 137 22 false]=>match jB rL cs,dG.dec p,(eG .off).dec x with
   |some d,some p,some x=>some (d,p,x)
   |_,_,_=>none
  |_,_=>none
 ok v o a h:=by
  split at h
  ·split at h
   ·rename_i h1 h2 h3
    simp only[γ] at h;subst h
    refine⟨by simp only[gL,dG.ok _ _ h2,(eG .off).ok _ _ h3],?_⟩
    simp only[gO,ι,γs,bq.g,fV,nI h1,tu]
   ·cases h
  ·cases h
 inj a b h1 h2:=by
  obtain⟨d,p,x⟩:=a
  obtain⟨d',p',x'⟩:=b
  simp only[gL,π,and_true,true_and] at h1;simp only[gO,ι,γs,bq.g,π,bP.cells.injEq,and_true,fV,tu] at h2;rw[xg rL d d' h2,dG.inj p p' h1.1,(eG .off).inj x x' h1.2]
 dom a:=((∀k,k<6->(-1000<=a.1.1.at k/\a.1.1.at k<=1000)/\(-1000<=a.1.2.1.at k/\a.1.2.1.at k<=1000))/\a.2.2.want.ok=true)/\0<=a.2.2.bF/\a.2.2.bF<a.2.1.classes.length
 res a:=.sb ((a.1.1.sub a.2.2.want).pos&&(fQ a.2.1 (xP a.1) a.2.2).pos)
 out a:=[.cells (encS rL (a.1.1.sub a.2.2.want,(fQ a.2.1 (xP a.1) a.2.2,a.1.2.2))) 137 22 false]
def afo (d:yF) (p:bp) (x:Off):Nat->cB
 |3=> .inv Int (λk=>⟨[(0,.ptr 0 0 22),(4,.ptr 1 0 20),(5,.ptr 2 0 8),(7,.sb (jz (d.1.sub x.want) (fQ p (xP d) x) k)),(11,.agg (encS .dX x.want)),(12,.si .i64 k)],
   [.cells (encS rL (ik d.1 (d.1.sub x.want) k,(ik d.2.1 (fQ p (xP d) x) k,d.2.2))) 137 22 false,.cells p.ss 27 20 false,.cells (encS .off x) 39 8 false]⟩)
   (λs=>iS s 12) (λk=>0<=k/\k<=6) (λk=>(6 - k).toNat) λ_ _=> .look
 |_=> .look
theorem h450:dK Tryz.prog LR:=by
 refine jk (L:=[]) (W:=[]) LR (λa=>afo a.1 a.2.1 a.2.2) (by simp) (by simp) ?_
 rintro⟨d,p,x⟩ ⟨⟨hb,hw⟩,hx0,hx1⟩
 simp only at hb hw hx0 hx1
 refine bR (let a:=γe .i64;let b:=(0:Int);let c:=(6:Int);let e:=bq.cells;let f:=γI;let g:=bX .i64;let h:=Φ;let j:=δs false;let k:=γW;let r:=k 0 0 22;let s:=k 1 0 20;let t:=k 2 0 8;let o:=d.fst.sub x.want;let q:=fQ p (xP d) x;let a9:=a x.want.a0;let aa:=a x.want.a1;let ab:=a x.want.a2;let ac:=a x.want.a3;let ad:=a x.want.a4;let ae:=a x.want.a5;let v:=γK [a9,aa,ab,ac,ad,ae];let N:=bn.i .i64;let D:=d.snd.snd.snd.snd.snd;let af:=D.snd.snd.snd.snd.snd;let E:=ik d.fst o b;let F:=ik d.snd.fst q b;let G:=d.snd.snd.snd.snd.snd;let ag:=G.snd.snd.snd.snd.snd;let A:=[h N d.snd.snd.fst,a d.snd.snd.snd.fst,f d.snd.snd.snd.snd.fst,f G.fst,f G.snd.fst,f G.snd.snd.fst,f G.snd.snd.snd.fst,f G.snd.snd.snd.snd.fst,f ag.fst,f ag.snd];let w:=e [a p.supply.a0,a p.supply.a1,a p.supply.a2,a p.supply.a3,a p.supply.a4,a p.supply.a5,a p.opn.a0,a p.opn.a1,a p.opn.a2,a p.opn.a3,a p.opn.a4,a p.opn.a5,a p.cls.a0,a p.cls.a1,a p.cls.a2,a p.cls.a3,a p.cls.a4,a p.cls.a5,h N p.classes,h bn.off p.offers] 27 20 false;let y:=e [a x.bF,a9,aa,ab,ac,ad,ae,a x.value] 39 8 false;let aM:=[x.want.a0,x.want.a1,x.want.a2,x.want.a3,x.want.a4,x.want.a5];let aN:=[p.cls.a0,p.cls.a1,p.cls.a2,p.cls.a3,p.cls.a4,p.cls.a5];(((r.same r/\s.same s/\t.same t/\(δs true).same (f (jz o q b))/\v.same v/\(γq .i64 0).same (a 0)/\True)/\(e [a d.fst.a0,a d.fst.a1,a d.fst.a2,a d.fst.a3,a d.fst.a4,a d.fst.a5,a d.snd.fst.a0,a d.snd.fst.a1,a d.snd.fst.a2,a d.snd.fst.a3,a d.snd.fst.a4,a d.snd.fst.a5,h N d.snd.snd.fst,a d.snd.snd.snd.fst,f d.snd.snd.snd.snd.fst,f D.fst,f D.snd.fst,f D.snd.snd.fst,f D.snd.snd.snd.fst,f D.snd.snd.snd.snd.fst,f af.fst,f af.snd] 137 22 false).same (e (a E.a0::a E.a1::a E.a2::a E.a3::a E.a4::a E.a5::a F.a0::a F.a1::a F.a2::a F.a3::a F.a4::a F.a5::A) 137 22 false)/\w.same w/\y.same y/\True)/\b<=b/\b<=c)/\∀(x_1:Int),let L:=jz o q x_1;let n:=ik d.fst o x_1;let ah:=bj aM x_1.toNat b;let B:=bj [n.a0,n.a1,n.a2,n.a3,n.a4,n.a5] x_1.toNat b - ah;let ai:=if x_1.toNat=0 then B else n.a0;let aj:=if x_1.toNat=1 then B else n.a1;let ak:=if x_1.toNat=2 then B else n.a2;let al:=if x_1.toNat=3 then B else n.a3;let am:=if x_1.toNat=4 then B else n.a4;let an:=if x_1.toNat=5 then B else n.a5;let O:=bj [ai,aj,ak,al,am,an] x_1.toNat b;let P:=decide (b<=O);let m:=x_1+(1:Int);let l:=ik d.snd.fst q x_1;let ao:=bj [l.a0,l.a1,l.a2,l.a3,l.a4,l.a5] x_1.toNat b;let C:=ao - ah;let ap:=if x_1.toNat=0 then C else l.a0;let aq:=if x_1.toNat=1 then C else l.a1;let ar:=if x_1.toNat=2 then C else l.a2;let au:=if x_1.toNat=3 then C else l.a3;let av:=if x_1.toNat=4 then C else l.a4;let aw:=if x_1.toNat=5 then C else l.a5;let H:=min (bj [ap,aq,ar,au,av,aw] x_1.toNat b) O;let Q:=if x_1.toNat=0 then H else ap;let R:=if x_1.toNat=1 then H else aq;let S:=if x_1.toNat=2 then H else ar;let T:=if x_1.toNat=3 then H else au;let U:=if x_1.toNat=4 then H else av;let V:=if x_1.toNat=5 then H else aw;let M:=f (jz o q m);let z:=a m;let W:=a ai;let X:=a aj;let Y:=a ak;let Z:=a al;let a6:=a am;let a7:=a an;let I:=ik d.fst o m;let J:=ik d.snd.fst q m;let a8:=e (a I.a0::a I.a1::a I.a2::a I.a3::a I.a4::a I.a5::a J.a0::a J.a1::a J.a2::a J.a3::a J.a4::a J.a5::A) 137 22 false;let K:=min ao O;let ax:=if x_1.toNat=0 then K else l.a0;let ay:=if x_1.toNat=1 then K else l.a1;let az:=if x_1.toNat=2 then K else l.a2;let aA:=if x_1.toNat=3 then K else l.a3;let aB:=if x_1.toNat=4 then K else l.a4;let aC:=if x_1.toNat=5 then K else l.a5;let aD:=decide (x_1<c);let aE:=bj aN x_1.toNat b;let aF:=decide (aE=b);let aG:=decide (aE≠bj p.classes x.bF.toNat b);let aO:=let aH:=g m/\((r.same r/\s.same s/\t.same t/\(j).same M/\v.same v/\z.same z/\True)/\(e (W::X::Y::Z::a6::a7::a Q::a R::a S::a T::a U::a V::A) 137 22 false).same a8/\w.same w/\y.same y/\True)/\(b<=m/\m<=c)/\(c - m).toNat<(c - x_1).toNat;x_1.toNat<6/\b<=x_1/\x_1<c/\x_1.toNat<6/\b<=x_1/\x_1<c/\x_1.toNat<6/\(L=true->b<=x_1/\x_1<c/\x_1.toNat<6/\(P=true->b<=x_1/\x_1<c/\x_1.toNat<6/\g m/\((r.same r/\s.same s/\t.same t/\(f (decide (b<=bj [Q,R,S,T,U,V] x_1.toNat b))).same M/\v.same v/\z.same z/\True)/\(e (W::X::Y::Z::a6::a7::a Q::a R::a S::a T::a U::a V::A) 137 22 false).same a8/\w.same w/\y.same y/\True)/\(b<=m/\m<=c)/\(c - m).toNat<(c - x_1).toNat)/\(P=false->aH))/\(L=false->aH);let aI:=(e (W::X::Y::Z::a6::a7::a ax::a ay::a az::a aA::a aB::a aC::A) 137 22 false).same a8;let aJ:=b<=x_1/\x_1<c/\x_1.toNat<6/\g C/\b<=x_1/\x_1<c/\x_1.toNat<6/\b<=x_1/\x_1<c/\aO;let aK:=g m/\((r.same r/\s.same s/\t.same t/\(j).same M/\v.same v/\z.same z/\True)/\aI/\w.same w/\y.same y/\True)/\(b<=m/\m<=c)/\(c - m).toNat<(c - x_1).toNat;let aL:=λ(u:Bool) ↦P=u;b<=x_1/\x_1<=c->(aD=true->b<=x_1/\x_1<c/\b<=x_1/\x_1<c/\x_1.toNat<6/\g B/\b<=x_1/\x_1<c/\x_1.toNat<6/\b<=x_1/\x_1<c/\x_1.toNat<6/\(aF=true->aJ)/\(aF=false->b<=x_1/\x_1<c/\x_1.toNat<6/\b<=x.bF/\x.bF<(↑p.classes.length:Int)/\x.bF.toNat<p.classes.length/\(aG=true->aJ)/\(aG=false->b<=x_1/\x_1<c/\x_1.toNat<6/\b<=x_1/\x_1<c/\x_1.toNat<6/\b<=x_1/\x_1<c/\x_1.toNat<6/\(L=true->b<=x_1/\x_1<c/\x_1.toNat<6/\(aL true->b<=x_1/\x_1<c/\x_1.toNat<6/\g m/\((r.same r/\s.same s/\t.same t/\(f (decide (b<=bj [ax,ay,az,aA,aB,aC] x_1.toNat b))).same M/\v.same v/\z.same z/\True)/\aI/\w.same w/\y.same y/\True)/\(b<=m/\m<=c)/\(c - m).toNat<(c - x_1).toNat)/\(aL false->aK))/\(L=false->aK))))/\(aD=false->(f L).same (f (o.pos&&q.pos))/\(e (a n.a0::a n.a1::a n.a2::a n.a3::a n.a4::a n.a5::a l.a0::a l.a1::a l.a2::a l.a3::a l.a4::a l.a5::A) 137 22 false).same (e (a o.a0::a o.a1::a o.a2::a o.a3::a o.a4::a o.a5::a q.a0::a q.a1::a q.a2::a q.a3::a q.a4::a q.a5::A) 137 22 false)/\True)) (by kernel_rfl) ?_
 simp only[vcs]
 refine⟨⟨⟨rfl,rfl⟩,by omega,by omega⟩,?_⟩
 rintro k ⟨k0,k6⟩
 simp only[show bj p.classes x.bF.toNat 0=iE p x from rfl]
 generalize hcl:iE p x=cl at*
 constructor
 ·intro hk
  rcases(show k=0\/k=1\/k=2\/k=3\/k=4\/k=5 by omega) with rfl|rfl|rfl|rfl|rfl|rfl
  ·have hb0:=hb 0 (by omega)
   have hw0:0<=x.want.a0/\x.want.a0<=4:=by have:=bz.fA.1 hw;omega
   have b1: -1000<=d.1.a0/\d.1.a0<=1000:=hb0.1
   have b2: -1000<=d.2.1.a0/\d.2.1.a0<=1000:=hb0.2
   have eo:(fQ p (xP d) x).a0=min (d.2.1.a0 - nd p.cls.a0 x.want.a0 cl) (d.1.a0 - x.want.a0):=by rw[<-hcl];rfl
   generalize fQ p (xP d) x=O at*
   by_cases h1:p.cls.a0=0
   ·simp[ik,bj,bz.sub,jz,pk,eo,nd,h1,kT];grind
   ·by_cases h2:p.cls.a0=cl
    ·subst h2
     simp[ik,bj,bz.sub,jz,pk,eo,nd,h1,kT];grind
    ·simp[ik,bj,bz.sub,jz,pk,eo,nd,h1,h2,kT];grind
  ·have hb0:=hb 1 (by omega)
   have hw0:0<=x.want.a1/\x.want.a1<=4:=by have:=bz.fA.1 hw;omega
   have b1: -1000<=d.1.a1/\d.1.a1<=1000:=hb0.1
   have b2: -1000<=d.2.1.a1/\d.2.1.a1<=1000:=hb0.2
   have eo:(fQ p (xP d) x).a1=min (d.2.1.a1 - nd p.cls.a1 x.want.a1 cl) (d.1.a1 - x.want.a1):=by rw[<-hcl];rfl
   generalize fQ p (xP d) x=O at*
   by_cases h1:p.cls.a1=0
   ·simp[ik,bj,bz.sub,jz,pk,eo,nd,h1,kT];grind
   ·by_cases h2:p.cls.a1=cl
    ·subst h2
     simp[ik,bj,bz.sub,jz,pk,eo,nd,h1,kT];grind
    ·simp[ik,bj,bz.sub,jz,pk,eo,nd,h1,h2,kT];grind
  ·have hb0:=hb 2 (by omega)
   have hw0:0<=x.want.a2/\x.want.a2<=4:=by have:=bz.fA.1 hw;omega
   have b1: -1000<=d.1.a2/\d.1.a2<=1000:=hb0.1
   have b2: -1000<=d.2.1.a2/\d.2.1.a2<=1000:=hb0.2
   have eo:(fQ p (xP d) x).a2=min (d.2.1.a2 - nd p.cls.a2 x.want.a2 cl) (d.1.a2 - x.want.a2):=by rw[<-hcl];rfl
   generalize fQ p (xP d) x=O at*
   by_cases h1:p.cls.a2=0
   ·simp[ik,bj,bz.sub,jz,pk,eo,nd,h1,kT];grind
   ·by_cases h2:p.cls.a2=cl
    ·subst h2
     simp[ik,bj,bz.sub,jz,pk,eo,nd,h1,kT];grind
    ·simp[ik,bj,bz.sub,jz,pk,eo,nd,h1,h2,kT];grind
  ·have hb0:=hb 3 (by omega)
   have hw0:0<=x.want.a3/\x.want.a3<=4:=by have:=bz.fA.1 hw;omega
   have b1: -1000<=d.1.a3/\d.1.a3<=1000:=hb0.1
   have b2: -1000<=d.2.1.a3/\d.2.1.a3<=1000:=hb0.2
   have eo:(fQ p (xP d) x).a3=min (d.2.1.a3 - nd p.cls.a3 x.want.a3 cl) (d.1.a3 - x.want.a3):=by rw[<-hcl];rfl
   generalize fQ p (xP d) x=O at*
   by_cases h1:p.cls.a3=0
   ·simp[ik,bj,bz.sub,jz,pk,eo,nd,h1,kT];grind
   ·by_cases h2:p.cls.a3=cl
    ·subst h2
     simp[ik,bj,bz.sub,jz,pk,eo,nd,h1,kT];grind
    ·simp[ik,bj,bz.sub,jz,pk,eo,nd,h1,h2,kT];grind
  ·have hb0:=hb 4 (by omega)
   have hw0:0<=x.want.a4/\x.want.a4<=4:=by have:=bz.fA.1 hw;omega
   have b1: -1000<=d.1.a4/\d.1.a4<=1000:=hb0.1
   have b2: -1000<=d.2.1.a4/\d.2.1.a4<=1000:=hb0.2
   have eo:(fQ p (xP d) x).a4=min (d.2.1.a4 - nd p.cls.a4 x.want.a4 cl) (d.1.a4 - x.want.a4):=by rw[<-hcl];rfl
   generalize fQ p (xP d) x=O at*
   by_cases h1:p.cls.a4=0
   ·simp[ik,bj,bz.sub,jz,pk,eo,nd,h1,kT];grind
   ·by_cases h2:p.cls.a4=cl
    ·subst h2
     simp[ik,bj,bz.sub,jz,pk,eo,nd,h1,kT];grind
    ·simp[ik,bj,bz.sub,jz,pk,eo,nd,h1,h2,kT];grind
  ·have hb0:=hb 5 (by omega)
   have hw0:0<=x.want.a5/\x.want.a5<=4:=by have:=bz.fA.1 hw;omega
   have b1: -1000<=d.1.a5/\d.1.a5<=1000:=hb0.1
   have b2: -1000<=d.2.1.a5/\d.2.1.a5<=1000:=hb0.2
   have eo:(fQ p (xP d) x).a5=min (d.2.1.a5 - nd p.cls.a5 x.want.a5 cl) (d.1.a5 - x.want.a5):=by rw[<-hcl];rfl
   generalize fQ p (xP d) x=O at*
   by_cases h1:p.cls.a5=0
   ·simp[ik,bj,bz.sub,jz,pk,eo,nd,h1,kT];grind
   ·by_cases h2:p.cls.a5=cl
    ·subst h2
     simp[ik,bj,bz.sub,jz,pk,eo,nd,h1,kT];grind
    ·simp[ik,bj,bz.sub,jz,pk,eo,nd,h1,h2,kT];grind
 ·intro hk
  have:k=6:=by omega
  subst this
  simp[ik,bz.sub,jz,pk,bz.pos,Bool.and_assoc]
  exact⟨by ac_rfl,rfl⟩
noncomputable def Fa (L:List bM) (W:mB) (sp:Nat->Option (Nat×Nat×Nat)):iI:=⟨⟨vm L,W.C⟩,oJ,oK,sp,gv,λ_=>false⟩
theorem agv {L:List bM} {W:mB} (sp:Nat->Option (Nat×Nat×Nat)) (c:bM) (Λ:c.α->Nat->cB) (hW:pB Tryz.prog W) (hL:∀c∈L,Holds Tryz.prog c)
  
  (h:∀a,c.dom a->Vc (sa (Fa L W sp) (Λ a) (fG c.f) (c.A.put a) λv=>v.r7 (c.res a))) (hF:(gv c.f).isSome=true:=by kernel_rfl) (hfr:oH c.f L=none:=by kernel_rfl) (hlen:∀a,(c.A.put a).length=(fG c.f).params:=by intro _;kernel_rfl):Holds Tryz.prog c:=
 λa hd=>CB (p:=Fa L W sp) (Λ:=Λ a) (tO hW hL pD) (tP hW) (λ_ _ h=>h) (vp hF) (CC hfr) (hlen a) (λ_ h=>xf h) (h a hd).out
theorem afp {L:List bM} {W:mB} (sp:Nat->Option (Nat×Nat×Nat)) (c:bM) (F:fb) (Λ:c.α->Nat->cB) (hW:pB Tryz.prog W) (hL:∀c∈L,Holds Tryz.prog c)
  
  (h:∀a,c.dom a->Vc (sa (Fa L W sp) (Λ a) F (c.A.put a) λv=>v.r7 (c.res a))) (hF:gv c.f=some F:=by kernel_rfl) (hfr:oH c.f L=none:=by kernel_rfl) (hlen:∀a,(c.A.put a).length=F.params:=by intro _;kernel_rfl):Holds Tryz.prog c:=
 λa hd=>CB (p:=Fa L W sp) (Λ:=Λ a) (tO hW hL pD) (tP hW) (λ_ _ h=>h) hF (CC hfr) (hlen a) (λ_ h=>xf h) (h a hd).out
def pR (p:bp) (u:jc) (i:Int):jc:=if iH p u (oI p i)=true then eT p u i else zX
def Ba (u:jc):Prop:=(∀k,k<6->(-1000<=u.left.at k/\u.left.at k<=1000)/\(-1000<=u.opn.at k/\u.opn.at k<=1000))/\(0<=u.value/\u.value<=160000000)/\u.chosen.length<=1000
def Fb:bM:=⟨92,yF×bp×Int,.cons (eG rL) (.cons dG (.one (ez .i64))),λa=>bC a.2.1=0/\Ba (xP a.1)/\0<=a.2.2/\a.2.2<a.2.1.offers.length,
 λa=> .bH [.agg (encS rL (fP (pR a.2.1 (xP a.1) a.2.2))),.sb (iH a.2.1 (xP a.1) (oI a.2.1 a.2.2))]⟩
def afq (n:Nat):Option (Nat×Nat×Nat):=if n=2 then some (3,0,8) else none
theorem h443:Holds Tryz.prog Fb:=by
 refine afp (L:=[]) (W:=fY [LR]) afq Fb (fG 92) lk (ln (by simpa using h450)) (by simp) ?_
 rintro⟨⟨l,o,c,v,w0,w1,w2,w3,w4,w5,w6,w7⟩,p,i⟩ ⟨hc,hd,i0,i1⟩
 simp only at hc hd i0 i1
 refine bR (let a:=γe .i64;let b:=γI;let d:=(-1000:Int);let e:=δs true;let f:=(1000:Int);let g:=(0:Int);let h:=γK;let j:=SV.bH;let m:=bX .i64;let n:=(7:Int);let q:=(1:Int);let r:=(3:Int);let s:=(2:Int);let t:=(4:Int);let w:=(5:Int);let x:=(6:Int);let y:=Φ;let M:=γq .i64 0;let ae:=bn.i .i64;let Q:=y ae [];let R:=δs false;let N:=xP (l,o,c,v,w0,w1,w2,w3,w4,w5,w6,w7);let a9:=(fP (pR p N i)).fst;let O:=(fP (pR p N i)).snd;let aa:=O.snd.snd.snd.snd.snd;let B:=j [h [a a9.a0,a a9.a1,a a9.a2,a a9.a3,a a9.a4,a a9.a5,a O.fst.a0,a O.fst.a1,a O.fst.a2,a O.fst.a3,a O.fst.a4,a O.fst.a5,y ae O.snd.fst,a O.snd.snd.fst,b O.snd.snd.snd.fst,b O.snd.snd.snd.snd.fst,b aa.fst,b aa.snd.fst,b aa.snd.snd.fst,b aa.snd.snd.snd.fst,b aa.snd.snd.snd.snd.fst,b aa.snd.snd.snd.snd.snd],b (iH p N (oI p i))];let ah:=bj p.offers i.toNat bn.off.dflt;let z:=ah.want;let a8:=l.sub z;let C:=a a8.a0;let D:=a a8.a1;let E:=a a8.a2;let F:=a a8.a3;let G:=a a8.a4;let H:=a a8.a5;let A:=ah.value;let S:=a (v+A);let I:=[e];let ai:=[b w6,b w7];let af:=b w4::b w5::ai;let P:=ah.bF;let T:=(↑p.classes.length:Int);let L:=a8.pos;let aN:=!(L&&(fQ p N (Off.mk g z A)).pos);let U:=y ae [i];let J:=c.length+1;let z32:Nat:=(c++[i]).length;let V:=y ae (c++[i]);let W:=fQ p N (Off.mk q z A);let X:=fQ p N (Off.mk s z A);let aj:=a X.a0;let ak:=a X.a1;let al:=a X.a2;let am:=a X.a3;let an:=a X.a4;let ao:=a X.a5;let ap:=S::b w0::b w1::e::b w3::af;let Y:=fQ p N (Off.mk r z A);let Z:=fQ p N (Off.mk t z A);let aq:=a Z.a0;let ar:=a Z.a1;let au:=a Z.a2;let av:=a Z.a3;let aw:=a Z.a4;let ax:=a Z.a5;let ay:=S::b w0::b w1::b w2::b w3::e::b w5::ai;let a6:=fQ p N (Off.mk w z A);let az:=a a6.a0;let aA:=a a6.a1;let aB:=a a6.a2;let aC:=a a6.a3;let aD:=a a6.a4;let aE:=a a6.a5;let aF:=S::b w0::b w1::b w2::b w3::b w4::e::ai;let a7:=fQ p N (Off.mk x z A);let aG:=a a7.a0;let aH:=a a7.a1;let aI:=a a7.a2;let aJ:=a a7.a3;let aK:=a a7.a4;let aL:=a a7.a5;let aM:=[S,b w0,b w1,b w2,b w3,b w4,b w5,e,b w7];let aO:=!(L&&(fQ p N (Off.mk n z A)).pos);let K:=(j [h [M,M,M,M,M,M,M,M,M,M,M,M,Q,M,R,R,R,R,R,R,R,R],R]).same B;let ab:=λ(u:Int) (u_1 u_2 u_3:SV) ↦let ac:=fQ p N (Off.mk u z A);(j (h [C,D,E,F,G,H,a ac.a0,a ac.a1,a ac.a2,a ac.a3,a ac.a4,a ac.a5,u_1,S,u_2,b w1,b w2,b w3,b w4,b w5,b w6,u_3]::I)).same B;let ag:=λ(u:Nat) (u_1:Int) (u_2 u_3 u_4:SV) ↦let ad:=fQ p N (Off.mk u_1 z A);u=u/\(j (h (C::D::E::F::G::H::a ad.a0::a ad.a1::a ad.a2::a ad.a3::a ad.a4::a ad.a5::u_2::S::b w0::u_3::b w2::u_4::af)::I)).same B;g<=i/\i<(↑p.offers.length:Int)/\i.toNat<p.offers.length/\(P=g->(w0=true->K)/\(w0=false->(((∀(k:Nat),k<6->(d<=l.at k/\l.at k<=f)/\d<=o.at k/\o.at k<=f)/\z.ok=true)/\g<=g/\g<T)/\(aN=true->K)/\(aN=false->m (v+A)/\(c.length=0->(1=0->ab g Q (e) (b w7))/\(1≠0->8<=140737488355328/\1<=1000000000000/\1=1/\ab g U (e) (b w7)))/\(c.length≠0->c.length*8<=140737488355328/\c.length<=1000000000000/\c.length=c.length/\J*8<=140737488355328/\J<=1000000000000/\z32=z32/\ab g V (e) (b w7)))))/\(P=q->(w1=true->K)/\(w1=false->(((∀(k:Nat),k<6->(d<=l.at k/\l.at k<=f)/\d<=o.at k/\o.at k<=f)/\z.ok=true)/\g<=q/\q<T)/\((!(L&&W.pos))=true->K)/\((!(L&&W.pos))=false->m (v+A)/\(c.length=0->(1=0->(j (h (C::D::E::F::G::H::a W.a0::a W.a1::a W.a2::a W.a3::a W.a4::a W.a5::Q::S::b w0::e::b w2::b w3::af)::I)).same B)/\(1≠0->8<=140737488355328/\1<=1000000000000/\ag 1 q U (e) (b w3)))/\(c.length≠0->c.length*8<=140737488355328/\c.length<=1000000000000/\c.length=c.length/\J*8<=140737488355328/\J<=1000000000000/\ag z32 q V (e) (b w3)))))/\(P=s->(w2=true->K)/\(w2=false->(((∀(k:Nat),k<6->(d<=l.at k/\l.at k<=f)/\d<=o.at k/\o.at k<=f)/\z.ok=true)/\g<=s/\s<T)/\((!(L&&X.pos))=true->K)/\((!(L&&X.pos))=false->m (v+A)/\(c.length=0->(1=0->(j (h (C::D::E::F::G::H::aj::ak::al::am::an::ao::Q::ap)::I)).same B)/\(1≠0->8<=140737488355328/\1<=1000000000000/\1=1/\(j (h (C::D::E::F::G::H::aj::ak::al::am::an::ao::U::ap)::I)).same B))/\(c.length≠0->c.length*8<=140737488355328/\c.length<=1000000000000/\c.length=c.length/\J*8<=140737488355328/\J<=1000000000000/\z32=z32/\(j (h (C::D::E::F::G::H::aj::ak::al::am::an::ao::V::ap)::I)).same B))))/\(P=r->(w3=true->K)/\(w3=false->(((∀(k:Nat),k<6->(d<=l.at k/\l.at k<=f)/\d<=o.at k/\o.at k<=f)/\z.ok=true)/\g<=r/\r<T)/\((!(L&&Y.pos))=true->K)/\((!(L&&Y.pos))=false->m (v+A)/\(c.length=0->(1=0->(j (h (C::D::E::F::G::H::a Y.a0::a Y.a1::a Y.a2::a Y.a3::a Y.a4::a Y.a5::Q::S::b w0::b w1::b w2::e::af)::I)).same B)/\(1≠0->8<=140737488355328/\1<=1000000000000/\ag 1 r U (b w1) (e)))/\(c.length≠0->c.length*8<=140737488355328/\c.length<=1000000000000/\c.length=c.length/\J*8<=140737488355328/\J<=1000000000000/\ag z32 r V (b w1) (e)))))/\(P=t->(w4=true->K)/\(w4=false->(((∀(k:Nat),k<6->(d<=l.at k/\l.at k<=f)/\d<=o.at k/\o.at k<=f)/\z.ok=true)/\g<=t/\t<T)/\((!(L&&Z.pos))=true->K)/\((!(L&&Z.pos))=false->m (v+A)/\(c.length=0->(1=0->(j (h (C::D::E::F::G::H::aq::ar::au::av::aw::ax::Q::ay)::I)).same B)/\(1≠0->8<=140737488355328/\1<=1000000000000/\1=1/\(j (h (C::D::E::F::G::H::aq::ar::au::av::aw::ax::U::ay)::I)).same B))/\(c.length≠0->c.length*8<=140737488355328/\c.length<=1000000000000/\c.length=c.length/\J*8<=140737488355328/\J<=1000000000000/\z32=z32/\(j (h (C::D::E::F::G::H::aq::ar::au::av::aw::ax::V::ay)::I)).same B))))/\(P=w->(w5=true->K)/\(w5=false->(((∀(k:Nat),k<6->(d<=l.at k/\l.at k<=f)/\d<=o.at k/\o.at k<=f)/\z.ok=true)/\g<=w/\w<T)/\((!(L&&a6.pos))=true->K)/\((!(L&&a6.pos))=false->m (v+A)/\(c.length=0->(1=0->(j (h (C::D::E::F::G::H::az::aA::aB::aC::aD::aE::Q::aF)::I)).same B)/\(1≠0->8<=140737488355328/\1<=1000000000000/\1=1/\(j (h (C::D::E::F::G::H::az::aA::aB::aC::aD::aE::U::aF)::I)).same B))/\(c.length≠0->c.length*8<=140737488355328/\c.length<=1000000000000/\c.length=c.length/\J*8<=140737488355328/\J<=1000000000000/\z32=z32/\(j (h (C::D::E::F::G::H::az::aA::aB::aC::aD::aE::V::aF)::I)).same B))))/\(P=x->(w6=true->K)/\(w6=false->(((∀(k:Nat),k<6->(d<=l.at k/\l.at k<=f)/\d<=o.at k/\o.at k<=f)/\z.ok=true)/\g<=x/\x<T)/\((!(L&&a7.pos))=true->K)/\((!(L&&a7.pos))=false->m (v+A)/\(c.length=0->(1=0->(j (h (C::D::E::F::G::H::aG::aH::aI::aJ::aK::aL::Q::aM)::I)).same B)/\(1≠0->8<=140737488355328/\1<=1000000000000/\1=1/\(j (h (C::D::E::F::G::H::aG::aH::aI::aJ::aK::aL::U::aM)::I)).same B))/\(c.length≠0->c.length*8<=140737488355328/\c.length<=1000000000000/\c.length=c.length/\J*8<=140737488355328/\J<=1000000000000/\z32=z32/\(j (h (C::D::E::F::G::H::aG::aH::aI::aJ::aK::aL::V::aM)::I)).same B))))/\(P=n->(w7=true->K)/\(w7=false->(((∀(k:Nat),k<6->(d<=l.at k/\l.at k<=f)/\d<=o.at k/\o.at k<=f)/\z.ok=true)/\g<=n/\n<T)/\(aO=true->K)/\(aO=false->m (v+A)/\(c.length=0->(1=0->ab n Q (b w0) (e))/\(1≠0->8<=140737488355328/\1<=1000000000000/\1=1/\ab n U (b w0) (e)))/\(c.length≠0->c.length*8<=140737488355328/\c.length<=1000000000000/\c.length=c.length/\J*8<=140737488355328/\J<=1000000000000/\z32=z32/\ab n V (b w0) (e)))))/\g<=P/\P<(8:Int)) (by kernel_rfl) ?_
 simp only[vcs]
 have hg:=(dL hc).2.2.2.2 (oI p i) (de (by omega))
 have hc8:=(dL hc).1
 obtain⟨h1,h2,h3⟩:=hd
 have h1':∀k,k<6->(-1000<=l.at k/\l.at k<=1000)/\(-1000<=o.at k/\o.at k<=1000):=h1
 have h2':0<=v/\v<=160000000:=h2
 have h3':c.length<=1000:=h3
 refine⟨i0,i1,by omega,?_⟩
 have eo:bj p.offers i.toNat bn.off.dflt=oI p i:=rfl
 simp only[eo]
 generalize hr:fP (pR p (xP (l,o,c,v,w0,w1,w2,w3,w4,w5,w6,w7)) i)=r
 simp only[pR,eT] at hr
 generalize hW:iH p (xP (l,o,c,v,w0,w1,w2,w3,w4,w5,w6,w7)) (oI p i)=W at*
 simp only[iH] at hW
 generalize oI p i=x at*
 obtain⟨b,w,y⟩:=x
 simp only at hg hW hr ⊢
 refine⟨?_,?_,?_,?_,?_,?_,?_,?_,?_⟩
 case refine_9=>
  exact⟨hg.1,by omega⟩
 all_goals
  rintro rfl
  refine⟨λhw=>?_,λhw=>⟨⟨⟨h1',hg.2.2.1⟩,by omega,by omega⟩,λhq=>?_,λhq=>⟨by omega,λhl=>⟨λh=>absurd h (by decide),λ_=>⟨by omega,by omega,?_⟩⟩,λhl=>⟨by omega,by omega,by omega,by omega,?_⟩⟩⟩⟩
  all_goals subst hw
  ·have e:W=false:=hW.symm
   subst e;subst hr
   exact⟨rfl,rfl⟩
  ·have e:W=false:=hW.symm.trans hq
   subst e;subst hr
   exact⟨rfl,rfl⟩
  ·have e:W=true:=hW.symm.trans (by simp only[θ];exact⟨rfl,hq⟩)
   subst e;subst hr
   have:=List.eq_nil_of_length_eq_zero hl
   subst this
   exact⟨rfl,rfl⟩
  ·have e:W=true:=hW.symm.trans (by simp only[θ];exact⟨rfl,hq⟩)
   subst e;subst hr
   exact⟨rfl,rfl⟩
def LS:bM:=⟨94,yF×bp×Int,.cons (eG rL) (.cons dG (.one (ez .i64))),λa=>bC a.2.1=0/\Ba (xP a.1)/\0<=a.2.2/\a.2.2<=a.2.1.offers.length,
 λa=> .agg (gq a.2.1 (xP a.1) a.2.2.toNat).ss⟩
def o9 (p:bp) (u:jc) (i k:Nat):List Off:=((p.offers.take k).drop i).filter (iH p u)
theorem afr {p:bp} {u:jc} {i:Nat}:o9 p u i i=[]:=by
 unfold o9
 rw[List.drop_eq_nil_of_le (by rw[Ξ];omega)]
 rfl
theorem afs {p:bp} {u:jc} {i k:Nat} (hi:i<=k) (hk:k<p.offers.length):o9 p u i (k+1)=o9 p u i k++if iH p u (oI p k)=true then[oI p k] else[]:=by
 unfold o9
 have e:oI p k=p.offers[k]:=cO (by simpa using hk)
 rw[List.take_succ_eq_append_getElem hk,List.drop_append_of_le_length (by rw[Ξ];omega),δt,e]
 congr 1
 by_cases h:iH p u p.offers[k]=true
 ·rw[if_pos h,δv h];rfl
 ·rw[if_neg h,δw h];rfl
theorem aft {p:bp} {u:jc} {i k:Nat}:(o9 p u i k).length<=p.offers.length:=by
 unfold o9
 refine Nat.le_trans (γC _ _) ?_
 rw[γH,Ξ];omega
def afu (l o:bz) (c:List Int) (v:Int) (w0 w1 w2 w3 w4 w5 w6 w7:Bool) (p:bp) (i:Int):Nat->cB
 |3=> .inv Int (λk=>⟨[(3,.ptr 0 0 22),(4,.ptr 1 0 20),(6,.ptr 2 0 20),(7,.ptr 3 0 20),(8,.si .i64 k)],
   [.cells (encS rL (l,o,c,v,w0,w1,w2,w3,w4,w5,w6,w7)) 137 22 false,.cells p.ss 27 20 false,
    .cells [.il .i64 0,.il .i64 0,.il .i64 0,.il .i64 0,.il .i64 0,.il .i64 0,.il .i64 0,.il .i64 0,.il .i64 0,.il .i64 0,.il .i64 0,.il .i64 0,.il .i64 0,.il .i64 0,.il .i64 0,.il .i64 0,.il .i64 0,.il .i64 0,.sc (.slice none 0 0),.sc (.slice none 0 0)] 27 20 false,
    .cells [.si .i64 l.a0,.si .i64 l.a1,.si .i64 l.a2,.si .i64 l.a3,.si .i64 l.a4,.si .i64 l.a5,.si .i64 o.a0,.si .i64 o.a1,.si .i64 o.a2,.si .i64 o.a3,.si .i64 o.a4,.si .i64 o.a5,
     .si .i64 p.cls.a0,.si .i64 p.cls.a1,.si .i64 p.cls.a2,.si .i64 p.cls.a3,.si .i64 p.cls.a4,.si .i64 p.cls.a5,.row (.i .i64) p.classes,.ow 4 (o9 p (xP (l,o,c,v,w0,w1,w2,w3,w4,w5,w6,w7)) i.toNat k.toNat).length 8] 27 20 false,
    .row .off (o9 p (xP (l,o,c,v,w0,w1,w2,w3,w4,w5,w6,w7)) i.toNat k.toNat) 39 true]⟩)
   (λs=>iS s 8) (λk=>i<=k/\k<=p.offers.length) (λk=>(p.offers.length - k).toNat) λ_ _=> .look
 |_=> .look
theorem h444:Holds Tryz.prog LS:=by
 refine cK (L:=[Fb]) LS (λa=>afu a.1.1 a.1.2.1 a.1.2.2.1 a.1.2.2.2.1 a.1.2.2.2.2.1 a.1.2.2.2.2.2.1 a.1.2.2.2.2.2.2.1 a.1.2.2.2.2.2.2.2.1 a.1.2.2.2.2.2.2.2.2.1 a.1.2.2.2.2.2.2.2.2.2.1 a.1.2.2.2.2.2.2.2.2.2.2.1 a.1.2.2.2.2.2.2.2.2.2.2.2 a.2.1 a.2.2) (by simpa using h443) ?_
 rintro⟨⟨l,o,c,v,w0,w1,w2,w3,w4,w5,w6,w7⟩,p,i⟩ ⟨hc,hd,i0,i1⟩
 simp only at hc hd i0 i1
 refine bR (let a:=γe .i64;let b:=bq.cells;let d:=bq.row;let e:=γI;let f:=Φ;let g:=γW;let h:=(0:Int);let j:=SV.ow;let y:=a p.cls.a0;let z:=a p.cls.a1;let A:=a p.cls.a2;let B:=a p.cls.a3;let C:=a p.cls.a4;let D:=a p.cls.a5;let Z:=bn.i .i64;let E:=f Z p.classes;let G:=g 0 0 22;let H:=g 1 0 20;let I:=g 2 0 20;let J:=g 3 0 20;let K:=a l.a0;let L:=a l.a1;let M:=a l.a2;let N:=a l.a3;let O:=a l.a4;let P:=a l.a5;let Q:=a o.a0;let R:=a o.a1;let S:=a o.a2;let T:=a o.a3;let U:=a o.a4;let V:=a o.a5;let W:=b [K,L,M,N,O,P,Q,R,S,T,U,V,f Z c,a v,e w0,e w1,e w2,e w3,e w4,e w5,e w6,e w7] 137 22 false;let X:=f bn.off p.offers;let k:=γq .i64 0;let a8:=SV.sc (Value.slice none 0 0);let Y:=b [k,k,k,k,k,k,k,k,k,k,k,k,k,k,k,k,k,k,a8,a8] 27 20 false;let n:=xP (l,o,c,v,w0,w1,w2,w3,w4,w5,w6,w7);let a9:=o9 p n i.toNat i.toNat;let q:=(↑p.offers.length:Int);let a6:=(↑p.offers.length:Int);let F:=gq p n i.toNat;let r:=F.supply;let s:=F.opn;let t:=F.cls;let a7:=λ(u u_1:bz) (u_2 u_3:SV) ↦let aa:=a u.a0;let ab:=a u.a1;let ac:=a u.a2;let ad:=a u.a3;let ae:=a u.a4;let af:=a u.a5;let ag:=a u_1.a0;let ah:=a u_1.a1;let ai:=a u_1.a2;let aj:=a u_1.a3;let ak:=a u_1.a4;let al:=a u_1.a5;(b [aa,ab,ac,ad,ae,af,ag,ah,ai,aj,ak,al,y,z,A,B,C,D,E,u_2] 27 20 false).same (b [aa,ab,ac,ad,ae,af,ag,ah,ai,aj,ak,al,y,z,A,B,C,D,E,u_3] 27 20 false);(((G.same G/\H.same H/\I.same I/\J.same J/\(a i).same (a i)/\True)/\W.same W/\a7 p.supply p.opn X X/\Y.same Y/\a7 l o (j 4 0 8) (j 4 a9.length 8)/\(d bn.off [] 39 true).same (d bn.off a9 39 true)/\True)/\i<=i/\i<=q)/\∀(x:Int),let w:=x+(1:Int);let am:=a w;let an:=o9 p n i.toNat w.toNat;let ao:=iH p n (oI p x);let m:=o9 p n i.toNat x.toNat;let ap:=m.length+1;let aq:=m++[bj p.offers x.toNat bn.off.dflt];let ar:=λ(u:Nat) (u_1:bq) ↦bX .i64 w/\((G.same G/\H.same H/\I.same I/\J.same J/\am.same am/\True)/\W.same W/\a7 p.supply p.opn X X/\Y.same Y/\(b [K,L,M,N,O,P,Q,R,S,T,U,V,y,z,A,B,C,D,E,j 4 u 8] 27 20 false).same (b [K,L,M,N,O,P,Q,R,S,T,U,V,y,z,A,B,C,D,E,j 4 an.length 8] 27 20 false)/\u_1.same (d bn.off an 39 true)/\True)/\(i<=w/\w<=q)/\(q - w).toNat<(q - x).toNat;i<=x/\x<=q->(decide (x<a6)=true->(bC p=h/\Ba n/\h<=x/\x<q)/\(ao=true->h<=x/\x<a6/\x.toNat<p.offers.length/\1=1/\m.length=m.length/\ap*64<=140737488355328/\ap<=1000000000000/\ar aq.length (d bn.off aq 39 true))/\(ao=false->ar m.length (d bn.off m 39 true)))/\(decide (x<a6)=false->m.length=m.length/\(γK [K,L,M,N,O,P,Q,R,S,T,U,V,y,z,A,B,C,D,E,f bn.off m]).same (γK [a r.a0,a r.a1,a r.a2,a r.a3,a r.a4,a r.a5,a s.a0,a s.a1,a s.a2,a s.a3,a s.a4,a s.a5,a t.a0,a t.a1,a t.a2,a t.a3,a t.a4,a t.a5,f Z F.classes,f bn.off F.offers]))) (by kernel_rfl) ?_
 simp only[vcs]
 have hl:p.offers.length<=160:=(dL hc).2.1
 generalize hu:xP (l,o,c,v,w0,w1,w2,w3,w4,w5,w6,w7)=u at*
 have e0:=@afr p u i.toNat
 refine⟨⟨⟨by rw[e0];rfl,by rw[e0];rfl⟩,by omega,by omega⟩,?_⟩
 rintro k ⟨k0,k1⟩
 have hlen:=@aft p u i.toNat k.toNat
 refine⟨λhk=>?_,λhk=>?_⟩
 ·have eS:=@afs p u i.toNat k.toNat (by omega) (by omega)
  rw[show((k.toNat:Nat):Int)=k by omega] at eS
  have eo:bj p.offers k.toNat bn.off.dflt=oI p k:=rfl
  rw[show(k+1).toNat=k.toNat+1 by omega,eS,eo]
  refine⟨⟨hc,hd,by omega,by omega⟩,λhw=>?_,λhw=>?_⟩
  ·rw[if_pos hw]
   refine⟨?_,?_,?_,?_,?_,?_,⟨rfl,rfl⟩,?_,?_⟩<;>omega
  ·rw[if_neg (by rw[hw];simp),γY]
   refine⟨?_,⟨rfl,rfl⟩,?_,?_⟩<;>omega
 ·rw[show k.toNat=p.offers.length by omega]
  subst hu;unfold o9;rw[List.take_length];rfl
noncomputable def LU:bM:=⟨55,bp×Int,.cons dG (.one (ez .i64)),λa=>(bC a.1=0/\a.1.offers.length<=15)/\a.2=(bZ a.1).value,
 λa=> .bH [.row (.i .i64) (bZ a.1).chosen,.si .i64 0]⟩
noncomputable def afv (p:bp) (m:Int):Nat->cB
 |3=> .inv Int (λk=>⟨[(1,.si .i64 m),(2,.ptr 0 0 20),(6,.ptr 1 0 22),(21,.si .i64 p.offers.length),(22,.si .i64 k)],
   [.cells p.ss 27 20 false,.cells (encS rL (fP (jQ p m k.toNat))) 137 22 false,.dead]⟩)
   (λs=>iS s 22) (λk=>0<=k/\k<=p.offers.length) (λk=>(p.offers.length - k).toNat) λ_ _=> .look
 |_=> .look
theorem afw {α β:Type} (x:α×β):(x.1,x.2)=x:=rfl
theorem Vf {p:bp} {m:Int} {k:Nat} (h:(jQ p m k).value=m):∀n,jQ p m (k+n)=jQ p m k
 |0=>rfl
 |n+1=>by
  have ih:=Vf h n
  show pQ p m (jQ p m (k+n)) _=_
  rw[ih];unfold pQ;rw[if_pos h]
theorem afx {p:bp} {u:jc} {i:Int} (h:u.won.length=8):(pR p u i).won.length=8:=by
 unfold pR;split
 ·show(u.won.set _ true).length=8
  rw[γb];exact h
 ·rfl
theorem Vg {p:bp} {u:jc} (hc:bC p=0) (hG:rK p u):Ba u:=by
 have hq:=E8 hc hG (k:=0)
 have h1:=yD.1 (sr (rj hq).1).1
 have h2:∀k,k<6->0<=u.opn.at k/\u.opn.at k<=u.left.at k:=λk hk=>⟨(v8 hq hk).2.2.1,(v8 hq hk).2.2.2.1⟩
 have hf:=(zH hc).2 hG.f
 obtain⟨v0,v1,v2⟩:=vZ hc hf
 have hv:u.value=eC p u.chosen:=by rw[hG.v,Dy hc hG.f]
 refine⟨λk hk=>?_,by omega,by omega⟩
 have a:=h1 k hk
 have b:=h2 k hk
 have a':0<=u.left.at k/\u.left.at k<=4:=a
 omega
theorem h436:Holds Tryz.prog LU:=by
 refine cK (L:=[Fb,LS,Lx]) LU (λa=>afv a.1 a.2) (by simpa using⟨h443,h444,h434⟩) ?_
 rintro⟨p,m⟩ ⟨⟨hc,h15⟩,hm⟩
 simp only at hc h15 hm
 refine bR (let a:=γe .i64;let b:=γI;let c:=(0:Int);let d:=bq.cells;let e:=Φ;let f:=bX .i64;let g:=(65536:Int);let h:=SV.bH;let A:=γW 0 0 20;let B:=γW 1 0 22;let k:=(↑p.offers.length:Int);let M:=a k;let Q:=γq .i64 0;let U:=a 0;let V:=a p.supply.a0;let W:=a p.supply.a1;let X:=a p.supply.a2;let Y:=a p.supply.a3;let Z:=a p.supply.a4;let a6:=a p.supply.a5;let a7:=a p.opn.a0;let a8:=a p.opn.a1;let a9:=a p.opn.a2;let aa:=a p.opn.a3;let ab:=a p.opn.a4;let ac:=a p.opn.a5;let o:=bn.i .i64;let C:=d [V,W,X,Y,Z,a6,a7,a8,a9,aa,ab,ac,a p.cls.a0,a p.cls.a1,a p.cls.a2,a p.cls.a3,a p.cls.a4,a p.cls.a5,e o p.classes,e bn.off p.offers] 27 20 false;let q:=δs false;let D:=fP (jQ p m 0);let E:=D.fst;let F:=D.snd.fst;let G:=D.snd.snd.snd.snd.snd;let ad:=G.snd.snd.snd.snd.snd;let ae:=h [e o (bZ p).chosen,U];0=0/\((((a m).same (a m)/\A.same A/\B.same B/\(a (↑p.offers.length:Int)).same M/\Q.same U/\True)/\C.same C/\(d [V,W,X,Y,Z,a6,a7,a8,a9,aa,ab,ac,e o [],Q,q,q,q,q,q,q,q,q] 137 22 false).same (d [a E.a0,a E.a1,a E.a2,a E.a3,a E.a4,a E.a5,a F.a0,a F.a1,a F.a2,a F.a3,a F.a4,a F.a5,e o D.snd.snd.fst,a D.snd.snd.snd.fst,b D.snd.snd.snd.snd.fst,b G.fst,b G.snd.fst,b G.snd.snd.fst,b G.snd.snd.snd.fst,b G.snd.snd.snd.snd.fst,b ad.fst,b ad.snd] 137 22 false)/\bq.dead.same bq.dead/\True)/\c<=c/\c<=k)/\∀(x:Int),let j:=x+(1:Int);let N:=a j;let s:=fP (jQ p m x.toNat);let t:=s.fst;let v:=s.snd.fst;let af:=e o s.snd.snd.fst;let R:=s.snd.snd.snd.fst;let ag:=s.snd.snd.snd.snd.fst;let l:=s.snd.snd.snd.snd.snd;let ah:=l.snd.snd.snd.snd.fst;let O:=l.snd.snd.snd.snd.snd;let H:=fP (jQ p m j.toNat);let I:=H.fst;let J:=H.snd.fst;let K:=H.snd.snd.snd.snd.snd;let ai:=K.snd.snd.snd.snd.snd;let aj:=d [a I.a0,a I.a1,a I.a2,a I.a3,a I.a4,a I.a5,a J.a0,a J.a1,a J.a2,a J.a3,a J.a4,a J.a5,e o H.snd.snd.fst,a H.snd.snd.snd.fst,b H.snd.snd.snd.snd.fst,b K.fst,b K.snd.fst,b K.snd.snd.fst,b K.snd.snd.snd.fst,b K.snd.snd.snd.snd.fst,b ai.fst,b ai.snd] 137 22 false;let P:=xP (t,v,s.snd.snd.fst,R,ag,l.fst,l.snd.fst,l.snd.snd.fst,l.snd.snd.snd.fst,ah,O.fst,O.snd);let w:=(fP (pR p P x)).fst;let r:=(fP (pR p P x)).snd;let y:=r.fst;let z:=r.snd.snd.fst;let ak:=r.snd.snd.snd.snd.fst;let n:=r.snd.snd.snd.snd.snd;let al:=n.snd.snd.snd.snd.fst;let am:=n.snd.snd.snd.snd.snd;let S:=gq p (xP (w,y,r.snd.fst,z,r.snd.snd.snd.fst,ak,n.fst,n.snd.fst,n.snd.snd.fst,n.snd.snd.snd.fst,al,am)) j.toNat;let an:=iP S (m - z) g;let ao:=f j/\(((a m).same (a m)/\A.same A/\B.same B/\M.same M/\N.same N/\True)/\C.same C/\(d [a t.a0,a t.a1,a t.a2,a t.a3,a t.a4,a t.a5,a v.a0,a v.a1,a v.a2,a v.a3,a v.a4,a v.a5,af,a R,b ag,b l.fst,b l.snd.fst,b l.snd.snd.fst,b l.snd.snd.snd.fst,b ah,b O.fst,b O.snd] 137 22 false).same aj/\bq.dead.same bq.dead/\True)/\(c<=j/\j<=k)/\(k - j).toNat<(k - x).toNat;let ap:=(h [af,Q]).same ae;let aq:=λ(u:Bool) ↦jP S (m - z) g=u;let ar:=λ(u:Bool) ↦decide (an≠c)=u;let au:=λ(u:jc) ↦let L:=(fP u).snd.snd.snd.snd;let T:=L.snd.snd.snd.snd.snd;Ba (xP ((fP u).fst,(fP u).snd.fst,(fP u).snd.snd.fst,(fP u).snd.snd.snd.fst,L.fst,L.snd.fst,L.snd.snd.fst,L.snd.snd.snd.fst,L.snd.snd.snd.snd.fst,T.fst,T.snd.fst,T.snd.snd));let av:=λ(u:Bool) ↦(!iH p P (oI p x))=u;let aw:=λ(u:Bool) ↦decide (R=m)=u;c<=x/\x<=k->(decide (x<k)=true->(aw true->ap)/\(aw false->(bC p=c/\au (jQ p m x.toNat)/\c<=x/\x<k)/\(av true->ao)/\(av false->f j/\(bC p=c/\au (pR p P x)/\c<=j/\j<=k)/\f (m - z)/\(S.offers.length<=40/\(-9223372036854775808:Int)<=m - z/\m - z<=(9223372036854775807:Int))/\(ar true->(h [e o [],a an]).same ae)/\(ar false->(aq true->f j/\(((a m).same (a m)/\A.same A/\B.same B/\M.same M/\N.same N/\True)/\C.same C/\(d [a w.a0,a w.a1,a w.a2,a w.a3,a w.a4,a w.a5,a y.a0,a y.a1,a y.a2,a y.a3,a y.a4,a y.a5,e o r.snd.fst,a z,b r.snd.snd.snd.fst,b ak,b n.fst,b n.snd.fst,b n.snd.snd.fst,b n.snd.snd.snd.fst,b al,b am] 137 22 false).same aj/\bq.dead.same bq.dead/\True)/\(c<=j/\j<=k)/\(k - j).toNat<(k - x).toNat)/\(aq false->ao)))))/\(decide (x<k)=false->ap)) (by kernel_rfl) ?_
 simp only[vcs];simp only[afw]
 refine⟨⟨rfl,by omega,by omega⟩,?_⟩
 rintro k ⟨k0,k1⟩
 obtain⟨hG,hC⟩:=LO hc h15 k.toNat (by omega)
 rw[<-hm] at hG hC
 generalize hu:jQ p m k.toNat=u at*
 have hW:=@afx p u k hG.wl
 simp only[Ve hG.wl,Ve hW]
 have hrun:jQ p m (k+1).toNat=pQ p m u k:=by
  rw[show(k+1).toNat=k.toNat+1 by omega]
  show pQ p m (jQ p m k.toNat) _=_
  rw[hu,show((k.toNat:Nat):Int)=k by omega]
 have hD:=Vg hc hG
 refine⟨λhk=>⟨λhv=>?_,λhv0=>⟨⟨hc,hD,by omega,by omega⟩,λhw=>?_,λhw=>?_⟩⟩,λhk=>?_⟩
 ·have h1:=@Vf p m k.toNat (by rw[hu];exact hv) (p.offers.length - k.toNat)
  rw[show k.toNat+(p.offers.length - k.toNat)=p.offers.length by omega,hu] at h1
  show u.chosen=_
  rw[<-h1,hm,Vd hc h15]
 ·have hv:¬u.value=m:=hv0
  have e:jQ p m (k+1).toNat=u:=by rw[hrun];unfold pQ;rw[if_neg hv,if_neg (by rw[hw];simp)]
  rw[e]
  refine⟨?_,rfl,?_,?_⟩<;>omega
 ·have hv:¬u.value=m:=hv0
  have hy:pR p u k=eT p u k:=by unfold pR;rw[if_pos hw]
  rw[hy]
  have hlt:∀j∈u.chosen,j<k:=λj hj=>by
   rw[hC] at hj
   have:=of_decide_eq_true (γi.1 hj).2
   omega
  have hG2:=hG.next hc hlt ⟨by omega,by omega⟩ hw
  have hD2:=Vg hc hG2
  have hq:=E8 hc hG2 (k:=(k+1).toNat)
  have vD:(gq p (eT p u k) (k+1).toNat).offers.length<=15:=by
   have h1:=γC (iH p (eT p u k)) (p.offers.drop (k+1).toNat)
   rw[γH] at h1
   show((p.offers.drop _).filter _).length<=15
   omega
  have hroom:iP (gq p (eT p u k) (k+1).toNat) (m - (eT p u k).value) 65536=0:=Lr hq (by omega) (by
   have:2^((gq p (eT p u k) (k+1).toNat).offers.length+1)<=2^16:=δK (by omega) (by omega)
   have h16:(2:Nat)^16=65536:=rfl
   omega)
  have hmb:0<=m/\m<=160000000:=by
   obtain⟨f1,f2⟩:=E9 hc
   have:=vZ hc ((zH hc).2 f1)
   rw[Dy hc f1] at this;omega
  have hv2:0<=(eT p u k).value/\(eT p u k).value<=160000000:=hD2.2.1
  have ev:(fP (eT p u k)).2.2.2.1=(eT p u k).value:=rfl
  rw[ev,hroom]
  have er:jQ p m (k+1).toNat=if jP (gq p (eT p u k) (k+1).toNat) (m - (eT p u k).value) 65536=true then eT p u k else u:=by
   rw[hrun];unfold pQ;rw[if_neg hv,if_pos hw]
  refine⟨by omega,⟨hc,hD2,by omega,by omega⟩,by omega,⟨by omega,by omega,by omega⟩,λh=>absurd rfl h,λ_=>⟨λhb=>?_,λhb=>?_⟩⟩
  ·rw[er,if_pos hb]
   refine⟨?_,rfl,?_,?_⟩<;>omega
  ·rw[er,if_neg (by rw[hb];simp)]
   refine⟨?_,rfl,?_,?_⟩<;>omega
 ·show u.chosen=_
  rw[<-hu,hm,show k.toNat=p.offers.length by omega,Vd hc h15]
noncomputable def Bc (p:bp):List qJ:=(iy p (gn p (jK p)).chosen 65536).prf
noncomputable def LV:bM:=⟨22,bp,.one dG,λp=>bC p≠0\/p.offers.length<=15,
 λp=> .bH [.agg [.row (.i .i64) (if bC p=0 then(bZ p).chosen else[]),.si .i64 (if bC p=0 then(bZ p).value else 0),.row ek (if bC p=0 then Bc p else[])],.si .i64 (bC p)]⟩
theorem h427:Holds Tryz.prog LV:=by
 refine cK (L:=[ri,AA,AB,Lu,LU]) LV lk (by simpa using⟨h79,h312,h315,h429,h436⟩) ?_
 rintro(p:bp) (hd:bC p≠0\/p.offers.length<=15)
 refine bR (let a:=(0:Int);let b:=γe .i64;let c:=Φ;let d:=(65536:Int);let e:=SV.bH;let f:=γK;let g:=bn.i .i64;let l:=[b (bC p)];let j:=e (f [c g (if bC p=a then(bZ p).chosen else[]),b (if bC p=a then(bZ p).value else a),c ek (if bC p=a then Bc p else[])]::l);let m:=γq .i64 0;let n:=f [c g [],m,c g []];let o:=decide (bC p≠a);let k:=(gn p (jK p)).chosen;let h:=kj p k d;let q:=decide (h≠a);let r:=iy p k d;let s:=if h=a then r.val else a;let v:=λ(u u_1:Bool) (u_2:List SV) ↦u=u_1->(e u_2).same j;let t:=λ(u:Bool) (u_1:Int) ↦u=true->(e [n,b u_1]).same j;True/\(o=true->(e (n::l)).same j)/\(o=false->p.offers.length<=40/\(jK p).length<=9223372036854775807/\(p.offers.length<=40/\k.length<=9223372036854775807)/\t q h/\(q=false->((bC p=a/\p.offers.length<=15)/\s=(bZ p).value)/\t false a/\v false false [f [c g (bZ p).chosen,b s,c ek (if h=a then r.prf else[])],m]))) (by kernel_rfl) ?_
 simp only[vcs]
 by_cases hc:bC p=0
 ·have h15:p.offers.length<=15:=hd.resolve_left λh=>h hc
  obtain⟨i1,_⟩:=A4 hc
  have hst:=Lt hc
  have hil:=(vZ hc i1).2.2
  have Vh:((1+2^(p.offers.length+1):Nat):Int)<=65536+2:=by
   have:2^(p.offers.length+1)<=2^16:=δK (by omega) (by omega)
   have h16:(2:Nat)^16=65536:=rfl
   omega
  have hroom:kj p (gn p (jK p)).chosen 65536=0:=afb hc i1 (by omega) Vh
  obtain⟨_,s2,s3⟩:=U2 hc i1 (most:=65536) (by omega)
  have hv:=(s2 (s3 Vh)).2.1
  simp only[hroom,hc,if_true]
  refine⟨λh=>absurd rfl h,λ_=>⟨by omega,by omega,⟨by omega,by omega⟩,λh=>absurd rfl h,λ_=>⟨⟨⟨trivial,h15⟩,hv⟩,λh=>(by cases h),λ_=>⟨?_,trivial⟩⟩⟩⟩
  rw[hv];rfl
 ·refine⟨λ_=>?_,λh=>absurd hc h⟩
  rw[if_neg hc,if_neg hc,if_neg hc];rfl
theorem Vj {p:bp} (hc:bC p=0):rq p (bZ p).chosen/\eC p (bZ p).chosen=(bZ p).value/\(bZ p).value=jG p:=by
 obtain⟨_,h2,h3,h4⟩:=xx hc
 have hF:rq p (bZ p).chosen:=⟨h3,h2⟩
 exact⟨hF,by rw[Dy hc hF,h4],(Dw hc).symm⟩
theorem LW {b:Int}:∀{L:List Off} {s:Int×Int},(∀x∈L,x.bF≠b)->(L.foldl (xy b) s).1=s.1
 |[],_,_=>rfl
 |x::L,s,h=>by
  rw[γw,LW λy hy=>h y (by simp[hy])]
  unfold xy
  rw[if_neg (h x (by simp))]
theorem afy {b:Int} {l1 l2:List Off} {x:Off} {s:Int×Int} (hb:x.bF=b) (h:((l1++x::l2).map Off.bF).Nodup):((l1++x::l2).foldl (xy b) s).1=x.value/\∀y∈l1++l2,y.bF≠b:=by
 rw[γa,γu] at h
 obtain⟨_,n2,n3⟩:=h
 rw[ι,γD] at n2
 have h2:∀y∈l2,y.bF≠b:=λy hy e=>n2.1 (by rw[hb,<-e];exact γ3 hy)
 refine⟨?_,λy hy=>?_⟩
 ·rw[δP,γw,LW h2]
  unfold xy;rw[if_pos hb]
 ·rcases ω.1 hy with hy|hy
  ·exact λe=>n3 _ (γ3 hy) x.bF (by simp) (by rw[e,hb])
  ·exact h2 y hy
theorem afz {p:bp} (hc:bC p=0) {b:Int} (h0:0<=b) (h1:b<p.classes.length):
  kA (fZ p (bZ p).chosen) b=if(zC p (bZ p).chosen b).1=0 then 0 else jG (qP p b) - (jG p - (zC p (bZ p).chosen b).1):=by
 obtain⟨hF,hv,ht⟩:=Vj hc
 obtain⟨ho,_,_,hs⟩:=xx hc
 have hd:=(zA ho).2.1
 have hown:=aaF (c:=(bZ p).chosen) (dL hc) (Dp hF.1) h0 h1
 have hsum:iY p (bZ p).chosen=jG p:=by unfold iY;rw[zG];omega
 rw[hd,aaT hc h0 h1];unfold kA;simp only[hown,hsum]
def jd (b:Int) (x:Off):Off:=⟨b,x.want,x.value⟩
def dV (p:bp) (b:Int) (l:List Off):bp:=qq p (p.offers.filter (λx=>decide (x.bF≠b))++l.map (jd b))
def yG (p:bp) (b:Int) (g:bz) (i:Int):bz:=if(bj p.offers i.toNat bn.off.dflt).bF=b then(bj p.offers i.toNat bn.off.dflt).want else g
def qK (p:bp) (c:List Int) (b:Int):bz:=c.foldl (yG p b) bz.zero
def yH (b:Int) (g:bz) (x:Off):bz:=if x.bF=b then x.want else g
def qL (g:bz) (v:Int) (x:Off):Int:=if x.want.le g=true then max v x.value else v
def ob (l:List Off) (g:bz):Int:=l.foldl (qL g) 0
def qM (q:bp) (b:Int) (t:List Off):Int:=ob t (qK q (bZ q).chosen b) - kA (fZ q (bZ q).chosen) b
theorem Vk {p:bp} {b:Int}:∀{c:List Int} {g:bz},c.foldl (yG p b) g=(cy p c).foldl (yH b) g
 |[],g=>rfl
 |i::c,g=>by rw[γw,qp,γw,Vk];rfl
theorem LX {b:Int}:∀{L:List Off} {g:bz},(∀x∈L,x.bF≠b)->L.foldl (yH b) g=g
 |[],_,_=>rfl
 |x::L,g,h=>by
  rw[γw,LX λy hy=>h y (by simp[hy])]
  unfold yH
  rw[if_neg (h x (by simp))]
theorem afA {b:Int} {l1 l2:List Off} {x:Off} {g:bz} (hb:x.bF=b) (h:∀y∈l1++l2,y.bF≠b):(l1++x::l2).foldl (yH b) g=x.want:=by
 rw[δP,γw,LX λy hy=>h y (by simp[hy])]
 unfold yH;rw[if_pos hb]
theorem yI {g:bz}:∀{l:List Off} {v:Int},v<=l.foldl (qL g) v/\(∀x∈l,x.want.le g=true->x.value<=l.foldl (qL g) v)/\(l.foldl (qL g) v=v\/∃x∈l,x.want.le g=true/\l.foldl (qL g) v=x.value)
 |[],v=>by simp
 |x::l,v=>by
  obtain⟨h1,h2,h3⟩:=@yI g l (qL g v x)
  rw[γw]
  have e:qL g v x=if x.want.le g=true then max v x.value else v:=rfl
  by_cases hx:x.want.le g=true
  ·rw[if_pos hx] at e
   refine⟨by omega,λy hy hl=>?_,?_⟩
   ·rcases γp.1 hy with rfl|hy
    ·omega
    ·exact h2 y hy hl
   ·rcases h3 with h|⟨y,hy,hl,h⟩
    ·by_cases hm:v<=x.value
     ·exact .inr ⟨x,by simp,hx,by omega⟩
     ·exact .inl (by omega)
    ·exact .inr ⟨y,by simp[hy],hl,h⟩
  ·rw[if_neg hx] at e
   refine⟨by omega,λy hy hl=>?_,?_⟩
   ·rcases γp.1 hy with rfl|hy
    ·exact absurd hl hx
    ·exact h2 y hy hl
   ·rcases h3 with h|⟨y,hy,hl,h⟩
    ·exact .inl (by omega)
    ·exact .inr ⟨y,by simp[hy],hl,h⟩
theorem Vl {p:bp} {b:Int} {l:List Off}:qP (dV p b l) b=qq p (p.offers.filter λx=>decide (x.bF≠b)):=by
 unfold qP dV qq
 simp only
 congr 1
 rw[δt,List.filter_filter]
 have h1:(l.map (jd b)).filter (λx=>decide (x.bF≠b))=[]:=δy.2 λx hx=>by
  obtain⟨y,_,rfl⟩:=γf.1 hx
  simp[jd]
 rw[h1,γY]
 simp
theorem yJ {p:bp} {b:Int} {l:List Off} {x:Off}:x∈(dV p b l).offers↔(x∈p.offers/\x.bF≠b)\/∃t∈l,jd b t=x:=by
 show x∈p.offers.filter (λx=>decide (x.bF≠b))++l.map (jd b)↔_
 rw[ω,γi,γf]
 simp
theorem Vm {p:bp} (hc:bC p=0) {b:Int}:jG (qP p b)<=jG p:=by
 obtain⟨L,h1,h2,h3⟩:=IJ (II (f:=λx=>decide (x.bF≠b)) hc)
 have h3:ck L=jG (qP p b):=h3
 rw[<-h3]
 exact xA hc h1 λx hx=>(γi.1 (h2 x hx)).1
theorem Vn {q:bp} (hc:bC q=0) {b:Int} (h0:0<=b) (h1:b<q.classes.length):
  (jG q<=jG (qP q b)/\qK q (bZ q).chosen b=bz.zero/\kA (fZ q (bZ q).chosen) b=0)\/
  ∃x Lo,x∈q.offers/\x.bF=b/\(∀y∈Lo,y∈q.offers/\y.bF≠b)/\gy q (x::Lo)/\qK q (bZ q).chosen b=x.want/\
   kA (fZ q (bZ q).chosen) b=jG (qP q b) - ck Lo/\jG q=x.value+ck Lo:=by
 have hg:=dL hc
 obtain⟨hF,hv,ht⟩:=Vj hc
 have hv2:=Dy hc hF
 have hm:=Dk hg (Dp hF.1)
 rw[afz hc h0 h1]
 have ew:(zC q (bZ q).chosen b).1=((cy q (bZ q).chosen).foldl (xy b) (0,0)).1:=by unfold zC;rw[QN]
 have eg:qK q (bZ q).chosen b=(cy q (bZ q).chosen).foldl (yH b) bz.zero:=by unfold qK;rw[Vk]
 rw[ew,eg]
 have hL:=hF.2
 generalize cy q (bZ q).chosen=L at*
 by_cases hb:∃x∈L,x.bF=b
 ·obtain⟨x,hx,hxb⟩:=hb
  obtain⟨l1,l2,rfl⟩:=εG hx
  obtain⟨w1,w2⟩:=afy (s:=(0,0)) hxb hL.1
  have hp:(l1++x::l2).Perm (x::(l1++l2)):=ε1
  have hs:=Iy hp
  simp only[ck] at hs
  have hxv:=hg.2.2.2.2 x (hm x hx)
  refine .inr ⟨x,l1++l2,hm x hx,hxb,λy hy=>⟨hm y ?_,w2 y hy⟩,Dq hp hL,afA hxb w2,?_,?_⟩
  ·rcases ω.1 hy with h|h
   ·exact ω.2 (.inl h)
   ·exact ω.2 (.inr (by simp[h]))
  ·rw[w1,if_neg (by omega)];omega
  ·omega
 ·have hb:∀x∈L,x.bF≠b:=λx hx e=>hb ⟨x,hx,e⟩
  refine .inl ⟨?_,LX hb,by rw[LW hb,if_pos rfl]⟩
  have:=xA (II (f:=λx=>decide (x.bF≠b)) hc) (L:=L) hL λx hx=>γi.2 ⟨hm x hx,by simpa using hb x hx⟩
  change ck L<=jG (qP q b) at this
  omega
theorem afB {p:bp} {b:Int} {t:List Off} (hc:bC (dV p b t)=0) (h0:0<=b) (h1:b<p.classes.length):
  jG (dV p b t) - jG (qP (dV p b t) b)<=qM (dV p b t) b t:=by
 unfold qM
 rcases Vn hc h0 h1 with⟨a1,a2,a3⟩|⟨x,Lo,x1,x2,x3,x4,x5,x6,x7⟩
 ·have:=(@yI (qK (dV p b t) (bZ (dV p b t)).chosen b) t 0).1
  unfold ob;omega
 ·rw[x5,x6]
  rcases yJ.1 x1 with⟨_,h⟩|⟨y,hy,rfl⟩
  ·exact absurd x2 h
  ·have:=(@yI y.want t 0).2.1 y hy (bz.le_iff.2 (by omega))
   unfold ob
   have e:(jd b y).value=y.value:=rfl
   have e2:(jd b y).want=y.want:=rfl
   rw[e2];omega
theorem afC {p:bp} {b:Int} {t r:List Off} (ha:bC (dV p b t)=0) (hc:bC (dV p b r)=0) (h0:0<=b) (h1:b<p.classes.length):
  qM (dV p b r) b t<=jG (dV p b t) - jG (qP (dV p b t) b):=by
 have hq:qP (dV p b r) b=qP (dV p b t) b:=by rw[Vl,Vl]
 have hgt:=Vm ha (b:=b)
 have hga:=dL ha
 unfold qM
 rcases Vn hc h0 h1 with⟨a1,a2,a3⟩|⟨x,Lo,x1,x2,x3,x4,x5,x6,x7⟩
 ·rw[a2,a3]
  have:ob t bz.zero=0:=by
   rcases(@yI bz.zero t 0).2.2 with h|⟨y,hy,hl,_⟩
   ·exact h
   ·have hm:jd b y∈(dV p b t).offers:=yJ.2 (.inr ⟨y,hy,rfl⟩)
    obtain⟨s1,s2,_⟩:=xp ((rj ha).2 _ hm)
    have s5:=bz.fA.1 (xo s1).2.2.2.2
    have hl2:=bz.le_iff.1 hl
    simp only[bz.zero] at hl2
    refine absurd ?_ s2
    show y.want=bz.zero
    have s6:(jd b y).want=y.want:=rfl
    rw[s6] at s5
    generalize y.want=w at*
    obtain⟨w0,w1,w2,w3,w4,w5⟩:=w
    simp only at*
    simp only[bz.zero,bz.mk.injEq];omega
  omega
 ·rw[x5,x6,hq]
  have hLo:∀y∈Lo,y∈(dV p b t).offers:=λy hy=>by
   obtain⟨m1,m2⟩:=x3 y hy
   rcases yJ.1 m1 with h|⟨z,_,rfl⟩
   ·exact yJ.2 (.inl h)
   ·exact absurd rfl m2
  have hf:=IP.1 x4
  rw[ι,γD] at hf
  obtain⟨⟨f0,f1⟩,f2,f3⟩:=hf
  have hout:∀(l:List Off) (z:Off),dR (dV p b l) z=dR p z:=λ_ _=>rfl
  simp only[ι,δ0,hout] at f2 f3
  have hxo:=(rj hc).2 x x1
  have hxw:=aaU.1 (xo (xp hxo).1).2.2.2.2
  have hlo:gy (dV p b t) Lo:=by
   refine IP.2 ⟨f1,λj hj=>?_,λj hj=>?_⟩
   ·have a:=f2 j hj
    have c:=hxw j hj
    show _<=p.supply.at j
    change _<=p.supply.at j at a
    omega
   ·have a:=f3 j hj
    have c:=hxw j hj
    have d:=@IK p x j hj
    simp only[hout]
    show _<=p.opn.at j
    change _<=p.opn.at j at a
    split at d<;>omega
  rcases(@yI x.want t 0).2.2 with h|⟨y,hy,hl,h⟩
  ·have:=xA ha hlo hLo
   change ck Lo<=jG (dV p b t) at this
   unfold ob;omega
  ·have hle:=IL.1 hl
   have hf2:gy (dV p b t) (jd b y::Lo):=by
    refine IP.2 ?_
    simp only[ι,δ0,hout]
    refine⟨γD.2 ⟨x2▸f0,f1⟩,λj hj=>?_,λj hj=>?_⟩
    ·have a:=f2 j hj
     have c:=hle j hj
     show y.want.at j+_<=p.supply.at j
     change _<=p.supply.at j at a
     omega
    ·have a:=f3 j hj
     have c:=hle j hj
     have d:=@IK p x j hj
     have e:=@IK p (jd b y) j hj
     have k:iE p (jd b y)=iE p x:=by unfold iE;rw[x2];rfl
     rw[k] at e
     have k2:(jd b y).want=y.want:=rfl
     rw[k2] at e
     have hxj:=hxw j hj
     show _<=p.opn.at j
     change _<=p.opn.at j at a
     by_cases hz:p.cls.at j=0\/p.cls.at j=iE p x
     ·rw[if_pos hz] at d e;omega
     ·rw[if_neg hz] at d e;omega
   have:=xA ha hf2 λz hz=>by
    rcases γp.1 hz with rfl|hz
    ·exact yJ.2 (.inr ⟨y,hy,rfl⟩)
    ·exact hLo z hz
   change (jd b y).value+ck Lo<=jG (dV p b t) at this
   have e:(jd b y).value=y.value:=rfl
   unfold ob;omega
theorem afD {p:bp} {b:Int} {t r:List Off} (ha:bC (dV p b t)=0) (hc:bC (dV p b r)=0) (h0:0<=b) (h1:b<p.classes.length):
  qM (dV p b r) b t<=qM (dV p b t) b t/\0<=qM (dV p b t) b t:=by
 have h2:=afB ha h0 h1
 have h3:=afC ha hc h0 h1
 have h4:=Vm ha (b:=b)
 omega
end Go.Vi

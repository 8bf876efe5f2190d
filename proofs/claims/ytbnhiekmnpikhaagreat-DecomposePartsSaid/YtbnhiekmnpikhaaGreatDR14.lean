import Derived.Test.YtbnhiekmnpikhaaGreatDR13
set_option maxRecDepth 100000
set_option maxHeartbeats 4000000
set_option linter.all false
open Bool renaming and_eq_true->θ
open Classical renaming not_not->γc,byContradiction->δb
open Go.Vi.SV renaming si->γf,row->Ψ,sb->γy,il->γv,ptr->γK,agg->γJ,bl->δd
open Int renaming ofNat_lt->εW,toNat_natCast->γm,le_refl->εf,le_trans->εe
open IntCast renaming intCast->κ
open List renaming length_set->Φ,getElem_of_mem->γM,length_append->γh,mem_map->Ω,length_replicate->γD,replicate->δ,map_cons->π,map_nil->γr,mem_filter->γt,set_eq_of_length_le->ζt,mem_cons->γw,all_eq_true->χ,mem_range->γq,mem_cons_self->γZ,not_mem_nil->δt,length_map->Θ,filter_sublist->γS,mem_cons_of_mem->γz,countP_cons->ζ3,range->ω,getElem_map->δD,nodup_cons->γY
open List.cons renaming injEq->Δ
open Nat renaming lt_of_lt_of_le->γj,pow_le_pow_right->δs,le_refl->ξ
open Option renaming isSome_eq_false_iff->γ7,isNone_iff_eq_none->γQ,isSome_iff_exists->γn,getD_some->γ2
open Option.some renaming injEq->γ
open Rat renaming not_lt->ε2
namespace Go.Vi
open Go.Proofs.YtbnhiekmnpikhaaGreat.Ir
open Go.Proofs
theorem Rx {n:Nat} (hD:dA Tryz.prog (BW n)):dA Tryz.prog (s9 (n+1)):=by
 refine Xu (L:=[mj,uj,DS,DM]) (W:=[DO,DN,wJ,BW n]) (s9 (n+1)) (fG 72) lk (by simpa using⟨y3,HZ,tY,hD⟩) (by simpa using⟨nH,y9,H0,HY⟩) ?_;rintro⟨⟨p,ch,val,bp,en,k1,k2,bz,err,bq,fx⟩,a⟩ ⟨hok,ha,hn⟩;simp only at hok ha hn;have e1:k1=bq.length:=hok.k1;have e2:k2=fx.length:=hok.k2;subst e1;subst e2;have hf:dN p fx:=hok.f;have h160:=(cT hf.c).2.1;have hfl:fx.length=p.bj.length:=hf.l;have hfe:=hf.e;have hfo:=hf.jb;have hv0:0<=val:=hok.v0;have hv1:val<=9223372036854775806:=hok.v1;have hm0:1<=bz:=hok.m0;have hm1:bz<=65536:=hok.m1;have hpl:bq.length<=65536:=hok.l;rcases en with _|m
 ·refine NH (let b:=γf .i64;let c:=(0:Int);let d:=(1:Int);let e:=iZ.cells;let f:=SV.Gz;let g:=iZ.row;let h:=VI .i64;let j:=(-9223372036854775808:Int);let k:=(-1:Int);let l:=(9223372036854775807:Int);let m:=(2:Int);let o:=Ψ;let q:=γy;let r:=SV.ow;let v:=vL (jI p fx);let x:=b p.bm.a0;let y:=b p.bm.a1;let z:=b p.bm.a2;let A:=b p.bm.a3;let B:=b p.bm.a4;let C:=b p.bm.a5;let D:=b p.bs.a0;let E:=b p.bs.a1;let F:=b p.bs.a2;let G:=b p.bs.a3;let H:=b p.bs.a4;let I:=b p.bs.a5;let J:=b p.bt.a0;let K:=b p.bt.a1;let L:=b p.bt.a2;let M:=b p.bt.a3;let N:=b p.bt.a4;let O:=b p.bt.a5;let U:=ew.i .i64;let P:=o U p.bk;let Q:=o ew.bu p.bj;let ag:=o U ch;let ah:=b val;let R:=SV.fn (Fn.func 70) [] [];let ai:=r 1 bq.length 5;let V:=r 2 fx.length 1;let W:=b bz;let aw:=[V,W,γv .i64 12];let ax:=cm.mk ch val bp bq err;let a7:=cQ p (bF none) bz (nF fx) ax a fx;let X:=e [x,y,z,A,B,C,D,E,F,G,H,I,J,K,L,M,N,O,P,Q,o U a7.ch,b a7.val,q a7.bp,R,r 1 a7.bq.length 5,V,W,b a7.err] 126 28 false;let an:=g Ap bq 108 true;let Y:=g Ap a7.bq 108 true;let t:=g U fx 3 true;let Z:=(↑bq.length:Int);let ay:=decide (bz<Z+m);let az:=bq.length+2;let a8:=Z+d;let ao:=(c,c,c,[]);let aj:=[(c,ao),(c,ao)];let z53:Nat:=(bq++aj).length;let w:=(iN v).getD c;let ap:=(bq++aj).set a.toNat (m,w,Z,a8,[]);let a9:=w.toNat;let ac:=fx.set a9 d;let S:=cQ p (bF none) bz (nF ac) (cm.mk ch val bp ap err) a8 ac;let ad:=fx.set a9 k;let aa:=cQ p (bF none) bz (nF ad) S Z ad;let ak:=((js p fx).1,(js p fx).2.1,(js p fx).2.2);let al:=val+d;let aq:=nf (κ al);let aA:=(aq.1,aq.2.1,aq.2.2);let aB:=gN (TL ak) (TL aA);let aC:=decide (aB<c);let aD:=(d,c,c,c,oW p fx);let s:=dp (bF none) ax (bB.mk (dL v) (bJ (List.map (oI p) (dL v))));let z69:Nat:=(s.bq++aj).length;let ae:=s.bq.length;let am:=s.val+d;let ar:=nf (κ am);let ab:=(↑ae:Int);let aE:=decide (err≠c);let aF:=decide (gZ p fx≠c);let a6:=s.bq.length;let af:=ab+d;let au:=(s.bq++aj).set a.toNat (m,w,ab,af,[]);let T:=cQ p (bF none) bz (nF ac) (cm.mk s.ch s.val s.bp au s.err) af ac;let aG:=cQ p (bF none) bz (nF ad) T ab ad;let aT:=let aH:=(f []).bi (f [])/\(e (x::y::z::A::B::C::D::E::F::G::H::I::J::K::L::M::N::O::P::Q::ag::ah::q bp::R::ai::aw) 126 28 false).bi X/\an.bi Y/\t.bi t/\True;mX (jI p fx)/\((!(iN v).isSome)=true->aH)/\((!(iN v).isSome)=false->h (Z+m)/\(ay=true->aH)/\(ay=false->2=2/\bq.length=bq.length/\az*56<=140737488355328/\az<=1000000000000/\h a8/\z53=z53/\c<=a/\a<(↑z53:Int)/\z53=z53/\a.toNat<z53/\h a8/\(ei (cV.mk p ch val bp none z53 fx.length bz err ap fx)/\(c<=a8/\a8<(↑ap.length:Int))/\(c<=w/\w<(↑fx.length:Int))/\bN fx a9 c=c/\(d=d\/d=k)/\nF ac<n)/\(ei (cV.mk p S.ch S.val S.bp none S.bq.length fx.length bz S.err S.bq fx)/\(c<=Z/\Z<(↑S.bq.length:Int))/\(c<=w/\w<(↑fx.length:Int))/\bN fx a9 c=c/\(k=d\/k=k)/\nF ad<n)/\(f []).bi (f [])/\(e [x,y,z,A,B,C,D,E,F,G,H,I,J,K,L,M,N,O,P,Q,o U aa.ch,b aa.val,q aa.bp,R,r 1 aa.bq.length 5,V,W,b aa.err] 126 28 false).bi X/\(g Ap aa.bq 108 true).bi Y/\t.bi t/\True));let aI:=(bL ak/\bL aA)/\(aC=true->bq.length=bq.length/\c<=a/\a<(↑bq.length:Int)/\bq.length=bq.length/\a.toNat<bq.length/\(f []).bi (f [])/\(e [x,y,z,A,B,C,D,E,F,G,H,I,J,K,L,M,N,O,P,Q,ag,ah,q bp,R,ai,V,W,b err] 126 28 false).bi X/\(g Ap (bq.set a.toNat aD) 108 true).bi Y/\t.bi t/\True)/\(aC=false->aT);let aJ:=z69=z69;let aK:=(f []).bi (f [])/\(e (x::y::z::A::B::C::D::E::F::G::H::I::J::K::L::M::N::O::P::Q::o U s.ch::b s.val::q s.bp::R::r 1 ae 5::aw) 126 28 false).bi X/\(g Ap s.bq 108 true).bi Y/\t.bi t/\True;let aL:=(f []).bi (f [])/\(e [x,y,z,A,B,C,D,E,F,G,H,I,J,K,L,M,N,O,P,Q,ag,ah,q bp,R,ai,V,W,b err] 126 28 false).bi X/\an.bi Y/\t.bi t/\True;let aM:=λ(u:cm) (u_1:iZ) ↦(f []).bi (f [])/\(e [x,y,z,A,B,C,D,E,F,G,H,I,J,K,L,M,N,O,P,Q,o U u.ch,b u.val,q u.bp,R,r 1 u.bq.length 5,V,W,b u.err] 126 28 false).bi X/\u_1.bi Y/\t.bi t/\True;let aN:=λ(u:cV) (u_1:Int) (u_2:Nat) (u_3:Int) ↦ei u/\(c<=u_1/\u_1<(↑u_2:Int))/\(c<=w/\w<(↑fx.length:Int))/\bN fx a9 c=c/\(u_3=d\/u_3=k)/\nF (fx.set a9 u_3)<n;let aO:=λ(u:Int) (u_1:iZ) ↦(f []).bi (f [])/\(e [x,y,z,A,B,C,D,E,F,G,H,I,J,K,L,M,N,O,P,Q,ag,ah,q bp,R,ai,V,W,b u] 126 28 false).bi X/\u_1.bi Y/\t.bi t/\True;let aP:=λ(u:Bool) ↦decide (gN (TL ak) (TL (ar.1,ar.2.1,ar.2.2))<c)=u;let aQ:=λ(u:Bool) ↦decide (c<=aB)=u;let aR:=λ(u:Int) ↦let av:=nf (κ (u+d));bL ak/\bL (av.1,av.2.1,av.2.2);let aS:=λ(u:Bool) ↦decide (bz<ab+m)=u;(aE=true->aL)/\(aE=false->(bp=true->aL)/\(bp=false->(fx.length=fx.length/\fx.length<=1000000000000)/\(aF=true->aO (gZ p fx) an)/\(aF=false->((!jb p fx)=true->bq.length=bq.length/\c<=a/\a<(↑bq.length:Int)/\bq.length=bq.length/\a.toNat<bq.length/\aO err (g Ap (bq.set a.toNat ((3:Int),ao)) 108 true))/\((!jb p fx)=false->h al/\(j<=al/\al<=l)/\aR val/\(aQ true->mX (jI p fx)/\(lq v=true->(ei (cV.mk p ch val bp none bq.length fx.length bz err bq fx)/\mX (jI p fx)/\(jI p fx).length=p.bj.length)/\bq.length=bq.length/\h am/\(j<=am/\am<=l)/\aR s.val/\(aP true->ae=a6/\c<=a/\a<(↑a6:Int)/\ae=a6/\a.toNat<a6/\aM s (g Ap (s.bq.set a.toNat aD) 108 true))/\(aP false->mX (jI p fx)/\((!(iN v).isSome)=true->aK)/\((!(iN v).isSome)=false->h (ab+m)/\(aS true->aK)/\(aS false->2=2/\ae=a6/\(a6+2)*56<=140737488355328/\a6+2<=1000000000000/\h af/\aJ/\c<=a/\a<(↑z69:Int)/\aJ/\a.toNat<z69/\h af/\aN (cV.mk p s.ch s.val s.bp none z69 fx.length bz s.err au fx) af au.length d/\aN (cV.mk p T.ch T.val T.bp none T.bq.length fx.length bz T.err T.bq fx) ab T.bq.length k/\aM aG (g Ap aG.bq 108 true)))))/\(lq v=false->aI))/\(aQ false->aI)))))) (by kernel_rfl) ?_;simp only[vcs];refine⟨λh=>by rw[wG hf (.inl h)];exact⟨rfl,rfl⟩,λh0=>⟨λh=>by rw[wG hf (.inr h)];exact⟨rfl,rfl⟩,λh1=>⟨by omega,λh=>absurd hfe h,λ_=>⟨λh=>?_,λhb=>?_⟩⟩⟩⟩
  ·have hs:¬((⟨ch,val,bp,bq,err⟩:cm).err≠0\/(⟨ch,val,bp,bq,err⟩:cm).bp=true):=by
    rintro(h|h);·exact h0 h
    ·rw[show bp=true from h] at h1;cases h1
   rw[Kl hf hs (by rw[<-hfo];exact h)];refine⟨ha.1,ha.2,by omega,?_,rfl⟩;simp only[Φ];rfl
  ·have hs:¬((⟨ch,val,bp,bq,err⟩:cm).err≠0\/(⟨ch,val,bp,bq,err⟩:cm).bp=true):=by
    rintro(h|h);·exact h0 h
    ·rw[show bp=true from h] at h1;cases h1
   have hbf:fZ p fx=true:=by rw[<-hfo];exact hb
   have hfix:=hf.ok hbf;have eB:js p fx=nf (gY p fx):=by unfold js;rw[if_pos hb]
   have eS:jI p fx=fL (cN p fx):=by unfold jI cN;rw[if_pos hb]
   have eP:oW p fx=fL (gu p fx):=by unfold oW;rw[if_pos hb]
   have hsl:(cN p fx).length=fx.length:=py;have oS:mX (fL (cN p fx)):=⟨cN p fx,rfl,by rw[eA];omega,λq hq=>by
    obtain⟨i,hi,rfl⟩:=γM hq;have:=(zD hfix hf.r (i:=i) (by omega)).2.2;rwa [b_ hi] at this⟩;have fB:bL (nf (gY p fx)):=c_ (Je hb) (by omega);have fI:∀v:Int,0<=v->v<=9223372036854775807->bL (nf (κ v)):=λv h0 h1=>c_ (pf (by omega) h1) (by omega);have hcv:∀v:Int,gN (gY p fx) (κ v)<0↔gY p fx<((v:Int):Rat):=λv=>qH;simp only[eB,eS,eP,jR,iX,dH];have hcm:dL (cN p fx)=(nv p fx).bn:=rfl;refine⟨by omega,by omega,⟨fB,fI _ (by omega) (by omega)⟩,λhge=>⟨oS,λhi=>?_,λhi=>?_⟩,λhlt=>?_⟩
   ·have hO:cC p (bF none) ⟨ch,val,bp,bq,err⟩ fx=dp (bF none) ⟨ch,val,bp,bq,err⟩ ⟨dL (cN p fx),bJ ((dL (cN p fx)).map (oI p))⟩:=by
     unfold cC;rw[if_pos ⟨ε2.1 λh=>absurd ((hcv (val+1)).2 h) (Int.not_lt.2 hge),hi⟩];rfl
    have hok':ei (cV.iw ⟨p,ch,val,bp,none,bq.length,fx.length,bz,err,bq,fx⟩ (cC p (bF none) ⟨ch,val,bp,bq,err⟩ fx)):=hok.IU;rw[hO] at hok';obtain⟨e1,e2,_⟩:=@Ag (bF none) ⟨ch,val,bp,bq,err⟩ ⟨dL (cN p fx),bJ ((dL (cN p fx)).map (oI p))⟩;generalize dp (bF none) ⟨ch,val,bp,bq,err⟩ ⟨dL (cN p fx),bJ ((dL (cN p fx)).map (oI p))⟩=O at*;obtain⟨ch',val',found',prf',arf⟩:=O;have e1:bq=prf':=Eq.symm e1;have e2:err=arf:=Eq.symm e2;subst e1;subst e2;have w0:0<=val':=hok'.v0;have w1:val'<=9223372036854775806:=hok'.v1;dsimp only;refine⟨⟨hok,oS,by rw[eA];omega⟩,by omega,by omega,⟨fB,fI _ (by omega) (by omega)⟩,?_⟩;refine⟨λh=>?_,λh=>⟨oS,λhk=>?_,λhk=>⟨by omega,λhm=>?_,λhm=>?_⟩⟩⟩
    ·rw[ux hf hs hbf hO ((hcv _).1 h)];refine⟨ha.1,ha.2,by omega,?_,rfl⟩;simp only[Φ];rfl
    ·rw[n9 hf hs hbf hO (λh'=>h ((hcv _).2 h')) (.inl (γ7.1 hk |>γQ.1))];exact⟨rfl,rfl⟩
    ·rw[n9 hf hs hbf hO (λh'=>h ((hcv _).2 h')) (.inr hm)];exact⟨rfl,rfl⟩
    ·obtain⟨k,hk'⟩:=γn.1 hk;rw[uw hf hs hbf hO (λh'=>h ((hcv _).2 h')) hk' hm];simp only[hk',γ2];obtain⟨hk1,hk2,hk3⟩:=qI hk';rw[hsl] at hk1;have hk0:bN fx k.toNat 0=0:=qJ hfix hf.r (by omega) hk2 hk3;have n1:=kN hk1 hk0 (d:=1) (by omega);have n2:=kN hk1 hk0 (d:= -1) (by omega);have hl2:((bq++[zN,zN]).set a.toNat (jg k bq.length)).length=bq.length+2:=by rw[Φ,γh];rfl
     have hl1:(bq++[zN,zN]).length=bq.length+2:=by rw[γh];rfl
     have o1:=ei.ui (x:=⟨p,ch',val',found',none,bq.length,fx.length,bz,arf,bq,fx⟩) hok' (k:=(bq++[zN,zN]).length) (l:=(bq++[zN,zN]).set a.toNat (jg k bq.length)) hm (by rw[hl1,hl2]) hl2;have o2:=o1.ug (f:=fx.set k.toNat 1) (hf.set (by omega)) (n:=nF (fx.set k.toNat 1)) (a:=(bq.length:Int)+1);have o3:=(@px p (bF none) bz (nF (fx.set k.toNat 1)) (fH ⟨ch',val',found',bq,arf⟩ a k) ((bq.length:Int)+1) (fx.set k.toNat 1) (hf.set (by omega))).1;have o4:bq.length+2<=(cQ p (bF none) bz (nF (fx.set k.toNat 1)) (fH ⟨ch',val',found',bq,arf⟩ a k) ((bq.length:Int)+1) (fx.set k.toNat 1)).bq.length:=by rw[<-hl2];exact o3
     have q1:a<((bq++[zN,zN]).length:Int):=by omega
     have q3:(bq.length:Int)+1<(((bq++[zN,zN]).set a.toNat (jg k bq.length)).length:Int):=by rw[hl2];omega
     have q2:a.toNat<(bq++[zN,zN]).length:=by omega
     exact⟨by omega,by omega,by omega,ha.1,q1,q2,by omega,⟨o1,⟨by omega,q3⟩,hk1,hk0,.inl trivial,by omega⟩,⟨o2,⟨by omega,εW.2 (γj (by omega) o4)⟩,hk1,hk0,.inr trivial,by omega⟩,rfl,rfl⟩
   ·have hO:cC p (bF none) ⟨ch,val,bp,bq,err⟩ fx=⟨ch,val,bp,bq,err⟩:=by
     unfold cC;rw[if_neg (λh=>by rw[h.2] at hi;cases hi)]
    refine⟨⟨fB,fI _ (by omega) (by omega)⟩,?_⟩;refine⟨λh=>?_,λh=>⟨oS,λhk=>?_,λhk=>⟨by omega,λhm=>?_,λhm=>?_⟩⟩⟩
    ·rw[ux hf hs hbf hO ((hcv _).1 h)];refine⟨ha.1,ha.2,by omega,?_,rfl⟩;simp only[Φ];rfl
    ·rw[n9 hf hs hbf hO (λh'=>h ((hcv _).2 h')) (.inl (γ7.1 hk |>γQ.1))];exact⟨rfl,rfl⟩
    ·rw[n9 hf hs hbf hO (λh'=>h ((hcv _).2 h')) (.inr hm)];exact⟨rfl,rfl⟩
    ·obtain⟨k,hk'⟩:=γn.1 hk;rw[uw hf hs hbf hO (λh'=>h ((hcv _).2 h')) hk' hm];simp only[hk',γ2];obtain⟨hk1,hk2,hk3⟩:=qI hk';rw[hsl] at hk1;have hk0:bN fx k.toNat 0=0:=qJ hfix hf.r (by omega) hk2 hk3;have n1:=kN hk1 hk0 (d:=1) (by omega);have n2:=kN hk1 hk0 (d:= -1) (by omega);have hl2:((bq++[zN,zN]).set a.toNat (jg k bq.length)).length=bq.length+2:=by rw[Φ,γh];rfl
     have hl1:(bq++[zN,zN]).length=bq.length+2:=by rw[γh];rfl
     have o1:=ei.ui hok (k:=(bq++[zN,zN]).length) (l:=(bq++[zN,zN]).set a.toNat (jg k bq.length)) hm (by rw[hl1,hl2]) hl2;have o2:=o1.ug (f:=fx.set k.toNat 1) (hf.set (by omega)) (n:=nF (fx.set k.toNat 1)) (a:=(bq.length:Int)+1);have o3:=(@px p (bF none) bz (nF (fx.set k.toNat 1)) (fH ⟨ch,val,bp,bq,err⟩ a k) ((bq.length:Int)+1) (fx.set k.toNat 1) (hf.set (by omega))).1;have o4:bq.length+2<=(cQ p (bF none) bz (nF (fx.set k.toNat 1)) (fH ⟨ch,val,bp,bq,err⟩ a k) ((bq.length:Int)+1) (fx.set k.toNat 1)).bq.length:=by rw[<-hl2];exact o3
     have q1:a<((bq++[zN,zN]).length:Int):=by omega
     have q3:(bq.length:Int)+1<(((bq++[zN,zN]).set a.toNat (jg k bq.length)).length:Int):=by rw[hl2];omega
     have q2:a.toNat<(bq++[zN,zN]).length:=by omega
     exact⟨by omega,by omega,by omega,ha.1,q1,q2,by omega,⟨o1,⟨by omega,q3⟩,hk1,hk0,.inl trivial,by omega⟩,⟨o2,⟨by omega,εW.2 (γj (by omega) o4)⟩,hk1,hk0,.inr trivial,by omega⟩,rfl,rfl⟩
   ·have hO:cC p (bF none) ⟨ch,val,bp,bq,err⟩ fx=⟨ch,val,bp,bq,err⟩:=by
     unfold cC;rw[if_neg (λh=>ε2.2 h.1 ((hcv (val+1)).1 (Int.not_le.1 hlt)))]
    refine⟨⟨fB,fI _ (by omega) (by omega)⟩,?_⟩;refine⟨λh=>?_,λh=>⟨oS,λhk=>?_,λhk=>⟨by omega,λhm=>?_,λhm=>?_⟩⟩⟩
    ·rw[ux hf hs hbf hO ((hcv _).1 h)];refine⟨ha.1,ha.2,by omega,?_,rfl⟩;simp only[Φ];rfl
    ·rw[n9 hf hs hbf hO (λh'=>h ((hcv _).2 h')) (.inl (γ7.1 hk |>γQ.1))];exact⟨rfl,rfl⟩
    ·rw[n9 hf hs hbf hO (λh'=>h ((hcv _).2 h')) (.inr hm)];exact⟨rfl,rfl⟩
    ·obtain⟨k,hk'⟩:=γn.1 hk;rw[uw hf hs hbf hO (λh'=>h ((hcv _).2 h')) hk' hm];simp only[hk',γ2];obtain⟨hk1,hk2,hk3⟩:=qI hk';rw[hsl] at hk1;have hk0:bN fx k.toNat 0=0:=qJ hfix hf.r (by omega) hk2 hk3;have n1:=kN hk1 hk0 (d:=1) (by omega);have n2:=kN hk1 hk0 (d:= -1) (by omega);have hl2:((bq++[zN,zN]).set a.toNat (jg k bq.length)).length=bq.length+2:=by rw[Φ,γh];rfl
     have hl1:(bq++[zN,zN]).length=bq.length+2:=by rw[γh];rfl
     have o1:=ei.ui hok (k:=(bq++[zN,zN]).length) (l:=(bq++[zN,zN]).set a.toNat (jg k bq.length)) hm (by rw[hl1,hl2]) hl2;have o2:=o1.ug (f:=fx.set k.toNat 1) (hf.set (by omega)) (n:=nF (fx.set k.toNat 1)) (a:=(bq.length:Int)+1);have o3:=(@px p (bF none) bz (nF (fx.set k.toNat 1)) (fH ⟨ch,val,bp,bq,err⟩ a k) ((bq.length:Int)+1) (fx.set k.toNat 1) (hf.set (by omega))).1;have o4:bq.length+2<=(cQ p (bF none) bz (nF (fx.set k.toNat 1)) (fH ⟨ch,val,bp,bq,err⟩ a k) ((bq.length:Int)+1) (fx.set k.toNat 1)).bq.length:=by rw[<-hl2];exact o3
     have q1:a<((bq++[zN,zN]).length:Int):=by omega
     have q3:(bq.length:Int)+1<(((bq++[zN,zN]).set a.toNat (jg k bq.length)).length:Int):=by rw[hl2];omega
     have q2:a.toNat<(bq++[zN,zN]).length:=by omega
     exact⟨by omega,by omega,by omega,ha.1,q1,q2,by omega,⟨o1,⟨by omega,q3⟩,hk1,hk0,.inl trivial,by omega⟩,⟨o2,⟨by omega,εW.2 (γj (by omega) o4)⟩,hk1,hk0,.inr trivial,by omega⟩,rfl,rfl⟩
 ·refine NH (let b:=γf .i64;let c:=(0:Int);let d:=iZ.cells;let e:=(1:Int);let f:=SV.Gz;let g:=iZ.row;let h:=VI .i64;let j:=(-9223372036854775808:Int);let k:=(-1:Int);let l:=(9223372036854775807:Int);let o:=(2:Int);let q:=Ψ;let r:=γy;let s:=SV.ow;let ai:=((js p fx).1,(js p fx).2.1,(js p fx).2.2);let aj:=val+e;let ap:=nf (κ aj);let ay:=(ap.1,ap.2.1,ap.2.2);let az:=gN (TL ai) (TL ay);let aA:=decide (az<c);let z:=b p.bm.a0;let A:=b p.bm.a1;let B:=b p.bm.a2;let C:=b p.bm.a3;let D:=b p.bm.a4;let E:=b p.bm.a5;let F:=b p.bs.a0;let G:=b p.bs.a1;let H:=b p.bs.a2;let I:=b p.bs.a3;let J:=b p.bs.a4;let K:=b p.bs.a5;let L:=b p.bt.a0;let M:=b p.bt.a1;let N:=b p.bt.a2;let O:=b p.bt.a3;let P:=b p.bt.a4;let Q:=b p.bt.a5;let W:=ew.i .i64;let R:=q W p.bk;let S:=q ew.bu p.bj;let ak:=q W ch;let al:=b val;let T:=SV.fn (Fn.func 116) [] [γK 1 0 1];let am:=s 2 bq.length 5;let X:=s 3 fx.length 1;let Y:=b bz;let aB:=cm.mk ch val bp bq err;let a9:=cQ p (bF (some m)) bz (nF fx) aB a fx;let Z:=d [z,A,B,C,D,E,F,G,H,I,J,K,L,M,N,O,P,Q,R,S,q W a9.ch,b a9.val,r a9.bp,T,s 2 a9.bq.length 5,X,Y,b a9.err] 126 28 false;let v:=d [b m] 2 1 false;let aC:=(e,c,c,c,oW p fx);let a6:=g Ap a9.bq 108 true;let w:=g W fx 3 true;let x:=vL (jI p fx);let aD:=[X,Y,γv .i64 12];let aq:=g Ap bq 108 true;let a7:=(↑bq.length:Int);let aE:=decide (bz<a7+o);let aF:=bq.length+2;let aa:=a7+e;let ar:=(c,c,c,[]);let an:=[(c,ar),(c,ar)];let z61:Nat:=(bq++an).length;let y:=(iN x).getD c;let au:=(bq++an).set a.toNat (o,y,a7,aa,[]);let ab:=y.toNat;let ae:=fx.set ab e;let U:=cQ p (bF (some m)) bz (nF ae) (cm.mk ch val bp au err) aa ae;let af:=fx.set ab k;let ac:=cQ p (bF (some m)) bz (nF af) U a7 af;let t:=dp (bF (some m)) aB (bB.mk (dL x) (bJ (List.map (oI p) (dL x))));let ag:=t.bq.length;let z71:Nat:=(t.bq++an).length;let ao:=t.val+e;let av:=nf (κ ao);let ad:=(↑ag:Int);let aG:=decide (err≠c);let aH:=decide (gZ p fx≠c);let a8:=t.bq.length;let ah:=ad+e;let aw:=(t.bq++an).set a.toNat (o,y,ad,ah,[]);let V:=cQ p (bF (some m)) bz (nF ae) (cm.mk t.ch t.val t.bp aw t.err) ah ae;let aI:=cQ p (bF (some m)) bz (nF af) V ad af;let aV:=let aJ:=(f []).bi (f [])/\(d (z::A::B::C::D::E::F::G::H::I::J::K::L::M::N::O::P::Q::R::S::ak::al::r bp::T::am::aD) 126 28 false).bi Z/\v.bi v/\aq.bi a6/\w.bi w/\True;(aA=true->bq.length=bq.length/\c<=a/\a<(↑bq.length:Int)/\bq.length=bq.length/\a.toNat<bq.length/\(f []).bi (f [])/\(d [z,A,B,C,D,E,F,G,H,I,J,K,L,M,N,O,P,Q,R,S,ak,al,r bp,T,am,X,Y,b err] 126 28 false).bi Z/\v.bi v/\(g Ap (bq.set a.toNat aC) 108 true).bi a6/\w.bi w/\True)/\(aA=false->mX (jI p fx)/\((!(iN x).isSome)=true->aJ)/\((!(iN x).isSome)=false->h (a7+o)/\(aE=true->aJ)/\(aE=false->2=2/\bq.length=bq.length/\aF*56<=140737488355328/\aF<=1000000000000/\h aa/\z61=z61/\c<=a/\a<(↑z61:Int)/\z61=z61/\a.toNat<z61/\h aa/\(ei (cV.mk p ch val bp (some m) z61 fx.length bz err au fx)/\(c<=aa/\aa<(↑au.length:Int))/\(c<=y/\y<(↑fx.length:Int))/\bN fx ab c=c/\(e=e\/e=k)/\nF ae<n)/\(ei (cV.mk p U.ch U.val U.bp (some m) U.bq.length fx.length bz U.err U.bq fx)/\(c<=a7/\a7<(↑U.bq.length:Int))/\(c<=y/\y<(↑fx.length:Int))/\bN fx ab c=c/\(k=e\/k=k)/\nF af<n)/\(f []).bi (f [])/\(d [z,A,B,C,D,E,F,G,H,I,J,K,L,M,N,O,P,Q,R,S,q W ac.ch,b ac.val,r ac.bp,T,s 2 ac.bq.length 5,X,Y,b ac.err] 126 28 false).bi Z/\v.bi v/\(g Ap ac.bq 108 true).bi a6/\w.bi w/\True)));let aK:=(f []).bi (f [])/\(d (z::A::B::C::D::E::F::G::H::I::J::K::L::M::N::O::P::Q::R::S::q W t.ch::b t.val::r t.bp::T::s 2 ag 5::aD) 126 28 false).bi Z/\v.bi v/\(g Ap t.bq 108 true).bi a6/\w.bi w/\True;let aL:=z71=z71;let aM:=(f []).bi (f [])/\(d [z,A,B,C,D,E,F,G,H,I,J,K,L,M,N,O,P,Q,R,S,ak,al,r bp,T,am,X,Y,b err] 126 28 false).bi Z/\v.bi v/\aq.bi a6/\w.bi w/\True;let aN:=(bL ai/\bL ay)/\aV;let aO:=λ(u:cm) (u_1:iZ) ↦(f []).bi (f [])/\(d [z,A,B,C,D,E,F,G,H,I,J,K,L,M,N,O,P,Q,R,S,q W u.ch,b u.val,r u.bp,T,s 2 u.bq.length 5,X,Y,b u.err] 126 28 false).bi Z/\v.bi v/\u_1.bi a6/\w.bi w/\True;let aP:=λ(u:cV) (u_1:Int) (u_2:Nat) (u_3:Int) ↦ei u/\(c<=u_1/\u_1<(↑u_2:Int))/\(c<=y/\y<(↑fx.length:Int))/\bN fx ab c=c/\(u_3=e\/u_3=k)/\nF (fx.set ab u_3)<n;let aQ:=λ(u:Int) (u_1:iZ) ↦(f []).bi (f [])/\(d [z,A,B,C,D,E,F,G,H,I,J,K,L,M,N,O,P,Q,R,S,ak,al,r bp,T,am,X,Y,b u] 126 28 false).bi Z/\v.bi v/\u_1.bi a6/\w.bi w/\True;let aR:=λ(u:Bool) ↦decide (gN (TL ai) (TL (av.1,av.2.1,av.2.2))<c)=u;let aS:=λ(u:Bool) ↦decide (c<=az)=u;let aT:=λ(u:Int) ↦let ax:=nf (κ (u+e));bL ai/\bL (ax.1,ax.2.1,ax.2.2);let aU:=λ(u:Bool) ↦decide (bz<ad+o)=u;(aG=true->aM)/\(aG=false->(bp=true->aM)/\(bp=false->(fx.length=fx.length/\fx.length<=1000000000000)/\(aH=true->aQ (gZ p fx) aq)/\(aH=false->((!jb p fx)=true->bq.length=bq.length/\c<=a/\a<(↑bq.length:Int)/\bq.length=bq.length/\a.toNat<bq.length/\aQ err (g Ap (bq.set a.toNat ((3:Int),ar)) 108 true))/\((!jb p fx)=false->h aj/\(j<=aj/\aj<=l)/\aT val/\(aS true->mX (jI p fx)/\(lq x=true->(ei (cV.mk p ch val bp (some m) bq.length fx.length bz err bq fx)/\mX (jI p fx)/\(jI p fx).length=p.bj.length)/\bq.length=bq.length/\h ao/\(j<=ao/\ao<=l)/\aT t.val/\(aR true->ag=a8/\c<=a/\a<(↑a8:Int)/\ag=a8/\a.toNat<a8/\aO t (g Ap (t.bq.set a.toNat aC) 108 true))/\(aR false->mX (jI p fx)/\((!(iN x).isSome)=true->aK)/\((!(iN x).isSome)=false->h (ad+o)/\(aU true->aK)/\(aU false->2=2/\ag=a8/\(a8+2)*56<=140737488355328/\a8+2<=1000000000000/\h ah/\aL/\c<=a/\a<(↑z71:Int)/\aL/\a.toNat<z71/\h ah/\aP (cV.mk p t.ch t.val t.bp (some m) z71 fx.length bz t.err aw fx) ah aw.length e/\aP (cV.mk p V.ch V.val V.bp (some m) V.bq.length fx.length bz V.err V.bq fx) ad V.bq.length k/\aO aI (g Ap aI.bq 108 true)))))/\(lq x=false->aN))/\(aS false->aN)))))) (by kernel_rfl) ?_;simp only[vcs];refine⟨λh=>by rw[wG hf (.inl h)];exact⟨rfl,rfl⟩,λh0=>⟨λh=>by rw[wG hf (.inr h)];exact⟨rfl,rfl⟩,λh1=>⟨by omega,λh=>absurd hfe h,λ_=>⟨λh=>?_,λhb=>?_⟩⟩⟩⟩
  ·have hs:¬((⟨ch,val,bp,bq,err⟩:cm).err≠0\/(⟨ch,val,bp,bq,err⟩:cm).bp=true):=by
    rintro(h|h);·exact h0 h
    ·rw[show bp=true from h] at h1;cases h1
   rw[Kl hf hs (by rw[<-hfo];exact h)];refine⟨ha.1,ha.2,by omega,?_,rfl⟩;simp only[Φ];rfl
  ·have hs:¬((⟨ch,val,bp,bq,err⟩:cm).err≠0\/(⟨ch,val,bp,bq,err⟩:cm).bp=true):=by
    rintro(h|h);·exact h0 h
    ·rw[show bp=true from h] at h1;cases h1
   have hbf:fZ p fx=true:=by rw[<-hfo];exact hb
   have hfix:=hf.ok hbf;have eB:js p fx=nf (gY p fx):=by unfold js;rw[if_pos hb]
   have eS:jI p fx=fL (cN p fx):=by unfold jI cN;rw[if_pos hb]
   have eP:oW p fx=fL (gu p fx):=by unfold oW;rw[if_pos hb]
   have hsl:(cN p fx).length=fx.length:=py;have oS:mX (fL (cN p fx)):=⟨cN p fx,rfl,by rw[eA];omega,λq hq=>by
    obtain⟨i,hi,rfl⟩:=γM hq;have:=(zD hfix hf.r (i:=i) (by omega)).2.2;rwa [b_ hi] at this⟩;have fB:bL (nf (gY p fx)):=c_ (Je hb) (by omega);have fI:∀v:Int,0<=v->v<=9223372036854775807->bL (nf (κ v)):=λv h0 h1=>c_ (pf (by omega) h1) (by omega);have hcv:∀v:Int,gN (gY p fx) (κ v)<0↔gY p fx<((v:Int):Rat):=λv=>qH;simp only[eB,eS,eP,jR,iX,dH];have hcm:dL (cN p fx)=(nv p fx).bn:=rfl;refine⟨by omega,by omega,⟨fB,fI _ (by omega) (by omega)⟩,λhge=>⟨oS,λhi=>?_,λhi=>?_⟩,λhlt=>?_⟩
   ·have hO:cC p (bF (some m)) ⟨ch,val,bp,bq,err⟩ fx=dp (bF (some m)) ⟨ch,val,bp,bq,err⟩ ⟨dL (cN p fx),bJ ((dL (cN p fx)).map (oI p))⟩:=by
     unfold cC;rw[if_pos ⟨ε2.1 λh=>absurd ((hcv (val+1)).2 h) (Int.not_lt.2 hge),hi⟩];rfl
    have hok':ei (cV.iw ⟨p,ch,val,bp,(some m),bq.length,fx.length,bz,err,bq,fx⟩ (cC p (bF (some m)) ⟨ch,val,bp,bq,err⟩ fx)):=hok.IU;rw[hO] at hok';obtain⟨e1,e2,_⟩:=@Ag (bF (some m)) ⟨ch,val,bp,bq,err⟩ ⟨dL (cN p fx),bJ ((dL (cN p fx)).map (oI p))⟩;generalize dp (bF (some m)) ⟨ch,val,bp,bq,err⟩ ⟨dL (cN p fx),bJ ((dL (cN p fx)).map (oI p))⟩=O at*;obtain⟨ch',val',found',prf',arf⟩:=O;have e1:bq=prf':=Eq.symm e1;have e2:err=arf:=Eq.symm e2;subst e1;subst e2;have w0:0<=val':=hok'.v0;have w1:val'<=9223372036854775806:=hok'.v1;dsimp only;refine⟨⟨hok,oS,by rw[eA];omega⟩,by omega,by omega,⟨fB,fI _ (by omega) (by omega)⟩,?_⟩;refine⟨λh=>?_,λh=>⟨oS,λhk=>?_,λhk=>⟨by omega,λhm=>?_,λhm=>?_⟩⟩⟩
    ·rw[ux hf hs hbf hO ((hcv _).1 h)];refine⟨ha.1,ha.2,by omega,?_,rfl⟩;simp only[Φ];rfl
    ·rw[n9 hf hs hbf hO (λh'=>h ((hcv _).2 h')) (.inl (γ7.1 hk |>γQ.1))];exact⟨rfl,rfl⟩
    ·rw[n9 hf hs hbf hO (λh'=>h ((hcv _).2 h')) (.inr hm)];exact⟨rfl,rfl⟩
    ·obtain⟨k,hk'⟩:=γn.1 hk;rw[uw hf hs hbf hO (λh'=>h ((hcv _).2 h')) hk' hm];simp only[hk',γ2];obtain⟨hk1,hk2,hk3⟩:=qI hk';rw[hsl] at hk1;have hk0:bN fx k.toNat 0=0:=qJ hfix hf.r (by omega) hk2 hk3;have n1:=kN hk1 hk0 (d:=1) (by omega);have n2:=kN hk1 hk0 (d:= -1) (by omega);have hl2:((bq++[zN,zN]).set a.toNat (jg k bq.length)).length=bq.length+2:=by rw[Φ,γh];rfl
     have hl1:(bq++[zN,zN]).length=bq.length+2:=by rw[γh];rfl
     have o1:=ei.ui (x:=⟨p,ch',val',found',(some m),bq.length,fx.length,bz,arf,bq,fx⟩) hok' (k:=(bq++[zN,zN]).length) (l:=(bq++[zN,zN]).set a.toNat (jg k bq.length)) hm (by rw[hl1,hl2]) hl2;have o2:=o1.ug (f:=fx.set k.toNat 1) (hf.set (by omega)) (n:=nF (fx.set k.toNat 1)) (a:=(bq.length:Int)+1);have o3:=(@px p (bF (some m)) bz (nF (fx.set k.toNat 1)) (fH ⟨ch',val',found',bq,arf⟩ a k) ((bq.length:Int)+1) (fx.set k.toNat 1) (hf.set (by omega))).1;have o4:bq.length+2<=(cQ p (bF (some m)) bz (nF (fx.set k.toNat 1)) (fH ⟨ch',val',found',bq,arf⟩ a k) ((bq.length:Int)+1) (fx.set k.toNat 1)).bq.length:=by rw[<-hl2];exact o3
     have q1:a<((bq++[zN,zN]).length:Int):=by omega
     have q3:(bq.length:Int)+1<(((bq++[zN,zN]).set a.toNat (jg k bq.length)).length:Int):=by rw[hl2];omega
     have q2:a.toNat<(bq++[zN,zN]).length:=by omega
     exact⟨by omega,by omega,by omega,ha.1,q1,q2,by omega,⟨o1,⟨by omega,q3⟩,hk1,hk0,.inl trivial,by omega⟩,⟨o2,⟨by omega,εW.2 (γj (by omega) o4)⟩,hk1,hk0,.inr trivial,by omega⟩,rfl,rfl⟩
   ·have hO:cC p (bF (some m)) ⟨ch,val,bp,bq,err⟩ fx=⟨ch,val,bp,bq,err⟩:=by
     unfold cC;rw[if_neg (λh=>by rw[h.2] at hi;cases hi)]
    refine⟨⟨fB,fI _ (by omega) (by omega)⟩,?_⟩;refine⟨λh=>?_,λh=>⟨oS,λhk=>?_,λhk=>⟨by omega,λhm=>?_,λhm=>?_⟩⟩⟩
    ·rw[ux hf hs hbf hO ((hcv _).1 h)];refine⟨ha.1,ha.2,by omega,?_,rfl⟩;simp only[Φ];rfl
    ·rw[n9 hf hs hbf hO (λh'=>h ((hcv _).2 h')) (.inl (γ7.1 hk |>γQ.1))];exact⟨rfl,rfl⟩
    ·rw[n9 hf hs hbf hO (λh'=>h ((hcv _).2 h')) (.inr hm)];exact⟨rfl,rfl⟩
    ·obtain⟨k,hk'⟩:=γn.1 hk;rw[uw hf hs hbf hO (λh'=>h ((hcv _).2 h')) hk' hm];simp only[hk',γ2];obtain⟨hk1,hk2,hk3⟩:=qI hk';rw[hsl] at hk1;have hk0:bN fx k.toNat 0=0:=qJ hfix hf.r (by omega) hk2 hk3;have n1:=kN hk1 hk0 (d:=1) (by omega);have n2:=kN hk1 hk0 (d:= -1) (by omega);have hl2:((bq++[zN,zN]).set a.toNat (jg k bq.length)).length=bq.length+2:=by rw[Φ,γh];rfl
     have hl1:(bq++[zN,zN]).length=bq.length+2:=by rw[γh];rfl
     have o1:=ei.ui hok (k:=(bq++[zN,zN]).length) (l:=(bq++[zN,zN]).set a.toNat (jg k bq.length)) hm (by rw[hl1,hl2]) hl2;have o2:=o1.ug (f:=fx.set k.toNat 1) (hf.set (by omega)) (n:=nF (fx.set k.toNat 1)) (a:=(bq.length:Int)+1);have o3:=(@px p (bF (some m)) bz (nF (fx.set k.toNat 1)) (fH ⟨ch,val,bp,bq,err⟩ a k) ((bq.length:Int)+1) (fx.set k.toNat 1) (hf.set (by omega))).1;have o4:bq.length+2<=(cQ p (bF (some m)) bz (nF (fx.set k.toNat 1)) (fH ⟨ch,val,bp,bq,err⟩ a k) ((bq.length:Int)+1) (fx.set k.toNat 1)).bq.length:=by rw[<-hl2];exact o3
     have q1:a<((bq++[zN,zN]).length:Int):=by omega
     have q3:(bq.length:Int)+1<(((bq++[zN,zN]).set a.toNat (jg k bq.length)).length:Int):=by rw[hl2];omega
     have q2:a.toNat<(bq++[zN,zN]).length:=by omega
     exact⟨by omega,by omega,by omega,ha.1,q1,q2,by omega,⟨o1,⟨by omega,q3⟩,hk1,hk0,.inl trivial,by omega⟩,⟨o2,⟨by omega,εW.2 (γj (by omega) o4)⟩,hk1,hk0,.inr trivial,by omega⟩,rfl,rfl⟩
   ·have hO:cC p (bF (some m)) ⟨ch,val,bp,bq,err⟩ fx=⟨ch,val,bp,bq,err⟩:=by
     unfold cC;rw[if_neg (λh=>ε2.2 h.1 ((hcv (val+1)).1 (Int.not_le.1 hlt)))]
    refine⟨⟨fB,fI _ (by omega) (by omega)⟩,?_⟩;refine⟨λh=>?_,λh=>⟨oS,λhk=>?_,λhk=>⟨by omega,λhm=>?_,λhm=>?_⟩⟩⟩
    ·rw[ux hf hs hbf hO ((hcv _).1 h)];refine⟨ha.1,ha.2,by omega,?_,rfl⟩;simp only[Φ];rfl
    ·rw[n9 hf hs hbf hO (λh'=>h ((hcv _).2 h')) (.inl (γ7.1 hk |>γQ.1))];exact⟨rfl,rfl⟩
    ·rw[n9 hf hs hbf hO (λh'=>h ((hcv _).2 h')) (.inr hm)];exact⟨rfl,rfl⟩
    ·obtain⟨k,hk'⟩:=γn.1 hk;rw[uw hf hs hbf hO (λh'=>h ((hcv _).2 h')) hk' hm];simp only[hk',γ2];obtain⟨hk1,hk2,hk3⟩:=qI hk';rw[hsl] at hk1;have hk0:bN fx k.toNat 0=0:=qJ hfix hf.r (by omega) hk2 hk3;have n1:=kN hk1 hk0 (d:=1) (by omega);have n2:=kN hk1 hk0 (d:= -1) (by omega);have hl2:((bq++[zN,zN]).set a.toNat (jg k bq.length)).length=bq.length+2:=by rw[Φ,γh];rfl
     have hl1:(bq++[zN,zN]).length=bq.length+2:=by rw[γh];rfl
     have o1:=ei.ui hok (k:=(bq++[zN,zN]).length) (l:=(bq++[zN,zN]).set a.toNat (jg k bq.length)) hm (by rw[hl1,hl2]) hl2;have o2:=o1.ug (f:=fx.set k.toNat 1) (hf.set (by omega)) (n:=nF (fx.set k.toNat 1)) (a:=(bq.length:Int)+1);have o3:=(@px p (bF (some m)) bz (nF (fx.set k.toNat 1)) (fH ⟨ch,val,bp,bq,err⟩ a k) ((bq.length:Int)+1) (fx.set k.toNat 1) (hf.set (by omega))).1;have o4:bq.length+2<=(cQ p (bF (some m)) bz (nF (fx.set k.toNat 1)) (fH ⟨ch,val,bp,bq,err⟩ a k) ((bq.length:Int)+1) (fx.set k.toNat 1)).bq.length:=by rw[<-hl2];exact o3
     have q1:a<((bq++[zN,zN]).length:Int):=by omega
     have q3:(bq.length:Int)+1<(((bq++[zN,zN]).set a.toNat (jg k bq.length)).length:Int):=by rw[hl2];omega
     have q2:a.toNat<(bq++[zN,zN]).length:=by omega
     exact⟨by omega,by omega,by omega,ha.1,q1,q2,by omega,⟨o1,⟨by omega,q3⟩,hk1,hk0,.inl trivial,by omega⟩,⟨o2,⟨by omega,εW.2 (γj (by omega) o4)⟩,hk1,hk0,.inr trivial,by omega⟩,rfl,rfl⟩
theorem C4:∀n,dA Tryz.prog (s9 n)
 |0=>λa b=>absurd b.2.2 (by omega)
 |n+1=>Rx (S0 (C4 n))
theorem ra {p:cj} (a:nW p=0) {c:List Int} (f:bR p c=0):0<=cA p c/\cA p c<=160000000/\c.length<=160:=by
 obtain⟨_,b⟩:=sh f;have d:=(cT a).2.1;have j:c.length<=p.bj.length:=pB b;have h:=oq (cT a) (l:=c.map (oI p)) λx g=>by
  obtain⟨i,e,rfl⟩:=Ω.1 g;have:=b.2 i e;exact cE (by omega)
 grind[uE]
theorem C3 {p:cj} (a:nW p=0):(ji p).length<=160:=(ra a (Lx a)).2.2
theorem Rw {p:cj} {c:List Int} {a:Int} {k:Nat} (e:nW p=0) (h:bR p c=0) (l:1<=a) (m:a<=65536) (i:k=p.bj.length):ei ⟨p,(jO p c).ch,(jO p c).val,(jO p c).bp,none,(jO p c).bq.length,k,a,(jO p c).err,(jO p c).bq,gi p⟩:=by
 have b:=EF e h;have d:=uy e;have f:bR p (jO p c).ch=0/\cA p (jO p c).ch=(jO p c).val:=
  uz (G:=λc w _=>bR p c=0/\cA p c=w) (λ_ _ _ _ _ _ b d _=>⟨b,d⟩) (uz (G:=λc w _=>bR p c=0/\cA p c=w) (λ_ _ _ _ _ _ b d _=>⟨b,d⟩) (s:=⟨c,cA p c,false,[zN],0⟩) ⟨h,rfl⟩ b.2.1 b.2.2.1) d.1 d.2;obtain⟨g,j,n⟩:=ra e f.1;obtain⟨o,_,_⟩:=@DX p c;rw[f.2] at g j;exact⟨mz e,rfl,by rw[i];exact(γD).symm,g,by grind,l,m,by simp_all,by grind⟩
theorem Rv {p:cj} {m a:Int} {k:Nat} (b:nW p=0) (q:0<m/\m<=9223372036854775807) (h:1<=a) (i:a<=65536) (g:k=p.bj.length):ei ⟨p,(jN p m).ch,(jN p m).val,(jN p m).bp,some m,(jN p m).bq.length,k,a,(jN p m).err,(jN p m).bq,gi p⟩:=by
 have d:=uy b;have e:(0<=(jN p m).val/\(jN p m).val<=9223372036854775806)/\(jN p m).ch.length<=160:=
  uz (G:=λc w _=>(0<=w/\w<=9223372036854775806)/\c.length<=160) (λ_ _ _ t l _ f d _=>by
   obtain⟨j,n,o⟩:=ra b f;omega) (s:=⟨[],m - 1,false,[zN],0⟩) ⟨⟨by grind,by grind⟩,by simp_all⟩ d.1 d.2;obtain⟨r,_⟩:=@DV p m;exact⟨mz b,rfl,by rw[g];exact(γD).symm,e.1.1,e.1.2,h,i,by simp_all,by grind⟩
noncomputable def C2:M9:=⟨53,cj×bB×Int,.cons cO (.cons kr (.one (dX .i64))),λa=>a.1.bj.length<=20/\a.2.1.bn.length<=9223372036854775807,
 λa=> .Gz [.agg [.row (.i .i64) (if jH a.1 a.2.1.bn a.2.2=0 then(gA a.1 a.2.1.bn a.2.2).ch else[]),.si .i64 (if jH a.1 a.2.1.bn a.2.2=0 then(gA a.1 a.2.1.bn a.2.2).val else 0)],.row Ap (if jH a.1 a.2.1.bn a.2.2=0 then(gA a.1 a.2.1.bn a.2.2).bq else[]),.si .i64 (jH a.1 a.2.1.bn a.2.2)]⟩
theorem H6:Holds Tryz.prog C2:=by
 refine j9 (L:=[vP,z6,x_,yb]) (W:=fT [wJ,s9 161]) C2 lk (kf (by grind[tY,C4])) (by grind[qZ,yI,t_,ua]) ?_;rintro⟨p,⟨c,v⟩,a⟩ ⟨o,f⟩;simp only at o f;refine NH (let e:=(0:Int);let f:=γf .i64;let h:=(140737488355328:Int);let k:=(1000000000000:Int);let o:=(1:Int);let v:=Ψ;let w:=γJ;let z:=SV.Gz;let D:=ew.i .i64;let s:=v D [];let t:=γv .i64 0;let A:=gA p c a;let E:=z [w [v D (if jH p c a=e then A.ch else[]),f (if jH p c a=e then A.val else e)],v Ap (if jH p c a=e then A.bq else[]),f (jH p c a)];let g:=(↑p.bj.length:Int);let r:=δ g.toNat e;let j:=dp (bF none) (cm.mk c (cA p c) false [(e,e,e,e,[])] e) (fK p c);let b:=dp (bF none) j (fK p (ji p));let d:=cQ p (bF none) a (nF r) b e r;let m:=decide (bR p c≠e);let n:=decide (a<o);let q:=decide ((65536:Int)<a);let l:=0+c.length;let G:=(z [w [s,t],s,γv .i64 4]).bi E;let x:=λ(u:List Int) (y B C:SV) ↦(z [w [v D u,y],B,C]).bi E;let F:=λ(u:Bool) ↦decide (d.err≠e)=u;c.length<=9223372036854775807/\(m=true->x [] t s (f (bR p c)))/\(m=false->(n=true->G)/\(n=false->(q=true->G)/\(q=false->0=0/\l*8<=140737488355328/\l<=1000000000000/\(nW p=e/\c.length<=9223372036854775807)/\e<=o/\o<=o/\(56:Int)<=h/\o<=k/\e<=g/\g<=g/\g*(8:Int)<=h/\g<=k/\c.length=c.length/\c.length=c.length/\c.length<=9223372036854775807/\1=1/\p.bj.length<=20/\(ji p).length<=9223372036854775807/\j.bq.length=j.bq.length/\(ei (cV.mk p b.ch b.val b.bp none b.bq.length g.toNat a b.err b.bq r)/\(e<=e/\e<(↑b.bq.length:Int))/\nF r<161)/\(F true->x [] t s (f d.err))/\(F false->d.bq.length=d.bq.length/\x d.ch (f d.val) (v Ap d.bq) t))))) (by kernel_rfl) ?_;simp only[vcs];have M:(δ ((p.bj.length:Int)).toNat 0:List Int)=gi p:=by grind[gi]
 have P:dp (bF none) (dp (bF none) ⟨c,cA p c,false,[(0,(0,(0,(0,[]))))],0⟩ (fK p c)) (fK p (ji p))=jO p c:=rfl;have J:nF (gi p)=p.bj.length:=uA;simp only[M,P,J];refine⟨f,λh=>?_,λh=>⟨λH=>?_,λH=>⟨λN=>?_,λN=>?_⟩⟩⟩
 ·have e:jH p c a=bR p c:=by simp_all[jH]
  rw[e,if_neg h,if_neg h,if_neg h];exact⟨rfl,rfl,rfl⟩
 ·have e:jH p c a=4:=by simp_all[jH]
  rw[e];exact⟨rfl,rfl,rfl⟩
 ·have e:jH p c a=4:=by simp_all[jH]
  rw[e];exact⟨rfl,rfl,rfl⟩
 ·have z:bR p c=0:=γc.1 h;have w:nW p=0:=(sh z).1;obtain⟨Q,T,U⟩:=ra w z;obtain⟨I,R,S⟩:=@DX p c;have e:jH p c a=(gA p c a).err:=by simp_all[jH,if_neg]
  have O:cQ p (bF none) a p.bj.length (jO p c) 0 (gi p)=gA p c a:=rfl;have K:=C3 w;rw[O,e];refine⟨by omega,by omega,⟨w,f⟩,by omega,by omega,by omega,by omega,by omega,by omega,by omega,by omega,f,o,by omega,⟨Rw w z (by omega) (by omega) (by omega),⟨by omega,by rw[I];decide⟩,by omega⟩,λk=>?_,λk=>?_⟩
  ·rw[if_neg k,if_neg k,if_neg k];exact⟨rfl,rfl,rfl⟩
  ·rw[γc] at k;rw[k];exact⟨rfl,rfl,rfl⟩
noncomputable def C1:M9:=⟨80,cj×Int×Int,.cons cO (.cons (dX .i64) (.one (dX .i64))),λa=>a.1.bj.length<=20/\ -9223372036854775808<=a.2.1/\a.2.1<=9223372036854775807,
 λa=> .Gz [.agg [.row (.i .i64) (my a.1 a.2.1 a.2.2).bn,.si .i64 (my a.1 a.2.1 a.2.2).value],.sb (jf a.1 a.2.1 a.2.2),.si .i64 (im a.1 a.2.1 a.2.2)]⟩
theorem H5:Holds Tryz.prog C1:=by
 refine j9 (L:=[mW,x_,yb]) (W:=fT [wJ,s9 161]) C1 lk (kf (by grind[tY,C4])) (by grind[oi,t_,ua]) ?_;rintro⟨p,m,b⟩ ⟨x,H,G⟩;simp only at x H G;refine NH (let a:=(0:Int);let c:=γf .i64;let e:=(1:Int);let f:=(140737488355328:Int);let h:=SV.Gz;let l:=(1000000000000:Int);let v:=γv .i64;let x:=Ψ;let y:=γJ;let w:=ew.i .i64;let t:=[v 0];let k:=h [y [x w (my p m b).bn,c (my p m b).value],γy (jf p m b),c (im p m b)];let n:=y (x w []::t);let s:=δd false;let g:=dp (bF (some m)) (cm.mk [] (m - e) false [(a,a,a,a,[])] a) (fK p (ji p));let A:=decide (nW p≠a);let C:=decide (b<e);let r:=decide ((65536:Int)<b);let q:=decide (m<=a);let d:=(↑p.bj.length:Int);let j:=δ d.toNat a;let z:=λ(u:cm) ↦let o:=decide (u.err≠a);(u.bp=true->(h (y [x w u.ch,c u.val]::δd true::t)).bi k)/\(u.bp=false->(o=true->(h [n,s,c u.err]).bi k)/\(o=false->(h (n::s::t)).bi k));let B:=λ(u:Bool) ↦(!g.bp)=u;True/\(A=true->(h [n,s,c (nW p)]).bi k)/\(A=false->(C=true->(h [n,s,v 4]).bi k)/\(C=false->(r=true->(h [n,s,v 4]).bi k)/\(r=false->(q=true->(h (n::δd true::t)).bi k)/\(q=false->VI .i64 (m - e)/\a<=e/\e<=e/\(56:Int)<=f/\e<=l/\a<=d/\d<=d/\d*(8:Int)<=f/\d<=l/\0=0/\p.bj.length<=20/\(ji p).length<=9223372036854775807/\1=1/\(B true->(ei (cV.mk p g.ch g.val g.bp (some m) g.bq.length d.toNat b g.err g.bq j)/\(a<=a/\a<(↑g.bq.length:Int))/\nF j<161)/\z (cQ p (bF (some m)) b (nF j) g a j))/\(B false->z g)))))) (by kernel_rfl) ?_;simp only[vcs];have P:(δ ((p.bj.length:Int)).toNat 0:List Int)=gi p:=by grind[gi]
 have O:dp (bF (some m)) ⟨[],m - 1,false,[(0,(0,(0,(0,[]))))],0⟩ (fK p (ji p))=jN p m:=rfl;have K:nF (gi p)=p.bj.length:=uA;simp only[P,O,K];have I:∀e:Int,im p m b=e->jf p m b=(decide (e=0)&&(decide (m<=0)||(fi p m b).bp)):=λe h=>by grind[jf]
 have c:jf p m b=false\/m<=0->my p m b=⟨[],0⟩:=λh=>by
  unfold my;grind
 refine⟨λh=>?_,λh=>⟨λM=>?_,λM=>⟨λN=>?_,λN=>⟨λE=>?_,λE=>?_⟩⟩⟩⟩
 ·have e:im p m b=nW p:=by simp_all[im]
  have f:jf p m b=false:=by simp_all
  rw[e,f,c (.inl f)];exact⟨rfl,rfl,rfl⟩
 ·have e:im p m b=4:=by simp_all[im]
  have f:jf p m b=false:=by simp_all
  rw[e,f,c (.inl f)];exact⟨rfl,rfl,rfl⟩
 ·have e:im p m b=4:=by simp_all[im]
  have f:jf p m b=false:=by simp_all
  rw[e,f,c (.inl f)];exact⟨rfl,rfl,rfl⟩
 ·have e:im p m b=0:=by simp_all[im]
  have f:jf p m b=true:=by simp_all
  rw[e,f,c (.inr E)];exact⟨rfl,rfl,rfl⟩
 ·have J:nW p=0:=γc.1 h;obtain⟨R,Q⟩:=@DV p m;have S:cQ p (bF (some m)) b p.bj.length (jN p m) 0 (gi p)=fi p m b:=rfl;have F:=C3 J;have l:im p m b=if(fi p m b).bp=true then 0 else(fi p m b).err:=by simp_all[im,if_neg]
  have y:((fi p m b).bp=true->(γJ [Ψ (ew.i .i64) (fi p m b).ch,γf .i64 (fi p m b).val]).bi (γJ [Ψ (ew.i .i64) (my p m b).bn,γf .i64 (my p m b).value])/\true=jf p m b/\0=im p m b)/\
    ((fi p m b).bp=false->((fi p m b).err≠0->(γJ [Ψ (ew.i .i64) [],γv .i64 0]).bi (γJ [Ψ (ew.i .i64) (my p m b).bn,γf .i64 (my p m b).value])/\false=jf p m b/\(fi p m b).err=im p m b)/\
     (¬(fi p m b).err≠0->(γJ [Ψ (ew.i .i64) [],γv .i64 0]).bi (γJ [Ψ (ew.i .i64) (my p m b).bn,γf .i64 (my p m b).value])/\false=jf p m b/\0=im p m b)):=by
   refine⟨λv=>?_,λv=>⟨λD=>?_,λD=>?_⟩⟩
   ·rw[if_pos v] at l;have f:jf p m b=true:=by simp_all
    have a:my p m b=⟨(fi p m b).ch,(fi p m b).val⟩:=by simp_all[my]
    rw[l,f,a];exact⟨rfl,rfl,rfl⟩
   ·rw[if_neg (by rw[v];simp)] at l;have f:jf p m b=false:=by simp_all
    rw[l,f,c (.inl f)];exact⟨rfl,rfl,rfl⟩
   ·rw[if_neg (by rw[v];simp),γc.1 D] at l;have f:jf p m b=false:=by simp_all
    rw[l,f,c (.inl f)];exact⟨rfl,rfl,rfl⟩
  grind[Rv,wG,mz]
abbrev wy:=zi×(zi×(List Int×(Int×(Bool×(Bool×(Bool×(Bool×(Bool×(Bool×(Bool×Bool))))))))))
@[reducible] def pO:ew:=.pair .bun (.pair .bun (.pair (.qE (.i .i64)) (.pair (.i .i64) (.pair .b (.pair .b (.pair .b (.pair .b (.pair .b (.pair .b (.pair .b .b))))))))))
def xP (d:wy):iK:=⟨d.1,d.2.1,d.2.2.1,d.2.2.2.1,[d.2.2.2.2.1,d.2.2.2.2.2.1,d.2.2.2.2.2.2.1,d.2.2.2.2.2.2.2.1,d.2.2.2.2.2.2.2.2.1,d.2.2.2.2.2.2.2.2.2.1,d.2.2.2.2.2.2.2.2.2.2.1,d.2.2.2.2.2.2.2.2.2.2.2]⟩
def fP (u:iK):wy:=(u.left,(u.bs,(u.bn,(u.value,(bN u.won 0 false,(bN u.won 1 false,(bN u.won 2 false,(bN u.won 3 false,(bN u.won 4 false,(bN u.won 5 false,(bN u.won 6 false,bN u.won 7 false)))))))))))
theorem Jd {u:iK} (h:u.won.length=8):xP (fP u)=u:=by
 obtain⟨l,o,c,v,w⟩:=u;simp only at h;match w,h with
 |[a,b,c,d,e,f,g,i],_=>rfl
def zX:iK:=⟨zi.zero,zi.zero,[],0,δ 8 false⟩
def pk (k j:Int) (a b:Int):Bool:=decide (k<=j)||(decide (0<=a)&&decide (0<=b))
def iU (a b:zi) (k:Int):Bool:=pk k 0 a.a0 b.a0&&(pk k 1 a.a1 b.a1&&(pk k 2 a.a2 b.a2&&(pk k 3 a.a3 b.a3&&(pk k 4 a.a4 b.a4&&pk k 5 a.a5 b.a5))))
def C0:cU where
 f:=115;α:=wy×cj×bC;put a:=[.ptr 0 0 22,cO.put a.2.1,(dy .bu).put a.2.2];st a:=[.cells (cJ pO a.1) 142 22 false];dec v o:=match v,o with
  |[.ptr 0 0 22,p,x],[.cells cs 142 22 false]=>match jm pO cs,cO.dec p,(dy .bu).dec x with
   |some d,some p,some x=>some (d,p,x)
   |_,_,_=>none
  |_,_=>none;ok v o a h:=by
  split at h
  ·split at h
   ·rename_i h1 h2 h3;simp only[γ] at h;subst h;refine⟨by simp only[gL,cO.ok _ _ h2,(dy .bu).ok _ _ h3],?_⟩;simp only[gO,π,γr,iZ.g,fu,mJ h1,rT]
   ·cases h
  ·cases h
 inj a b h1 h2:=by
  obtain⟨d,p,x⟩:=a;obtain⟨d',p',x'⟩:=b;simp only[gL,Δ,and_true,true_and] at h1;simp only[gO,π,γr,iZ.g,Δ,OL.cells.injEq,and_true,fu,rT] at h2;rw[u_ pO d d' h2,cO.inj p p' h1.1,(dy .bu).inj x x' h1.2]
 dom a:=((∀k,k<6->(-1000<=a.1.1.at k/\a.1.1.at k<=1000)/\(-1000<=a.1.2.1.at k/\a.1.2.1.at k<=1000))/\a.2.2.bx.ok=true)/\0<=a.2.2.OA/\a.2.2.OA<a.2.1.bk.length;res a:=.sb ((a.1.1.sub a.2.2.bx).pos&&(fF a.2.1 (xP a.1) a.2.2).pos);out a:=[.cells (cJ pO (a.1.1.sub a.2.2.bx,(fF a.2.1 (xP a.1) a.2.2,a.1.2.2))) 142 22 false]
def Ru (d:wy) (p:cj) (x:bC):Nat->bG
 |3=> .inv Int (λk=>⟨[(0,.ptr 0 0 22),(4,.ptr 1 0 20),(5,.ptr 2 0 8),(7,.sb (iU (d.1.sub x.bx) (fF p (xP d) x) k)),(11,.agg (cJ .bun x.bx)),(12,.si .i64 k)],
   [.cells (cJ pO (gD d.1 (d.1.sub x.bx) k,(gD d.2.1 (fF p (xP d) x) k,d.2.2))) 142 22 false,.cells p.ss 27 20 false,.cells (cJ .bu x) 65 8 false]⟩)
   (λs=>iS s 12) (λk=>0<=k/\k<=6) (λk=>(6 - k).toNat) λ_ _=> .look
 |_=> .look
theorem HX:dA Tryz.prog C0:=by
 refine kq (L:=[]) (W:=[]) C0 (λa=>Ru a.1 a.2.1 a.2.2) (by simp) (by simp) ?_;rintro⟨d,p,x⟩ ⟨⟨hb,hw⟩,hx0,hx1⟩;simp only at hb hw hx0 hx1;refine NH (let a:=γf .i64;let b:=(0:Int);let c:=(6:Int);let e:=iZ.cells;let f:=γy;let g:=VI .i64;let h:=Ψ;let j:=δd false;let k:=γK;let r:=k 0 0 22;let s:=k 1 0 20;let t:=k 2 0 8;let o:=d.1.sub x.bx;let q:=fF p (xP d) x;let a9:=a x.bx.a0;let aa:=a x.bx.a1;let ab:=a x.bx.a2;let ac:=a x.bx.a3;let ad:=a x.bx.a4;let ae:=a x.bx.a5;let v:=γJ [a9,aa,ab,ac,ad,ae];let N:=ew.i .i64;let D:=d.2.2.2.2.2;let af:=D.2.2.2.2.2;let E:=gD d.1 o b;let F:=gD d.2.1 q b;let G:=d.2.2.2.2.2;let ag:=G.2.2.2.2.2;let A:=[h N d.2.2.1,a d.2.2.2.1,f d.2.2.2.2.1,f G.1,f G.2.1,f G.2.2.1,f G.2.2.2.1,f G.2.2.2.2.1,f ag.1,f ag.2];let w:=e [a p.bm.a0,a p.bm.a1,a p.bm.a2,a p.bm.a3,a p.bm.a4,a p.bm.a5,a p.bs.a0,a p.bs.a1,a p.bs.a2,a p.bs.a3,a p.bs.a4,a p.bs.a5,a p.bt.a0,a p.bt.a1,a p.bt.a2,a p.bt.a3,a p.bt.a4,a p.bt.a5,h N p.bk,h ew.bu p.bj] 27 20 false;let y:=e [a x.OA,a9,aa,ab,ac,ad,ae,a x.value] 65 8 false;let aM:=[x.bx.a0,x.bx.a1,x.bx.a2,x.bx.a3,x.bx.a4,x.bx.a5];let aN:=[p.bt.a0,p.bt.a1,p.bt.a2,p.bt.a3,p.bt.a4,p.bt.a5];(((r.bi r/\s.bi s/\t.bi t/\(δd true).bi (f (iU o q b))/\v.bi v/\(γv .i64 0).bi (a 0)/\True)/\(e [a d.1.a0,a d.1.a1,a d.1.a2,a d.1.a3,a d.1.a4,a d.1.a5,a d.2.1.a0,a d.2.1.a1,a d.2.1.a2,a d.2.1.a3,a d.2.1.a4,a d.2.1.a5,h N d.2.2.1,a d.2.2.2.1,f d.2.2.2.2.1,f D.1,f D.2.1,f D.2.2.1,f D.2.2.2.1,f D.2.2.2.2.1,f af.1,f af.2] 142 22 false).bi (e (a E.a0::a E.a1::a E.a2::a E.a3::a E.a4::a E.a5::a F.a0::a F.a1::a F.a2::a F.a3::a F.a4::a F.a5::A) 142 22 false)/\w.bi w/\y.bi y/\True)/\b<=b/\b<=c)/\∀(x_1:Int),let L:=iU o q x_1;let n:=gD d.1 o x_1;let ah:=bN aM x_1.toNat b;let B:=bN [n.a0,n.a1,n.a2,n.a3,n.a4,n.a5] x_1.toNat b - ah;let ai:=if x_1.toNat=0 then B else n.a0;let aj:=if x_1.toNat=1 then B else n.a1;let ak:=if x_1.toNat=2 then B else n.a2;let al:=if x_1.toNat=3 then B else n.a3;let am:=if x_1.toNat=4 then B else n.a4;let an:=if x_1.toNat=5 then B else n.a5;let O:=bN [ai,aj,ak,al,am,an] x_1.toNat b;let P:=decide (b<=O);let m:=x_1+(1:Int);let l:=gD d.2.1 q x_1;let ao:=bN [l.a0,l.a1,l.a2,l.a3,l.a4,l.a5] x_1.toNat b;let C:=ao - ah;let ap:=if x_1.toNat=0 then C else l.a0;let aq:=if x_1.toNat=1 then C else l.a1;let ar:=if x_1.toNat=2 then C else l.a2;let au:=if x_1.toNat=3 then C else l.a3;let av:=if x_1.toNat=4 then C else l.a4;let aw:=if x_1.toNat=5 then C else l.a5;let H:=min (bN [ap,aq,ar,au,av,aw] x_1.toNat b) O;let Q:=if x_1.toNat=0 then H else ap;let R:=if x_1.toNat=1 then H else aq;let S:=if x_1.toNat=2 then H else ar;let T:=if x_1.toNat=3 then H else au;let U:=if x_1.toNat=4 then H else av;let V:=if x_1.toNat=5 then H else aw;let M:=f (iU o q m);let z:=a m;let W:=a ai;let X:=a aj;let Y:=a ak;let Z:=a al;let a6:=a am;let a7:=a an;let I:=gD d.1 o m;let J:=gD d.2.1 q m;let a8:=e (a I.a0::a I.a1::a I.a2::a I.a3::a I.a4::a I.a5::a J.a0::a J.a1::a J.a2::a J.a3::a J.a4::a J.a5::A) 142 22 false;let K:=min ao O;let ax:=if x_1.toNat=0 then K else l.a0;let ay:=if x_1.toNat=1 then K else l.a1;let az:=if x_1.toNat=2 then K else l.a2;let aA:=if x_1.toNat=3 then K else l.a3;let aB:=if x_1.toNat=4 then K else l.a4;let aC:=if x_1.toNat=5 then K else l.a5;let aD:=decide (x_1<c);let aE:=bN aN x_1.toNat b;let aF:=decide (aE=b);let aG:=decide (aE≠bN p.bk x.OA.toNat b);let aO:=let aH:=g m/\((r.bi r/\s.bi s/\t.bi t/\(j).bi M/\v.bi v/\z.bi z/\True)/\(e (W::X::Y::Z::a6::a7::a Q::a R::a S::a T::a U::a V::A) 142 22 false).bi a8/\w.bi w/\y.bi y/\True)/\(b<=m/\m<=c)/\(c - m).toNat<(c - x_1).toNat;x_1.toNat<6/\b<=x_1/\x_1<c/\x_1.toNat<6/\b<=x_1/\x_1<c/\x_1.toNat<6/\(L=true->b<=x_1/\x_1<c/\x_1.toNat<6/\(P=true->b<=x_1/\x_1<c/\x_1.toNat<6/\g m/\((r.bi r/\s.bi s/\t.bi t/\(f (decide (b<=bN [Q,R,S,T,U,V] x_1.toNat b))).bi M/\v.bi v/\z.bi z/\True)/\(e (W::X::Y::Z::a6::a7::a Q::a R::a S::a T::a U::a V::A) 142 22 false).bi a8/\w.bi w/\y.bi y/\True)/\(b<=m/\m<=c)/\(c - m).toNat<(c - x_1).toNat)/\(P=false->aH))/\(L=false->aH);let aI:=(e (W::X::Y::Z::a6::a7::a ax::a ay::a az::a aA::a aB::a aC::A) 142 22 false).bi a8;let aJ:=b<=x_1/\x_1<c/\x_1.toNat<6/\g C/\b<=x_1/\x_1<c/\x_1.toNat<6/\b<=x_1/\x_1<c/\aO;let aK:=g m/\((r.bi r/\s.bi s/\t.bi t/\(j).bi M/\v.bi v/\z.bi z/\True)/\aI/\w.bi w/\y.bi y/\True)/\(b<=m/\m<=c)/\(c - m).toNat<(c - x_1).toNat;let aL:=λ(u:Bool) ↦P=u;b<=x_1/\x_1<=c->(aD=true->b<=x_1/\x_1<c/\b<=x_1/\x_1<c/\x_1.toNat<6/\g B/\b<=x_1/\x_1<c/\x_1.toNat<6/\b<=x_1/\x_1<c/\x_1.toNat<6/\(aF=true->aJ)/\(aF=false->b<=x_1/\x_1<c/\x_1.toNat<6/\b<=x.OA/\x.OA<(↑p.bk.length:Int)/\x.OA.toNat<p.bk.length/\(aG=true->aJ)/\(aG=false->b<=x_1/\x_1<c/\x_1.toNat<6/\b<=x_1/\x_1<c/\x_1.toNat<6/\b<=x_1/\x_1<c/\x_1.toNat<6/\(L=true->b<=x_1/\x_1<c/\x_1.toNat<6/\(aL true->b<=x_1/\x_1<c/\x_1.toNat<6/\g m/\((r.bi r/\s.bi s/\t.bi t/\(f (decide (b<=bN [ax,ay,az,aA,aB,aC] x_1.toNat b))).bi M/\v.bi v/\z.bi z/\True)/\aI/\w.bi w/\y.bi y/\True)/\(b<=m/\m<=c)/\(c - m).toNat<(c - x_1).toNat)/\(aL false->aK))/\(L=false->aK))))/\(aD=false->(f L).bi (f (o.pos&&q.pos))/\(e (a n.a0::a n.a1::a n.a2::a n.a3::a n.a4::a n.a5::a l.a0::a l.a1::a l.a2::a l.a3::a l.a4::a l.a5::A) 142 22 false).bi (e (a o.a0::a o.a1::a o.a2::a o.a3::a o.a4::a o.a5::a q.a0::a q.a1::a q.a2::a q.a3::a q.a4::a q.a5::A) 142 22 false)/\True)) (by kernel_rfl) ?_;simp only[vcs];refine⟨⟨⟨rfl,rfl⟩,by omega,by omega⟩,?_⟩;rintro k ⟨k0,k6⟩;simp only[show bN p.bk x.OA.toNat 0=kZ p x from rfl];generalize hcl:kZ p x=cl at*;constructor
 ·intro hk;rcases(show k=0\/k=1\/k=2\/k=3\/k=4\/k=5 by omega) with rfl|rfl|rfl|rfl|rfl|rfl
  ·have hb0:=hb 0 (by omega);have hw0:0<=x.bx.a0/\x.bx.a0<=4:=by have:=zi.hJ.1 hw;omega
   have b1: -1000<=d.1.a0/\d.1.a0<=1000:=hb0.1;have b2: -1000<=d.2.1.a0/\d.2.1.a0<=1000:=hb0.2;have eo:(fF p (xP d) x).a0=min (d.2.1.a0 - nd p.bt.a0 x.bx.a0 cl) (d.1.a0 - x.bx.a0):=by rw[<-hcl];rfl
   generalize fF p (xP d) x=O at*;by_cases h1:p.bt.a0=0;·simp[gD,bN,zi.sub,iU,pk,eo,nd,h1,kd];grind
   ·by_cases h2:p.bt.a0=cl
    ·subst h2;simp[gD,bN,zi.sub,iU,pk,eo,nd,h1,kd];grind
    ·simp[gD,bN,zi.sub,iU,pk,eo,nd,h1,h2,kd];grind
  ·have hb0:=hb 1 (by omega);have hw0:0<=x.bx.a1/\x.bx.a1<=4:=by have:=zi.hJ.1 hw;omega
   have b1: -1000<=d.1.a1/\d.1.a1<=1000:=hb0.1;have b2: -1000<=d.2.1.a1/\d.2.1.a1<=1000:=hb0.2;have eo:(fF p (xP d) x).a1=min (d.2.1.a1 - nd p.bt.a1 x.bx.a1 cl) (d.1.a1 - x.bx.a1):=by rw[<-hcl];rfl
   generalize fF p (xP d) x=O at*;by_cases h1:p.bt.a1=0;·simp[gD,bN,zi.sub,iU,pk,eo,nd,h1,kd];grind
   ·by_cases h2:p.bt.a1=cl
    ·subst h2;simp[gD,bN,zi.sub,iU,pk,eo,nd,h1,kd];grind
    ·simp[gD,bN,zi.sub,iU,pk,eo,nd,h1,h2,kd];grind
  ·have hb0:=hb 2 (by omega);have hw0:0<=x.bx.a2/\x.bx.a2<=4:=by have:=zi.hJ.1 hw;omega
   have b1: -1000<=d.1.a2/\d.1.a2<=1000:=hb0.1;have b2: -1000<=d.2.1.a2/\d.2.1.a2<=1000:=hb0.2;have eo:(fF p (xP d) x).a2=min (d.2.1.a2 - nd p.bt.a2 x.bx.a2 cl) (d.1.a2 - x.bx.a2):=by rw[<-hcl];rfl
   generalize fF p (xP d) x=O at*;by_cases h1:p.bt.a2=0;·simp[gD,bN,zi.sub,iU,pk,eo,nd,h1,kd];grind
   ·by_cases h2:p.bt.a2=cl
    ·subst h2;simp[gD,bN,zi.sub,iU,pk,eo,nd,h1,kd];grind
    ·simp[gD,bN,zi.sub,iU,pk,eo,nd,h1,h2,kd];grind
  ·have hb0:=hb 3 (by omega);have hw0:0<=x.bx.a3/\x.bx.a3<=4:=by have:=zi.hJ.1 hw;omega
   have b1: -1000<=d.1.a3/\d.1.a3<=1000:=hb0.1;have b2: -1000<=d.2.1.a3/\d.2.1.a3<=1000:=hb0.2;have eo:(fF p (xP d) x).a3=min (d.2.1.a3 - nd p.bt.a3 x.bx.a3 cl) (d.1.a3 - x.bx.a3):=by rw[<-hcl];rfl
   generalize fF p (xP d) x=O at*;by_cases h1:p.bt.a3=0;·simp[gD,bN,zi.sub,iU,pk,eo,nd,h1,kd];grind
   ·by_cases h2:p.bt.a3=cl
    ·subst h2;simp[gD,bN,zi.sub,iU,pk,eo,nd,h1,kd];grind
    ·simp[gD,bN,zi.sub,iU,pk,eo,nd,h1,h2,kd];grind
  ·have hb0:=hb 4 (by omega);have hw0:0<=x.bx.a4/\x.bx.a4<=4:=by have:=zi.hJ.1 hw;omega
   have b1: -1000<=d.1.a4/\d.1.a4<=1000:=hb0.1;have b2: -1000<=d.2.1.a4/\d.2.1.a4<=1000:=hb0.2;have eo:(fF p (xP d) x).a4=min (d.2.1.a4 - nd p.bt.a4 x.bx.a4 cl) (d.1.a4 - x.bx.a4):=by rw[<-hcl];rfl
   generalize fF p (xP d) x=O at*;by_cases h1:p.bt.a4=0;·simp[gD,bN,zi.sub,iU,pk,eo,nd,h1,kd];grind
   ·by_cases h2:p.bt.a4=cl
    ·subst h2;simp[gD,bN,zi.sub,iU,pk,eo,nd,h1,kd];grind
    ·simp[gD,bN,zi.sub,iU,pk,eo,nd,h1,h2,kd];grind
  ·have hb0:=hb 5 (by omega);have hw0:0<=x.bx.a5/\x.bx.a5<=4:=by have:=zi.hJ.1 hw;omega
   have b1: -1000<=d.1.a5/\d.1.a5<=1000:=hb0.1;have b2: -1000<=d.2.1.a5/\d.2.1.a5<=1000:=hb0.2;have eo:(fF p (xP d) x).a5=min (d.2.1.a5 - nd p.bt.a5 x.bx.a5 cl) (d.1.a5 - x.bx.a5):=by rw[<-hcl];rfl
   generalize fF p (xP d) x=O at*;by_cases h1:p.bt.a5=0;·simp[gD,bN,zi.sub,iU,pk,eo,nd,h1,kd];grind
   ·by_cases h2:p.bt.a5=cl
    ·subst h2;simp[gD,bN,zi.sub,iU,pk,eo,nd,h1,kd];grind
    ·simp[gD,bN,zi.sub,iU,pk,eo,nd,h1,h2,kd];grind
 ·intro hk;have:k=6:=by omega
  subst this;simp[gD,zi.sub,iU,pk,zi.pos,Bool.and_assoc];exact⟨by ac_rfl,rfl⟩
noncomputable def Jc (L:List M9) (W:ky) (a:Nat->Option (Nat×Nat×Nat)):ic:=⟨⟨tI L,W.C⟩,mi,ml,a,fQ,λ_=>false⟩
theorem Rt {L:List M9} {W:ky} (e:Nat->Option (Nat×Nat×Nat)) (c:M9) (F:ey) (g:c.α->Nat->bG) (i:mB Tryz.prog W) (k:∀c∈L,Holds Tryz.prog c)
  
  (h:∀a,c.dom a->Vc (oj (Jc L W e) (g a) F (c.A.put a) λv=>v.pW (c.res a))) (l:fQ c.f=some F:=by kernel_rfl) (d:lD c.f L=none:=by kernel_rfl) (b:∀a,(c.A.put a).length=F.params:=by intro _;kernel_rfl):Holds Tryz.prog c:=
 λa j=>AY (p:=Jc L W e) (Λ:=g a) (rJ i k pJ) (rI i) (λ_ _ h=>h) l (Fw d) (b a) (λ_ h=>vc h) (h a j).out
def n4 (p:cj) (u:iK) (i:Int):iK:=if ik p u (oI p i)=true then d_ p u i else zX
def xf (u:iK):Prop:=(∀k,k<6->(-1000<=u.left.at k/\u.left.at k<=1000)/\(-1000<=u.bs.at k/\u.bs.at k<=1000))/\(0<=u.value/\u.value<=160000000)/\u.bn.length<=1000
def BK:M9:=⟨79,wy×cj×Int,.cons (dy pO) (.cons cO (.one (dX .i64))),λa=>nW a.2.1=0/\xf (xP a.1)/\0<=a.2.2/\a.2.2<a.2.1.bj.length,
 λa=> .Gz [.agg (cJ pO (fP (n4 a.2.1 (xP a.1) a.2.2))),.sb (ik a.2.1 (xP a.1) (oI a.2.1 a.2.2))]⟩
def Rs (n:Nat):Option (Nat×Nat×Nat):=if n=2 then some (3,0,8) else none
theorem yH:Holds Tryz.prog BK:=by
 refine Rt (L:=[]) (W:=fT [C0]) Rs BK (fG 79) lk (kf (by simpa using HX)) (by simp) ?_;rintro⟨⟨l,o,c,v,w0,w1,w2,w3,w4,w5,w6,w7⟩,p,i⟩ ⟨hc,hd,i0,i1⟩;simp only at hc hd i0 i1;refine NH (let a:=γf .i64;let b:=γy;let d:=(-1000:Int);let e:=(1000:Int);let f:=γJ;let g:=SV.Gz;let h:=(0:Int);let j:=δd true;let m:=VI .i64;let n:=(1:Int);let q:=(2:Int);let r:=(3:Int);let s:=(4:Int);let t:=(5:Int);let u:=(6:Int);let w:=(7:Int);let x:=Ψ;let L:=γv .i64 0;let ac:=ew.i .i64;let P:=x ac [];let Q:=δd false;let M:=xP (l,o,c,v,w0,w1,w2,w3,w4,w5,w6,w7);let aa:=(fP (n4 p M i)).1;let N:=(fP (n4 p M i)).2;let ab:=N.2.2.2.2.2;let y:=g [f [a aa.a0,a aa.a1,a aa.a2,a aa.a3,a aa.a4,a aa.a5,a N.1.a0,a N.1.a1,a N.1.a2,a N.1.a3,a N.1.a4,a N.1.a5,x ac N.2.1,a N.2.2.1,b N.2.2.2.1,b N.2.2.2.2.1,b ab.1,b ab.2.1,b ab.2.2.1,b ab.2.2.2.1,b ab.2.2.2.2.1,b ab.2.2.2.2.2],b (ik p M (oI p i))];let ad:=bN p.bj i.toNat ew.bu.bw;let O:=ad.OA;let G:=ad.bx;let R:=(↑p.bk.length:Int);let a9:=l.sub G;let I:=a9.pos;let H:=ad.value;let S:=fF p M (bC.mk h G H);let A:=a a9.a0;let B:=a a9.a1;let C:=a a9.a2;let D:=a a9.a3;let E:=a a9.a4;let F:=a a9.a5;let ae:=a S.a0;let af:=a S.a1;let ag:=a S.a2;let ah:=a S.a3;let ai:=a S.a4;let aj:=a S.a5;let T:=a (v+H);let ak:=[b w6,b w7];let al:=b w4::b w5::ak;let bc:=b w2::b w3::al;let am:=T::j::b w1::bc;let z:=[j];let U:=x ac [i];let J:=c.length+1;let V:=x ac (c++[i]);let W:=fF p M (bC.mk n G H);let an:=a W.a0;let ao:=a W.a1;let ap:=a W.a2;let aq:=a W.a3;let ar:=a W.a4;let au:=a W.a5;let av:=T::b w0::j::bc;let X:=fF p M (bC.mk q G H);let aw:=a X.a0;let ax:=a X.a1;let ay:=a X.a2;let az:=a X.a3;let aA:=a X.a4;let aB:=a X.a5;let aC:=T::b w0::b w1::j::b w3::al;let Y:=fF p M (bC.mk r G H);let aD:=a Y.a0;let aE:=a Y.a1;let aF:=a Y.a2;let aG:=a Y.a3;let aH:=a Y.a4;let aI:=a Y.a5;let aJ:=T::b w0::b w1::b w2::j::al;let Z:=fF p M (bC.mk s G H);let aK:=a Z.a0;let aL:=a Z.a1;let aM:=a Z.a2;let aN:=a Z.a3;let aO:=a Z.a4;let aP:=a Z.a5;let aQ:=T::b w0::b w1::b w2::b w3::j::b w5::ak;let a6:=fF p M (bC.mk t G H);let aR:=a a6.a0;let aS:=a a6.a1;let aT:=a a6.a2;let aU:=a a6.a3;let aV:=a a6.a4;let aW:=a a6.a5;let aX:=T::b w0::b w1::b w2::b w3::b w4::j::ak;let a7:=fF p M (bC.mk u G H);let aY:=a a7.a0;let aZ:=a a7.a1;let b0:=a a7.a2;let b1:=a a7.a3;let b2:=a a7.a4;let b3:=a a7.a5;let b4:=[T,b w0,b w1,b w2,b w3,b w4,b w5,j,b w7];let a8:=fF p M (bC.mk w G H);let b5:=a a8.a0;let b6:=a a8.a1;let b7:=a a8.a2;let b8:=a a8.a3;let b9:=a a8.a4;let ba:=a a8.a5;let bb:=T::b w0::b w1::b w2::b w3::b w4::b w5::b w6::z;let K:=(g [f [L,L,L,L,L,L,L,L,L,L,L,L,P,L,Q,Q,Q,Q,Q,Q,Q,Q],Q]).bi y;h<=i/\i<(↑p.bj.length:Int)/\i.toNat<p.bj.length/\(O=h->(w0=true->K)/\(w0=false->(((∀(k:Nat),k<6->(d<=l.at k/\l.at k<=e)/\d<=o.at k/\o.at k<=e)/\G.ok=true)/\h<=h/\h<R)/\((!(I&&S.pos))=true->K)/\((!(I&&S.pos))=false->m (v+H)/\(c.length=0->(1=0->(g (f (A::B::C::D::E::F::ae::af::ag::ah::ai::aj::P::am)::z)).bi y)/\(1≠0->8<=140737488355328/\1<=1000000000000/\1=1/\(g (f (A::B::C::D::E::F::ae::af::ag::ah::ai::aj::U::am)::z)).bi y))/\(c.length≠0->c.length*8<=140737488355328/\c.length<=1000000000000/\c.length=c.length/\J*8<=140737488355328/\J<=1000000000000/\(c++[i]).length=(c++[i]).length/\(g (f (A::B::C::D::E::F::ae::af::ag::ah::ai::aj::V::am)::z)).bi y))))/\(O=n->(w1=true->K)/\(w1=false->(((∀(k:Nat),k<6->(d<=l.at k/\l.at k<=e)/\d<=o.at k/\o.at k<=e)/\G.ok=true)/\h<=n/\n<R)/\((!(I&&W.pos))=true->K)/\((!(I&&W.pos))=false->m (v+H)/\(c.length=0->(1=0->(g (f (A::B::C::D::E::F::an::ao::ap::aq::ar::au::P::av)::z)).bi y)/\(1≠0->8<=140737488355328/\1<=1000000000000/\1=1/\(g (f (A::B::C::D::E::F::an::ao::ap::aq::ar::au::U::av)::z)).bi y))/\(c.length≠0->c.length*8<=140737488355328/\c.length<=1000000000000/\c.length=c.length/\J*8<=140737488355328/\J<=1000000000000/\(c++[i]).length=(c++[i]).length/\(g (f (A::B::C::D::E::F::an::ao::ap::aq::ar::au::V::av)::z)).bi y))))/\(O=q->(w2=true->K)/\(w2=false->(((∀(k:Nat),k<6->(d<=l.at k/\l.at k<=e)/\d<=o.at k/\o.at k<=e)/\G.ok=true)/\h<=q/\q<R)/\((!(I&&X.pos))=true->K)/\((!(I&&X.pos))=false->m (v+H)/\(c.length=0->(1=0->(g (f (A::B::C::D::E::F::aw::ax::ay::az::aA::aB::P::aC)::z)).bi y)/\(1≠0->8<=140737488355328/\1<=1000000000000/\1=1/\(g (f (A::B::C::D::E::F::aw::ax::ay::az::aA::aB::U::aC)::z)).bi y))/\(c.length≠0->c.length*8<=140737488355328/\c.length<=1000000000000/\c.length=c.length/\J*8<=140737488355328/\J<=1000000000000/\(c++[i]).length=(c++[i]).length/\(g (f (A::B::C::D::E::F::aw::ax::ay::az::aA::aB::V::aC)::z)).bi y))))/\(O=r->(w3=true->K)/\(w3=false->(((∀(k:Nat),k<6->(d<=l.at k/\l.at k<=e)/\d<=o.at k/\o.at k<=e)/\G.ok=true)/\h<=r/\r<R)/\((!(I&&Y.pos))=true->K)/\((!(I&&Y.pos))=false->m (v+H)/\(c.length=0->(1=0->(g (f (A::B::C::D::E::F::aD::aE::aF::aG::aH::aI::P::aJ)::z)).bi y)/\(1≠0->8<=140737488355328/\1<=1000000000000/\1=1/\(g (f (A::B::C::D::E::F::aD::aE::aF::aG::aH::aI::U::aJ)::z)).bi y))/\(c.length≠0->c.length*8<=140737488355328/\c.length<=1000000000000/\c.length=c.length/\J*8<=140737488355328/\J<=1000000000000/\(c++[i]).length=(c++[i]).length/\(g (f (A::B::C::D::E::F::aD::aE::aF::aG::aH::aI::V::aJ)::z)).bi y))))/\(O=s->(w4=true->K)/\(w4=false->(((∀(k:Nat),k<6->(d<=l.at k/\l.at k<=e)/\d<=o.at k/\o.at k<=e)/\G.ok=true)/\h<=s/\s<R)/\((!(I&&Z.pos))=true->K)/\((!(I&&Z.pos))=false->m (v+H)/\(c.length=0->(1=0->(g (f (A::B::C::D::E::F::aK::aL::aM::aN::aO::aP::P::aQ)::z)).bi y)/\(1≠0->8<=140737488355328/\1<=1000000000000/\1=1/\(g (f (A::B::C::D::E::F::aK::aL::aM::aN::aO::aP::U::aQ)::z)).bi y))/\(c.length≠0->c.length*8<=140737488355328/\c.length<=1000000000000/\c.length=c.length/\J*8<=140737488355328/\J<=1000000000000/\(c++[i]).length=(c++[i]).length/\(g (f (A::B::C::D::E::F::aK::aL::aM::aN::aO::aP::V::aQ)::z)).bi y))))/\(O=t->(w5=true->K)/\(w5=false->(((∀(k:Nat),k<6->(d<=l.at k/\l.at k<=e)/\d<=o.at k/\o.at k<=e)/\G.ok=true)/\h<=t/\t<R)/\((!(I&&a6.pos))=true->K)/\((!(I&&a6.pos))=false->m (v+H)/\(c.length=0->(1=0->(g (f (A::B::C::D::E::F::aR::aS::aT::aU::aV::aW::P::aX)::z)).bi y)/\(1≠0->8<=140737488355328/\1<=1000000000000/\1=1/\(g (f (A::B::C::D::E::F::aR::aS::aT::aU::aV::aW::U::aX)::z)).bi y))/\(c.length≠0->c.length*8<=140737488355328/\c.length<=1000000000000/\c.length=c.length/\J*8<=140737488355328/\J<=1000000000000/\(c++[i]).length=(c++[i]).length/\(g (f (A::B::C::D::E::F::aR::aS::aT::aU::aV::aW::V::aX)::z)).bi y))))/\(O=u->(w6=true->K)/\(w6=false->(((∀(k:Nat),k<6->(d<=l.at k/\l.at k<=e)/\d<=o.at k/\o.at k<=e)/\G.ok=true)/\h<=u/\u<R)/\((!(I&&a7.pos))=true->K)/\((!(I&&a7.pos))=false->m (v+H)/\(c.length=0->(1=0->(g (f (A::B::C::D::E::F::aY::aZ::b0::b1::b2::b3::P::b4)::z)).bi y)/\(1≠0->8<=140737488355328/\1<=1000000000000/\1=1/\(g (f (A::B::C::D::E::F::aY::aZ::b0::b1::b2::b3::U::b4)::z)).bi y))/\(c.length≠0->c.length*8<=140737488355328/\c.length<=1000000000000/\c.length=c.length/\J*8<=140737488355328/\J<=1000000000000/\(c++[i]).length=(c++[i]).length/\(g (f (A::B::C::D::E::F::aY::aZ::b0::b1::b2::b3::V::b4)::z)).bi y))))/\(O=w->(w7=true->K)/\(w7=false->(((∀(k:Nat),k<6->(d<=l.at k/\l.at k<=e)/\d<=o.at k/\o.at k<=e)/\G.ok=true)/\h<=w/\w<R)/\((!(I&&a8.pos))=true->K)/\((!(I&&a8.pos))=false->m (v+H)/\(c.length=0->(1=0->(g (f (A::B::C::D::E::F::b5::b6::b7::b8::b9::ba::P::bb)::z)).bi y)/\(1≠0->8<=140737488355328/\1<=1000000000000/\1=1/\(g (f (A::B::C::D::E::F::b5::b6::b7::b8::b9::ba::U::bb)::z)).bi y))/\(c.length≠0->c.length*8<=140737488355328/\c.length<=1000000000000/\c.length=c.length/\J*8<=140737488355328/\J<=1000000000000/\(c++[i]).length=(c++[i]).length/\(g (f (A::B::C::D::E::F::b5::b6::b7::b8::b9::ba::V::bb)::z)).bi y))))/\h<=O/\O<(8:Int)) (by kernel_rfl) ?_;simp only[vcs];have hg:=(cT hc).2.2.2.2 (oI p i) (cE (by omega));have hc8:=(cT hc).1;obtain⟨h1,h2,h3⟩:=hd;have h1':∀k,k<6->(-1000<=l.at k/\l.at k<=1000)/\(-1000<=o.at k/\o.at k<=1000):=h1;have h2':0<=v/\v<=160000000:=h2;have h3':c.length<=1000:=h3;refine⟨i0,i1,by omega,?_⟩;have eo:bN p.bj i.toNat ew.bu.bw=oI p i:=rfl;simp only[eo];generalize hr:fP (n4 p (xP (l,o,c,v,w0,w1,w2,w3,w4,w5,w6,w7)) i)=r;simp only[n4,d_] at hr;generalize hW:ik p (xP (l,o,c,v,w0,w1,w2,w3,w4,w5,w6,w7)) (oI p i)=W at*;simp only[ik] at hW;generalize oI p i=x at*;obtain⟨b,w,y⟩:=x;simp only at hg hW hr ⊢;refine⟨?_,?_,?_,?_,?_,?_,?_,?_,?_⟩;case refine_9=>
  exact⟨hg.1,by omega⟩
 all_goals
  rintro rfl;refine⟨λhw=>?_,λhw=>⟨⟨⟨h1',hg.2.2.1⟩,by omega,by omega⟩,λhq=>?_,λhq=>⟨by omega,λhl=>⟨λh=>absurd h (by decide),λ_=>⟨by omega,by omega,?_⟩⟩,λhl=>⟨by omega,by omega,by omega,by omega,?_⟩⟩⟩⟩;all_goals subst hw
  ·have e:W=false:=hW.symm;subst e;subst hr;exact⟨rfl,rfl⟩
  ·have e:W=false:=hW.symm.trans hq;subst e;subst hr;exact⟨rfl,rfl⟩
  ·have e:W=true:=hW.symm.trans (by simp only[θ];exact⟨rfl,hq⟩);subst e;subst hr;have:=List.eq_nil_of_length_eq_zero hl;subst this;exact⟨rfl,rfl⟩
  ·have e:W=true:=hW.symm.trans (by simp only[θ];exact⟨rfl,hq⟩);subst e;subst hr;exact⟨rfl,rfl⟩
def CZ:M9:=⟨81,wy×cj×Int,.cons (dy pO) (.cons cO (.one (dX .i64))),λa=>nW a.2.1=0/\xf (xP a.1)/\0<=a.2.2/\a.2.2<=a.2.1.bj.length,
 λa=> .agg (fR a.2.1 (xP a.1) a.2.2.toNat).ss⟩
def nu (p:cj) (u:iK) (i k:Nat):List bC:=((p.bj.take k).drop i).filter (ik p u)
theorem Rr {p:cj} {u:iK} {i:Nat}:nu p u i i=[]:=by
 grind[nu]
theorem Rq {p:cj} {u:iK} {i k:Nat} (b:i<=k) (a:k<p.bj.length):nu p u i (k+1)=nu p u i k++if ik p u (oI p k)=true then[oI p k] else[]:=by
 unfold nu;have e:oI p k=p.bj[k]:=b_ (by omega);rw[List.take_succ_eq_append_getElem a,List.drop_append_of_le_length (by grind),List.filter_append,e];grind
theorem Rp {p:cj} {u:iK} {i k:Nat}:(nu p u i k).length<=p.bj.length:=by
 grind[nu]
def Ro (l o:zi) (c:List Int) (v:Int) (w0 w1 w2 w3 w4 w5 w6 w7:Bool) (p:cj) (i:Int):Nat->bG
 |3=> .inv Int (λk=>⟨[(3,.ptr 0 0 22),(4,.ptr 1 0 20),(6,.ptr 2 0 20),(7,.ptr 3 0 20),(8,.si .i64 k)],
   [.cells (cJ pO (l,o,c,v,w0,w1,w2,w3,w4,w5,w6,w7)) 142 22 false,.cells p.ss 27 20 false,
    .cells [.il .i64 0,.il .i64 0,.il .i64 0,.il .i64 0,.il .i64 0,.il .i64 0,.il .i64 0,.il .i64 0,.il .i64 0,.il .i64 0,.il .i64 0,.il .i64 0,.il .i64 0,.il .i64 0,.il .i64 0,.il .i64 0,.il .i64 0,.il .i64 0,.sc (.slice none 0 0),.sc (.slice none 0 0)] 27 20 false,
    .cells [.si .i64 l.a0,.si .i64 l.a1,.si .i64 l.a2,.si .i64 l.a3,.si .i64 l.a4,.si .i64 l.a5,.si .i64 o.a0,.si .i64 o.a1,.si .i64 o.a2,.si .i64 o.a3,.si .i64 o.a4,.si .i64 o.a5,
     .si .i64 p.bt.a0,.si .i64 p.bt.a1,.si .i64 p.bt.a2,.si .i64 p.bt.a3,.si .i64 p.bt.a4,.si .i64 p.bt.a5,.row (.i .i64) p.bk,.ow 4 (nu p (xP (l,o,c,v,w0,w1,w2,w3,w4,w5,w6,w7)) i.toNat k.toNat).length 8] 27 20 false,
    .row .bu (nu p (xP (l,o,c,v,w0,w1,w2,w3,w4,w5,w6,w7)) i.toNat k.toNat) 65 true]⟩)
   (λs=>iS s 8) (λk=>i<=k/\k<=p.bj.length) (λk=>(p.bj.length - k).toNat) λ_ _=> .look
 |_=> .look
theorem H1:Holds Tryz.prog CZ:=by
 refine bI (L:=[BK]) CZ (λa=>Ro a.1.1 a.1.2.1 a.1.2.2.1 a.1.2.2.2.1 a.1.2.2.2.2.1 a.1.2.2.2.2.2.1 a.1.2.2.2.2.2.2.1 a.1.2.2.2.2.2.2.2.1 a.1.2.2.2.2.2.2.2.2.1 a.1.2.2.2.2.2.2.2.2.2.1 a.1.2.2.2.2.2.2.2.2.2.2.1 a.1.2.2.2.2.2.2.2.2.2.2.2 a.2.1 a.2.2) (by simpa using yH) ?_;rintro⟨⟨l,o,c,v,w0,w1,w2,w3,w4,w5,w6,w7⟩,p,i⟩ ⟨hc,hd,i0,i1⟩;simp only at hc hd i0 i1;refine NH (let a:=γf .i64;let b:=iZ.cells;let d:=iZ.row;let e:=γy;let f:=Ψ;let g:=γK;let h:=(0:Int);let j:=SV.ow;let y:=a p.bt.a0;let z:=a p.bt.a1;let A:=a p.bt.a2;let B:=a p.bt.a3;let C:=a p.bt.a4;let D:=a p.bt.a5;let Z:=ew.i .i64;let E:=f Z p.bk;let G:=g 0 0 22;let H:=g 1 0 20;let I:=g 2 0 20;let J:=g 3 0 20;let K:=a l.a0;let L:=a l.a1;let M:=a l.a2;let N:=a l.a3;let O:=a l.a4;let P:=a l.a5;let Q:=a o.a0;let R:=a o.a1;let S:=a o.a2;let T:=a o.a3;let U:=a o.a4;let V:=a o.a5;let W:=b [K,L,M,N,O,P,Q,R,S,T,U,V,f Z c,a v,e w0,e w1,e w2,e w3,e w4,e w5,e w6,e w7] 142 22 false;let X:=f ew.bu p.bj;let k:=γv .i64 0;let a8:=SV.sc (Value.slice none 0 0);let Y:=b [k,k,k,k,k,k,k,k,k,k,k,k,k,k,k,k,k,k,a8,a8] 27 20 false;let n:=xP (l,o,c,v,w0,w1,w2,w3,w4,w5,w6,w7);let a9:=nu p n i.toNat i.toNat;let q:=(↑p.bj.length:Int);let a6:=(↑p.bj.length:Int);let F:=fR p n i.toNat;let r:=F.bm;let s:=F.bs;let t:=F.bt;let a7:=λ(u u_1:zi) (u_2 u_3:SV) ↦let aa:=a u.a0;let ab:=a u.a1;let ac:=a u.a2;let ad:=a u.a3;let ae:=a u.a4;let af:=a u.a5;let ag:=a u_1.a0;let ah:=a u_1.a1;let ai:=a u_1.a2;let aj:=a u_1.a3;let ak:=a u_1.a4;let al:=a u_1.a5;(b [aa,ab,ac,ad,ae,af,ag,ah,ai,aj,ak,al,y,z,A,B,C,D,E,u_2] 27 20 false).bi (b [aa,ab,ac,ad,ae,af,ag,ah,ai,aj,ak,al,y,z,A,B,C,D,E,u_3] 27 20 false);(((G.bi G/\H.bi H/\I.bi I/\J.bi J/\(a i).bi (a i)/\True)/\W.bi W/\a7 p.bm p.bs X X/\Y.bi Y/\a7 l o (j 4 0 8) (j 4 a9.length 8)/\(d ew.bu [] 65 true).bi (d ew.bu a9 65 true)/\True)/\i<=i/\i<=q)/\∀(x:Int),let w:=x+(1:Int);let am:=a w;let an:=nu p n i.toNat w.toNat;let ao:=ik p n (oI p x);let m:=nu p n i.toNat x.toNat;let ap:=m.length+1;let aq:=m++[bN p.bj x.toNat ew.bu.bw];let ar:=λ(u:Nat) (u_1:iZ) ↦VI .i64 w/\((G.bi G/\H.bi H/\I.bi I/\J.bi J/\am.bi am/\True)/\W.bi W/\a7 p.bm p.bs X X/\Y.bi Y/\(b [K,L,M,N,O,P,Q,R,S,T,U,V,y,z,A,B,C,D,E,j 4 u 8] 27 20 false).bi (b [K,L,M,N,O,P,Q,R,S,T,U,V,y,z,A,B,C,D,E,j 4 an.length 8] 27 20 false)/\u_1.bi (d ew.bu an 65 true)/\True)/\(i<=w/\w<=q)/\(q - w).toNat<(q - x).toNat;i<=x/\x<=q->(decide (x<a6)=true->(nW p=h/\xf n/\h<=x/\x<q)/\(ao=true->h<=x/\x<a6/\x.toNat<p.bj.length/\1=1/\m.length=m.length/\ap*64<=140737488355328/\ap<=1000000000000/\ar aq.length (d ew.bu aq 65 true))/\(ao=false->ar m.length (d ew.bu m 65 true)))/\(decide (x<a6)=false->m.length=m.length/\(γJ [K,L,M,N,O,P,Q,R,S,T,U,V,y,z,A,B,C,D,E,f ew.bu m]).bi (γJ [a r.a0,a r.a1,a r.a2,a r.a3,a r.a4,a r.a5,a s.a0,a s.a1,a s.a2,a s.a3,a s.a4,a s.a5,a t.a0,a t.a1,a t.a2,a t.a3,a t.a4,a t.a5,f Z F.bk,f ew.bu F.bj]))) (by kernel_rfl) ?_;simp only[vcs];have hl:p.bj.length<=160:=(cT hc).2.1;generalize hu:xP (l,o,c,v,w0,w1,w2,w3,w4,w5,w6,w7)=u at*;have e0:=@Rr p u i.toNat;refine⟨⟨⟨by rw[e0];rfl,by rw[e0];rfl⟩,by omega,by omega⟩,?_⟩;rintro k ⟨k0,k1⟩;have hlen:=@Rp p u i.toNat k.toNat;refine⟨λhk=>?_,λhk=>?_⟩
 ·have eS:=@Rq p u i.toNat k.toNat (by omega) (by omega);rw[show((k.toNat:Nat):Int)=k by omega] at eS;have eo:bN p.bj k.toNat ew.bu.bw=oI p k:=rfl;rw[show(k+1).toNat=k.toNat+1 by omega,eS,eo];refine⟨⟨hc,hd,by omega,by omega⟩,λhw=>?_,λhw=>?_⟩
  ·rw[if_pos hw];refine⟨?_,?_,?_,?_,?_,?_,⟨rfl,rfl⟩,?_,?_⟩<;>omega
  ·rw[if_neg (by rw[hw];simp),List.append_nil];refine⟨?_,⟨rfl,rfl⟩,?_,?_⟩<;>omega
 ·rw[show k.toNat=p.bj.length by omega];subst hu;unfold nu;rw[List.take_length];rfl
noncomputable def CY:M9:=⟨56,cj×Int,.cons cO (.one (dX .i64)),λa=>(nW a.1=0/\a.1.bj.length<=15)/\a.2=(VL a.1).value,
 λa=> .Gz [.row (.i .i64) (VL a.1).bn,.si .i64 0]⟩
noncomputable def Rn (p:cj) (m:Int):Nat->bG
 |3=> .inv Int (λk=>⟨[(1,.si .i64 m),(2,.ptr 0 0 20),(6,.ptr 1 0 22),(21,.si .i64 p.bj.length),(22,.si .i64 k)],
   [.cells p.ss 27 20 false,.cells (cJ pO (fP (je p m k.toNat))) 142 22 false,.dead]⟩)
   (λs=>iS s 22) (λk=>0<=k/\k<=p.bj.length) (λk=>(p.bj.length - k).toNat) λ_ _=> .look
 |_=> .look
theorem R9 {b a:Type} (x:b×a):(x.1,x.2)=x:=rfl
theorem Jb {p:cj} {m:Int} {k:Nat} (h:(je p m k).value=m):∀n,je p m (k+n)=je p m k
 |0=>rfl
 |n+1=>by
  have a:=Jb h n;simp_all[oT,je]
theorem R8 {p:cj} {u:iK} {i:Int} (h:u.won.length=8):(n4 p u i).won.length=8:=by
 unfold n4;split
 ·show(u.won.set _ true).length=8;simp_all
 ·rfl
theorem Ja {p:cj} {u:iK} (e:nW p=0) (d:pt p u):xf u:=by
 have g:=BS e d (k:=0);have j:=uu.1 (rG (rF g).1).1;have i:∀k,k<6->0<=u.bs.at k/\u.bs.at k<=u.left.at k:=λk c=>⟨(s8 g c).2.2.1,(s8 g c).2.2.2.1⟩;have h:=(oU e).2 d.f;obtain⟨m,q,n⟩:=ra e h;have o:u.value=cA p u.bn:=by rw[d.v,uB e d.f]
 refine⟨λk c=>?_,by omega,by omega⟩;have a:=j k c;have b:=i k c;have l:0<=u.left.at k/\u.left.at k<=4:=a;omega
theorem H4:Holds Tryz.prog CY:=by
 refine bI (L:=[BK,CZ,C1]) CY (λa=>Rn a.1 a.2) (by simpa using⟨yH,H1,H5⟩) ?_;rintro⟨p,m⟩ ⟨⟨hc,h15⟩,hm⟩;simp only at hc h15 hm;refine NH (let a:=γf .i64;let b:=γy;let c:=(0:Int);let d:=iZ.cells;let e:=Ψ;let f:=VI .i64;let g:=(65536:Int);let h:=SV.Gz;let A:=γK 0 0 20;let B:=γK 1 0 22;let k:=(↑p.bj.length:Int);let M:=a k;let Q:=γv .i64 0;let U:=a 0;let V:=a p.bm.a0;let W:=a p.bm.a1;let X:=a p.bm.a2;let Y:=a p.bm.a3;let Z:=a p.bm.a4;let a6:=a p.bm.a5;let a7:=a p.bs.a0;let a8:=a p.bs.a1;let a9:=a p.bs.a2;let aa:=a p.bs.a3;let ab:=a p.bs.a4;let ac:=a p.bs.a5;let o:=ew.i .i64;let C:=d [V,W,X,Y,Z,a6,a7,a8,a9,aa,ab,ac,a p.bt.a0,a p.bt.a1,a p.bt.a2,a p.bt.a3,a p.bt.a4,a p.bt.a5,e o p.bk,e ew.bu p.bj] 27 20 false;let q:=δd false;let D:=fP (je p m 0);let E:=D.1;let F:=D.2.1;let G:=D.2.2.2.2.2;let ad:=G.2.2.2.2.2;let ae:=h [e o (VL p).bn,U];0=0/\((((a m).bi (a m)/\A.bi A/\B.bi B/\(a (↑p.bj.length:Int)).bi M/\Q.bi U/\True)/\C.bi C/\(d [V,W,X,Y,Z,a6,a7,a8,a9,aa,ab,ac,e o [],Q,q,q,q,q,q,q,q,q] 142 22 false).bi (d [a E.a0,a E.a1,a E.a2,a E.a3,a E.a4,a E.a5,a F.a0,a F.a1,a F.a2,a F.a3,a F.a4,a F.a5,e o D.2.2.1,a D.2.2.2.1,b D.2.2.2.2.1,b G.1,b G.2.1,b G.2.2.1,b G.2.2.2.1,b G.2.2.2.2.1,b ad.1,b ad.2] 142 22 false)/\iZ.dead.bi iZ.dead/\True)/\c<=c/\c<=k)/\∀(x:Int),let j:=x+(1:Int);let N:=a j;let s:=fP (je p m x.toNat);let t:=s.1;let v:=s.2.1;let af:=e o s.2.2.1;let R:=s.2.2.2.1;let ag:=s.2.2.2.2.1;let l:=s.2.2.2.2.2;let ah:=l.2.2.2.2.1;let O:=l.2.2.2.2.2;let H:=fP (je p m j.toNat);let I:=H.1;let J:=H.2.1;let K:=H.2.2.2.2.2;let ai:=K.2.2.2.2.2;let aj:=d [a I.a0,a I.a1,a I.a2,a I.a3,a I.a4,a I.a5,a J.a0,a J.a1,a J.a2,a J.a3,a J.a4,a J.a5,e o H.2.2.1,a H.2.2.2.1,b H.2.2.2.2.1,b K.1,b K.2.1,b K.2.2.1,b K.2.2.2.1,b K.2.2.2.2.1,b ai.1,b ai.2] 142 22 false;let P:=xP (t,v,s.2.2.1,R,ag,l.1,l.2.1,l.2.2.1,l.2.2.2.1,ah,O.1,O.2);let w:=(fP (n4 p P x)).1;let r:=(fP (n4 p P x)).2;let y:=r.1;let z:=r.2.2.1;let ak:=r.2.2.2.2.1;let n:=r.2.2.2.2.2;let al:=n.2.2.2.2.1;let am:=n.2.2.2.2.2;let S:=fR p (xP (w,y,r.2.1,z,r.2.2.2.1,ak,n.1,n.2.1,n.2.2.1,n.2.2.2.1,al,am)) j.toNat;let an:=im S (m - z) g;let ao:=f j/\(((a m).bi (a m)/\A.bi A/\B.bi B/\M.bi M/\N.bi N/\True)/\C.bi C/\(d [a t.a0,a t.a1,a t.a2,a t.a3,a t.a4,a t.a5,a v.a0,a v.a1,a v.a2,a v.a3,a v.a4,a v.a5,af,a R,b ag,b l.1,b l.2.1,b l.2.2.1,b l.2.2.2.1,b ah,b O.1,b O.2] 142 22 false).bi aj/\iZ.dead.bi iZ.dead/\True)/\(c<=j/\j<=k)/\(k - j).toNat<(k - x).toNat;let ap:=(h [af,Q]).bi ae;let aq:=λ(u:Bool) ↦jf S (m - z) g=u;let ar:=λ(u:Bool) ↦decide (an≠c)=u;let au:=λ(u:iK) ↦let L:=(fP u).2.2.2.2;let T:=L.2.2.2.2.2;xf (xP ((fP u).1,(fP u).2.1,(fP u).2.2.1,(fP u).2.2.2.1,L.1,L.2.1,L.2.2.1,L.2.2.2.1,L.2.2.2.2.1,T.1,T.2.1,T.2.2));let av:=λ(u:Bool) ↦(!ik p P (oI p x))=u;let aw:=λ(u:Bool) ↦decide (R=m)=u;c<=x/\x<=k->(decide (x<k)=true->(aw true->ap)/\(aw false->(nW p=c/\au (je p m x.toNat)/\c<=x/\x<k)/\(av true->ao)/\(av false->f j/\(nW p=c/\au (n4 p P x)/\c<=j/\j<=k)/\f (m - z)/\(S.bj.length<=20/\(-9223372036854775808:Int)<=m - z/\m - z<=(9223372036854775807:Int))/\(ar true->(h [e o [],a an]).bi ae)/\(ar false->(aq true->f j/\(((a m).bi (a m)/\A.bi A/\B.bi B/\M.bi M/\N.bi N/\True)/\C.bi C/\(d [a w.a0,a w.a1,a w.a2,a w.a3,a w.a4,a w.a5,a y.a0,a y.a1,a y.a2,a y.a3,a y.a4,a y.a5,e o r.2.1,a z,b r.2.2.2.1,b ak,b n.1,b n.2.1,b n.2.2.1,b n.2.2.2.1,b al,b am] 142 22 false).bi aj/\iZ.dead.bi iZ.dead/\True)/\(c<=j/\j<=k)/\(k - j).toNat<(k - x).toNat)/\(aq false->ao)))))/\(decide (x<k)=false->ap)) (by kernel_rfl) ?_;simp only[vcs];simp only[R9];refine⟨⟨rfl,by omega,by omega⟩,?_⟩;rintro k ⟨k0,k1⟩;obtain⟨hG,hC⟩:=D_ hc h15 k.toNat (by omega);rw[<-hm] at hG hC;generalize hu:je p m k.toNat=u at*;have hW:=@R8 p u k hG.wl;simp only[Jd hG.wl,Jd hW];have hrun:je p m (k+1).toNat=oT p m u k:=by
  rw[show(k+1).toNat=k.toNat+1 by omega];show oT p m (je p m k.toNat) _=_;rw[hu,show((k.toNat:Nat):Int)=k by omega]
 have hD:=Ja hc hG;refine⟨λhk=>⟨λhv=>?_,λhv0=>⟨⟨hc,hD,by omega,by omega⟩,λhw=>?_,λhw=>?_⟩⟩,λhk=>?_⟩
 ·have h1:=@Jb p m k.toNat (by rw[hu];exact hv) (p.bj.length - k.toNat);rw[show k.toNat+(p.bj.length - k.toNat)=p.bj.length by omega,hu] at h1;show u.bn=_;rw[<-h1,hm,KL hc h15]
 ·have hv:¬u.value=m:=hv0;have e:je p m (k+1).toNat=u:=by rw[hrun];unfold oT;rw[if_neg hv,if_neg (by rw[hw];simp)]
  rw[e];refine⟨?_,rfl,?_,?_⟩<;>omega
 ·have hv:¬u.value=m:=hv0;have hy:n4 p u k=d_ p u k:=by unfold n4;rw[if_pos hw]
  rw[hy];have hlt:∀j∈u.bn,j<k:=λj hj=>by
   rw[hC] at hj;have:=of_decide_eq_true (γt.1 hj).2;omega
  have hG2:=hG.next hc hlt ⟨by omega,by omega⟩ hw;have hD2:=Ja hc hG2;have hq:=BS hc hG2 (k:=(k+1).toNat);have hql:(fR p (d_ p u k) (k+1).toNat).bj.length<=15:=by
   have h1:=List.length_filter_le (ik p (d_ p u k)) (p.bj.drop (k+1).toNat);rw[List.length_drop] at h1;show((p.bj.drop _).filter _).length<=15;omega
  have hroom:im (fR p (d_ p u k) (k+1).toNat) (m - (d_ p u k).value) 65536=0:=DU hq (by omega) (by
   have:2^((fR p (d_ p u k) (k+1).toNat).bj.length+1)<=2^16:=δs (by omega) (by omega);have h16:(2:Nat)^16=65536:=rfl;omega);have hmb:0<=m/\m<=160000000:=by
   obtain⟨f1,f2⟩:=xg hc;have:=ra hc ((oU hc).2 f1);rw[uB hc f1] at this;omega
  have hv2:0<=(d_ p u k).value/\(d_ p u k).value<=160000000:=hD2.2.1;have ev:(fP (d_ p u k)).2.2.2.1=(d_ p u k).value:=rfl;rw[ev,hroom];have er:je p m (k+1).toNat=if jf (fR p (d_ p u k) (k+1).toNat) (m - (d_ p u k).value) 65536=true then d_ p u k else u:=by
   rw[hrun];unfold oT;rw[if_neg hv,if_pos hw]
  refine⟨by omega,⟨hc,hD2,by omega,by omega⟩,by omega,⟨by omega,by omega,by omega⟩,λh=>absurd rfl h,λ_=>⟨λhb=>?_,λhb=>?_⟩⟩
  ·rw[er,if_pos hb];refine⟨?_,rfl,?_,?_⟩<;>omega
  ·rw[er,if_neg (by rw[hb];simp)];refine⟨?_,rfl,?_,?_⟩<;>omega
 ·show u.bn=_;rw[<-hu,hm,show k.toNat=p.bj.length by omega,KL hc h15]
noncomputable def oR (p:cj):List cz:=(gA p (fK p (ji p)).bn 65536).bq
noncomputable def CX:M9:=⟨33,cj,.one cO,λp=>nW p≠0\/p.bj.length<=15,
 λp=> .Gz [.agg [.row (.i .i64) (if nW p=0 then(VL p).bn else[]),.si .i64 (if nW p=0 then(VL p).value else 0),.row Ap (if nW p=0 then oR p else[])],.si .i64 (nW p)]⟩
theorem H7:Holds Tryz.prog CX:=by
 refine bI (L:=[mW,yb,x_,C2,CY]) CX lk (by grind[oi,ua,t_,H6,H4]) ?_;rintro(p:cj) (y:nW p≠0\/p.bj.length<=15);refine NH (let a:=(0:Int);let b:=γf .i64;let d:=Ψ;let h:=(65536:Int);let l:=SV.Gz;let o:=γJ;let k:=ew.i .i64;let w:=[b (nW p)];let m:=l (o [d k (if nW p=a then(VL p).bn else[]),b (if nW p=a then(VL p).value else a),d Ap (if nW p=a then oR p else[])]::w);let t:=γv .i64 0;let v:=o [d k [],t,d k []];let x:=decide (nW p≠a);let q:=(fK p (ji p)).bn;let j:=jH p q h;let f:=decide (j≠a);let g:=gA p q h;let e:=if j=a then g.val else a;let B:=λ(u c:Bool) (n:List SV) ↦u=c->(l n).bi m;let r:=λ(u:Bool) (c:Int) ↦u=true->(l [v,b c]).bi m;True/\(x=true->(l (v::w)).bi m)/\(x=false->p.bj.length<=20/\(ji p).length<=9223372036854775807/\(p.bj.length<=20/\q.length<=9223372036854775807)/\r f j/\(f=false->((nW p=a/\p.bj.length<=15)/\e=(VL p).value)/\r false a/\B false false [o [d k (VL p).bn,b e,d Ap (if j=a then g.bq else[])],t]))) (by kernel_rfl) ?_;simp only[vcs];by_cases a:nW p=0
 ·have l:p.bj.length<=15:=y.resolve_left λh=>h a;obtain⟨o,_⟩:=uy a;have D:=C3 a;have A:=(ra a o).2.2;have b:((1+2^(p.bj.length+1):Nat):Int)<=65536+2:=by
   have:2^(p.bj.length+1)<=2^16:=δs (by omega) (by omega);omega
  have d:jH p (fK p (ji p)).bn 65536=0:=Sq a o (by omega) b;obtain⟨_,C,z⟩:=DW a o (bz:=65536) (by omega);have s:=(C (z b)).2.1;simp only[d,a,if_true];refine⟨λh=>absurd rfl h,λ_=>⟨by omega,by omega,⟨by omega,by omega⟩,λh=>absurd rfl h,λ_=>⟨⟨⟨trivial,l⟩,s⟩,λh=>(by cases h),λ_=>⟨?_,trivial⟩⟩⟩⟩;rw[s];rfl
 ·refine⟨λ_=>?_,λh=>absurd a h⟩;rw[if_neg a,if_neg a,if_neg a];rfl
theorem R7 {t:List cz} {u:List (Int×Bool)} {k:Int} {f g h:List Int} (c:f.length=g.length) (a:∀i,bN f i 0=if bN g i 0≠0 then bN g i 0 else bN h i 0):
  ∀i,bN (mn t u k f) i 0=if bN (mn t u k g) i 0≠0 then bN (mn t u k g) i 0 else bN h i 0:=λi=>by
 unfold mn;rw[c];generalize (bN t (bN u k.toNat (0,false)).1.toNat Ap.bw).2.1=o;generalize (bN u k.toNat (0,false)).2=b;split
 ·by_cases d:o.toNat<g.length
  ·rw[gC (by omega),gC d];grind
  ·rw[ζt (by omega),ζt (by omega)];exact a i
 ·exact a i
theorem JX {t:List cz} {u:List (Int×Bool)} {h:List Int}:∀{m:Nat} {k:Int} {f g:List Int},f.length=g.length->(∀i,bN f i 0=if bN g i 0≠0 then bN g i 0 else bN h i 0)->
  ∀i,bN (gj t u m k f) i 0=if bN (gj t u m k g) i 0≠0 then bN (gj t u m k g) i 0 else bN h i 0
 |0,_,_,_,_,a=>a
 |m+1,k,f,g,b,a=>by
  unfold gj;split;·exact JX (by grind[Jh]) (R7 b a)
  ·exact a
theorem JW {t:List cz} {u a:List (Int×Bool)}:∀{m:Nat} {k:Int} {f:List Int},(∀x:Nat,(x:Int)<=k->bN u x (0,false)=bN a x (0,false))->(∀x:Nat,(x:Int)<=k->0<x->0<=(bN u x (0,false)).1/\(bN u x (0,false)).1<x)->gj t u m k f=gj t a m k f
 |0,_,_,_,_=>rfl
 |m+1,k,f,b,c=>by
  unfold gj;split
  ·rename_i j;have e:=b k.toNat (by omega);have d:=c k.toNat (by omega) (by omega);have i:mn t u k f=mn t a k f:=by unfold mn;rw[e]
   rw[i,<-e];exact JW (λx g=>b x (by omega)) λx g h=>c x (by omega) h
  ·rfl
theorem JV {n:Nat} {i:Int}:∀{l c:List Int},rf n i c l=true->∀x∈l,(i<x/\x<n)/\x∉c
 |[],_,_,x,a=>by cases a;|y::l,c,h,x,a=>by
  simp only[rf,θ,decide_eq_true_eq] at h;rcases γw.1 a with rfl|a;·simp_all
  ·have:=JV h.2 x a;simp_all
theorem BJ {t:List cz} (h:dn t=true) {i:Nat} (b:i<t.length):∀x∈iC (bN t i Ap.bw),((i:Int)<x/\x<t.length)/\x∉fY t i:=by
 unfold dn at h;simp only[θ,χ,γq] at h;have a:=h.2.1 i b;unfold jM at a;simp only[θ] at a;exact JV a.2
theorem BI {t:List cz} {x:Int}:∀{i:Nat},i<=t.length->(x∈fY t i↔∃q,q<i/\x∈iC (bN t q Ap.bw))
 |0,_=>by simp[fY];|i+1,b=>by
  have a:=@Jy t i (by omega) (by omega);rw[show((i:Int)+1).toNat=i+1 by omega,γm] at a;rw[a,List.mem_append,BI (by omega)];grind
theorem JU {t:List cz} (b:dn t=true) {i:Nat}:∀{j:Nat},i<=j->j<=t.length->∀x,x<=i->bN (dQ t j) x (0,false)=bN (dQ t i) x (0,false)
 |0,c,_,_,_=>by simp_all;|j+1,c,g,x,d=>by
  by_cases e:i=j+1;·rw[e]
  ·rw[<-JU b (j:=j) (by omega) (by omega) x d];conv=>lhs;unfold dQ
   split
   ·rename_i f;have a:∀y∈[(bN t j Ap.bw).2.2.1,(bN t j Ap.bw).2.2.2.1],((j:Int)<y/\y<t.length)/\y∉fY t j:=by
     have:=BJ b (i:=j) (by omega);simp_all[iC]
    have h:=(a _ (γZ ..)).1;have k:=(a (bN t j Ap.bw).2.2.2.1 (by simp)).1;have l:=@qk t j;rw[gC (by grind),if_neg (by omega),gC (by omega),if_neg (by omega)]
   ·rfl
theorem CW {t:List cz} (b:dn t=true) {q:Nat} (k:q<t.length) (f:(bN t q Ap.bw).1=2):∀{j:Nat},q<j->j<=t.length->
  bN (dQ t j) (bN t q Ap.bw).2.2.1.toNat (0,false)=((q:Int),false)/\bN (dQ t j) (bN t q Ap.bw).2.2.2.1.toNat (0,false)=((q:Int),true)
 |0,h,_=>by omega;|j+1,h,C=>by
  have u:iC (bN t q Ap.bw)=[(bN t q Ap.bw).2.2.1,(bN t q Ap.bw).2.2.2.1]:=if_pos f;have g:=BJ b k;rw[u] at g;have D:=(g _ (γZ ..)).1;have F:=(g (bN t q Ap.bw).2.2.2.1 (by simp)).1;have A:(bN t q Ap.bw).2.2.1≠(bN t q Ap.bw).2.2.2.1:=by
   unfold dn at b;simp only[θ,χ,γq] at b;have d:=b.2.1 q k;unfold jM at d;rw[u] at d;simp only[rf,θ,decide_eq_true_eq] at d;grind
  have l:=@qk t j;by_cases e:q=j
  ·subst e;unfold dQ;rw[if_pos f];have B:((dQ t q).set (bN t q Ap.bw).2.2.1.toNat ((q:Int),false)).length=t.length:=by simp_all
   rw[gC (by omega),gC (by omega),if_neg (by omega),gC (by omega),if_pos rfl,if_pos rfl];simp_all
  ·have r:=CW b k f (j:=j) (by omega) (by omega);unfold dQ;split
   ·rename_i w;have a:=BJ b (i:=j) (by omega);unfold iC at a;rw[if_pos w] at a;have s:=a _ (γZ ..);have n:=a (bN t j Ap.bw).2.2.2.1 (by simp);have o:∀x∈[(bN t q Ap.bw).2.2.1,(bN t q Ap.bw).2.2.2.1],x∈fY t j:=λx v=>(BI (by omega)).2 ⟨q,by omega,by simp_all⟩;have m:=o _ (γZ ..);have p:=o (bN t q Ap.bw).2.2.2.1 (by simp);have c:∀x y:Int,x∈fY t j->y∉fY t j->x≠y:=λx y v z e=>z (e▸v);have G:=c _ _ m s.2;have H:=c _ _ m n.2;have I:=c _ _ p s.2;have E:=c _ _ p n.2;have B:((dQ t j).set (bN t j Ap.bw).2.2.1.toNat ((j:Int),false)).length=t.length:=by rw[Φ,l]
    rw[gC (by omega),if_neg (by omega),gC (by omega),if_neg (by omega),gC (by omega),if_neg (by omega),gC (by omega),if_neg (by omega)];exact r
   ·exact r
theorem JT {n i:Nat}:bN (δ n (0:Int)) i 0=0:=by
 grind[bN]
theorem JS {p:cj} {t:List cz} {i:Nat}:(gJ p t i).length=p.bj.length:=by
 grind[gJ,Jg]
theorem R6 {p:cj} {t:List cz} (a:dn t=true) {q:Nat} (g:q<t.length) (f:(bN t q Ap.bw).1=2) (y:0<=(bN t q Ap.bw).2.1/\(bN t q Ap.bw).2.1<p.bj.length) (B:bN (gJ p t q) (bN t q Ap.bw).2.1.toNat 0=0):
  gJ p t (bN t q Ap.bw).2.2.1.toNat=(gJ p t q).set (bN t q Ap.bw).2.1.toNat (-1)/\gJ p t (bN t q Ap.bw).2.2.2.1.toNat=(gJ p t q).set (bN t q Ap.bw).2.1.toNat 1:=by
 have e:=BJ a g;unfold iC at e;rw[if_pos f] at e;have w:=(e _ (γZ ..)).1;have z:=(e (bN t q Ap.bw).2.2.2.1 (by simp)).1;have r:∀(c:Int) (b:Bool),((q:Int)<c/\c<t.length)->bN (dQ t c.toNat) c.toNat (0,false)=((q:Int),b)->gJ p t c.toNat=(gJ p t q).set (bN t q Ap.bw).2.1.toNat (if b then 1 else -1):=λc b D l=>by
  have k:=Cl a (i:=c.toNat) (by omega);have h:=@Jf t (dQ t c.toNat) k c (δ p.bj.length 0) (by omega) (by omega);rw[l] at h;simp only[γm] at h;have m:gJ p t c.toNat=gj t (dQ t c.toNat) c.toNat c (δ p.bj.length 0):=by
   grind[gJ]
  have u:mn t (dQ t c.toNat) c (δ p.bj.length 0)=(δ p.bj.length 0).set (bN t q Ap.bw).2.1.toNat (if b then 1 else -1):=by
   simp_all[mn]
  have o:gj t (dQ t c.toNat) q q ((δ p.bj.length 0).set (bN t q Ap.bw).2.1.toNat (if b then 1 else -1))=gj t (dQ t q) q q ((δ p.bj.length 0).set (bN t q Ap.bw).2.1.toNat (if b then 1 else -1)):=
   JW (λx s=>JU a (by omega) (by omega) x (by omega)) λx s v=>⟨(k.2 x (by omega)).1,(k.2 x (by omega)).2 v⟩;rw[m,h,u,o];have n:gj t (dQ t q) q q (δ p.bj.length 0)=gJ p t q:=rfl;have d:=@JX t (dQ t q) ((δ p.bj.length 0).set (bN t q Ap.bw).2.1.toNat (if b then 1 else -1)) q q ((δ p.bj.length 0).set (bN t q Ap.bw).2.1.toNat (if b then 1 else -1)) (δ p.bj.length 0) (by simp_all) (λi=>by grind[JT]);rw[n] at d;refine CB 0 (by grind[JS]) λi _=>?_;rw[d i,gC (by simp_all),gC (by rw[JS];omega),JT];grind
 have A:=(CW a g f (j:=(bN t q Ap.bw).2.2.1.toNat) (by omega) (by omega)).1;have C:=(CW a g f (j:=(bN t q Ap.bw).2.2.2.1.toNat) (by omega) (by omega)).2;simp_all
def iy (a b c j:Nat):Prop:=j=a\/(b<=j/\j<c)
section
variable {p:cj} {v:Int} {t:List cz} {a lo hi:Nat} {f:List Int}
theorem R5 (h:dV p f) (a:dN p f):sy p f (fL (gu p f)):=
 ⟨⟨a.c,a.l,a.r⟩,gu p f,rfl,zB,λ_=>1000,λk b=>(Di h b).2,by
  have:∀n,pq n (λ_=>1000)=n*1000:=λn=>by
   induction n<;>grind[pq]
  have d:=BN a.c;grind⟩
theorem R4 (h:dV p f):dg (fL (gu p f))=true:=by
 unfold dg fL;rw[χ];intro x b;obtain⟨q,a,rfl⟩:=Ω.1 b;obtain⟨i,d,rfl⟩:=γM a;have c:=(Di h (r:=i) (by grind[zB])).1;grind[b_,nf]
theorem R3 {l:List Rat} {K:Nat} (s:K<=1000000) (h:∀k,k<l.length->Sz K (bN l k 0)):∀x∈fL l,gK x:=λx b=>by
 unfold fL at b;obtain⟨q,e,rfl⟩:=Ω.1 b;obtain⟨i,a,rfl⟩:=γM e;have c:=h i a;rw[b_ a] at c;obtain⟨m,⟨f,p,n⟩,⟨d,g,j⟩⟩:=kP l[i];obtain⟨o,r⟩:=ny c;exact⟨⟨f,d⟩,by omega,by omega⟩
theorem R1 (a:dN p f) (b:fZ p f=true):p_ (oV p f)=true/\kM p (oV p f)=true/\(∀x∈(oV p f).2.2.2.2,gK x)/\iC (oV p f)=[]:=by
 have h:mF p<=20:=by have:=(cT a.c).1;grind
 have d:(fL (gu p f)).length=mF p:=by rw[eA,zB]
 refine⟨?_,?_,R3 (K:=1000) (by omega) λk g=>(Di (a.ok b) (by grind[zB])).2,rfl⟩
 ·show mV (oV p f)=true;have e:(oV p f).2.2.2.2=fL (gu p f):=rfl;unfold mV;rw[e,d,decide_eq_true (show mF p<=40 by omega)];grind[pr,oV,fL,BY]
 simp_all[oV,kM,cr]
theorem R0 (h:iq p v t a f lo hi) (hf:dN p f) (hl:t.length<=65536):
  (∀j,iy a lo hi j->j<t.length/\p_ (bN t j Ap.bw)=true/\kM p (bN t j Ap.bw)=true/\(∀x∈(bN t j Ap.bw).2.2.2.2,gK x)/\(iC (bN t j Ap.bw)=[]\/∃x:Nat,iC (bN t j Ap.bw)=[(x:Int),((x+1:Nat):Int)]/\j<x/\lo<=x/\x+1<hi))
  /\(∀q r (x:Int),iy a lo hi q->iy a lo hi r->x∈iC (bN t q Ap.bw)->x∈iC (bN t r Ap.bw)->q=r)
  /\(∀x:Nat,lo<=x->x<hi->∃q,iy a lo hi q/\(x:Int)∈iC (bN t q Ap.bw)):=by
 induction h with
 |@dZ a f lo h1 h2 h3=>
  grind[uU,R1,iy];|@j9 a f lo h1 h2=>
  obtain⟨e1,e2⟩:=uU (d:=Ap.bw) h1;have hj:∀j,iy a lo lo j->j=a:=λj h=>by grind[iy]
  refine⟨λj h=>?_,λq r x hq hr _ _=>by grind,λx h0 h1=>by omega⟩;rw[hj j h,e1];exact⟨e2,by decide,rfl,(λx hx=>by cases hx),.inl rfl⟩;|@bra a f lo mid hi k h1 h2 h3 h4 h5 h6 i1 i2=>
  obtain⟨e1,e2⟩:=uU (d:=Ap.bw) h1;have l1:=h5.le;have l2:=h6.le;have au4:=(iq.bra h1 h2 h3 h4 h5 h6).top.2 (by omega);have h160:=(cT hf.c).2.1;have hfl:=hf.l;obtain⟨f1,g1,c1⟩:=i1 (hf.set (by omega));obtain⟨f2,g2,c2⟩:=i2 (hf.set (by omega));have hk:iC (bN t a Ap.bw)=[(lo:Int),((lo+1:Nat):Int)]:=by rw[e1];rfl
  have hin:∀j,iy a lo hi j->j=a\/iy (lo+1) (lo+2) mid j\/iy lo mid hi j:=λj h=>by unfold iy at h ⊢;omega
  have s1:∀j (x:Int),iy (lo+1) (lo+2) mid j->x∈iC (bN t j Ap.bw)->(lo:Int)+2<=x/\x<mid:=λj x hj hx=>by
   rcases(f1 j hj).2.2.2.2 with h|⟨y,h,_,_,_⟩;·rw[h] at hx;cases hx
   ·rw[h] at hx;simp only[γw,δt,or_false] at hx;omega
  have s2:∀j (x:Int),iy lo mid hi j->x∈iC (bN t j Ap.bw)->(mid:Int)<=x/\x<hi:=λj x hj hx=>by
   rcases(f2 j hj).2.2.2.2 with h|⟨y,h,_,_,_⟩;·rw[h] at hx;cases hx
   ·rw[h] at hx;simp only[γw,δt,or_false] at hx;omega
  have s0:∀x:Int,x∈iC (bN t a Ap.bw)->(lo:Int)<=x/\x<lo+2:=λx hx=>by
   grind
  refine⟨λj h=>?_,λq r x hq hr xq xr=>?_,λx h0 h1=>?_⟩
  ·rcases hin j h with rfl|h|h
   ·refine⟨e2,?_,?_,?_,.inr ⟨lo,hk,h2,ξ _,by omega⟩⟩
    ·rw[e1];show pe (jg k lo)=true;have r1:mv k=true:=by grind[mv]
     have r2:mv (lo:Int)=true:=by grind[mv]
     have r3:mv ((lo:Int)+1)=true:=by grind[mv]
     show(mv k&&mv (lo:Int)&&mv ((lo:Int)+1)&&decide (([]:List NG)=[]))=true;rw[r1,r2,r3];rfl
    ·rw[e1];rfl
    ·rw[e1];intro x hx;cases hx
   ·grind
   grind
  ·grind
  ·by_cases q1:x<lo+2
   ·refine⟨a,.inl rfl,?_⟩;rw[hk];simp only[γw,δt,or_false];omega
   grind[iy]
theorem RZ (h:iq p v t 0 f 1 t.length) (m:dN p f) (s:1<=t.length) (d:t.length<=65536):dn t=true/\t.all (kM p)=true/\∀n∈t,∀x∈n.2.2.2.2,gK x:=by
 obtain⟨l,B,o⟩:=R0 h m d;have b:∀j,j<t.length->iy 0 1 t.length j:=λj c=>by unfold iy;omega
 refine⟨?_,χ.2 λn a=>?_,λn a=>?_⟩
 ·unfold dn;simp only[θ,decide_eq_true_eq,χ,γq];refine⟨⟨s,d⟩,λi g=>?_,λk z=>?_⟩
  ·obtain⟨D,r,_,_,e⟩:=l i (b i g);unfold jM;rw[r,Bool.true_and];rcases e with w|⟨x,w,A,E,J⟩;·rw[w];rfl
   ·have a:∀y:Int,y∈iC (bN t i Ap.bw)->y∉fY t i:=λy I C=>by
     grind[BI]
    rw[w] at a ⊢;have F:=a (x:Int) (by simp);have G:=a ((x+1:Nat):Int) (by simp);simp only[rf,θ,decide_eq_true_eq,Bool.and_true];grind
  ·obtain⟨q,H,u⟩:=o (k+1) (by omega) (by omega);grind[BI]
 ·obtain⟨j,c,rfl⟩:=γM a;grind[b_]
 ·obtain⟨j,c,rfl⟩:=γM a;grind[b_]
theorem RY (h:dV p f):gV p f (vL (fL (gu p f))) f.length=gY p f:=by
 have a:f.length=p.bj.length:=h.2.1;unfold gV;rw[jR,Tc h];have:Oq f.length (λk=>if bN f k 0=0/\0<gW p (gu p f) (mF p) k then gW p (gu p f) (mF p) k else 0)=0:=by
  rw[cW (g:=λ_=>0) λk b=>?_,gP];simp_all[if_neg,Td,ε2]
 grind
theorem RX (h:iq p v t a f lo hi) (z:dn t=true) (e:dN p f) (o:gJ p t a=f):∀j,iy a lo hi j->pn p v (gJ p t j) (bN t j Ap.bw)=true/\((bN t j Ap.bw).1=1->sy p (gJ p t j) (bN t j Ap.bw).2.2.2.2):=by
 induction h with
 |@dZ a f lo n i B=>
  obtain⟨b,s⟩:=uU (d:=Ap.bw) n;intro j g;have:j=a:=by grind[iy]
  rw[this,o,b];refine⟨?_,λ_=>R5 (e.ok i) e⟩;show(dg (fL (gu p f))&&decide (gV p f (vL (fL (gu p f))) f.length<κ v+1))=true;rw[RY (e.ok i),R4 (e.ok i),Bool.true_and,decide_eq_true_eq];simp_all;|@j9 a f lo n i=>
  obtain⟨b,s⟩:=uU (d:=Ap.bw) n;intro j g;have:j=a:=by grind[iy]
  rw[this,o,b];have A:bR p (Ao f 1)≠0:=λh=>by
   have:=(Dg e.c (Rz e.l)).1 h;grind[fZ]
  refine⟨?_,λh=>?_⟩
  ·show decide (bR p (Ao f 1)≠0)=true;simp_all
  ·have:(3:Int)=1:=h;omega;|@bra a f lo m hi k n i B F G D C y=>
  obtain⟨b,s⟩:=uU (d:=Ap.bw) n;have u:(bN t a Ap.bw).1=2:=by rw[b];rfl
  have x:(bN t a Ap.bw).2.1=k:=by rw[b];rfl
  have q:(bN t a Ap.bw).2.2.1=lo:=by rw[b];rfl
  have r:(bN t a Ap.bw).2.2.2.1=(lo:Int)+1:=by rw[b];rfl
  have E:=e.l;have w:=R6 (p:=p) z s u (by rw[x];omega) (by simp_all);rw[x,q,r,o,γm,show((lo:Int)+1).toNat=lo+1 by omega] at w;intro j g;rcases(show j=a\/iy (lo+1) (lo+2) m j\/iy lo m hi j by grind[iy]) with rfl|g|g
  ·rw[o,b];refine⟨?_,λh=>?_⟩
   ·show(decide (k<f.length)&&decide (bN f k.toNat 0=0))=true;simp_all
   simp_all
  ·exact C (e.set (by omega)) w.2 j g
  ·exact y (e.set (by omega)) w.1 j g
theorem RW (h:iq p v t 0 (gi p) 1 t.length) (a:nW p=0) (m:1<=t.length) (k:t.length<=65536):(∀w, -9223372036854775808<=w/\w<=9223372036854775807->rb p w t)/\re p v t=0:=by
 obtain⟨d,o,g⟩:=RZ h (mz a) m k;have c:=RX h d (mz a) rfl;have b:∀j,j<t.length->iy 0 1 t.length j:=λj n=>by grind[iy]
 refine⟨λw f=>⟨g,by omega,λ_ _ _=>⟨⟨a,d⟩,f,λi l e=>(c i (b i l)).2 e⟩⟩,?_⟩
 ·have q:pj p v t=true:=by
   grind[pj]
  unfold re;grind
end
theorem RV {p:cj} (hc:nW p=0) (h15:p.bj.length<=15):iq p (VL p).value (oR p) 0 (gi p) 1 (oR p).length/\((oR p).length:Int)<=65536:=by
 obtain⟨i1,_⟩:=uy hc;have aWO:((1+2^(p.bj.length+1):Nat):Int)<=65536+2:=by
  have:2^(p.bj.length+1)<=2^16:=δs (by omega) (by omega);have h16:(2:Nat)^16=65536:=rfl;omega
 obtain⟨_,s2,s3⟩:=DW hc i1 (bz:=65536) (by omega);obtain⟨_,_,s4,s5,_⟩:=s2 (s3 aWO);exact⟨s5,s4⟩
theorem CV {p:cj} (hc:nW p=0) (h15:p.bj.length<=15):(∀w, -9223372036854775808<=w/\w<=9223372036854775807->rb p w (oR p))/\re p (VL p).value (oR p)=0:=by
 obtain⟨s5,s4⟩:=RV hc h15;have s6:=s5.top.1;exact RW s5 hc (by omega) (by omega)
theorem xe {p:cj} (a:nW p=0):bR p (VL p).bn=0/\cA p (VL p).bn=(VL p).value/\(0<=(VL p).value/\(VL p).value<=160000000)/\(VL p).bn.length<=160:=by
 obtain⟨b,d,_⟩:=SM a;have c:=(oU a).2 b;have:=ra a c;omega
theorem JR {p:cj} (b:nW p=0) (a:p.bj.length<=15):qj p ((VL p).bn,(VL p).value,oR p)=0:=by
 simp_all[xe,qj,CV]
def fp (a b:bC):Bool:=decide (a.OA=b.OA)||([0,1,2,3,4,5].any λk=>decide (0<a.bx.at k)&&decide (0<b.bx.at k))
theorem CU {a b:bC}:fp a b=fp b a:=by
 unfold fp;grind
inductive Cn (p:cj):Nat->Nat->Prop
 |refl {i:Nat}:i<p.bj.length->Cn p i i
 |step {i j k:Nat}:Cn p i j->k<p.bj.length->fp (oI p j) (oI p k)=true->Cn p i k
section
variable {p:cj} {i j k:Nat}
theorem oQ (h:Cn p i j):i<p.bj.length/\j<p.bj.length:=by
 induction h<;>omega
theorem s7 (h:Cn p i j) (g:Cn p j k):Cn p i k:=by
 induction g with
 |refl _=>exact h;|step _ a b c=>exact .step c a b
theorem BH (b:i<p.bj.length) (a:j<p.bj.length) (h:fp (oI p i) (oI p j)=true):Cn p i j:=.step (.refl b) a h
theorem RU (h:Cn p i j):Cn p j i:=by
 induction h with
 |refl h=>exact .refl h;|@step j k a b c d=>grind[s7,BH,oQ,CU]
end
def oP (l:List Int) (a b:Int):List Int:=l.map λx=>if x=a then b else x
def lh (p:cj) (i:Nat) (l:List Int):Nat->List Int
 |0=>l
 |k+1=>if fp (oI p i) (oI p k)=true then oP (lh p i l k) (bN (lh p i l k) k 0) (bN (lh p i l k) i 0) else lh p i l k
def lH (p:cj):Nat->List Int
 |0=>δ p.bj.length 0
 |i+1=>lh p i ((lH p i).set i (i:Int)) i
theorem JQ {l:List Int} {a b:Int}:(oP l a b).length=l.length:=Θ _
theorem RT {l:List Int} {a b:Int} {k:Nat} (h:k<l.length):bN (oP l a b) k 0=if bN l k 0=a then b else bN l k 0:=by
 grind[oP,b_]
def CT (p:cj) (i:Nat) (m:List Int):Prop:=m.length=p.bj.length/\(∀a,a<i->0<=bN m a 0/\bN m a 0<i)/\(∀a b,a<i->b<i->fp (oI p a) (oI p b)=true->bN m a 0=bN m b 0)/\∀a b,a<i->b<i->bN m a 0=bN m b 0->Cn p a b
def RS (p:cj) (i k:Nat) (m:List Int):Prop:=m.length=p.bj.length/\(∀a,a<=i->0<=bN m a 0/\bN m a 0<=i)/\(∀a b,a<i->b<i->fp (oI p a) (oI p b)=true->bN m a 0=bN m b 0)/\(∀j,j<k->fp (oI p i) (oI p j)=true->bN m i 0=bN m j 0)/\∀a b,a<=i->b<=i->bN m a 0=bN m b 0->Cn p a b
theorem JP {p:cj} {i:Nat} {m:List Int} (v:i<p.bj.length) (h:CT p i m):∀{k:Nat},k<=i->RS p i k (lh p i (m.set i (i:Int)) k)
 |0,_=>by
  obtain⟨s,y,u,t⟩:=h;have e:∀a,bN (m.set i (i:Int)) a 0=if a=i then(i:Int) else bN m a 0:=λa=>gC (by omega);refine⟨by show(m.set i (i:Int)).length=_;simp_all,λa d=>?_,λa b d g r=>?_,λj w=>by omega,λa b d g c=>?_⟩
  ·show 0<=bN (m.set i (i:Int)) a 0/\bN (m.set i (i:Int)) a 0<=i;grind
  ·show bN (m.set i (i:Int)) a 0=bN (m.set i (i:Int)) b 0;grind
  ·have c:bN (m.set i (i:Int)) a 0=bN (m.set i (i:Int)) b 0:=c;rw[e,e] at c;by_cases o:a=i
   ·by_cases l:b=i;·rw[o,l];exact .refl v
    grind
   grind;|k+1,B=>by
  have z:=JP v h (k:=k) (by omega);unfold lh;generalize lh p i (m.set i (i:Int)) k=q at z ⊢;obtain⟨s,y,u,t,n⟩:=z;split
  ·rename_i r;have e:∀a,a<=i->bN (oP q (bN q k 0) (bN q i 0)) a 0=if bN q a 0=bN q k 0 then bN q i 0 else bN q a 0:=λa d=>RT (by omega);have x:Cn p i k:=BH v (by omega) r;refine⟨by rw[JQ,s],λa d=>?_,λa b d g c=>?_,λj w f=>?_,λa b d g c=>?_⟩
   ·rw[e a d];grind
   ·rw[e a (by omega),e b (by omega),u a b d g c]
   ·rw[e i (ξ _),e j (by omega)];by_cases A:j=k;·simp_all
    ·rw[t j (by omega) f]
   ·rw[e a d,e b g] at c;by_cases o:bN q a 0=bN q k 0
    ·by_cases l:bN q b 0=bN q k 0;·exact n a b d g (by rw[o,l])
     ·rw[if_pos o,if_neg l] at c;exact s7 (n a k d (by omega) o) (s7 (RU x) (n i b (ξ _) g c))
    ·by_cases l:bN q b 0=bN q k 0
     ·rw[if_neg o,if_pos l] at c;exact s7 (n a i d (ξ _) c) (s7 x (n k b (by omega) g l.symm))
     ·rw[if_neg o,if_neg l] at c;exact n a b d g c
  ·rename_i r;refine⟨s,y,u,λj w f=>?_,n⟩;by_cases A:j=k;·subst A;exact absurd f r
   ·exact t j (by omega) f
theorem JO {p:cj}:∀{i:Nat},i<=p.bj.length->CT p i (lH p i)
 |0,_=>⟨γD,λa h=>by omega,λa b h=>by omega,λa b h=>by omega⟩
 |i+1,r=>by
  obtain⟨j,n,f,o,e⟩:=JP (by omega) (JO (p:=p) (i:=i) (by omega)) (k:=i) (ξ _);show CT p (i+1) (lh p i ((lH p i).set i (i:Int)) i);generalize lh p i ((lH p i).set i (i:Int)) i=q at*;refine⟨j,λa d=>by grind,λa b d l g=>?_,λa b d l c=>e a b (by omega) (by omega) c⟩;by_cases s:a=i;·grind
  ·by_cases m:b=i;·grind[CU]
   ·exact f a b (by omega) (by omega) g
def kF (p:cj):List Int:=lH p p.bj.length
def j5 (p:cj) (i:Int):Int:=bN (kF p) i.toNat 0
theorem CS {p:cj} {a b:Nat} (m:a<p.bj.length) (f:b<p.bj.length):bN (kF p) a 0=bN (kF p) b 0↔Cn p a b:=by
 obtain⟨_,_,g,i⟩:=JO (p:=p) (ξ _);refine⟨i a b m f,λh=>?_⟩;induction h with
 |refl _=>rfl;|@step j k c d e l=>exact(l (oQ c).2).trans (g j k (oQ c).2 d e)
def mu (p:cj) (f:Int):List Int:=(bP p.bj.length).filter λi=>decide (j5 p i=j5 p f)
def mr (p:cj) (f:Int):Bool:=(bP f.toNat).all λj=>decide (j5 p j≠j5 p f)
def bE (p:cj):List (List Int):=((bP p.bj.length).filter (mr p)).map (mu p)
theorem xd {p:cj} {f i:Int}:i∈mu p f↔(0<=i/\i<p.bj.length)/\j5 p i=j5 p f:=by
 simp_all[mu,iF]
theorem RR {p:cj} {f:Int}:dO p.bj.length (mu p f):=⟨pD.sublist γS,λx a=>(xd.1 a).1⟩
theorem uT {p:cj} {f:Int} (c:0<=f):mr p f=true↔∀j,0<=j->j<f->j5 p j≠j5 p f:=by
 unfold mr;rw[χ];exact⟨λh j a b=>of_decide_eq_true (h j (iF.2 ⟨a,by omega⟩)),λh j d=>by
  grind[iF]⟩
theorem JN {p:cj}:∀(n:Nat) {i:Int},0<=i->i<n->i<p.bj.length->∃f,(0<=f/\f<=i)/\mr p f=true/\j5 p f=j5 p i
 |0,i,h0,h1,_=>by omega;|n+1,i,h0,h1,h2=>by
  by_cases h:mr p i=true;·exact⟨i,⟨h0,εf _⟩,h,rfl⟩
  ·rw[uT h0] at h;have:∃j,0<=j/\j<i/\j5 p j=j5 p i:=δb λhn=>h λj a b c=>hn ⟨j,a,b,c⟩;obtain⟨j,a,b,c⟩:=this;obtain⟨f,f1,f2,f3⟩:=JN (p:=p) n (i:=j) a (by omega) (by omega);exact⟨f,by omega,f2,f3.trans c⟩
theorem RP {p:cj} {c:List Int}:c∈bE p↔∃f:Int,((0<=f/\f<p.bj.length)/\mr p f=true)/\mu p f=c:=by
 grind[bE,iF]
def gI (p:cj) (l:List Int) (i:Nat):Nat->List Int
 |0=>l
 |k+1=>if fp (oI p i) (oI p k)=true/\bN (gI p l i k) k 0<bN (gI p l i k) i 0 then(gI p l i k).set i (bN (gI p l i k) k 0) else gI p l i k
def jq (p:cj) (l:List Int):Nat->List Int
 |0=>l
 |i+1=>gI p (jq p l i) i p.bj.length
def ef (p:cj):Nat->List Int
 |0=>bP p.bj.length
 |r+1=>jq p (ef p r) p.bj.length
def uS (p:cj) (l m:List Int):Prop:=m.length=p.bj.length/\∀a,a<p.bj.length->(0<=bN m a 0/\bN m a 0<=bN l a 0)/\Cn p a (bN m a 0).toNat
theorem JM {p:cj} {l0 l:List Int} {i:Nat} (o:i<p.bj.length) (h:uS p l0 l):∀{k:Nat},k<=p.bj.length->uS p l0 (gI p l i k)/\(∀a,a<p.bj.length->bN (gI p l i k) a 0<=bN l a 0)/\∀j,j<k->fp (oI p i) (oI p j)=true->bN (gI p l i k) i 0<=bN l j 0
 |0,_=>⟨h,λa _=>εf _,λj g=>by omega⟩
 |k+1,t=>by
  obtain⟨⟨n,b⟩,r,u⟩:=JM o h (k:=k) (by omega);unfold gI;generalize gI p l i k=q at*;split
  ·rename_i f;have e:∀a,bN (q.set i (bN q k 0)) a 0=if a=i then bN q k 0 else bN q a 0:=λa=>gC (by omega);refine⟨⟨by simp_all,λa d=>?_⟩,λa d=>?_,λj g c=>?_⟩
   ·rw[e];split
    ·rename_i s;subst s;have v:=b a d;have m:=b k (by omega);exact⟨⟨m.1.1,by omega⟩,s7 (BH d (by omega) f.1) m.2⟩
    simp_all
   ·rw[e];split<;>grind
   grind
  ·rename_i f;refine⟨⟨n,b⟩,r,λj g c=>?_⟩;grind
theorem BG {p:cj} {l0 l:List Int} (h:uS p l0 l):∀{i:Nat},i<=p.bj.length->uS p l0 (jq p l i)/\(∀a,a<p.bj.length->bN (jq p l i) a 0<=bN l a 0)/\∀a j,a<i->j<p.bj.length->fp (oI p a) (oI p j)=true->bN (jq p l i) a 0<=bN l j 0
 |0,_=>⟨h,λa _=>εf _,λa j b=>by omega⟩
 |i+1,r=>by
  obtain⟨q,f,m⟩:=BG h (i:=i) (by omega);obtain⟨o,d,n⟩:=JM (p:=p) (i:=i) (by omega) q (k:=p.bj.length) (ξ _);show uS p l0 (gI p (jq p l i) i p.bj.length)/\_;refine⟨o,λa b=>εe (d a b) (f a b),λa j b c g=>?_⟩;by_cases e:a=i
  ·subst e;exact εe (n j c g) (f j c)
  ·exact εe (d a (by omega)) (m a j (by omega) c g)
theorem uR {p:cj}:∀{r:Nat},uS p (bP p.bj.length) (ef p r)
 |0=>⟨eY,λa b=>by
   have e:bN (bP p.bj.length) a 0=(a:Int):=by
    grind[b_,bP]
   show(0<=bN (bP p.bj.length) a 0/\bN (bP p.bj.length) a 0<=bN (bP p.bj.length) a 0)/\Cn p a (bN (bP p.bj.length) a 0).toNat;rw[e];exact⟨by omega,.refl b⟩⟩
 |r+1=>(BG uR (ξ _)).1
theorem JL {c:Type} {f g:c->Bool}:∀{l:List c},(∀x∈l,f x=true->g x=true)->(∃x∈l,g x=true/\f x=false)->l.countP f<l.countP g
 |[],_,⟨x,a,_⟩=>by cases a;|y::l,h,⟨x,a,e,d⟩=>by
  have i:l.countP f<=l.countP g:=List.countP_mono_left λz b=>h z (γz _ b);rw[ζ3,ζ3];rcases γw.1 a with rfl|a;·grind
  ·have:=JL (l:=l) (λz b=>h z (γz _ b)) ⟨x,a,e,d⟩;grind
theorem RO {p:cj} {S:Nat->Prop} {m i:Nat} (h:Cn p m i) (hm:S m) (hi:¬S i):∃a b,(Cn p m a/\Cn p m b)/\S a/\¬S b/\fp (oI p a) (oI p b)=true:=by
 induction h with
 |refl _=>exact absurd hm hi;|@step j k c d e ih=>
  by_cases hj:S j;·exact⟨j,k,⟨c,.step c d e⟩,hj,hi,e⟩
  ·exact ih hj
theorem RN {p:cj} {m:Nat} (hm:m<p.bj.length) (hmin:∀a,Cn p m a->m<=a) {i:Nat} (hi:Cn p m i):bN (ef p p.bj.length) i 0=m:=by
 have ge:∀r a,Cn p m a->(m:Int)<=bN (ef p r) a 0:=λr a ha=>by
  have h:=(uR (p:=p) (r:=r)).2 a (oQ ha).2;have:=hmin _ (s7 ha h.2);omega
 have mono:∀r a,a<p.bj.length->bN (ef p (r+1)) a 0<=bN (ef p r) a 0:=λr a ha=>(BG (l0:=bP p.bj.length) (uR (p:=p) (r:=r)) (ξ _)).2.1 a ha;have aWW:∀r a b,a<p.bj.length->b<p.bj.length->fp (oI p a) (oI p b)=true->bN (ef p (r+1)) a 0<=bN (ef p r) b 0:=λr a b ha hb hc=>(BG (l0:=bP p.bj.length) (uR (p:=p) (r:=r)) (ξ _)).2.2 a b ha hb hc;have atm:∀r,bN (ef p r) m 0=m:=λr=>by
  have h1:=ge r m (.refl hm);have h2:=((uR (p:=p) (r:=r)).2 m hm).1.2;have e:bN (bP p.bj.length) m 0=(m:Int):=by
   rw[b_ (by rw[eY];exact hm)];simp[bP]
  omega
 have key:∀r,(∀a,Cn p m a->bN (ef p r) a 0=m)\/r+1<=(ω p.bj.length).countP (λa=>decide (bN (ef p r) a 0=m)&&decide (bN (kF p) m 0=bN (kF p) a 0)):=by
  intro r;induction r with
  |zero=>
   refine .inr ?_;refine List.countP_pos_iff.2 ⟨m,γq.2 hm,?_⟩;rw[decide_eq_true (atm 0),decide_eq_true rfl];rfl;|succ r ih=>
   rcases ih with ih|ih
   ·refine .inl λa ha=>?_;have h1:=ge (r+1) a ha;have h2:=mono r a (oQ ha).2;have h3:=ih a ha;omega
   ·by_cases hall:∀a,Cn p m a->bN (ef p r) a 0=m
    ·refine .inl λa ha=>?_;have h1:=ge (r+1) a ha;have h2:=mono r a (oQ ha).2;have h3:=hall a ha;omega
    ·refine .inr ?_;have:∃x,Cn p m x/\bN (ef p r) x 0≠m:=δb λhn=>hall λx hx=>δb λh=>hn ⟨x,hx,h⟩;obtain⟨x,hx,hxn⟩:=this;obtain⟨a,b,⟨ca,cb⟩,sa,sb,he⟩:=RO (S:=λa=>bN (ef p r) a 0=m) hx (atm r) hxn;have hlt:=JL (l:=ω p.bj.length) (f:=λa=>decide (bN (ef p r) a 0=m)&&decide (bN (kF p) m 0=bN (kF p) a 0)) (g:=λa=>decide (bN (ef p (r+1)) a 0=m)&&decide (bN (kF p) m 0=bN (kF p) a 0)) (λz hz hf=>by
       simp only[θ,decide_eq_true_eq] at hf ⊢;have hzn:=γq.1 hz;have h1:=ge (r+1) z ((CS hm hzn).1 hf.2);have h2:=mono r z hzn;exact⟨by omega,hf.2⟩)
      ⟨b,γq.2 (oQ cb).2,by
       simp only[θ,decide_eq_true_eq];have h1:=ge (r+1) b cb;have h2:=aWW r b a (oQ cb).2 (oQ ca).2 (by rw[CU];exact he);have sa:bN (ef p r) a 0=m:=sa;exact⟨by omega,(CS hm (oQ cb).2).2 cb⟩,by
       rw[decide_eq_false (show ¬bN (ef p r) b 0=(m:Int) from sb)];rfl⟩;omega
 rcases key p.bj.length with h|h;·exact h i hi
 ·have:=List.countP_le_length (p:=λa=>decide (bN (ef p p.bj.length) a 0=m)&&decide (bN (kF p) m 0=bN (kF p) a 0)) (l:=ω p.bj.length);rw[List.length_range] at this;omega
def pN (p:cj):List Int:=ef p p.bj.length
def qi (p:cj) (f:Int):List Int:=(bP p.bj.length).filter λi=>decide (bN (pN p) i.toNat 0=f)
theorem BF {p:cj} {i j:Int} (b:0<=i/\i<p.bj.length) (a:0<=j/\j<p.bj.length):j5 p i=j5 p j↔Cn p i.toNat j.toNat:=CS (by omega) (by omega)
theorem JK {p:cj} {f i:Int} (b:0<=f/\f<p.bj.length) (g:mr p f=true) (c:0<=i/\i<p.bj.length) (h:j5 p f=j5 p i):bN (pN p) i.toNat 0=f:=by
 have:=RN (p:=p) (m:=f.toNat) (by omega) (λa e=>?_) ((BF b c).1 h)
 ·rw[show((f.toNat:Nat):Int)=f by omega] at this;exact this
 ·have d:=(oQ e).2;have j:j5 p f=j5 p (a:Int):=(BF b (by omega)).2 (by simp_all);grind[uT]
theorem RM {p:cj} {f:Int} (c:0<=f/\f<p.bj.length):qi p f=if mr p f=true then mu p f else[]:=by
 split
 ·rename_i b;unfold qi mu;refine List.filter_congr λi a=>?_;have a:=iF.1 a;rw[decide_eq_decide];refine⟨λh=>?_,λh=>JK c b a h.symm⟩;have d:=((uR (p:=p) (r:=p.bj.length)).2 i.toNat (by omega)).2;have e:bN (ef p p.bj.length) i.toNat 0=f:=h;grind[BF]
 ·rename_i b;unfold qi;refine List.filter_eq_nil_iff.2 λi a h=>b ?_;have a:=iF.1 a;have h:=of_decide_eq_true h;grind[JN,JK]
theorem JJ {a:Type} {P:a->Bool} {g h:a->List Int}:∀{l:List a},(∀x∈l,g x=if P x=true then h x else[])->(∀x∈l,P x=true->h x≠[])->(l.map g).filter (λc=>decide (c≠[]))=(l.filter P).map h
 |[],_,_=>rfl
 |x::l,d,e=>by
  have f:=JJ (l:=l) (λy b=>d y (γz _ b)) (λy b=>e y (γz _ b));grind
theorem RL {p:cj}:((bP p.bj.length).map (qi p)).filter (λc=>decide (c≠[]))=bE p:=by
 refine JJ (λf hf=>RM (iF.1 hf)) λf hf _=>?_;have:f∈mu p f:=xd.2 ⟨iF.1 hf,rfl⟩;exact List.ne_nil_of_mem this
def BE (p:cj) (l:List bC):cj:={p with bj:=l}
theorem RK {α:Type} {a:α} {l:List α} {d:α}:bN (a::l) 0 d=a:=rfl
theorem Si {α:Type} {a:α} {l:List α} {n:Nat} {d:α}:bN (a::l) (n+1) d=bN l n d:=by simp[bN]
theorem Sh {p:cj} (h:nW p=0):(p.bj.map bC.key).Nodup:=by
 unfold nW at h;split at h;·rename_i h1;exact absurd h h1
 ·exact(A9 h).1
theorem Sg {p:cj} (hc:nW p=0) {L:List bC} (hl:L.length<=p.bj.length) (hm:∀x∈L,x∈p.bj) (hn:(L.map bC.key).Nodup):nW (BE p L)=0:=by
 have hz:=rF hc;refine KO ?_ (λx hx=>?_) hn
 ·obtain⟨f1,f2,f3,f4,f5⟩:=rG hz.1;exact Ff (p:=BE p L) f1 (λj hj=>by have h:=(mQ (p:=p) (k:=j)).1 (f2 j hj);exact mQ.2 h) (by simp only[BE];omega) f5
 ·exact hz.2 x (hm x hx)
theorem Sf {p:cj} (hc:nW p=0) {i j:Int} (hi:0<=i/\i<p.bj.length) (hj:0<=j/\j<p.bj.length) (h:(oI p i).key=(oI p j).key):i=j:=by
 have hn:=Sh hc;have h1:i.toNat<(p.bj.map bC.key).length:=by rw[Θ];omega
 have h2:j.toNat<(p.bj.map bC.key).length:=by rw[Θ];omega
 have e:(p.bj.map bC.key)[i.toNat]=(p.bj.map bC.key)[j.toNat]:=by
  rw[δD,δD];unfold oI at h;rwa [b_ (by omega),b_ (by omega)] at h
 have:=(List.getElem_inj hn).1 e;omega
theorem CR {α β:Type} {f:α->β}:∀{l:List α},l.Nodup->(∀x∈l,∀y∈l,f x=f y->x=y)->(l.map f).Nodup
 |[],_,_=>by simp;|x::l,h,hi=>by
  rw[γY] at h;rw[π,γY];refine⟨λhm=>?_,CR h.2 λa ha b hb=>hi a (γz _ ha) b (γz _ hb)⟩;obtain⟨y,hy,he⟩:=Ω.1 hm;exact h.1 (hi x (γZ ..) y (γz _ hy) he.symm▸hy)
def dS (p:cj) (c:List Int):cj:=BE p (c.map (oI p))
def oh (c t:List Int):List Int:=t.map λk=>bN c k.toNat 0
theorem BD {p:cj} {c:List Int}:(dS p c).bj.length=c.length:=Θ _
theorem BC {p:cj} (b:nW p=0) {c:List Int} (h:dO p.bj.length c):nW (dS p c)=0:=by
 refine Sg b (by simp_all[pB]) (λx f=>?_) ?_
 ·obtain⟨i,a,rfl⟩:=Ω.1 f;have:=h.2 i a;exact cE (by omega)
 ·rw[List.map_map];exact CR (ya h) λi a j d e=>Sf b (h.2 i a) (h.2 j d) e
theorem uQ {p:cj} {c:List Int} (h:c∈bE p):dO p.bj.length c:=by
 grind[RP,RR]
theorem Se {a b:bC} (h:a.OA=b.OA):fp a b=true:=by grind[fp]
theorem Sd {n:Nat} {t:List Int}:kY 0 n t↔dO n t:=by
 grind[kY,dO]
theorem Sc {l:List Int} {m:Nat} (a:l.Nodup) (h:∀x∈l,0<=x/\x<m):l.length<=m:=by
 have b:l.Perm ((bP m).filter λx=>decide (x∈l)):=by
  refine(List.perm_ext_iff_of_nodup a ((pD.sublist γS).imp λh=>by omega)).2 λx=>?_;simp_all[iF]
 rw[b.length_eq];grind[eY]
theorem BB {p:cj} (hc:nW p=0):(bE p).length<=p.bk.length:=by
 have hl:(bE p).length=((bP p.bj.length).filter (mr p)).length:=by unfold bE;rw[Θ]
 rw[hl];have e:((bP p.bj.length).filter (mr p)).length=(((bP p.bj.length).filter (mr p)).map λf=>(oI p f).OA).length:=by rw[Θ]
 rw[e];refine Sc (CR ((pD.sublist γS).imp λh=>by omega) λi hi j hj hb=>?_) λx hx=>?_
 ·obtain⟨i1,i2⟩:=γt.1 hi;obtain⟨j1,j2⟩:=γt.1 hj;have i1:=iF.1 i1;have j1:=iF.1 j1;have hn:j5 p i=j5 p j:=(BF i1 j1).2 (BH (by omega) (by omega) (by
   rw[show((i.toNat:Nat):Int)=i by omega,show((j.toNat:Nat):Int)=j by omega];exact Se hb));by_cases h1:i<j;·exact absurd hn ((uT j1.1).1 j2 i i1.1 h1)
  ·by_cases h2:j<i;·exact absurd hn.symm ((uT i1.1).1 i2 j j1.1 h2)
   ·omega
 ·obtain⟨f,hf,rfl⟩:=Ω.1 hx;have:=jP hc (iF.1 (γt.1 hf).1);exact⟨this.1,this.2.1⟩
def BA:cj:=⟨.zero,.zero,.zero,[],[]⟩
end Go.Vi

/-
  Contracts: a prefix with one more offer, and what is left behind it.
  Conditions: none.
-/
import Derived.Test.YtjcmncmajmoiiaaGreatEX06
import Derived.Test.YtjcmncmajmoiiaaGreatEX07
import Derived.Test.YtjcmncmajmoiiaaGreatEX10
import Derived.Test.YtjcmncmajmoiiaaGreatEX13
import Derived.Test.YtjcmncmajmoiiaaGreatEX14
import Derived.Test.YtjcmncmajmoiiaaGreatEX12
import Derived.Test.YtjcmncmajmoiiaaGreatEX08
import Derived.Test.YtjcmncmajmoiiaaGreatEX11
import Derived.Test.YtjcmncmajmoiiaaGreatEX09
set_option maxRecDepth 100000
set_option maxHeartbeats 4000000
set_option linter.all false
open Bool renaming and_eq_true->ζ
open Go.Vi.SV renaming sb->γG,bl->δs,agg->γK,row->γc,ptr->γV
open List renaming length_take->Ω,length_filter_le->γB,length_drop->γJ,take_length->ψ,length_set->Ξ,mem_singleton->γr,set_cons_zero->εM,set_eq_of_length_le->ζr,set_cons_succ->ζa,filter_cons->γ0
open Nat renaming pow_le_pow_right->δA,succ_lt_succ->ζX
namespace Go.Vi
open Go.Proofs.YtjcmncmajmoiiaaGreat.Ir
open Go.Proofs
noncomputable def FO (L:List bM) (W:mR) (sp:Nat->Option (Nat×Nat×Nat)):iN:=⟨⟨vB L,W.C⟩,oW,oY,sp,gG,λ_=>false⟩
theorem ag4 {L:List bM} {W:mR} (sp:Nat->Option (Nat×Nat×Nat)) (c:bM) (Λ:c.α->Nat->cB) (hW:pL Tryz.prog W) (hL:∀c∈L,Holds Tryz.prog c)
  
  (h:∀a,c.dom a->Vc (sy (FO L W sp) (Λ a) (fG c.f) (c.A.put a) λv=>v.rB (c.res a))) (hF:(gG c.f).isSome=true:=by kernel_rfl) (hfr:oV c.f L=none:=by kernel_rfl) (hlen:∀a,(c.A.put a).length=(fG c.f).params:=by intro _;kernel_rfl):Holds Tryz.prog c:=
 λa hd=>C0 (p:=FO L W sp) (Λ:=Λ a) (tZ hW hL pN) (t6 hW) (λ_ _ h=>h) (vD hF) (C2 hfr) (hlen a) (λ_ h=>xt h) (h a hd).out
theorem af5 {L:List bM} {W:mR} (sp:Nat->Option (Nat×Nat×Nat)) (c:bM) (F:fp) (Λ:c.α->Nat->cB) (hW:pL Tryz.prog W) (hL:∀c∈L,Holds Tryz.prog c)
  
  (h:∀a,c.dom a->Vc (sy (FO L W sp) (Λ a) F (c.A.put a) λv=>v.rB (c.res a))) (hF:gG c.f=some F:=by kernel_rfl) (hfr:oV c.f L=none:=by kernel_rfl) (hlen:∀a,(c.A.put a).length=F.params:=by intro _;kernel_rfl):Holds Tryz.prog c:=
 λa hd=>C0 (p:=FO L W sp) (Λ:=Λ a) (tZ hW hL pN) (t6 hW) (λ_ _ h=>h) hF (C2 hfr) (hlen a) (λ_ h=>xt h) (h a hd).out
def qe (p:bp) (u:ji) (i:Int):ji:=if iM p u (oI p i)=true then eZ p u i else zX
def By (u:ji):Prop:=(∀k,k<6->(-1000<=u.left.at k/\u.left.at k<=1000)/\(-1000<=u.opn.at k/\u.opn.at k<=1000))/\(0<=u.value/\u.value<=160000000)/\u.chosen.length<=1000
def FP:bM:=⟨92,yT×bp×Int,.cons (eG rW) (.cons cZ (.one (dU .i64))),λa=>bC a.2.1=0/\By (xP a.1)/\0<=a.2.2/\a.2.2<a.2.1.offers.length,
 λa=> .bH [.agg (encS rW (fP (qe a.2.1 (xP a.1) a.2.2))),.sb (iM a.2.1 (xP a.1) (oI a.2.1 a.2.2))]⟩
def af6 (n:Nat):Option (Nat×Nat×Nat):=if n=2 then some (3,0,8) else none
theorem h443:Holds Tryz.prog FP:=by
 refine af5 (L:=[]) (W:=fV [ML]) af6 FP (fG 92) lk (lg (by simpa using h450)) (by simp) ?_;rintro⟨⟨l,o,c,v,w0,w1,w2,w3,w4,w5,w6,w7⟩,p,i⟩ ⟨hc,hd,i0,i1⟩;simp only at hc hd i0 i1;refine bQ (let a:=SV.si .i64;let b:=γG;let d:=(-1000:Int);let e:=δs true;let f:=(1000:Int);let g:=(0:Int);let h:=γK;let j:=SV.bH;let m:=bY .i64;let n:=(7:Int);let q:=(1:Int);let r:=(3:Int);let s:=(2:Int);let t:=(4:Int);let w:=(5:Int);let x:=(6:Int);let y:=γc;let M:=SV.il .i64 0;let ae:=bn.i .i64;let Q:=y ae [];let R:=δs false;let N:=xP (l,o,c,v,w0,w1,w2,w3,w4,w5,w6,w7);let a9:=(fP (qe p N i)).fst;let O:=(fP (qe p N i)).snd;let aa:=O.snd.snd.snd.snd.snd;let B:=j [h [a a9.a0,a a9.a1,a a9.a2,a a9.a3,a a9.a4,a a9.a5,a O.fst.a0,a O.fst.a1,a O.fst.a2,a O.fst.a3,a O.fst.a4,a O.fst.a5,y ae O.snd.fst,a O.snd.snd.fst,b O.snd.snd.snd.fst,b O.snd.snd.snd.snd.fst,b aa.fst,b aa.snd.fst,b aa.snd.snd.fst,b aa.snd.snd.snd.fst,b aa.snd.snd.snd.snd.fst,b aa.snd.snd.snd.snd.snd],b (iM p N (oI p i))];let ah:=bj p.offers i.toNat bn.off.dflt;let z:=ah.want;let a8:=l.sub z;let C:=a a8.a0;let D:=a a8.a1;let E:=a a8.a2;let F:=a a8.a3;let G:=a a8.a4;let H:=a a8.a5;let A:=ah.value;let S:=a (v+A);let I:=[e];let ai:=[b w6,b w7];let af:=b w4::b w5::ai;let P:=ah.bF;let T:=(↑p.classes.length:Int);let L:=a8.pos;let aN:=!(L&&(fY p N (Off.mk g z A)).pos);let U:=y ae [i];let J:=c.length+1;let z32:Nat:=(c++[i]).length;let V:=y ae (c++[i]);let W:=fY p N (Off.mk q z A);let X:=fY p N (Off.mk s z A);let aj:=a X.a0;let ak:=a X.a1;let al:=a X.a2;let am:=a X.a3;let an:=a X.a4;let ao:=a X.a5;let ap:=S::b w0::b w1::e::b w3::af;let Y:=fY p N (Off.mk r z A);let Z:=fY p N (Off.mk t z A);let aq:=a Z.a0;let ar:=a Z.a1;let au:=a Z.a2;let av:=a Z.a3;let aw:=a Z.a4;let ax:=a Z.a5;let ay:=S::b w0::b w1::b w2::b w3::e::b w5::ai;let a6:=fY p N (Off.mk w z A);let az:=a a6.a0;let aA:=a a6.a1;let aB:=a a6.a2;let aC:=a a6.a3;let aD:=a a6.a4;let aE:=a a6.a5;let aF:=S::b w0::b w1::b w2::b w3::b w4::e::ai;let a7:=fY p N (Off.mk x z A);let aG:=a a7.a0;let aH:=a a7.a1;let aI:=a a7.a2;let aJ:=a a7.a3;let aK:=a a7.a4;let aL:=a a7.a5;let aM:=[S,b w0,b w1,b w2,b w3,b w4,b w5,e,b w7];let aO:=!(L&&(fY p N (Off.mk n z A)).pos);let K:=(j [h [M,M,M,M,M,M,M,M,M,M,M,M,Q,M,R,R,R,R,R,R,R,R],R]).same B;let ab:=λ(u:Int) (u_1 u_2 u_3:SV) ↦let ac:=fY p N (Off.mk u z A);(j (h [C,D,E,F,G,H,a ac.a0,a ac.a1,a ac.a2,a ac.a3,a ac.a4,a ac.a5,u_1,S,u_2,b w1,b w2,b w3,b w4,b w5,b w6,u_3]::I)).same B;let ag:=λ(u:Nat) (u_1:Int) (u_2 u_3 u_4:SV) ↦let ad:=fY p N (Off.mk u_1 z A);u=u/\(j (h (C::D::E::F::G::H::a ad.a0::a ad.a1::a ad.a2::a ad.a3::a ad.a4::a ad.a5::u_2::S::b w0::u_3::b w2::u_4::af)::I)).same B;g<=i/\i<(↑p.offers.length:Int)/\i.toNat<p.offers.length/\(P=g->(w0=true->K)/\(w0=false->(((∀(k:Nat),k<6->(d<=l.at k/\l.at k<=f)/\d<=o.at k/\o.at k<=f)/\z.ok=true)/\g<=g/\g<T)/\(aN=true->K)/\(aN=false->m (v+A)/\(c.length=0->(1=0->ab g Q (e) (b w7))/\(1≠0->8<=140737488355328/\1<=1000000000000/\1=1/\ab g U (e) (b w7)))/\(c.length≠0->c.length*8<=140737488355328/\c.length<=1000000000000/\c.length=c.length/\J*8<=140737488355328/\J<=1000000000000/\z32=z32/\ab g V (e) (b w7)))))/\(P=q->(w1=true->K)/\(w1=false->(((∀(k:Nat),k<6->(d<=l.at k/\l.at k<=f)/\d<=o.at k/\o.at k<=f)/\z.ok=true)/\g<=q/\q<T)/\((!(L&&W.pos))=true->K)/\((!(L&&W.pos))=false->m (v+A)/\(c.length=0->(1=0->(j (h (C::D::E::F::G::H::a W.a0::a W.a1::a W.a2::a W.a3::a W.a4::a W.a5::Q::S::b w0::e::b w2::b w3::af)::I)).same B)/\(1≠0->8<=140737488355328/\1<=1000000000000/\ag 1 q U (e) (b w3)))/\(c.length≠0->c.length*8<=140737488355328/\c.length<=1000000000000/\c.length=c.length/\J*8<=140737488355328/\J<=1000000000000/\ag z32 q V (e) (b w3)))))/\(P=s->(w2=true->K)/\(w2=false->(((∀(k:Nat),k<6->(d<=l.at k/\l.at k<=f)/\d<=o.at k/\o.at k<=f)/\z.ok=true)/\g<=s/\s<T)/\((!(L&&X.pos))=true->K)/\((!(L&&X.pos))=false->m (v+A)/\(c.length=0->(1=0->(j (h (C::D::E::F::G::H::aj::ak::al::am::an::ao::Q::ap)::I)).same B)/\(1≠0->8<=140737488355328/\1<=1000000000000/\1=1/\(j (h (C::D::E::F::G::H::aj::ak::al::am::an::ao::U::ap)::I)).same B))/\(c.length≠0->c.length*8<=140737488355328/\c.length<=1000000000000/\c.length=c.length/\J*8<=140737488355328/\J<=1000000000000/\z32=z32/\(j (h (C::D::E::F::G::H::aj::ak::al::am::an::ao::V::ap)::I)).same B))))/\(P=r->(w3=true->K)/\(w3=false->(((∀(k:Nat),k<6->(d<=l.at k/\l.at k<=f)/\d<=o.at k/\o.at k<=f)/\z.ok=true)/\g<=r/\r<T)/\((!(L&&Y.pos))=true->K)/\((!(L&&Y.pos))=false->m (v+A)/\(c.length=0->(1=0->(j (h (C::D::E::F::G::H::a Y.a0::a Y.a1::a Y.a2::a Y.a3::a Y.a4::a Y.a5::Q::S::b w0::b w1::b w2::e::af)::I)).same B)/\(1≠0->8<=140737488355328/\1<=1000000000000/\ag 1 r U (b w1) (e)))/\(c.length≠0->c.length*8<=140737488355328/\c.length<=1000000000000/\c.length=c.length/\J*8<=140737488355328/\J<=1000000000000/\ag z32 r V (b w1) (e)))))/\(P=t->(w4=true->K)/\(w4=false->(((∀(k:Nat),k<6->(d<=l.at k/\l.at k<=f)/\d<=o.at k/\o.at k<=f)/\z.ok=true)/\g<=t/\t<T)/\((!(L&&Z.pos))=true->K)/\((!(L&&Z.pos))=false->m (v+A)/\(c.length=0->(1=0->(j (h (C::D::E::F::G::H::aq::ar::au::av::aw::ax::Q::ay)::I)).same B)/\(1≠0->8<=140737488355328/\1<=1000000000000/\1=1/\(j (h (C::D::E::F::G::H::aq::ar::au::av::aw::ax::U::ay)::I)).same B))/\(c.length≠0->c.length*8<=140737488355328/\c.length<=1000000000000/\c.length=c.length/\J*8<=140737488355328/\J<=1000000000000/\z32=z32/\(j (h (C::D::E::F::G::H::aq::ar::au::av::aw::ax::V::ay)::I)).same B))))/\(P=w->(w5=true->K)/\(w5=false->(((∀(k:Nat),k<6->(d<=l.at k/\l.at k<=f)/\d<=o.at k/\o.at k<=f)/\z.ok=true)/\g<=w/\w<T)/\((!(L&&a6.pos))=true->K)/\((!(L&&a6.pos))=false->m (v+A)/\(c.length=0->(1=0->(j (h (C::D::E::F::G::H::az::aA::aB::aC::aD::aE::Q::aF)::I)).same B)/\(1≠0->8<=140737488355328/\1<=1000000000000/\1=1/\(j (h (C::D::E::F::G::H::az::aA::aB::aC::aD::aE::U::aF)::I)).same B))/\(c.length≠0->c.length*8<=140737488355328/\c.length<=1000000000000/\c.length=c.length/\J*8<=140737488355328/\J<=1000000000000/\z32=z32/\(j (h (C::D::E::F::G::H::az::aA::aB::aC::aD::aE::V::aF)::I)).same B))))/\(P=x->(w6=true->K)/\(w6=false->(((∀(k:Nat),k<6->(d<=l.at k/\l.at k<=f)/\d<=o.at k/\o.at k<=f)/\z.ok=true)/\g<=x/\x<T)/\((!(L&&a7.pos))=true->K)/\((!(L&&a7.pos))=false->m (v+A)/\(c.length=0->(1=0->(j (h (C::D::E::F::G::H::aG::aH::aI::aJ::aK::aL::Q::aM)::I)).same B)/\(1≠0->8<=140737488355328/\1<=1000000000000/\1=1/\(j (h (C::D::E::F::G::H::aG::aH::aI::aJ::aK::aL::U::aM)::I)).same B))/\(c.length≠0->c.length*8<=140737488355328/\c.length<=1000000000000/\c.length=c.length/\J*8<=140737488355328/\J<=1000000000000/\z32=z32/\(j (h (C::D::E::F::G::H::aG::aH::aI::aJ::aK::aL::V::aM)::I)).same B))))/\(P=n->(w7=true->K)/\(w7=false->(((∀(k:Nat),k<6->(d<=l.at k/\l.at k<=f)/\d<=o.at k/\o.at k<=f)/\z.ok=true)/\g<=n/\n<T)/\(aO=true->K)/\(aO=false->m (v+A)/\(c.length=0->(1=0->ab n Q (b w0) (e))/\(1≠0->8<=140737488355328/\1<=1000000000000/\1=1/\ab n U (b w0) (e)))/\(c.length≠0->c.length*8<=140737488355328/\c.length<=1000000000000/\c.length=c.length/\J*8<=140737488355328/\J<=1000000000000/\z32=z32/\ab n V (b w0) (e)))))/\g<=P/\P<(8:Int)) (by kernel_rfl) ?_;simp only[vcs];have hg:=(dF hc).2.2.2.2 (oI p i) (cT (by omega));have hc8:=(dF hc).1;obtain⟨h1,h2,h3⟩:=hd;have h1':∀k,k<6->(-1000<=l.at k/\l.at k<=1000)/\(-1000<=o.at k/\o.at k<=1000):=h1;have h2':0<=v/\v<=160000000:=h2;have h3':c.length<=1000:=h3;refine⟨i0,i1,by omega,?_⟩;have eo:bj p.offers i.toNat bn.off.dflt=oI p i:=rfl;simp only[eo];generalize hr:fP (qe p (xP (l,o,c,v,w0,w1,w2,w3,w4,w5,w6,w7)) i)=r;simp only[qe,eZ] at hr;generalize hW:iM p (xP (l,o,c,v,w0,w1,w2,w3,w4,w5,w6,w7)) (oI p i)=W at*;simp only[iM] at hW;generalize oI p i=x at*;obtain⟨b,w,y⟩:=x;simp only at hg hW hr ⊢;refine⟨?_,?_,?_,?_,?_,?_,?_,?_,?_⟩;case refine_9=>
  exact⟨hg.1,by omega⟩
 all_goals
  rintro rfl;refine⟨λhw=>?_,λhw=>⟨⟨⟨h1',hg.2.2.1⟩,by omega,by omega⟩,λhq=>?_,λhq=>⟨by omega,λhl=>⟨λh=>absurd h (by decide),λ_=>⟨by omega,by omega,?_⟩⟩,λhl=>⟨by omega,by omega,by omega,by omega,?_⟩⟩⟩⟩;all_goals subst hw
  ·have e:W=false:=hW.symm;subst e;subst hr;exact⟨rfl,rfl⟩
  ·have e:W=false:=hW.symm.trans hq;subst e;subst hr;exact⟨rfl,rfl⟩
  ·have e:W=true:=hW.symm.trans (by simp only[ζ];exact⟨rfl,hq⟩);subst e;subst hr;have:=List.eq_nil_of_length_eq_zero hl;subst this;exact⟨rfl,rfl⟩
  ·have e:W=true:=hW.symm.trans (by simp only[ζ];exact⟨rfl,hq⟩);subst e;subst hr;exact⟨rfl,rfl⟩
def MM:bM:=⟨94,yT×bp×Int,.cons (eG rW) (.cons cZ (.one (dU .i64))),λa=>bC a.2.1=0/\By (xP a.1)/\0<=a.2.2/\a.2.2<=a.2.1.offers.length,
 λa=> .agg (gB a.2.1 (xP a.1) a.2.2.toNat).ss⟩
def pz (p:bp) (u:ji) (i k:Nat):List Off:=((p.offers.take k).drop i).filter (iM p u)
theorem af7 {p:bp} {u:ji} {i:Nat}:pz p u i i=[]:=by
 unfold pz;rw[List.drop_eq_nil_of_le (by rw[Ω];omega)];rfl
theorem af8 {p:bp} {u:ji} {i k:Nat} (hi:i<=k) (hk:k<p.offers.length):pz p u i (k+1)=pz p u i k++if iM p u (oI p k)=true then[oI p k] else[]:=by
 unfold pz;have e:oI p k=p.offers[k]:=cO (by simpa using hk);rw[List.take_succ_eq_append_getElem hk,List.drop_append_of_le_length (by rw[Ω];omega),List.filter_append,e];congr 1;by_cases h:iM p u p.offers[k]=true;·rw[if_pos h,List.filter_cons_of_pos h];rfl
 ·rw[if_neg h,List.filter_cons_of_neg h];rfl
theorem af9 {p:bp} {u:ji} {i k:Nat}:(pz p u i k).length<=p.offers.length:=by
 unfold pz;refine Nat.le_trans (γB _ _) ?_;rw[γJ,Ω];omega
def aga (l o:bz) (c:List Int) (v:Int) (w0 w1 w2 w3 w4 w5 w6 w7:Bool) (p:bp) (i:Int):Nat->cB
 |3=> .inv Int (λk=>⟨[(3,.ptr 0 0 22),(4,.ptr 1 0 20),(6,.ptr 2 0 20),(7,.ptr 3 0 20),(8,.si .i64 k)],
   [.cells (encS rW (l,o,c,v,w0,w1,w2,w3,w4,w5,w6,w7)) 137 22 false,.cells p.ss 27 20 false,
    .cells [.il .i64 0,.il .i64 0,.il .i64 0,.il .i64 0,.il .i64 0,.il .i64 0,.il .i64 0,.il .i64 0,.il .i64 0,.il .i64 0,.il .i64 0,.il .i64 0,.il .i64 0,.il .i64 0,.il .i64 0,.il .i64 0,.il .i64 0,.il .i64 0,.sc (.slice none 0 0),.sc (.slice none 0 0)] 27 20 false,
    .cells [.si .i64 l.a0,.si .i64 l.a1,.si .i64 l.a2,.si .i64 l.a3,.si .i64 l.a4,.si .i64 l.a5,.si .i64 o.a0,.si .i64 o.a1,.si .i64 o.a2,.si .i64 o.a3,.si .i64 o.a4,.si .i64 o.a5,
     .si .i64 p.cls.a0,.si .i64 p.cls.a1,.si .i64 p.cls.a2,.si .i64 p.cls.a3,.si .i64 p.cls.a4,.si .i64 p.cls.a5,.row (.i .i64) p.classes,.ow 4 (pz p (xP (l,o,c,v,w0,w1,w2,w3,w4,w5,w6,w7)) i.toNat k.toNat).length 8] 27 20 false,
    .row .off (pz p (xP (l,o,c,v,w0,w1,w2,w3,w4,w5,w6,w7)) i.toNat k.toNat) 39 true]⟩)
   (λs=>iS s 8) (λk=>i<=k/\k<=p.offers.length) (λk=>(p.offers.length - k).toNat) λ_ _=> .look
 |_=> .look
theorem h444:Holds Tryz.prog MM:=by
 refine cJ (L:=[FP]) MM (λa=>aga a.1.1 a.1.2.1 a.1.2.2.1 a.1.2.2.2.1 a.1.2.2.2.2.1 a.1.2.2.2.2.2.1 a.1.2.2.2.2.2.2.1 a.1.2.2.2.2.2.2.2.1 a.1.2.2.2.2.2.2.2.2.1 a.1.2.2.2.2.2.2.2.2.2.1 a.1.2.2.2.2.2.2.2.2.2.2.1 a.1.2.2.2.2.2.2.2.2.2.2.2 a.2.1 a.2.2) (by simpa using h443) ?_;rintro⟨⟨l,o,c,v,w0,w1,w2,w3,w4,w5,w6,w7⟩,p,i⟩ ⟨hc,hd,i0,i1⟩;simp only at hc hd i0 i1;refine bQ (let a:=SV.si .i64;let b:=bq.cells;let d:=bq.row;let e:=γG;let f:=γc;let g:=γV;let h:=(0:Int);let j:=SV.ow;let y:=a p.cls.a0;let z:=a p.cls.a1;let A:=a p.cls.a2;let B:=a p.cls.a3;let C:=a p.cls.a4;let D:=a p.cls.a5;let Z:=bn.i .i64;let E:=f Z p.classes;let G:=g 0 0 22;let H:=g 1 0 20;let I:=g 2 0 20;let J:=g 3 0 20;let K:=a l.a0;let L:=a l.a1;let M:=a l.a2;let N:=a l.a3;let O:=a l.a4;let P:=a l.a5;let Q:=a o.a0;let R:=a o.a1;let S:=a o.a2;let T:=a o.a3;let U:=a o.a4;let V:=a o.a5;let W:=b [K,L,M,N,O,P,Q,R,S,T,U,V,f Z c,a v,e w0,e w1,e w2,e w3,e w4,e w5,e w6,e w7] 137 22 false;let X:=f bn.off p.offers;let k:=SV.il .i64 0;let a8:=SV.sc (Value.slice none 0 0);let Y:=b [k,k,k,k,k,k,k,k,k,k,k,k,k,k,k,k,k,k,a8,a8] 27 20 false;let n:=xP (l,o,c,v,w0,w1,w2,w3,w4,w5,w6,w7);let a9:=pz p n i.toNat i.toNat;let q:=(↑p.offers.length:Int);let a6:=(↑p.offers.length:Int);let F:=gB p n i.toNat;let r:=F.supply;let s:=F.opn;let t:=F.cls;let a7:=λ(u u_1:bz) (u_2 u_3:SV) ↦let aa:=a u.a0;let ab:=a u.a1;let ac:=a u.a2;let ad:=a u.a3;let ae:=a u.a4;let af:=a u.a5;let ag:=a u_1.a0;let ah:=a u_1.a1;let ai:=a u_1.a2;let aj:=a u_1.a3;let ak:=a u_1.a4;let al:=a u_1.a5;(b [aa,ab,ac,ad,ae,af,ag,ah,ai,aj,ak,al,y,z,A,B,C,D,E,u_2] 27 20 false).same (b [aa,ab,ac,ad,ae,af,ag,ah,ai,aj,ak,al,y,z,A,B,C,D,E,u_3] 27 20 false);(((G.same G/\H.same H/\I.same I/\J.same J/\(a i).same (a i)/\True)/\W.same W/\a7 p.supply p.opn X X/\Y.same Y/\a7 l o (j 4 0 8) (j 4 a9.length 8)/\(d bn.off [] 39 true).same (d bn.off a9 39 true)/\True)/\i<=i/\i<=q)/\∀(x:Int),let w:=x+(1:Int);let am:=a w;let an:=pz p n i.toNat w.toNat;let ao:=iM p n (oI p x);let m:=pz p n i.toNat x.toNat;let ap:=m.length+1;let aq:=m++[bj p.offers x.toNat bn.off.dflt];let ar:=λ(u:Nat) (u_1:bq) ↦bY .i64 w/\((G.same G/\H.same H/\I.same I/\J.same J/\am.same am/\True)/\W.same W/\a7 p.supply p.opn X X/\Y.same Y/\(b [K,L,M,N,O,P,Q,R,S,T,U,V,y,z,A,B,C,D,E,j 4 u 8] 27 20 false).same (b [K,L,M,N,O,P,Q,R,S,T,U,V,y,z,A,B,C,D,E,j 4 an.length 8] 27 20 false)/\u_1.same (d bn.off an 39 true)/\True)/\(i<=w/\w<=q)/\(q - w).toNat<(q - x).toNat;i<=x/\x<=q->(decide (x<a6)=true->(bC p=h/\By n/\h<=x/\x<q)/\(ao=true->h<=x/\x<a6/\x.toNat<p.offers.length/\1=1/\m.length=m.length/\ap*64<=140737488355328/\ap<=1000000000000/\ar aq.length (d bn.off aq 39 true))/\(ao=false->ar m.length (d bn.off m 39 true)))/\(decide (x<a6)=false->m.length=m.length/\(γK [K,L,M,N,O,P,Q,R,S,T,U,V,y,z,A,B,C,D,E,f bn.off m]).same (γK [a r.a0,a r.a1,a r.a2,a r.a3,a r.a4,a r.a5,a s.a0,a s.a1,a s.a2,a s.a3,a s.a4,a s.a5,a t.a0,a t.a1,a t.a2,a t.a3,a t.a4,a t.a5,f Z F.classes,f bn.off F.offers]))) (by kernel_rfl) ?_;simp only[vcs];have hl:p.offers.length<=160:=(dF hc).2.1;generalize hu:xP (l,o,c,v,w0,w1,w2,w3,w4,w5,w6,w7)=u at*;have e0:=@af7 p u i.toNat;refine⟨⟨⟨by rw[e0];rfl,by rw[e0];rfl⟩,by omega,by omega⟩,?_⟩;rintro k ⟨k0,k1⟩;have hlen:=@af9 p u i.toNat k.toNat;refine⟨λhk=>?_,λhk=>?_⟩
 ·have eS:=@af8 p u i.toNat k.toNat (by omega) (by omega);rw[show((k.toNat:Nat):Int)=k by omega] at eS;have eo:bj p.offers k.toNat bn.off.dflt=oI p k:=rfl;rw[show(k+1).toNat=k.toNat+1 by omega,eS,eo];refine⟨⟨hc,hd,by omega,by omega⟩,λhw=>?_,λhw=>?_⟩
  ·rw[if_pos hw];refine⟨?_,?_,?_,?_,?_,?_,⟨rfl,rfl⟩,?_,?_⟩<;>omega
  ·rw[if_neg (by rw[hw];simp),List.append_nil];refine⟨?_,⟨rfl,rfl⟩,?_,?_⟩<;>omega
 ·rw[show k.toNat=p.offers.length by omega];subst hu;unfold pz;rw[ψ];rfl
noncomputable def MN:bM:=⟨55,bp×Int,.cons cZ (.one (dU .i64)),λa=>(bC a.1=0/\a.1.offers.length<=15)/\a.2=(cE a.1).value,
 λa=> .bH [.row (.i .i64) (cE a.1).chosen,.si .i64 0]⟩
noncomputable def agb (p:bp) (m:Int):Nat->cB
 |3=> .inv Int (λk=>⟨[(1,.si .i64 m),(2,.ptr 0 0 20),(6,.ptr 1 0 22),(21,.si .i64 p.offers.length),(22,.si .i64 k)],
   [.cells p.ss 27 20 false,.cells (encS rW (fP (jW p m k.toNat))) 137 22 false,.dead]⟩)
   (λs=>iS s 22) (λk=>0<=k/\k<=p.offers.length) (λk=>(p.offers.length - k).toNat) λ_ _=> .look
 |_=> .look
theorem agc {α β:Type} (x:α×β):(x.1,x.2)=x:=rfl
theorem VE {p:bp} {m:Int} {k:Nat} (h:(jW p m k).value=m):∀n,jW p m (k+n)=jW p m k
 |0=>rfl
 |n+1=>by
  have ih:=VE h n;show qd p m (jW p m (k+n)) _=_;rw[ih];unfold qd;rw[if_pos h]
theorem agd {p:bp} {u:ji} {i:Int} (h:u.won.length=8):(qe p u i).won.length=8:=by
 unfold qe;split
 ·show(u.won.set _ true).length=8;rw[Ξ];exact h
 ·rfl
theorem VF {p:bp} {u:ji} (hc:bC p=0) (hG:rV p u):By u:=by
 have hq:=FM hc hG (k:=0);have h1:=yR.1 (pO (pQ hq).1).1;have h2:∀k,k<6->0<=u.opn.at k/\u.opn.at k<=u.left.at k:=λk hk=>⟨(wz hq hk).2.2.1,(wz hq hk).2.2.2.1⟩;have hf:=(ui hc).2 hG.f;obtain⟨v0,v1,v2⟩:=wv hc hf;have hv:u.value=dI p u.chosen:=by rw[hG.v,sJ hc hG.f]
 refine⟨λk hk=>?_,by omega,by omega⟩;have a:=h1 k hk;have b:=h2 k hk;have a':0<=u.left.at k/\u.left.at k<=4:=a;omega
theorem h436:Holds Tryz.prog MN:=by
 refine cJ (L:=[FP,MM,Me]) MN (λa=>agb a.1 a.2) (by simpa using⟨h443,h444,h434⟩) ?_;rintro⟨p,m⟩ ⟨⟨hc,h15⟩,hm⟩;simp only at hc h15 hm;refine bQ (let a:=SV.si .i64;let b:=γG;let c:=(0:Int);let d:=bq.cells;let e:=γc;let f:=bY .i64;let g:=(65536:Int);let h:=SV.bH;let A:=γV 0 0 20;let B:=γV 1 0 22;let k:=(↑p.offers.length:Int);let M:=a k;let Q:=SV.il .i64 0;let U:=a 0;let V:=a p.supply.a0;let W:=a p.supply.a1;let X:=a p.supply.a2;let Y:=a p.supply.a3;let Z:=a p.supply.a4;let a6:=a p.supply.a5;let a7:=a p.opn.a0;let a8:=a p.opn.a1;let a9:=a p.opn.a2;let aa:=a p.opn.a3;let ab:=a p.opn.a4;let ac:=a p.opn.a5;let o:=bn.i .i64;let C:=d [V,W,X,Y,Z,a6,a7,a8,a9,aa,ab,ac,a p.cls.a0,a p.cls.a1,a p.cls.a2,a p.cls.a3,a p.cls.a4,a p.cls.a5,e o p.classes,e bn.off p.offers] 27 20 false;let q:=δs false;let D:=fP (jW p m 0);let E:=D.fst;let F:=D.snd.fst;let G:=D.snd.snd.snd.snd.snd;let ad:=G.snd.snd.snd.snd.snd;let ae:=h [e o (cE p).chosen,U];0=0/\((((a m).same (a m)/\A.same A/\B.same B/\(a (↑p.offers.length:Int)).same M/\Q.same U/\True)/\C.same C/\(d [V,W,X,Y,Z,a6,a7,a8,a9,aa,ab,ac,e o [],Q,q,q,q,q,q,q,q,q] 137 22 false).same (d [a E.a0,a E.a1,a E.a2,a E.a3,a E.a4,a E.a5,a F.a0,a F.a1,a F.a2,a F.a3,a F.a4,a F.a5,e o D.snd.snd.fst,a D.snd.snd.snd.fst,b D.snd.snd.snd.snd.fst,b G.fst,b G.snd.fst,b G.snd.snd.fst,b G.snd.snd.snd.fst,b G.snd.snd.snd.snd.fst,b ad.fst,b ad.snd] 137 22 false)/\bq.dead.same bq.dead/\True)/\c<=c/\c<=k)/\∀(x:Int),let j:=x+(1:Int);let N:=a j;let s:=fP (jW p m x.toNat);let t:=s.fst;let v:=s.snd.fst;let af:=e o s.snd.snd.fst;let R:=s.snd.snd.snd.fst;let ag:=s.snd.snd.snd.snd.fst;let l:=s.snd.snd.snd.snd.snd;let ah:=l.snd.snd.snd.snd.fst;let O:=l.snd.snd.snd.snd.snd;let H:=fP (jW p m j.toNat);let I:=H.fst;let J:=H.snd.fst;let K:=H.snd.snd.snd.snd.snd;let ai:=K.snd.snd.snd.snd.snd;let aj:=d [a I.a0,a I.a1,a I.a2,a I.a3,a I.a4,a I.a5,a J.a0,a J.a1,a J.a2,a J.a3,a J.a4,a J.a5,e o H.snd.snd.fst,a H.snd.snd.snd.fst,b H.snd.snd.snd.snd.fst,b K.fst,b K.snd.fst,b K.snd.snd.fst,b K.snd.snd.snd.fst,b K.snd.snd.snd.snd.fst,b ai.fst,b ai.snd] 137 22 false;let P:=xP (t,v,s.snd.snd.fst,R,ag,l.fst,l.snd.fst,l.snd.snd.fst,l.snd.snd.snd.fst,ah,O.fst,O.snd);let w:=(fP (qe p P x)).fst;let r:=(fP (qe p P x)).snd;let y:=r.fst;let z:=r.snd.snd.fst;let ak:=r.snd.snd.snd.snd.fst;let n:=r.snd.snd.snd.snd.snd;let al:=n.snd.snd.snd.snd.fst;let am:=n.snd.snd.snd.snd.snd;let S:=gB p (xP (w,y,r.snd.fst,z,r.snd.snd.snd.fst,ak,n.fst,n.snd.fst,n.snd.snd.fst,n.snd.snd.snd.fst,al,am)) j.toNat;let an:=iW S (m - z) g;let ao:=f j/\(((a m).same (a m)/\A.same A/\B.same B/\M.same M/\N.same N/\True)/\C.same C/\(d [a t.a0,a t.a1,a t.a2,a t.a3,a t.a4,a t.a5,a v.a0,a v.a1,a v.a2,a v.a3,a v.a4,a v.a5,af,a R,b ag,b l.fst,b l.snd.fst,b l.snd.snd.fst,b l.snd.snd.snd.fst,b ah,b O.fst,b O.snd] 137 22 false).same aj/\bq.dead.same bq.dead/\True)/\(c<=j/\j<=k)/\(k - j).toNat<(k - x).toNat;let ap:=(h [af,Q]).same ae;let aq:=λ(u:Bool) ↦jV S (m - z) g=u;let ar:=λ(u:Bool) ↦decide (an≠c)=u;let au:=λ(u:ji) ↦let L:=(fP u).snd.snd.snd.snd;let T:=L.snd.snd.snd.snd.snd;By (xP ((fP u).fst,(fP u).snd.fst,(fP u).snd.snd.fst,(fP u).snd.snd.snd.fst,L.fst,L.snd.fst,L.snd.snd.fst,L.snd.snd.snd.fst,L.snd.snd.snd.snd.fst,T.fst,T.snd.fst,T.snd.snd));let av:=λ(u:Bool) ↦(!iM p P (oI p x))=u;let aw:=λ(u:Bool) ↦decide (R=m)=u;c<=x/\x<=k->(decide (x<k)=true->(aw true->ap)/\(aw false->(bC p=c/\au (jW p m x.toNat)/\c<=x/\x<k)/\(av true->ao)/\(av false->f j/\(bC p=c/\au (qe p P x)/\c<=j/\j<=k)/\f (m - z)/\(S.offers.length<=40/\(-9223372036854775808:Int)<=m - z/\m - z<=(9223372036854775807:Int))/\(ar true->(h [e o [],a an]).same ae)/\(ar false->(aq true->f j/\(((a m).same (a m)/\A.same A/\B.same B/\M.same M/\N.same N/\True)/\C.same C/\(d [a w.a0,a w.a1,a w.a2,a w.a3,a w.a4,a w.a5,a y.a0,a y.a1,a y.a2,a y.a3,a y.a4,a y.a5,e o r.snd.fst,a z,b r.snd.snd.snd.fst,b ak,b n.fst,b n.snd.fst,b n.snd.snd.fst,b n.snd.snd.snd.fst,b al,b am] 137 22 false).same aj/\bq.dead.same bq.dead/\True)/\(c<=j/\j<=k)/\(k - j).toNat<(k - x).toNat)/\(aq false->ao)))))/\(decide (x<k)=false->ap)) (by kernel_rfl) ?_;simp only[vcs];simp only[agc];refine⟨⟨rfl,by omega,by omega⟩,?_⟩;rintro k ⟨k0,k1⟩;obtain⟨hG,hC⟩:=MI hc h15 k.toNat (by omega);rw[<-hm] at hG hC;generalize hu:jW p m k.toNat=u at*;have hW:=@agd p u k hG.wl;simp only[VD hG.wl,VD hW];have hrun:jW p m (k+1).toNat=qd p m u k:=by
  rw[show(k+1).toNat=k.toNat+1 by omega];show qd p m (jW p m k.toNat) _=_;rw[hu,show((k.toNat:Nat):Int)=k by omega]
 have hD:=VF hc hG;refine⟨λhk=>⟨λhv=>?_,λhv0=>⟨⟨hc,hD,by omega,by omega⟩,λhw=>?_,λhw=>?_⟩⟩,λhk=>?_⟩
 ·have h1:=@VE p m k.toNat (by rw[hu];exact hv) (p.offers.length - k.toNat);rw[show k.toNat+(p.offers.length - k.toNat)=p.offers.length by omega,hu] at h1;show u.chosen=_;rw[<-h1,hm,VC hc h15]
 ·have hv:¬u.value=m:=hv0;have e:jW p m (k+1).toNat=u:=by rw[hrun];unfold qd;rw[if_neg hv,if_neg (by rw[hw];simp)]
  rw[e];refine⟨?_,rfl,?_,?_⟩<;>omega
 ·have hv:¬u.value=m:=hv0;have hy:qe p u k=eZ p u k:=by unfold qe;rw[if_pos hw]
  rw[hy];have hlt:∀j∈u.chosen,j<k:=λj hj=>by
   rw[hC] at hj;have:=of_decide_eq_true (List.mem_filter.1 hj).2;omega
  have hG2:=hG.next hc hlt ⟨by omega,by omega⟩ hw;have hD2:=VF hc hG2;have hq:=FM hc hG2 (k:=(k+1).toNat);have vR:(gB p (eZ p u k) (k+1).toNat).offers.length<=15:=by
   have h1:=γB (iM p (eZ p u k)) (p.offers.drop (k+1).toNat);rw[γJ] at h1;show((p.offers.drop _).filter _).length<=15;omega
  have hroom:iW (gB p (eZ p u k) (k+1).toNat) (m - (eZ p u k).value) 65536=0:=L0 hq (by omega) (by
   have:2^((gB p (eZ p u k) (k+1).toNat).offers.length+1)<=2^16:=δA (by omega) (by omega);have h16:(2:Nat)^16=65536:=rfl;omega);have hmb:0<=m/\m<=160000000:=by
   obtain⟨f1,f2⟩:=FN hc;have:=wv hc ((ui hc).2 f1);rw[sJ hc f1] at this;omega
  have hv2:0<=(eZ p u k).value/\(eZ p u k).value<=160000000:=hD2.2.1;have ev:(fP (eZ p u k)).2.2.2.1=(eZ p u k).value:=rfl;rw[ev,hroom];have er:jW p m (k+1).toNat=if jV (gB p (eZ p u k) (k+1).toNat) (m - (eZ p u k).value) 65536=true then eZ p u k else u:=by
   rw[hrun];unfold qd;rw[if_neg hv,if_pos hw]
  refine⟨by omega,⟨hc,hD2,by omega,by omega⟩,by omega,⟨by omega,by omega,by omega⟩,λh=>absurd rfl h,λ_=>⟨λhb=>?_,λhb=>?_⟩⟩
  ·rw[er,if_pos hb];refine⟨?_,rfl,?_,?_⟩<;>omega
  ·rw[er,if_neg (by rw[hb];simp)];refine⟨?_,rfl,?_,?_⟩<;>omega
 ·show u.chosen=_;rw[<-hu,hm,show k.toNat=p.offers.length by omega,VC hc h15]
noncomputable def VG (p:bp):List qX:=(iF p (gy p (jQ p)).chosen 65536).prf
noncomputable def MO:bM:=⟨22,bp,.one cZ,λp=>bC p≠0\/p.offers.length<=15,
 λp=> .bH [.agg [.row (.i .i64) (if bC p=0 then(cE p).chosen else[]),.si .i64 (if bC p=0 then(cE p).value else 0),.row eI (if bC p=0 then VG p else[])],.si .i64 (bC p)]⟩
theorem h427:Holds Tryz.prog MO:=by
 refine cJ (L:=[pP,A2,A4,Mc,MN]) MO lk (by simpa using⟨h79,h312,h315,h429,h436⟩) ?_;rintro(p:bp) (hd:bC p≠0\/p.offers.length<=15);refine bQ (let a:=(0:Int);let b:=SV.si .i64;let c:=γc;let d:=(65536:Int);let e:=SV.bH;let f:=γK;let g:=bn.i .i64;let l:=[b (bC p)];let j:=e (f [c g (if bC p=a then(cE p).chosen else[]),b (if bC p=a then(cE p).value else a),c eI (if bC p=a then VG p else[])]::l);let m:=SV.il .i64 0;let n:=f [c g [],m,c g []];let o:=decide (bC p≠a);let k:=(gy p (jQ p)).chosen;let h:=kz p k d;let q:=decide (h≠a);let r:=iF p k d;let s:=if h=a then r.val else a;let v:=λ(u u_1:Bool) (u_2:List SV) ↦u=u_1->(e u_2).same j;let t:=λ(u:Bool) (u_1:Int) ↦u=true->(e [n,b u_1]).same j;True/\(o=true->(e (n::l)).same j)/\(o=false->p.offers.length<=40/\(jQ p).length<=9223372036854775807/\(p.offers.length<=40/\k.length<=9223372036854775807)/\t q h/\(q=false->((bC p=a/\p.offers.length<=15)/\s=(cE p).value)/\t false a/\v false false [f [c g (cE p).chosen,b s,c eI (if h=a then r.prf else[])],m]))) (by kernel_rfl) ?_;simp only[vcs];by_cases hc:bC p=0
 ·have h15:p.offers.length<=15:=hd.resolve_left λh=>h hc;obtain⟨i1,_⟩:=Bq hc;have hst:=L9 hc;have hil:=(wv hc i1).2.2;have VH:((1+2^(p.offers.length+1):Nat):Int)<=65536+2:=by
   have:2^(p.offers.length+1)<=2^16:=δA (by omega) (by omega);have h16:(2:Nat)^16=65536:=rfl;omega
  have hroom:kz p (gy p (jQ p)).chosen 65536=0:=afP hc i1 (by omega) VH;obtain⟨_,s2,s3⟩:=Vs hc i1 (most:=65536) (by omega);have hv:=(s2 (s3 VH)).2.1;simp only[hroom,hc,if_true];refine⟨λh=>absurd rfl h,λ_=>⟨by omega,by omega,⟨by omega,by omega⟩,λh=>absurd rfl h,λ_=>⟨⟨⟨trivial,h15⟩,hv⟩,λh=>(by cases h),λ_=>⟨?_,trivial⟩⟩⟩⟩;rw[hv];rfl
 ·refine⟨λ_=>?_,λh=>absurd hc h⟩;rw[if_neg hc,if_neg hc,if_neg hc];rfl
theorem agf {p:bp} (hc:bC p=0):km p (cE p).chosen/\dI p (cE p).chosen=(cE p).value/\(cE p).value=eV p:=by
 obtain⟨_,h2,h3,h4⟩:=IJ hc;have hF:km p (cE p).chosen:=⟨h3,h2⟩;exact⟨hF,by rw[sJ hc hF,h4],(DO hc).symm⟩
theorem agh {p:bp} (hc:bC p=0) {l:List Int} (h:km p l):dI p l<=eV p:=by
 rw[sJ hc h];exact DZ hc h.2 (vH (dF hc) (zU h.1))
theorem agi {p:bp} (hc:bC p=0) {k:Int} (h0:0<=k) (h1:k<p.offers.length):km p [k]:=by
 refine⟨⟨by simp,λj hj=>?_⟩,?_⟩;·obtain rfl:=γr.1 hj;omega
 have hx:bj p.offers k.toNat bn.off.dflt∈p.offers:=cT (by omega);exact I1 (p:=p) (L:=[bj p.offers k.toNat bn.off.dflt]) (by simp) (vE ((pQ hc).2 _ hx)).2.2
theorem agj {p:bp} (hc:bC p=0) {k:Int} (h0:0<=k) (h1:k<p.offers.length):
  eV (ez p k)<=eV p/\mg p k+eV (iJ p k)<=eV p/\
  (k∈(cE p).chosen->eV p=mg p k+eV (iJ p k))/\(k∉(cE p).chosen->eV p=eV (ez p k)):=by
 obtain⟨hF,hv,ht⟩:=agf hc;obtain⟨⟨a1,a2,a3⟩,b1,b2,b3⟩:=@D1 p k (nE p) (0,0);have ho:=agi hc h0 h1;have hx:dI p [k]=mg p k:=by rw[sJ hc ho];simp[bZ,bV,mg]
 have up:∀l∈nE p,dI p l<=eV p:=λl hl=>agh hc ((sK hc).1 hl);have t0:=Aa p;have hC:=(sK hc).2 hF;have hk1:=up _ ((sK hc).2 ho);rw[hx] at hk1;rw[abq hc h0 h1,abw hc h0 h1];have A:((nE p).foldl (jv p k) (0,0)).1<=eV p:=by
  rcases a3 with h|⟨l,hl,_,h⟩;·simp only at h;omega
  ·have:=up l hl;omega
 have B:mg p k+((nE p).foldl (jv p k) (0,0)).2<=eV p:=by
  rcases b3 with h|⟨l,hl,_,h⟩;·simp only at h;omega
  ·have:=up l hl;omega
 refine⟨A,B,λhk=>?_,λhk=>?_⟩;·have:=b2 _ hC hk;omega
 ·have:=a2 _ hC hk;omega
def rX (x:Off) (v:Int):Off:=⟨x.bF,x.want,v⟩
def jH (p:bp) (k v:Int):bp:=om p (p.offers.set k.toNat (rX (bj p.offers k.toNat bn.off.dflt) v))
theorem MP {p q:bp} (hq:∀o,gW q o=gW p o) {x:Off} (hx:gW p x=0):∀{l:List Off} {i:Nat} {s:List lY},eJ p s l=0->(∀h:i<l.length,x.key=l[i].key)->eJ q s (l.set i x)=0
 |[],i,s,_,_=>by simp[eJ];|o::r,i,s,h,hk=>by
  simp only[eJ] at h;split at h;·rename_i h1;exact absurd h h1
  ·split at h;·cases h
   ·rename_i h1 h2;cases i with
    |zero=>
     have hk0:x.key=o.key:=hk (by simp);simp only[εM,eJ];rw[if_neg (by rw[hq];simp[hx]),hk0,if_neg h2];have:=MP hq hx (l:=r) (i:=r.length) h λh=>absurd h (by omega);rwa [ζr (by omega)] at this;|succ i=>
     simp only[ζa,eJ];rw[if_neg (by rw[hq];exact h1),if_neg h2];exact MP hq hx h λhh=>hk (ζX hh)
theorem VI {p:bp} (hc:bC p=0) {k v:Int} (h0:0<=k) (h1:k<p.offers.length) (v0:1<=v) (v1:v<=1000000):bC (jH p k v)=0:=by
 have hk:k.toNat<p.offers.length:=by omega
 have hz:=pQ hc;have hf:gI (jH p k v)=0:=by
  obtain⟨f1,f2,f3,f4,f5⟩:=pO hz.1;exact zJ (p:=jH p k v) f1 (λj hj=>by have h:=(lj (p:=p) (k:=j)).1 (f2 j hj);exact lj.2 h) (by simp only[jH,om,Ξ];omega) f5
 have hx:gW p (rX (bj p.offers k.toNat bn.off.dflt) v)=0:=by
  have:=hz.2 _ (cT (d:=bn.off.dflt) hk);obtain⟨s1,s2,s3⟩:=vE this;have s4:=zK s1;generalize bj p.offers k.toNat bn.off.dflt=x at*;have e:i7 p.classes.length (rX x v)=0:=by
   unfold i7 rX;rw[if_neg (by simp only;omega),if_neg (by simp only;omega),if_pos s4.2.2.2.2]
  unfold gW;rw[if_neg (by simp[e]),if_neg (show ¬(rX x v).want=bz.zero from s2),if_neg];have:fF p [rX x v]=fF p [x]:=rfl;rw[this,s3];simp
 have hl:eJ p [] p.offers=0:=by
  unfold bC at hc;rwa [if_neg (by simp[hz.1])] at hc
 unfold bC;rw[if_neg (by simp[hf])];exact MP (p:=p) (q:=jH p k v) (λ_=>rfl) hx hl λh=>by rw[cO h];rfl
theorem VJ {p:bp} {k v:Int} (h1:k.toNat<p.offers.length):bj (jH p k v).offers k.toNat bn.off.dflt=rX (bj p.offers k.toNat bn.off.dflt) v:=by
 have:k.toNat<(jH p k v).offers.length:=by simp only[jH,om,Ξ];exact h1
 rw[cO this];simp[jH,om]
theorem VK {p:bp} {k v:Int} (h0:0<=k) (h1:k<p.offers.length):ez (jH p k v) k=ez p k:=by
 unfold ez jH om;simp only;congr 1;rw[List.take_set,ζr (by simp only[Ω];omega),List.drop_set,if_pos (by omega)]
theorem VL {f:Off->Bool} {x:Off} (hx:f x=false):∀{l:List Off} {i:Nat},(∀h:i<l.length,f l[i]=false)->(l.set i x).filter f=l.filter f
 |[],i,_=>by simp;|o::r,0,h=>by
  have h0:f o=false:=h (by simp);rw[εM,γ0,γ0,if_neg (by simp[hx]),if_neg (by simp[h0])];|o::r,i+1,h=>by
  have:=VL (f:=f) hx (l:=r) (i:=i) λhh=>h (ζX hh);rw[ζa,γ0,γ0,this]
theorem VM {p:bp} {k v:Int} (h0:0<=k) (h1:k<p.offers.length):iJ (jH p k v) k=iJ p k:=by
 have hk:k.toNat<p.offers.length:=by omega
 unfold iJ;simp only[VJ hk];generalize hx:bj p.offers k.toNat bn.off.dflt=x;have hr:ju (jH p k v) (rX x v)=ju p x:=rfl;rw[hr];congr 1;unfold iP;rw[ψ,ψ,hr];exact VL (by simp[rX,hx]) λh=>by rw[cO hk] at hx;rw[hx];simp[rX]
theorem agk {p:bp} {k v:Int} (h0:0<=k) (h1:k<p.offers.length):lI (jH p k v) k=lI p k:=by
 unfold lI;rw[VK h0 h1,VM h0 h1]
theorem VN {p:bp} {k v:Int}:(jH p k v).offers.length=p.offers.length:=by simp[jH,om]
theorem agl {p:bp} (hc:bC p=0) {k v:Int} (h0:0<=k) (h1:k<p.offers.length) (v0:1<=v) (v1:v<=1000000):
  (v<=lI p k\/k∈(cE (jH p k v)).chosen)/\(lI p k<=v\/k∉(cE (jH p k v)).chosen):=by
 have hq:=VI hc h0 h1 v0 v1;obtain⟨a,b,c,d⟩:=agj hq (k:=k) h0 (by rw[VN];exact h1);have hx:mg (jH p k v) k=v:=by unfold mg;rw[VJ (by omega)];rfl
 rw[VK h0 h1] at a d;rw[VM h0 h1,hx] at b c;unfold lI;by_cases hk:k∈(cE (jH p k v)).chosen
 ·have:=c hk;exact⟨.inr hk,.inl (by omega)⟩
 ·have:=d hk;exact⟨.inl (by omega),.inr hk⟩
def s7 (c:List Int) (k:Int):Bool:=decide (k∈c)
def MQ:bM:=⟨23,Alloc×Int,.cons mT (.one (dU .i64)),λa=>a.1.chosen.length<=1000000000000,λa=> .sb (s7 a.1.chosen a.2)⟩
def agm (a:Alloc×Int):Nat->cB
 |2=> .inv Int (λi=>⟨[(1,.si .i64 a.2),(2,.ptr 0 0 2),(5,.si .i64 i)],[.cells [.row (.i .i64) a.1.chosen,.si .i64 a.1.value] 41 2 false]⟩) (λs=>iS s 5)
  (λi=>0<=i/\i<=a.1.chosen.length/\a.2∉a.1.chosen.take i.toNat) (λi=>(a.1.chosen.length - i).toNat) λ_ _=> .look
 |_=> .look
theorem h470:Holds Tryz.prog MQ:=by
 refine cJ (L:=[]) MQ agm (by simp) ?_;rintro⟨⟨c,v⟩,k⟩ (hc:c.length<=1000000000000);refine bQ (let a:=SV.si .i64;let b:=(0:Int);let f:=γV 0 0 2;let g:=bq.cells [γc (bn.i .i64) c,a v] 41 2 false;let e:=(↑c.length:Int);((((a k).same (a k)/\f.same f/\(SV.il .i64 0).same (a 0)/\True)/\g.same g/\True)/\b<=b/\b<=e/\(k∈[]->False))/\∀(x:Int),let h:=decide (x<(↑c.length:Int));let j:=decide (bj c x.toNat b=k);let d:=x+(1:Int);let l:=a d;b<=x/\x<=e/\(k∈List.take x.toNat c->False)->(h=true->b<=x/\x<(↑c.length:Int)/\x.toNat<c.length/\(j=true->(δs true).same (γG (s7 c k)))/\(j=false->bY .i64 d/\(((a k).same (a k)/\f.same f/\l.same l/\True)/\g.same g/\True)/\(b<=d/\d<=e/\(k∈List.take d.toNat c->False))/\(e - d).toNat<(e - x).toNat))/\(h=false->(δs false).same (γG (s7 c k)))) (by kernel_rfl) ?_;simp only[vcs];refine⟨⟨by omega,by omega,by simp⟩,?_⟩;rintro i ⟨i0,i1,hi⟩;refine⟨λhlt=>⟨i0,hlt,by omega,λh=>?_,λh=>⟨⟨by omega,by omega⟩,⟨by omega,by omega,?_⟩,by omega⟩⟩,λhge=>?_⟩
 ·have hm:=cT (d:=(0:Int)) (show i.toNat<c.length by omega);rw[h] at hm;simp[s7,hm]
 ·rw[j8 (d:=(0:Int)) i0 hlt];intro hm;rcases List.mem_append.1 hm with hm|hm;·exact hi hm
  ·exact h (γr.1 hm).symm
 ·rw[show i.toNat=c.length by omega,ψ] at hi;simp only[s7];exact(decide_eq_false hi).symm
theorem agn {p:bp} (hc:bC p=0):zS p (cE p).chosen/\(cE p).chosen.length<=160/\dp p (cE p).chosen=0:=by
 obtain⟨ho,_,ht,_⟩:=IJ hc;have hz:dp p (cE p).chosen=0:=aaQ (aa0▸ho);exact⟨zU ht,(xN hz).2.2.2.1,hz⟩
def MR:bM:=⟨4,bp×Int×Int,.cons cZ (.cons (dU .u8) (.one (dU .i64))),λa=>0<=a.2.1/\a.2.1<=255,λ_=> .sb true⟩
theorem h458:Holds Tryz.prog MR:=by
 refine cJ (L:=[I9,Im,Jg,DX,MO,MQ]) MR lk (by simpa using⟨h28,h24,h29,h35,h427,h470⟩) ?_;rintro⟨p,k,v⟩ ⟨hk0,hk1⟩;simp only at hk0 hk1;refine bQ (let a:=γG;let b:=(0:Int);let c:=δs false;let e:=p.offers.length;let g:=(↑e:Int);let d:=k.tmod g;let l:=bj p.offers d.toNat bn.off.dflt;let h:=p.offers.set d.toNat (Off.mk l.bF l.want v);let f:=bp.mk p.supply p.opn p.cls p.classes h;let i:=if bC f=b then(cE f).chosen else[];let j:=if iQ p d=b then lI p d else b;let m:=!decide (p.classes.length<=8/\p.offers.length<=9);let n:=decide (bC p≠b);let o:=decide (g=b);let q:=decide (v<(1:Int));let r:=decide ((1000000:Int)<v);let s:=decide (iQ p d≠b);let t:=(!s7 i d)=true;let w:=(!s7 i d)=false;let x:=decide (j<=v)=true;let y:=decide (j<=v)=false;let z:=λ(u:Bool) ↦decide ((if iQ f d=b then lI f d else b)≠j)=u;let A:=λ(u:Bool) ↦decide (iQ f d≠b)=u;let B:=λ(u:Bool) ↦s7 i d=u;let C:=λ(u:Bool) ↦decide (bC f≠b)=u;let D:=λ(u:Bool) ↦decide (v<=j)=u;True/\(m=true->True/\(a true).same (a true))/\(m=false->True/\(n=true->True/\(a true).same (a true))/\(n=false->(o=true->True/\(a true).same (a true))/\(o=false->(q=true->True/\(a true).same (a true))/\(q=false->(r=true->True/\(a true).same (a true))/\(r=false->bY .i64 k/\g≠b/\True/\0=0/\(0+e)*64<=140737488355328/\0+e<=1000000000000/\e=e/\b<=d/\d<g/\e=e/\d.toNat<e/\e=h.length/\True/\e=h.length/\(bC f≠b\/h.length<=15)/\(s=true->(c).same (a true))/\(s=false->(A true->(c).same (a true))/\(A false->(C true->(c).same (a true))/\(C false->(z true->(c).same (a true))/\(z false->i.length<=1000000000000/\(D true->(x->True/\(a true).same (a true))/\(y->(t->True/\(a true).same (a true))/\(w->(c).same (a true))))/\(D false->(B true->(x->True/\(a true).same (a true))/\(y->(t->True/\(a true).same (a true))/\(w->(c).same (a true))))/\(B false->(c).same (a true))))))))))))) (by kernel_rfl) ?_;simp only[vcs];refine⟨λ_=>trivial,λc1=>⟨λ_=>trivial,λc2=>⟨λ_=>trivial,λc3=>⟨λ_=>trivial,λc4=>⟨λ_=>trivial,λc5=>?_⟩⟩⟩⟩⟩;have hc:bC p=0:=Classical.not_not.1 c2;have j0:0<=k.tmod p.offers.length:=Int.tmod_nonneg _ hk0;have j1:k.tmod p.offers.length<p.offers.length:=Int.tmod_lt_of_pos _ (by omega);generalize k.tmod (p.offers.length:Int)=j at j0 j1 ⊢;have hq:(⟨p.supply,p.opn,p.cls,p.classes,p.offers.set j.toNat ⟨(bj p.offers j.toNat bn.off.dflt).bF,(bj p.offers j.toNat bn.off.dflt).want,v⟩⟩:bp)=jH p j v:=rfl;have hqc:=VI hc j0 j1 (v:=v) (by omega) (by omega);have m1:iQ p j=0:=by unfold iQ;rw[if_neg (by simp[hc]),if_neg (by omega)]
 have m2:iQ (jH p j v) j=0:=by unfold iQ;rw[if_neg (by simp[hqc]),if_neg (by rw[VN];omega)]
 obtain⟨l1,l2⟩:=agl hc j0 j1 (v:=v) (by omega) (by omega);simp only[hq,Ξ,m1,m2,hqc,if_true,agk j0 j1];have hl:=(agn hqc).2.1;refine⟨⟨by omega,by omega⟩,by omega,by omega,by omega,j0,j1,by omega,trivial,trivial,.inr (by omega),λh=>absurd rfl h,λ_=>⟨λh=>absurd rfl h,λ_=>⟨λh=>absurd rfl h,λ_=>⟨λh=>absurd rfl h,λ_=>⟨by omega,λh1=>⟨λ_=>trivial,λh2=>⟨λ_=>trivial,λh3=>?_⟩⟩,λh1=>⟨λh3=>⟨λ_=>trivial,λh2=>absurd (by omega) h2⟩,λh3=>?_⟩⟩⟩⟩⟩⟩
 ·rcases l2 with h|h;·exact absurd h h2
  ·exact absurd (of_decide_eq_true h3) h
 ·rcases l1 with h|h;·exact absurd h h1
  ·rw[show s7 (cE (jH p j v)).chosen j=true from decide_eq_true h] at h3;cases h3
end Go.Vi

/-
  Contracts: a prefix with one more offer, and what is left behind it.
  Conditions: none.
-/
import Derived.Test.YtbnhiekmnpikhaaGreatDA06
import Derived.Test.YtbnhiekmnpikhaaGreatDA08
import Derived.Test.YtbnhiekmnpikhaaGreatDA09
import Derived.Test.YtbnhiekmnpikhaaGreatDA11
import Derived.Test.YtbnhiekmnpikhaaGreatDA12
import Derived.Test.YtbnhiekmnpikhaaGreatDA13
import Derived.Test.YtbnhiekmnpikhaaGreatDA07
import Derived.Test.YtbnhiekmnpikhaaGreatDA10
import Derived.Maps.OwnRows
import Derived.Maps.Ext
import Derived.WalkKit
import Derived.Deep.QuietTactic
import Derived.BigQuiet
import Derived.StillTailTactics
import Derived.Shelf.SlSortCmp.NoneTotal
import Derived.Shelf.SlGeneric
import Derived.WalkSpells
import Derived.Maps.RangeWalk
set_option maxRecDepth 100000
set_option maxHeartbeats 4000000
set_option linter.all false
open Array renaming getElem?_eq_some_iff->γz
open Bool renaming and_eq_true->θ
open Classical renaming byContradiction->δb
open Go.Maps renaming has->θc
open Go.Vi.SV renaming si->γg,sb->γx,agg->γQ,row->Ω,il->γA,ptr->γP
open Int renaming toNat_natCast->γl,le_refl->εf,le_trans->εe,le_of_lt->γe
open List renaming eq_nil_of_length_eq_zero->τ,take_succ_eq_append_getElem->γ0,take_length->ψ,mem_filter->γt,set_eq_of_length_le->ζv,mem_cons->γv,all_eq_true->φ,mem_range->γp,mem_append->γk,mem_cons_self->γX,length_set->Φ,replicate->δ,mem_map->Ψ,getElem_of_mem->γJ,not_mem_nil->δA,length_map->Ξ,length_replicate->γC,filter_sublist->γR,mem_cons_of_mem->γy,countP_cons->ζ7,range->ω,filter_congr->εn,getElem_map->δB,nodup_cons->γW,map_cons->π,map_map->γ3,perm_ext_iff_of_nodup->γ4,map->γb,take->Δ,map_append->γa,pairwise_mergeSort->δ7,mergeSort_perm->δu,rel_of_pairwise_cons->ζn,getElem?_take_of_lt->δz,getElem?_map->γE,getElem?_eq_getElem->μ,mem_or_eq_of_mem_set->δk,take_succ_cons->δt,take_zero->εs,drop_succ_cons->εy,drop_zero->εr,setIfInBounds_toArray->ζd,set_cons_zero->δ9,set_cons_succ->ζh,eq_nil_iff_forall_not_mem->δ2,attachWith_map_subtype_val->εR,size_toArray->ζ2,length_attachWith->εN,getElem?_eq_some_iff->ζ
open List.Perm renaming eq_of_pairwise->εF
open List.cons renaming injEq->Γ
open Nat renaming pow_le_pow_right->δr,le_refl->ν,le_trans->δS,zero_le->δ4,lt_of_lt_of_le->γh,le_succ_of_le->ζw
open Option renaming map_eq_some_iff->ε
open Prod renaming fst->εo,snd->ζ8
open Subtype renaming val->εQ
namespace Go.Vi
open Go.Proofs.YtbnhiekmnpikhaaGreat.Ir
open Go.Proofs
noncomputable def Vt (L:List bM) (W:nz) (a:Nat->Option (Nat×Nat×Nat)):i7:=⟨⟨vS L,W.C⟩,rE,rF,a,jM,λ_=>false⟩
theorem af5 {L:List bM} {W:nz} (e:Nat->Option (Nat×Nat×Nat)) (c:bM) (F:fz) (g:c.α->Nat->cC) (i:qE Tryz.prog W) (k:∀c∈L,Holds Tryz.prog c)
  
  (h:∀a,c.dom a->Vc (uk (Vt L W e) (g a) F (c.A.put a) λv=>v.sL (c.res a))) (l:jM c.f=some F:=by kernel_rfl) (d:pR c.f L=none:=by kernel_rfl) (b:∀a,(c.A.put a).length=F.params:=by intro _;kernel_rfl):Holds Tryz.prog c:=
 λa j=>HD (p:=Vt L W e) (Λ:=g a) (vT i k sQ) (vU i) (λ_ _ h=>h) l (HF d) (b a) (λ_ h=>Ag h) (h a j).out
def qe (p:bn) (u:jD) (i:Int):jD:=if jk p u (oI p i)=true then fe p u i else zX
def BI (u:jD):Prop:=(∀k,k<6->(-1000<=u.left.at k/\u.left.at k<=1000)/\(-1000<=u.opn.at k/\u.opn.at k<=1000))/\(0<=u.value/\u.value<=160000000)/\u.chosen.length<=1000
def Fg:bM:=⟨79,zd×bn×Int,.cons (dY sj) (.cons dO (.one (eZ .i64))),λa=>bz a.2.1=0/\BI (xP a.1)/\0<=a.2.2/\a.2.2<a.2.1.offers.length,
 λa=> .bI [.agg (encS sj (fP (qe a.2.1 (xP a.1) a.2.2))),.sb (jk a.2.1 (xP a.1) (oI a.2.1 a.2.2))]⟩
def af6 (n:Nat):Option (Nat×Nat×Nat):=if n=2 then some (3,0,8) else none
theorem h443:Holds Tryz.prog Fg:=by
 refine af5 (L:=[]) (W:=gP [L0]) af6 Fg (fG 79) lk (lg (by simpa using h450)) (by simp) ?_;rintro⟨⟨l,o,c,v,w0,w1,w2,w3,w4,w5,w6,w7⟩,p,i⟩ ⟨hc,hd,i0,i1⟩;simp only at hc hd i0 i1;refine bQ (let a:=γg .i64;let b:=γx;let d:=(-1000:Int);let e:=(1000:Int);let f:=γQ;let g:=SV.bI;let h:=(0:Int);let j:=SV.bl true;let m:=cq .i64;let n:=(1:Int);let q:=(2:Int);let r:=(3:Int);let s:=(4:Int);let t:=(5:Int);let u:=(6:Int);let w:=(7:Int);let x:=Ω;let L:=γA .i64 0;let ac:=bp.i .i64;let P:=x ac [];let Q:=SV.bl false;let M:=xP (l,o,c,v,w0,w1,w2,w3,w4,w5,w6,w7);let aa:=(fP (qe p M i)).fst;let N:=(fP (qe p M i)).snd;let ab:=N.snd.snd.snd.snd.snd;let y:=g [f [a aa.a0,a aa.a1,a aa.a2,a aa.a3,a aa.a4,a aa.a5,a N.fst.a0,a N.fst.a1,a N.fst.a2,a N.fst.a3,a N.fst.a4,a N.fst.a5,x ac N.snd.fst,a N.snd.snd.fst,b N.snd.snd.snd.fst,b N.snd.snd.snd.snd.fst,b ab.fst,b ab.snd.fst,b ab.snd.snd.fst,b ab.snd.snd.snd.fst,b ab.snd.snd.snd.snd.fst,b ab.snd.snd.snd.snd.snd],b (jk p M (oI p i))];let ad:=bj p.offers i.toNat bp.off.dflt;let O:=ad.bT;let G:=ad.want;let R:=(↑p.classes.length:Int);let a9:=l.sub G;let I:=a9.pos;let H:=ad.value;let S:=gI p M (Off.mk h G H);let A:=a a9.a0;let B:=a a9.a1;let C:=a a9.a2;let D:=a a9.a3;let E:=a a9.a4;let F:=a a9.a5;let ae:=a S.a0;let af:=a S.a1;let ag:=a S.a2;let ah:=a S.a3;let ai:=a S.a4;let aj:=a S.a5;let T:=a (v+H);let ak:=[b w6,b w7];let al:=b w4::b w5::ak;let bc:=b w2::b w3::al;let am:=T::j::b w1::bc;let z:=[j];let U:=x ac [i];let J:=c.length+1;let V:=x ac (c++[i]);let W:=gI p M (Off.mk n G H);let an:=a W.a0;let ao:=a W.a1;let ap:=a W.a2;let aq:=a W.a3;let ar:=a W.a4;let au:=a W.a5;let av:=T::b w0::j::bc;let X:=gI p M (Off.mk q G H);let aw:=a X.a0;let ax:=a X.a1;let ay:=a X.a2;let az:=a X.a3;let aA:=a X.a4;let aB:=a X.a5;let aC:=T::b w0::b w1::j::b w3::al;let Y:=gI p M (Off.mk r G H);let aD:=a Y.a0;let aE:=a Y.a1;let aF:=a Y.a2;let aG:=a Y.a3;let aH:=a Y.a4;let aI:=a Y.a5;let aJ:=T::b w0::b w1::b w2::j::al;let Z:=gI p M (Off.mk s G H);let aK:=a Z.a0;let aL:=a Z.a1;let aM:=a Z.a2;let aN:=a Z.a3;let aO:=a Z.a4;let aP:=a Z.a5;let aQ:=T::b w0::b w1::b w2::b w3::j::b w5::ak;let a6:=gI p M (Off.mk t G H);let aR:=a a6.a0;let aS:=a a6.a1;let aT:=a a6.a2;let aU:=a a6.a3;let aV:=a a6.a4;let aW:=a a6.a5;let aX:=T::b w0::b w1::b w2::b w3::b w4::j::ak;let a7:=gI p M (Off.mk u G H);let aY:=a a7.a0;let aZ:=a a7.a1;let b0:=a a7.a2;let b1:=a a7.a3;let b2:=a a7.a4;let b3:=a a7.a5;let b4:=[T,b w0,b w1,b w2,b w3,b w4,b w5,j,b w7];let a8:=gI p M (Off.mk w G H);let b5:=a a8.a0;let b6:=a a8.a1;let b7:=a a8.a2;let b8:=a a8.a3;let b9:=a a8.a4;let ba:=a a8.a5;let bb:=T::b w0::b w1::b w2::b w3::b w4::b w5::b w6::z;let K:=(g [f [L,L,L,L,L,L,L,L,L,L,L,L,P,L,Q,Q,Q,Q,Q,Q,Q,Q],Q]).same y;h<=i/\i<(↑p.offers.length:Int)/\i.toNat<p.offers.length/\(O=h->(w0=true->K)/\(w0=false->(((∀(k:Nat),k<6->(d<=l.at k/\l.at k<=e)/\d<=o.at k/\o.at k<=e)/\G.ok=true)/\h<=h/\h<R)/\((!(I&&S.pos))=true->K)/\((!(I&&S.pos))=false->m (v+H)/\(c.length=0->(1=0->(g (f (A::B::C::D::E::F::ae::af::ag::ah::ai::aj::P::am)::z)).same y)/\(1≠0->8<=140737488355328/\1<=1000000000000/\1=1/\(g (f (A::B::C::D::E::F::ae::af::ag::ah::ai::aj::U::am)::z)).same y))/\(c.length≠0->c.length*8<=140737488355328/\c.length<=1000000000000/\c.length=c.length/\J*8<=140737488355328/\J<=1000000000000/\(c++[i]).length=(c++[i]).length/\(g (f (A::B::C::D::E::F::ae::af::ag::ah::ai::aj::V::am)::z)).same y))))/\(O=n->(w1=true->K)/\(w1=false->(((∀(k:Nat),k<6->(d<=l.at k/\l.at k<=e)/\d<=o.at k/\o.at k<=e)/\G.ok=true)/\h<=n/\n<R)/\((!(I&&W.pos))=true->K)/\((!(I&&W.pos))=false->m (v+H)/\(c.length=0->(1=0->(g (f (A::B::C::D::E::F::an::ao::ap::aq::ar::au::P::av)::z)).same y)/\(1≠0->8<=140737488355328/\1<=1000000000000/\1=1/\(g (f (A::B::C::D::E::F::an::ao::ap::aq::ar::au::U::av)::z)).same y))/\(c.length≠0->c.length*8<=140737488355328/\c.length<=1000000000000/\c.length=c.length/\J*8<=140737488355328/\J<=1000000000000/\(c++[i]).length=(c++[i]).length/\(g (f (A::B::C::D::E::F::an::ao::ap::aq::ar::au::V::av)::z)).same y))))/\(O=q->(w2=true->K)/\(w2=false->(((∀(k:Nat),k<6->(d<=l.at k/\l.at k<=e)/\d<=o.at k/\o.at k<=e)/\G.ok=true)/\h<=q/\q<R)/\((!(I&&X.pos))=true->K)/\((!(I&&X.pos))=false->m (v+H)/\(c.length=0->(1=0->(g (f (A::B::C::D::E::F::aw::ax::ay::az::aA::aB::P::aC)::z)).same y)/\(1≠0->8<=140737488355328/\1<=1000000000000/\1=1/\(g (f (A::B::C::D::E::F::aw::ax::ay::az::aA::aB::U::aC)::z)).same y))/\(c.length≠0->c.length*8<=140737488355328/\c.length<=1000000000000/\c.length=c.length/\J*8<=140737488355328/\J<=1000000000000/\(c++[i]).length=(c++[i]).length/\(g (f (A::B::C::D::E::F::aw::ax::ay::az::aA::aB::V::aC)::z)).same y))))/\(O=r->(w3=true->K)/\(w3=false->(((∀(k:Nat),k<6->(d<=l.at k/\l.at k<=e)/\d<=o.at k/\o.at k<=e)/\G.ok=true)/\h<=r/\r<R)/\((!(I&&Y.pos))=true->K)/\((!(I&&Y.pos))=false->m (v+H)/\(c.length=0->(1=0->(g (f (A::B::C::D::E::F::aD::aE::aF::aG::aH::aI::P::aJ)::z)).same y)/\(1≠0->8<=140737488355328/\1<=1000000000000/\1=1/\(g (f (A::B::C::D::E::F::aD::aE::aF::aG::aH::aI::U::aJ)::z)).same y))/\(c.length≠0->c.length*8<=140737488355328/\c.length<=1000000000000/\c.length=c.length/\J*8<=140737488355328/\J<=1000000000000/\(c++[i]).length=(c++[i]).length/\(g (f (A::B::C::D::E::F::aD::aE::aF::aG::aH::aI::V::aJ)::z)).same y))))/\(O=s->(w4=true->K)/\(w4=false->(((∀(k:Nat),k<6->(d<=l.at k/\l.at k<=e)/\d<=o.at k/\o.at k<=e)/\G.ok=true)/\h<=s/\s<R)/\((!(I&&Z.pos))=true->K)/\((!(I&&Z.pos))=false->m (v+H)/\(c.length=0->(1=0->(g (f (A::B::C::D::E::F::aK::aL::aM::aN::aO::aP::P::aQ)::z)).same y)/\(1≠0->8<=140737488355328/\1<=1000000000000/\1=1/\(g (f (A::B::C::D::E::F::aK::aL::aM::aN::aO::aP::U::aQ)::z)).same y))/\(c.length≠0->c.length*8<=140737488355328/\c.length<=1000000000000/\c.length=c.length/\J*8<=140737488355328/\J<=1000000000000/\(c++[i]).length=(c++[i]).length/\(g (f (A::B::C::D::E::F::aK::aL::aM::aN::aO::aP::V::aQ)::z)).same y))))/\(O=t->(w5=true->K)/\(w5=false->(((∀(k:Nat),k<6->(d<=l.at k/\l.at k<=e)/\d<=o.at k/\o.at k<=e)/\G.ok=true)/\h<=t/\t<R)/\((!(I&&a6.pos))=true->K)/\((!(I&&a6.pos))=false->m (v+H)/\(c.length=0->(1=0->(g (f (A::B::C::D::E::F::aR::aS::aT::aU::aV::aW::P::aX)::z)).same y)/\(1≠0->8<=140737488355328/\1<=1000000000000/\1=1/\(g (f (A::B::C::D::E::F::aR::aS::aT::aU::aV::aW::U::aX)::z)).same y))/\(c.length≠0->c.length*8<=140737488355328/\c.length<=1000000000000/\c.length=c.length/\J*8<=140737488355328/\J<=1000000000000/\(c++[i]).length=(c++[i]).length/\(g (f (A::B::C::D::E::F::aR::aS::aT::aU::aV::aW::V::aX)::z)).same y))))/\(O=u->(w6=true->K)/\(w6=false->(((∀(k:Nat),k<6->(d<=l.at k/\l.at k<=e)/\d<=o.at k/\o.at k<=e)/\G.ok=true)/\h<=u/\u<R)/\((!(I&&a7.pos))=true->K)/\((!(I&&a7.pos))=false->m (v+H)/\(c.length=0->(1=0->(g (f (A::B::C::D::E::F::aY::aZ::b0::b1::b2::b3::P::b4)::z)).same y)/\(1≠0->8<=140737488355328/\1<=1000000000000/\1=1/\(g (f (A::B::C::D::E::F::aY::aZ::b0::b1::b2::b3::U::b4)::z)).same y))/\(c.length≠0->c.length*8<=140737488355328/\c.length<=1000000000000/\c.length=c.length/\J*8<=140737488355328/\J<=1000000000000/\(c++[i]).length=(c++[i]).length/\(g (f (A::B::C::D::E::F::aY::aZ::b0::b1::b2::b3::V::b4)::z)).same y))))/\(O=w->(w7=true->K)/\(w7=false->(((∀(k:Nat),k<6->(d<=l.at k/\l.at k<=e)/\d<=o.at k/\o.at k<=e)/\G.ok=true)/\h<=w/\w<R)/\((!(I&&a8.pos))=true->K)/\((!(I&&a8.pos))=false->m (v+H)/\(c.length=0->(1=0->(g (f (A::B::C::D::E::F::b5::b6::b7::b8::b9::ba::P::bb)::z)).same y)/\(1≠0->8<=140737488355328/\1<=1000000000000/\1=1/\(g (f (A::B::C::D::E::F::b5::b6::b7::b8::b9::ba::U::bb)::z)).same y))/\(c.length≠0->c.length*8<=140737488355328/\c.length<=1000000000000/\c.length=c.length/\J*8<=140737488355328/\J<=1000000000000/\(c++[i]).length=(c++[i]).length/\(g (f (A::B::C::D::E::F::b5::b6::b7::b8::b9::ba::V::bb)::z)).same y))))/\h<=O/\O<(8:Int)) (by kernel_rfl) ?_;simp only[vcs];have hg:=(dQ hc).2.2.2.2 (oI p i) (dq (by omega));have hc8:=(dQ hc).1;obtain⟨h1,h2,h3⟩:=hd;have h1':∀k,k<6->(-1000<=l.at k/\l.at k<=1000)/\(-1000<=o.at k/\o.at k<=1000):=h1;have h2':0<=v/\v<=160000000:=h2;have h3':c.length<=1000:=h3;refine⟨i0,i1,by omega,?_⟩;have eo:bj p.offers i.toNat bp.off.dflt=oI p i:=rfl;simp only[eo];generalize hr:fP (qe p (xP (l,o,c,v,w0,w1,w2,w3,w4,w5,w6,w7)) i)=r;simp only[qe,fe] at hr;generalize hW:jk p (xP (l,o,c,v,w0,w1,w2,w3,w4,w5,w6,w7)) (oI p i)=W at*;simp only[jk] at hW;generalize oI p i=x at*;obtain⟨b,w,y⟩:=x;simp only at hg hW hr ⊢;refine⟨?_,?_,?_,?_,?_,?_,?_,?_,?_⟩;case refine_9=>
  exact⟨hg.1,by omega⟩
 all_goals
  rintro rfl;refine⟨λhw=>?_,λhw=>⟨⟨⟨h1',hg.2.2.1⟩,by omega,by omega⟩,λhq=>?_,λhq=>⟨by omega,λhl=>⟨λh=>absurd h (by decide),λ_=>⟨by omega,by omega,?_⟩⟩,λhl=>⟨by omega,by omega,by omega,by omega,?_⟩⟩⟩⟩;all_goals subst hw
  ·have e:W=false:=hW.symm;subst e;subst hr;exact⟨rfl,rfl⟩
  ·have e:W=false:=hW.symm.trans hq;subst e;subst hr;exact⟨rfl,rfl⟩
  ·have e:W=true:=hW.symm.trans (by simp only[θ];exact⟨rfl,hq⟩);subst e;subst hr;have:=τ hl;subst this;exact⟨rfl,rfl⟩
  ·have e:W=true:=hW.symm.trans (by simp only[θ];exact⟨rfl,hq⟩);subst e;subst hr;exact⟨rfl,rfl⟩
def L1:bM:=⟨81,zd×bn×Int,.cons (dY sj) (.cons dO (.one (eZ .i64))),λa=>bz a.2.1=0/\BI (xP a.1)/\0<=a.2.2/\a.2.2<=a.2.1.offers.length,
 λa=> .agg (gU a.2.1 (xP a.1) a.2.2.toNat).ss⟩
def pE (p:bn) (u:jD) (i k:Nat):List Off:=((p.offers.take k).drop i).filter (jk p u)
theorem af7 {p:bn} {u:jD} {i:Nat}:pE p u i i=[]:=by
 grind[pE]
theorem af8 {p:bn} {u:jD} {i k:Nat} (b:i<=k) (a:k<p.offers.length):pE p u i (k+1)=pE p u i k++if jk p u (oI p k)=true then[oI p k] else[]:=by
 unfold pE;have e:oI p k=p.offers[k]:=cV (by omega);rw[γ0 a,List.drop_append_of_le_length (by grind),List.filter_append,e];grind
theorem af9 {p:bn} {u:jD} {i k:Nat}:(pE p u i k).length<=p.offers.length:=by
 grind[pE]
def aga (l o:bC) (c:List Int) (v:Int) (w0 w1 w2 w3 w4 w5 w6 w7:Bool) (p:bn) (i:Int):Nat->cC
 |3=> .inv Int (λk=>⟨[(3,.ptr 0 0 22),(4,.ptr 1 0 20),(6,.ptr 2 0 20),(7,.ptr 3 0 20),(8,.si .i64 k)],
   [.cells (encS sj (l,o,c,v,w0,w1,w2,w3,w4,w5,w6,w7)) 142 22 false,.cells p.ss 27 20 false,
    .cells [.il .i64 0,.il .i64 0,.il .i64 0,.il .i64 0,.il .i64 0,.il .i64 0,.il .i64 0,.il .i64 0,.il .i64 0,.il .i64 0,.il .i64 0,.il .i64 0,.il .i64 0,.il .i64 0,.il .i64 0,.il .i64 0,.il .i64 0,.il .i64 0,.sc (.slice none 0 0),.sc (.slice none 0 0)] 27 20 false,
    .cells [.si .i64 l.a0,.si .i64 l.a1,.si .i64 l.a2,.si .i64 l.a3,.si .i64 l.a4,.si .i64 l.a5,.si .i64 o.a0,.si .i64 o.a1,.si .i64 o.a2,.si .i64 o.a3,.si .i64 o.a4,.si .i64 o.a5,
     .si .i64 p.cls.a0,.si .i64 p.cls.a1,.si .i64 p.cls.a2,.si .i64 p.cls.a3,.si .i64 p.cls.a4,.si .i64 p.cls.a5,.row (.i .i64) p.classes,.ow 4 (pE p (xP (l,o,c,v,w0,w1,w2,w3,w4,w5,w6,w7)) i.toNat k.toNat).length 8] 27 20 false,
    .row .off (pE p (xP (l,o,c,v,w0,w1,w2,w3,w4,w5,w6,w7)) i.toNat k.toNat) 65 true]⟩)
   (λs=>iS s 8) (λk=>i<=k/\k<=p.offers.length) (λk=>(p.offers.length - k).toNat) λ_ _=> .look
 |_=> .look
theorem h444:Holds Tryz.prog L1:=by
 refine cH (L:=[Fg]) L1 (λa=>aga a.1.1 a.1.2.1 a.1.2.2.1 a.1.2.2.2.1 a.1.2.2.2.2.1 a.1.2.2.2.2.2.1 a.1.2.2.2.2.2.2.1 a.1.2.2.2.2.2.2.2.1 a.1.2.2.2.2.2.2.2.2.1 a.1.2.2.2.2.2.2.2.2.2.1 a.1.2.2.2.2.2.2.2.2.2.2.1 a.1.2.2.2.2.2.2.2.2.2.2.2 a.2.1 a.2.2) (by simpa using h443) ?_;rintro⟨⟨l,o,c,v,w0,w1,w2,w3,w4,w5,w6,w7⟩,p,i⟩ ⟨hc,hd,i0,i1⟩;simp only at hc hd i0 i1;refine bQ (let a:=γg .i64;let b:=bq.cells;let d:=bq.row;let e:=γx;let f:=Ω;let g:=γP;let h:=(0:Int);let j:=SV.ow;let y:=a p.cls.a0;let z:=a p.cls.a1;let A:=a p.cls.a2;let B:=a p.cls.a3;let C:=a p.cls.a4;let D:=a p.cls.a5;let Z:=bp.i .i64;let E:=f Z p.classes;let G:=g 0 0 22;let H:=g 1 0 20;let I:=g 2 0 20;let J:=g 3 0 20;let K:=a l.a0;let L:=a l.a1;let M:=a l.a2;let N:=a l.a3;let O:=a l.a4;let P:=a l.a5;let Q:=a o.a0;let R:=a o.a1;let S:=a o.a2;let T:=a o.a3;let U:=a o.a4;let V:=a o.a5;let W:=b [K,L,M,N,O,P,Q,R,S,T,U,V,f Z c,a v,e w0,e w1,e w2,e w3,e w4,e w5,e w6,e w7] 142 22 false;let X:=f bp.off p.offers;let k:=γA .i64 0;let a8:=SV.sc (Value.slice none 0 0);let Y:=b [k,k,k,k,k,k,k,k,k,k,k,k,k,k,k,k,k,k,a8,a8] 27 20 false;let n:=xP (l,o,c,v,w0,w1,w2,w3,w4,w5,w6,w7);let a9:=pE p n i.toNat i.toNat;let q:=(↑p.offers.length:Int);let a6:=(↑p.offers.length:Int);let F:=gU p n i.toNat;let r:=F.supply;let s:=F.opn;let t:=F.cls;let a7:=λ(u u_1:bC) (u_2 u_3:SV) ↦let aa:=a u.a0;let ab:=a u.a1;let ac:=a u.a2;let ad:=a u.a3;let ae:=a u.a4;let af:=a u.a5;let ag:=a u_1.a0;let ah:=a u_1.a1;let ai:=a u_1.a2;let aj:=a u_1.a3;let ak:=a u_1.a4;let al:=a u_1.a5;(b [aa,ab,ac,ad,ae,af,ag,ah,ai,aj,ak,al,y,z,A,B,C,D,E,u_2] 27 20 false).same (b [aa,ab,ac,ad,ae,af,ag,ah,ai,aj,ak,al,y,z,A,B,C,D,E,u_3] 27 20 false);(((G.same G/\H.same H/\I.same I/\J.same J/\(a i).same (a i)/\True)/\W.same W/\a7 p.supply p.opn X X/\Y.same Y/\a7 l o (j 4 0 8) (j 4 a9.length 8)/\(d bp.off [] 65 true).same (d bp.off a9 65 true)/\True)/\i<=i/\i<=q)/\∀(x:Int),let w:=x+(1:Int);let am:=a w;let an:=pE p n i.toNat w.toNat;let ao:=jk p n (oI p x);let m:=pE p n i.toNat x.toNat;let ap:=m.length+1;let aq:=m++[bj p.offers x.toNat bp.off.dflt];let ar:=λ(u:Nat) (u_1:bq) ↦cq .i64 w/\((G.same G/\H.same H/\I.same I/\J.same J/\am.same am/\True)/\W.same W/\a7 p.supply p.opn X X/\Y.same Y/\(b [K,L,M,N,O,P,Q,R,S,T,U,V,y,z,A,B,C,D,E,j 4 u 8] 27 20 false).same (b [K,L,M,N,O,P,Q,R,S,T,U,V,y,z,A,B,C,D,E,j 4 an.length 8] 27 20 false)/\u_1.same (d bp.off an 65 true)/\True)/\(i<=w/\w<=q)/\(q - w).toNat<(q - x).toNat;i<=x/\x<=q->(decide (x<a6)=true->(bz p=h/\BI n/\h<=x/\x<q)/\(ao=true->h<=x/\x<a6/\x.toNat<p.offers.length/\1=1/\m.length=m.length/\ap*64<=140737488355328/\ap<=1000000000000/\ar aq.length (d bp.off aq 65 true))/\(ao=false->ar m.length (d bp.off m 65 true)))/\(decide (x<a6)=false->m.length=m.length/\(γQ [K,L,M,N,O,P,Q,R,S,T,U,V,y,z,A,B,C,D,E,f bp.off m]).same (γQ [a r.a0,a r.a1,a r.a2,a r.a3,a r.a4,a r.a5,a s.a0,a s.a1,a s.a2,a s.a3,a s.a4,a s.a5,a t.a0,a t.a1,a t.a2,a t.a3,a t.a4,a t.a5,f Z F.classes,f bp.off F.offers]))) (by kernel_rfl) ?_;simp only[vcs];have hl:p.offers.length<=160:=(dQ hc).2.1;generalize hu:xP (l,o,c,v,w0,w1,w2,w3,w4,w5,w6,w7)=u at*;have e0:=@af7 p u i.toNat;refine⟨⟨⟨by rw[e0];rfl,by rw[e0];rfl⟩,by omega,by omega⟩,?_⟩;rintro k ⟨k0,k1⟩;have hlen:=@af9 p u i.toNat k.toNat;refine⟨λhk=>?_,λhk=>?_⟩
 ·have eS:=@af8 p u i.toNat k.toNat (by omega) (by omega);rw[show((k.toNat:Nat):Int)=k by omega] at eS;have eo:bj p.offers k.toNat bp.off.dflt=oI p k:=rfl;rw[show(k+1).toNat=k.toNat+1 by omega,eS,eo];refine⟨⟨hc,hd,by omega,by omega⟩,λhw=>?_,λhw=>?_⟩
  ·rw[if_pos hw];refine⟨?_,?_,?_,?_,?_,?_,⟨rfl,rfl⟩,?_,?_⟩<;>omega
  ·rw[if_neg (by rw[hw];simp),List.append_nil];refine⟨?_,⟨rfl,rfl⟩,?_,?_⟩<;>omega
 ·rw[show k.toNat=p.offers.length by omega];subst hu;unfold pE;rw[ψ];rfl
noncomputable def L9:bM:=⟨56,bn×Int,.cons dO (.one (eZ .i64)),λa=>(bz a.1=0/\a.1.offers.length<=15)/\a.2=(cB a.1).value,
 λa=> .bI [.row (.i .i64) (cB a.1).chosen,.si .i64 0]⟩
noncomputable def agb (p:bn) (m:Int):Nat->cC
 |3=> .inv Int (λk=>⟨[(1,.si .i64 m),(2,.ptr 0 0 20),(6,.ptr 1 0 22),(21,.si .i64 p.offers.length),(22,.si .i64 k)],
   [.cells p.ss 27 20 false,.cells (encS sj (fP (j9 p m k.toNat))) 142 22 false,.dead]⟩)
   (λs=>iS s 22) (λk=>0<=k/\k<=p.offers.length) (λk=>(p.offers.length - k).toNat) λ_ _=> .look
 |_=> .look
theorem agc {b a:Type} (x:b×a):(x.1,x.2)=x:=rfl
theorem Vu {p:bn} {m:Int} {k:Nat} (h:(j9 p m k).value=m):∀n,j9 p m (k+n)=j9 p m k
 |0=>rfl
 |n+1=>by
  have a:=Vu h n;simp_all[qT,j9]
theorem agd {p:bn} {u:jD} {i:Int} (h:u.won.length=8):(qe p u i).won.length=8:=by
 unfold qe;split
 ·show(u.won.set _ true).length=8;simp_all
 ·rfl
theorem Vv {p:bn} {u:jD} (e:bz p=0) (d:rV p u):BI u:=by
 have g:=E7 e d (k:=0);have j:=y5.1 (vX (vY g).1).1;have i:∀k,k<6->0<=u.opn.at k/\u.opn.at k<=u.left.at k:=λk c=>⟨(wO g c).2.2.1,(wO g c).2.2.2.1⟩;have h:=(yS e).2 d.f;obtain⟨m,q,n⟩:=uW e h;have o:u.value=ef p u.chosen:=by rw[d.v,KN e d.f]
 refine⟨λk c=>?_,by omega,by omega⟩;have a:=j k c;have b:=i k c;have l:0<=u.left.at k/\u.left.at k<=4:=a;omega
theorem h436:Holds Tryz.prog L9:=by
 refine cH (L:=[Fg,L1,LZ]) L9 (λa=>agb a.1 a.2) (by simpa using⟨h443,h444,h434⟩) ?_;rintro⟨p,m⟩ ⟨⟨hc,h15⟩,hm⟩;simp only at hc h15 hm;refine bQ (let a:=γg .i64;let b:=γx;let c:=(0:Int);let d:=bq.cells;let e:=Ω;let f:=cq .i64;let g:=(65536:Int);let h:=SV.bI;let A:=γP 0 0 20;let B:=γP 1 0 22;let k:=(↑p.offers.length:Int);let M:=a k;let Q:=γA .i64 0;let U:=a 0;let V:=a p.supply.a0;let W:=a p.supply.a1;let X:=a p.supply.a2;let Y:=a p.supply.a3;let Z:=a p.supply.a4;let a6:=a p.supply.a5;let a7:=a p.opn.a0;let a8:=a p.opn.a1;let a9:=a p.opn.a2;let aa:=a p.opn.a3;let ab:=a p.opn.a4;let ac:=a p.opn.a5;let o:=bp.i .i64;let C:=d [V,W,X,Y,Z,a6,a7,a8,a9,aa,ab,ac,a p.cls.a0,a p.cls.a1,a p.cls.a2,a p.cls.a3,a p.cls.a4,a p.cls.a5,e o p.classes,e bp.off p.offers] 27 20 false;let q:=SV.bl false;let D:=fP (j9 p m 0);let E:=D.fst;let F:=D.snd.fst;let G:=D.snd.snd.snd.snd.snd;let ad:=G.snd.snd.snd.snd.snd;let ae:=h [e o (cB p).chosen,U];0=0/\((((a m).same (a m)/\A.same A/\B.same B/\(a (↑p.offers.length:Int)).same M/\Q.same U/\True)/\C.same C/\(d [V,W,X,Y,Z,a6,a7,a8,a9,aa,ab,ac,e o [],Q,q,q,q,q,q,q,q,q] 142 22 false).same (d [a E.a0,a E.a1,a E.a2,a E.a3,a E.a4,a E.a5,a F.a0,a F.a1,a F.a2,a F.a3,a F.a4,a F.a5,e o D.snd.snd.fst,a D.snd.snd.snd.fst,b D.snd.snd.snd.snd.fst,b G.fst,b G.snd.fst,b G.snd.snd.fst,b G.snd.snd.snd.fst,b G.snd.snd.snd.snd.fst,b ad.fst,b ad.snd] 142 22 false)/\bq.dead.same bq.dead/\True)/\c<=c/\c<=k)/\∀(x:Int),let j:=x+(1:Int);let N:=a j;let s:=fP (j9 p m x.toNat);let t:=s.fst;let v:=s.snd.fst;let af:=e o s.snd.snd.fst;let R:=s.snd.snd.snd.fst;let ag:=s.snd.snd.snd.snd.fst;let l:=s.snd.snd.snd.snd.snd;let ah:=l.snd.snd.snd.snd.fst;let O:=l.snd.snd.snd.snd.snd;let H:=fP (j9 p m j.toNat);let I:=H.fst;let J:=H.snd.fst;let K:=H.snd.snd.snd.snd.snd;let ai:=K.snd.snd.snd.snd.snd;let aj:=d [a I.a0,a I.a1,a I.a2,a I.a3,a I.a4,a I.a5,a J.a0,a J.a1,a J.a2,a J.a3,a J.a4,a J.a5,e o H.snd.snd.fst,a H.snd.snd.snd.fst,b H.snd.snd.snd.snd.fst,b K.fst,b K.snd.fst,b K.snd.snd.fst,b K.snd.snd.snd.fst,b K.snd.snd.snd.snd.fst,b ai.fst,b ai.snd] 142 22 false;let P:=xP (t,v,s.snd.snd.fst,R,ag,l.fst,l.snd.fst,l.snd.snd.fst,l.snd.snd.snd.fst,ah,O.fst,O.snd);let w:=(fP (qe p P x)).fst;let r:=(fP (qe p P x)).snd;let y:=r.fst;let z:=r.snd.snd.fst;let ak:=r.snd.snd.snd.snd.fst;let n:=r.snd.snd.snd.snd.snd;let al:=n.snd.snd.snd.snd.fst;let am:=n.snd.snd.snd.snd.snd;let S:=gU p (xP (w,y,r.snd.fst,z,r.snd.snd.snd.fst,ak,n.fst,n.snd.fst,n.snd.snd.fst,n.snd.snd.snd.fst,al,am)) j.toNat;let an:=jj S (m - z) g;let ao:=f j/\(((a m).same (a m)/\A.same A/\B.same B/\M.same M/\N.same N/\True)/\C.same C/\(d [a t.a0,a t.a1,a t.a2,a t.a3,a t.a4,a t.a5,a v.a0,a v.a1,a v.a2,a v.a3,a v.a4,a v.a5,af,a R,b ag,b l.fst,b l.snd.fst,b l.snd.snd.fst,b l.snd.snd.snd.fst,b ah,b O.fst,b O.snd] 142 22 false).same aj/\bq.dead.same bq.dead/\True)/\(c<=j/\j<=k)/\(k - j).toNat<(k - x).toNat;let ap:=(h [af,Q]).same ae;let aq:=λ(u:Bool) ↦j8 S (m - z) g=u;let ar:=λ(u:Bool) ↦decide (an≠c)=u;let au:=λ(u:jD) ↦let L:=(fP u).snd.snd.snd.snd;let T:=L.snd.snd.snd.snd.snd;BI (xP ((fP u).fst,(fP u).snd.fst,(fP u).snd.snd.fst,(fP u).snd.snd.snd.fst,L.fst,L.snd.fst,L.snd.snd.fst,L.snd.snd.snd.fst,L.snd.snd.snd.snd.fst,T.fst,T.snd.fst,T.snd.snd));let av:=λ(u:Bool) ↦(!jk p P (oI p x))=u;let aw:=λ(u:Bool) ↦decide (R=m)=u;c<=x/\x<=k->(decide (x<k)=true->(aw true->ap)/\(aw false->(bz p=c/\au (j9 p m x.toNat)/\c<=x/\x<k)/\(av true->ao)/\(av false->f j/\(bz p=c/\au (qe p P x)/\c<=j/\j<=k)/\f (m - z)/\(S.offers.length<=20/\(-9223372036854775808:Int)<=m - z/\m - z<=(9223372036854775807:Int))/\(ar true->(h [e o [],a an]).same ae)/\(ar false->(aq true->f j/\(((a m).same (a m)/\A.same A/\B.same B/\M.same M/\N.same N/\True)/\C.same C/\(d [a w.a0,a w.a1,a w.a2,a w.a3,a w.a4,a w.a5,a y.a0,a y.a1,a y.a2,a y.a3,a y.a4,a y.a5,e o r.snd.fst,a z,b r.snd.snd.snd.fst,b ak,b n.fst,b n.snd.fst,b n.snd.snd.fst,b n.snd.snd.snd.fst,b al,b am] 142 22 false).same aj/\bq.dead.same bq.dead/\True)/\(c<=j/\j<=k)/\(k - j).toNat<(k - x).toNat)/\(aq false->ao)))))/\(decide (x<k)=false->ap)) (by kernel_rfl) ?_;simp only[vcs];simp only[agc];refine⟨⟨rfl,by omega,by omega⟩,?_⟩;rintro k ⟨k0,k1⟩;obtain⟨hG,hC⟩:=Le hc h15 k.toNat (by omega);rw[<-hm] at hG hC;generalize hu:j9 p m k.toNat=u at*;have hW:=@agd p u k hG.wl;simp only[Vs hG.wl,Vs hW];have hrun:j9 p m (k+1).toNat=qT p m u k:=by
  rw[show(k+1).toNat=k.toNat+1 by omega];show qT p m (j9 p m k.toNat) _=_;rw[hu,show((k.toNat:Nat):Int)=k by omega]
 have hD:=Vv hc hG;refine⟨λhk=>⟨λhv=>?_,λhv0=>⟨⟨hc,hD,by omega,by omega⟩,λhw=>?_,λhw=>?_⟩⟩,λhk=>?_⟩
 ·have h1:=@Vu p m k.toNat (by rw[hu];exact hv) (p.offers.length - k.toNat);rw[show k.toNat+(p.offers.length - k.toNat)=p.offers.length by omega,hu] at h1;show u.chosen=_;rw[<-h1,hm,U2 hc h15]
 ·have hv:¬u.value=m:=hv0;have e:j9 p m (k+1).toNat=u:=by rw[hrun];unfold qT;rw[if_neg hv,if_neg (by rw[hw];simp)]
  rw[e];refine⟨?_,rfl,?_,?_⟩<;>omega
 ·have hv:¬u.value=m:=hv0;have hy:qe p u k=fe p u k:=by unfold qe;rw[if_pos hw]
  rw[hy];have hlt:∀j∈u.chosen,j<k:=λj hj=>by
   rw[hC] at hj;have:=of_decide_eq_true (γt.1 hj).2;omega
  have hG2:=hG.next hc hlt ⟨by omega,by omega⟩ hw;have hD2:=Vv hc hG2;have hq:=E7 hc hG2 (k:=(k+1).toNat);have Bi:(gU p (fe p u k) (k+1).toNat).offers.length<=15:=by
   have h1:=List.length_filter_le (jk p (fe p u k)) (p.offers.drop (k+1).toNat);rw[List.length_drop] at h1;show((p.offers.drop _).filter _).length<=15;omega
  have hroom:jj (gU p (fe p u k) (k+1).toNat) (m - (fe p u k).value) 65536=0:=KT hq (by omega) (by
   have:2^((gU p (fe p u k) (k+1).toNat).offers.length+1)<=2^16:=δr (by omega) (by omega);have h16:(2:Nat)^16=65536:=rfl;omega);have hmb:0<=m/\m<=160000000:=by
   obtain⟨f1,f2⟩:=BH hc;have:=uW hc ((yS hc).2 f1);rw[KN hc f1] at this;omega
  have hv2:0<=(fe p u k).value/\(fe p u k).value<=160000000:=hD2.2.1;have ev:(fP (fe p u k)).2.2.2.1=(fe p u k).value:=rfl;rw[ev,hroom];have er:j9 p m (k+1).toNat=if j8 (gU p (fe p u k) (k+1).toNat) (m - (fe p u k).value) 65536=true then fe p u k else u:=by
   rw[hrun];unfold qT;rw[if_neg hv,if_pos hw]
  refine⟨by omega,⟨hc,hD2,by omega,by omega⟩,by omega,⟨by omega,by omega,by omega⟩,λh=>absurd rfl h,λ_=>⟨λhb=>?_,λhb=>?_⟩⟩
  ·rw[er,if_pos hb];refine⟨?_,rfl,?_,?_⟩<;>omega
  ·rw[er,if_neg (by rw[hb];simp)];refine⟨?_,rfl,?_,?_⟩<;>omega
 ·show u.chosen=_;rw[<-hu,hm,show k.toNat=p.offers.length by omega,U2 hc h15]
noncomputable def qU (p:bn):List dj:=(iM p (gB p (j3 p)).chosen 65536).prf
noncomputable def Mc:bM:=⟨33,bn,.one dO,λp=>bz p≠0\/p.offers.length<=15,
 λp=> .bI [.agg [.row (.i .i64) (if bz p=0 then(cB p).chosen else[]),.si .i64 (if bz p=0 then(cB p).value else 0),.row bF (if bz p=0 then qU p else[])],.si .i64 (bz p)]⟩
theorem h427:Holds Tryz.prog Mc:=by
 refine cH (L:=[po,A2,A5,LY,L9]) Mc lk (by grind[h79,h312,h315,h429,h436]) ?_;rintro(p:bn) (y:bz p≠0\/p.offers.length<=15);refine bQ (let a:=(0:Int);let b:=γg .i64;let d:=Ω;let h:=(65536:Int);let l:=SV.bI;let o:=γQ;let k:=bp.i .i64;let w:=[b (bz p)];let m:=l (o [d k (if bz p=a then(cB p).chosen else[]),b (if bz p=a then(cB p).value else a),d bF (if bz p=a then qU p else[])]::w);let t:=γA .i64 0;let v:=o [d k [],t,d k []];let x:=decide (bz p≠a);let q:=(gB p (j3 p)).chosen;let j:=kx p q h;let f:=decide (j≠a);let g:=iM p q h;let e:=if j=a then g.val else a;let B:=λ(u c:Bool) (n:List SV) ↦u=c->(l n).same m;let r:=λ(u:Bool) (c:Int) ↦u=true->(l [v,b c]).same m;True/\(x=true->(l (v::w)).same m)/\(x=false->p.offers.length<=20/\(j3 p).length<=9223372036854775807/\(p.offers.length<=20/\q.length<=9223372036854775807)/\r f j/\(f=false->((bz p=a/\p.offers.length<=15)/\e=(cB p).value)/\r false a/\B false false [o [d k (cB p).chosen,b e,d bF (if j=a then g.prf else[])],t]))) (by kernel_rfl) ?_;simp only[vcs];by_cases a:bz p=0
 ·have l:p.offers.length<=15:=y.resolve_left λh=>h a;obtain⟨o,_⟩:=yV a;have D:=LX a;have A:=(uW a o).2.2;have b:((1+2^(p.offers.length+1):Nat):Int)<=65536+2:=by
   have:2^(p.offers.length+1)<=2^16:=δr (by omega) (by omega);omega
  have d:kx p (gB p (j3 p)).chosen 65536=0:=ae2 a o (by omega) b;obtain⟨_,C,z⟩:=KQ a o (most:=65536) (by omega);have s:=(C (z b)).2.1;simp only[d,a,if_true];refine⟨λh=>absurd rfl h,λ_=>⟨by omega,by omega,⟨by omega,by omega⟩,λh=>absurd rfl h,λ_=>⟨⟨⟨trivial,l⟩,s⟩,λh=>(by cases h),λ_=>⟨?_,trivial⟩⟩⟩⟩;rw[s];rfl
 ·refine⟨λ_=>?_,λh=>absurd a h⟩;rw[if_neg a,if_neg a,if_neg a];rfl
theorem agf {t:List dj} {u:List (Int×Bool)} {k:Int} {f g h:List Int} (c:f.length=g.length) (a:∀i,bj f i 0=if bj g i 0≠0 then bj g i 0 else bj h i 0):
  ∀i,bj (oO t u k f) i 0=if bj (oO t u k g) i 0≠0 then bj (oO t u k g) i 0 else bj h i 0:=λi=>by
 unfold oO;rw[c];generalize (bj t (bj u k.toNat (0,false)).1.toNat bF.dflt).2.1=o;generalize (bj u k.toNat (0,false)).2=b;split
 ·by_cases d:o.toNat<g.length
  ·rw[iK (by omega),iK d];grind
  ·rw[ζv (by omega),ζv (by omega)];exact a i
 ·exact a i
theorem Vw {t:List dj} {u:List (Int×Bool)} {h:List Int}:∀{m:Nat} {k:Int} {f g:List Int},f.length=g.length->(∀i,bj f i 0=if bj g i 0≠0 then bj g i 0 else bj h i 0)->
  ∀i,bj (iF t u m k f) i 0=if bj (iF t u m k g) i 0≠0 then bj (iF t u m k g) i 0 else bj h i 0
 |0,_,_,_,_,a=>a
 |m+1,k,f,g,b,a=>by
  unfold iF;split;·exact Vw (by grind[Vo]) (agf b a)
  ·exact a
theorem Vx {t:List dj} {u a:List (Int×Bool)}:∀{m:Nat} {k:Int} {f:List Int},(∀x:Nat,(x:Int)<=k->bj u x (0,false)=bj a x (0,false))->(∀x:Nat,(x:Int)<=k->0<x->0<=(bj u x (0,false)).1/\(bj u x (0,false)).1<x)->iF t u m k f=iF t a m k f
 |0,_,_,_,_=>rfl
 |m+1,k,f,b,c=>by
  unfold iF;split
  ·rename_i j;have e:=b k.toNat (by omega);have d:=c k.toNat (by omega) (by omega);have i:oO t u k f=oO t a k f:=by unfold oO;rw[e]
   rw[i,<-e];exact Vx (λx g=>b x (by omega)) λx g h=>c x (by omega) h
  ·rfl
theorem Vy {n:Nat} {i:Int}:∀{l c:List Int},uT n i c l=true->∀x∈l,(i<x/\x<n)/\x∉c
 |[],_,_,x,a=>by cases a;|y::l,c,h,x,a=>by
  simp only[uT,θ,decide_eq_true_eq] at h;rcases γv.1 a with rfl|a;·simp_all
  ·have:=Vy h.2 x a;simp_all
theorem Fh {t:List dj} (h:dT t=true) {i:Nat} (b:i<t.length):∀x∈jE (bj t i bF.dflt),((i:Int)<x/\x<t.length)/\x∉ig t i:=by
 unfold dT at h;simp only[θ,φ,γp] at h;have a:=h.2.1 i b;unfold kU at a;simp only[θ] at a;exact Vy a.2
theorem Fj {t:List dj} {x:Int}:∀{i:Nat},i<=t.length->(x∈ig t i↔∃q,q<i/\x∈jE (bj t q bF.dflt))
 |0,_=>by simp[ig];|i+1,b=>by
  have a:=@U4 t i (by omega) (by omega);rw[show((i:Int)+1).toNat=i+1 by omega,γl] at a;rw[a,γk,Fj (by omega)];grind
theorem Vz {t:List dj} (b:dT t=true) {i:Nat}:∀{j:Nat},i<=j->j<=t.length->∀x,x<=i->bj (eQ t j) x (0,false)=bj (eQ t i) x (0,false)
 |0,c,_,_,_=>by simp_all;|j+1,c,g,x,d=>by
  by_cases e:i=j+1;·rw[e]
  ·rw[<-Vz b (j:=j) (by omega) (by omega) x d];conv=>lhs;unfold eQ
   split
   ·rename_i f;have a:∀y∈[(bj t j bF.dflt).2.2.1,(bj t j bF.dflt).2.2.2.1],((j:Int)<y/\y<t.length)/\y∉ig t j:=by
     have:=Fh b (i:=j) (by omega);simp_all[jE]
    have h:=(a _ (γX ..)).1;have k:=(a (bj t j bF.dflt).2.2.2.1 (by simp)).1;have l:=@tu t j;rw[iK (by grind),if_neg (by omega),iK (by omega),if_neg (by omega)]
   ·rfl
theorem Me {t:List dj} (b:dT t=true) {q:Nat} (k:q<t.length) (f:(bj t q bF.dflt).1=2):∀{j:Nat},q<j->j<=t.length->
  bj (eQ t j) (bj t q bF.dflt).2.2.1.toNat (0,false)=((q:Int),false)/\bj (eQ t j) (bj t q bF.dflt).2.2.2.1.toNat (0,false)=((q:Int),true)
 |0,h,_=>by omega;|j+1,h,C=>by
  have u:jE (bj t q bF.dflt)=[(bj t q bF.dflt).2.2.1,(bj t q bF.dflt).2.2.2.1]:=if_pos f;have g:=Fh b k;rw[u] at g;have D:=(g _ (γX ..)).1;have F:=(g (bj t q bF.dflt).2.2.2.1 (by simp)).1;have A:(bj t q bF.dflt).2.2.1≠(bj t q bF.dflt).2.2.2.1:=by
   unfold dT at b;simp only[θ,φ,γp] at b;have d:=b.2.1 q k;unfold kU at d;rw[u] at d;simp only[uT,θ,decide_eq_true_eq] at d;grind
  have l:=@tu t j;by_cases e:q=j
  ·subst e;unfold eQ;rw[if_pos f];have B:((eQ t q).set (bj t q bF.dflt).2.2.1.toNat ((q:Int),false)).length=t.length:=by simp_all
   rw[iK (by omega),iK (by omega),if_neg (by omega),iK (by omega),if_pos rfl,if_pos rfl];simp_all
  ·have r:=Me b k f (j:=j) (by omega) (by omega);unfold eQ;split
   ·rename_i w;have a:=Fh b (i:=j) (by omega);unfold jE at a;rw[if_pos w] at a;have s:=a _ (γX ..);have n:=a (bj t j bF.dflt).2.2.2.1 (by simp);have o:∀x∈[(bj t q bF.dflt).2.2.1,(bj t q bF.dflt).2.2.2.1],x∈ig t j:=λx v=>(Fj (by omega)).2 ⟨q,by omega,by simp_all⟩;have m:=o _ (γX ..);have p:=o (bj t q bF.dflt).2.2.2.1 (by simp);have c:∀x y:Int,x∈ig t j->y∉ig t j->x≠y:=λx y v z e=>z (e▸v);have G:=c _ _ m s.2;have H:=c _ _ m n.2;have I:=c _ _ p s.2;have E:=c _ _ p n.2;have B:((eQ t j).set (bj t j bF.dflt).2.2.1.toNat ((j:Int),false)).length=t.length:=by rw[Φ,l]
    rw[iK (by omega),if_neg (by omega),iK (by omega),if_neg (by omega),iK (by omega),if_neg (by omega),iK (by omega),if_neg (by omega)];exact r
   ·exact r
theorem VA {n i:Nat}:bj (δ n (0:Int)) i 0=0:=by
 grind[bj]
theorem VB {p:bn} {t:List dj} {i:Nat}:(iY p t i).length=p.offers.length:=by
 grind[iY,Vp]
theorem agh {p:bn} {t:List dj} (a:dT t=true) {q:Nat} (g:q<t.length) (f:(bj t q bF.dflt).1=2) (y:0<=(bj t q bF.dflt).2.1/\(bj t q bF.dflt).2.1<p.offers.length) (B:bj (iY p t q) (bj t q bF.dflt).2.1.toNat 0=0):
  iY p t (bj t q bF.dflt).2.2.1.toNat=(iY p t q).set (bj t q bF.dflt).2.1.toNat (-1)/\iY p t (bj t q bF.dflt).2.2.2.1.toNat=(iY p t q).set (bj t q bF.dflt).2.1.toNat 1:=by
 have e:=Fh a g;unfold jE at e;rw[if_pos f] at e;have w:=(e _ (γX ..)).1;have z:=(e (bj t q bF.dflt).2.2.2.1 (by simp)).1;have r:∀(c:Int) (b:Bool),((q:Int)<c/\c<t.length)->bj (eQ t c.toNat) c.toNat (0,false)=((q:Int),b)->iY p t c.toNat=(iY p t q).set (bj t q bF.dflt).2.1.toNat (if b then 1 else -1):=λc b D l=>by
  have k:=LR a (i:=c.toNat) (by omega);have h:=@Vq t (eQ t c.toNat) k c (δ p.offers.length 0) (by omega) (by omega);rw[l] at h;simp only[γl] at h;have m:iY p t c.toNat=iF t (eQ t c.toNat) c.toNat c (δ p.offers.length 0):=by
   grind[iY]
  have u:oO t (eQ t c.toNat) c (δ p.offers.length 0)=(δ p.offers.length 0).set (bj t q bF.dflt).2.1.toNat (if b then 1 else -1):=by
   simp_all[oO]
  have o:iF t (eQ t c.toNat) q q ((δ p.offers.length 0).set (bj t q bF.dflt).2.1.toNat (if b then 1 else -1))=iF t (eQ t q) q q ((δ p.offers.length 0).set (bj t q bF.dflt).2.1.toNat (if b then 1 else -1)):=
   Vx (λx s=>Vz a (by omega) (by omega) x (by omega)) λx s v=>⟨(k.2 x (by omega)).1,(k.2 x (by omega)).2 v⟩;rw[m,h,u,o];have n:iF t (eQ t q) q q (δ p.offers.length 0)=iY p t q:=rfl;have d:=@Vw t (eQ t q) ((δ p.offers.length 0).set (bj t q bF.dflt).2.1.toNat (if b then 1 else -1)) q q ((δ p.offers.length 0).set (bj t q bF.dflt).2.1.toNat (if b then 1 else -1)) (δ p.offers.length 0) (by simp_all) (λi=>by grind[VA]);rw[n] at d;refine Ly 0 (by grind[VB]) λi _=>?_;rw[d i,iK (by simp_all),iK (by rw[VB];omega),VA];grind
 have A:=(Me a g f (j:=(bj t q bF.dflt).2.2.1.toNat) (by omega) (by omega)).1;have C:=(Me a g f (j:=(bj t q bF.dflt).2.2.2.1.toNat) (by omega) (by omega)).2;simp_all
def inT (a b c j:Nat):Prop:=j=a\/(b<=j/\j<c)
section
variable {p:bn} {v:Int} {t:List dj} {a lo hi:Nat} {f:List Int}
theorem agi (h:eV p f) (a:eJ p f):wP p f (fL (iD p f)):=
 ⟨⟨a.c,a.l,a.r⟩,iD p f,rfl,EP,λ_=>1000,λk b=>(KE h b).2,by
  have:∀n,rY n (λ_=>1000)=n*1000:=λn=>by
   induction n<;>grind[rY]
  have d:=Fe a.c;grind⟩
theorem agj (h:eV p f):posB (fL (iD p f))=true:=by
 unfold posB fL;rw[φ];intro x b;obtain⟨q,a,rfl⟩:=Ψ.1 b;obtain⟨i,d,rfl⟩:=γJ a;have c:=(KE h (r:=i) (by grind[EP])).1;grind[cV,bu]
theorem agk {l:List Rat} {K:Nat} (s:K<=1000000) (h:∀k,k<l.length->Sz K (bj l k 0)):∀x∈fL l,iW x:=λx b=>by
 unfold fL at b;obtain⟨q,e,rfl⟩:=Ψ.1 b;obtain⟨i,a,rfl⟩:=γJ e;have c:=h i a;rw[cV a] at c;obtain⟨m,⟨f,p,n⟩,⟨d,g,j⟩⟩:=mq l[i];obtain⟨o,r⟩:=pz c;exact⟨⟨f,d⟩,by omega,by omega⟩
theorem agl (a:eJ p f) (b:ic p f=true):tt (qS p f)=true/\mA p (qS p f)=true/\(∀x∈(qS p f).2.2.2.2,iW x)/\jE (qS p f)=[]:=by
 have h:mF p<=20:=by have:=(dQ a.c).1;grind
 have d:(fL (iD p f)).length=mF p:=by rw[fF,EP]
 refine⟨?_,?_,agk (K:=1000) (by omega) λk g=>(KE (a.ok b) (by grind[EP])).2,rfl⟩
 ·show wf1 (qS p f)=true;have e:(qS p f).2.2.2.2=fL (iD p f):=rfl;unfold wf1;rw[e,d,decide_eq_true (show mF p<=40 by omega)];grind[rW,qS,fL,E1]
 simp_all[qS,mA,df]
theorem agm (h:ji p v t a f lo hi) (hf:eJ p f) (hl:t.length<=65536):
  (∀j,inT a lo hi j->j<t.length/\tt (bj t j bF.dflt)=true/\mA p (bj t j bF.dflt)=true/\(∀x∈(bj t j bF.dflt).2.2.2.2,iW x)/\(jE (bj t j bF.dflt)=[]\/∃x:Nat,jE (bj t j bF.dflt)=[(x:Int),((x+1:Nat):Int)]/\j<x/\lo<=x/\x+1<hi))
  /\(∀q r (x:Int),inT a lo hi q->inT a lo hi r->x∈jE (bj t q bF.dflt)->x∈jE (bj t r bF.dflt)->q=r)
  /\(∀x:Nat,lo<=x->x<hi->∃q,inT a lo hi q/\(x:Int)∈jE (bj t q bF.dflt)):=by
 induction h with
 |@bnd a f lo h1 h2 h3=>
  grind[zc,agl,inT];|@con a f lo h1 h2=>
  obtain⟨e1,e2⟩:=zc (d:=bF.dflt) h1;have hj:∀j,inT a lo lo j->j=a:=λj h=>by grind[inT]
  refine⟨λj h=>?_,λq r x hq hr _ _=>by grind,λx h0 h1=>by omega⟩;rw[hj j h,e1];exact⟨e2,by decide,rfl,(λx hx=>by cases hx),.inl rfl⟩;|@tn a f lo mid hi k h1 h2 h3 h4 h5 h6 i1 i2=>
  obtain⟨e1,e2⟩:=zc (d:=bF.dflt) h1;have l1:=h5.le;have l2:=h6.le;have yz:=(ji.tn h1 h2 h3 h4 h5 h6).top.2 (by omega);have h160:=(dQ hf.c).2.1;have hfl:=hf.l;obtain⟨f1,g1,c1⟩:=i1 (hf.set (by omega));obtain⟨f2,g2,c2⟩:=i2 (hf.set (by omega));have hk:jE (bj t a bF.dflt)=[(lo:Int),((lo+1:Nat):Int)]:=by rw[e1];rfl
  have hin:∀j,inT a lo hi j->j=a\/inT (lo+1) (lo+2) mid j\/inT lo mid hi j:=λj h=>by unfold inT at h ⊢;omega
  have s1:∀j (x:Int),inT (lo+1) (lo+2) mid j->x∈jE (bj t j bF.dflt)->(lo:Int)+2<=x/\x<mid:=λj x hj hx=>by
   rcases(f1 j hj).2.2.2.2 with h|⟨y,h,_,_,_⟩;·rw[h] at hx;cases hx
   ·rw[h] at hx;simp only[γv,δA,or_false] at hx;omega
  have s2:∀j (x:Int),inT lo mid hi j->x∈jE (bj t j bF.dflt)->(mid:Int)<=x/\x<hi:=λj x hj hx=>by
   rcases(f2 j hj).2.2.2.2 with h|⟨y,h,_,_,_⟩;·rw[h] at hx;cases hx
   ·rw[h] at hx;simp only[γv,δA,or_false] at hx;omega
  have s0:∀x:Int,x∈jE (bj t a bF.dflt)->(lo:Int)<=x/\x<lo+2:=λx hx=>by
   grind
  refine⟨λj h=>?_,λq r x hq hr xq xr=>?_,λx h0 h1=>?_⟩
  ·rcases hin j h with rfl|h|h
   ·refine⟨e2,?_,?_,?_,.inr ⟨lo,hk,h2,ν _,by omega⟩⟩
    ·rw[e1];show wf2 (j7 k lo)=true;have r1:oM k=true:=by grind[oM]
     have r2:oM (lo:Int)=true:=by grind[oM]
     have r3:oM ((lo:Int)+1)=true:=by grind[oM]
     show(oM k&&oM (lo:Int)&&oM ((lo:Int)+1)&&decide (([]:List bL)=[]))=true;rw[r1,r2,r3];rfl
    ·rw[e1];rfl
    ·rw[e1];intro x hx;cases hx
   ·grind
   grind
  ·grind
  ·by_cases q1:x<lo+2
   ·refine⟨a,.inl rfl,?_⟩;rw[hk];simp only[γv,δA,or_false];omega
   grind[inT]
theorem agn (h:ji p v t 0 f 1 t.length) (m:eJ p f) (s:1<=t.length) (d:t.length<=65536):dT t=true/\t.all (mA p)=true/\∀n∈t,∀x∈n.2.2.2.2,iW x:=by
 obtain⟨l,B,o⟩:=agm h m d;have b:∀j,j<t.length->inT 0 1 t.length j:=λj c=>by unfold inT;omega
 refine⟨?_,φ.2 λn a=>?_,λn a=>?_⟩
 ·unfold dT;simp only[θ,decide_eq_true_eq,φ,γp];refine⟨⟨s,d⟩,λi g=>?_,λk z=>?_⟩
  ·obtain⟨D,r,_,_,e⟩:=l i (b i g);unfold kU;rw[r,Bool.true_and];rcases e with w|⟨x,w,A,E,J⟩;·rw[w];rfl
   ·have a:∀y:Int,y∈jE (bj t i bF.dflt)->y∉ig t i:=λy I C=>by
     grind[Fj]
    rw[w] at a ⊢;have F:=a (x:Int) (by simp);have G:=a ((x+1:Nat):Int) (by simp);simp only[uT,θ,decide_eq_true_eq,Bool.and_true];grind
  ·obtain⟨q,H,u⟩:=o (k+1) (by omega) (by omega);grind[Fj]
 ·obtain⟨j,c,rfl⟩:=γJ a;grind[cV]
 ·obtain⟨j,c,rfl⟩:=γJ a;grind[cV]
theorem agp (h:eV p f):jm p f (vL (fL (iD p f))) f.length=jh p f:=by
 have a:f.length=p.offers.length:=h.2.1;unfold jm;rw[kO,afC h];have:bO f.length (λk=>if bj f k 0=0/\0<jl p (iD p f) (mF p) k then jl p (iD p f) (mF p) k else 0)=0:=by
  rw[dJ (g:=λ_=>0) λk b=>?_,iT];simp_all[if_neg,afB,Rat.not_lt]
 grind
theorem agq (h:ji p v t a f lo hi) (z:dT t=true) (e:eJ p f) (o:iY p t a=f):∀j,inT a lo hi j->sf p v (iY p t j) (bj t j bF.dflt)=true/\((bj t j bF.dflt).1=1->wP p (iY p t j) (bj t j bF.dflt).2.2.2.2):=by
 induction h with
 |@bnd a f lo n i B=>
  obtain⟨b,s⟩:=zc (d:=bF.dflt) n;intro j g;have:j=a:=by grind[inT]
  rw[this,o,b];refine⟨?_,λ_=>agi (e.ok i) e⟩;show(posB (fL (iD p f))&&decide (jm p f (vL (fL (iD p f))) f.length<IntCast.intCast v+1))=true;rw[agp (e.ok i),agj (e.ok i),Bool.true_and,decide_eq_true_eq];simp_all;|@con a f lo n i=>
  obtain⟨b,s⟩:=zc (d:=bF.dflt) n;intro j g;have:j=a:=by grind[inT]
  rw[this,o,b];have A:di p (bE f 1)≠0:=λh=>by
   have:=(KG e.c (afX e.l)).1 h;grind[ic]
  refine⟨?_,λh=>?_⟩
  ·show decide (di p (bE f 1)≠0)=true;simp_all
  ·have:(3:Int)=1:=h;omega;|@tn a f lo m hi k n i B F G D C y=>
  obtain⟨b,s⟩:=zc (d:=bF.dflt) n;have u:(bj t a bF.dflt).1=2:=by rw[b];rfl
  have x:(bj t a bF.dflt).2.1=k:=by rw[b];rfl
  have q:(bj t a bF.dflt).2.2.1=lo:=by rw[b];rfl
  have r:(bj t a bF.dflt).2.2.2.1=(lo:Int)+1:=by rw[b];rfl
  have E:=e.l;have w:=agh (p:=p) z s u (by rw[x];omega) (by simp_all);rw[x,q,r,o,γl,show((lo:Int)+1).toNat=lo+1 by omega] at w;intro j g;rcases(show j=a\/inT (lo+1) (lo+2) m j\/inT lo m hi j by grind[inT]) with rfl|g|g
  ·rw[o,b];refine⟨?_,λh=>?_⟩
   ·show(decide (k<f.length)&&decide (bj f k.toNat 0=0))=true;simp_all
   simp_all
  ·exact C (e.set (by omega)) w.2 j g
  ·exact y (e.set (by omega)) w.1 j g
theorem agr (h:ji p v t 0 (iE p) 1 t.length) (a:bz p=0) (m:1<=t.length) (k:t.length<=65536):(∀w, -9223372036854775808<=w/\w<=9223372036854775807->wR p w t)/\uU p v t=0:=by
 obtain⟨d,o,g⟩:=agn h (oK a) m k;have c:=agq h d (oK a) rfl;have b:∀j,j<t.length->inT 0 1 t.length j:=λj n=>by grind[inT]
 refine⟨λw f=>⟨g,by omega,λ_ _ _=>⟨⟨a,d⟩,f,λi l e=>(c i (b i l)).2 e⟩⟩,?_⟩
 ·have q:sg p v t=true:=by
   grind[sg]
  unfold uU;grind
end
theorem ags {p:bn} (hc:bz p=0) (h15:p.offers.length<=15):ji p (cB p).value (qU p) 0 (iE p) 1 (qU p).length/\((qU p).length:Int)<=65536:=by
 obtain⟨i1,_⟩:=yV hc;have agt:((1+2^(p.offers.length+1):Nat):Int)<=65536+2:=by
  have:2^(p.offers.length+1)<=2^16:=δr (by omega) (by omega);have h16:(2:Nat)^16=65536:=rfl;omega
 obtain⟨_,s2,s3⟩:=KQ hc i1 (most:=65536) (by omega);obtain⟨_,_,s4,s5,_⟩:=s2 (s3 agt);exact⟨s5,s4⟩
theorem VC {p:bn} (hc:bz p=0) (h15:p.offers.length<=15):(∀w, -9223372036854775808<=w/\w<=9223372036854775807->wR p w (qU p))/\uU p (cB p).value (qU p)=0:=by
 obtain⟨s5,s4⟩:=ags hc h15;have s6:=s5.top.1;exact agr s5 hc (by omega) (by omega)
theorem Fo {p:bn} (a:bz p=0):di p (cB p).chosen=0/\ef p (cB p).chosen=(cB p).value/\(0<=(cB p).value/\(cB p).value<=160000000)/\(cB p).chosen.length<=160:=by
 obtain⟨b,d,_⟩:=afp a;have c:=(yS a).2 b;have:=uW a c;omega
theorem agu {p:bn} (b:bz p=0) (a:p.offers.length<=15):uV p ((cB p).chosen,(cB p).value,qU p)=0:=by
 simp_all[Fo,uV,VC]
def gu (a b:Off):Bool:=decide (a.bT=b.bT)||([0,1,2,3,4,5].any λk=>decide (0<a.want.at k)&&decide (0<b.want.at k))
theorem MA {a b:Off}:gu a b=gu b a:=by
 unfold gu;grind
inductive Cn (p:bn):Nat->Nat->Prop
 |refl {i:Nat}:i<p.offers.length->Cn p i i
 |step {i j k:Nat}:Cn p i j->k<p.offers.length->gu (oI p j) (oI p k)=true->Cn p i k
section
variable {p:bn} {i j k:Nat}
theorem qV (h:Cn p i j):i<p.offers.length/\j<p.offers.length:=by
 induction h<;>omega
theorem wS (h:Cn p i j) (g:Cn p j k):Cn p i k:=by
 induction g with
 |refl _=>exact h;|step _ a b c=>exact .step c a b
theorem Fp (b:i<p.offers.length) (a:j<p.offers.length) (h:gu (oI p i) (oI p j)=true):Cn p i j:=.step (.refl b) a h
theorem agv (h:Cn p i j):Cn p j i:=by
 induction h with
 |refl h=>exact .refl h;|@step j k a b c d=>grind[wS,Fp,qV,MA]
end
def qW (l:List Int) (a b:Int):List Int:=l.map λx=>if x=a then b else x
def mX (p:bn) (i:Nat) (l:List Int):Nat->List Int
 |0=>l
 |k+1=>if gu (oI p i) (oI p k)=true then qW (mX p i l k) (bj (mX p i l k) k 0) (bj (mX p i l k) i 0) else mX p i l k
def nS (p:bn):Nat->List Int
 |0=>δ p.offers.length 0
 |i+1=>mX p i ((nS p i).set i (i:Int)) i
theorem VD {l:List Int} {a b:Int}:(qW l a b).length=l.length:=Ξ _
theorem agw {l:List Int} {a b:Int} {k:Nat} (h:k<l.length):bj (qW l a b) k 0=if bj l k 0=a then b else bj l k 0:=by
 grind[qW,cV]
def MB (p:bn) (i:Nat) (m:List Int):Prop:=m.length=p.offers.length/\(∀a,a<i->0<=bj m a 0/\bj m a 0<i)/\(∀a b,a<i->b<i->gu (oI p a) (oI p b)=true->bj m a 0=bj m b 0)/\∀a b,a<i->b<i->bj m a 0=bj m b 0->Cn p a b
def agx (p:bn) (i k:Nat) (m:List Int):Prop:=m.length=p.offers.length/\(∀a,a<=i->0<=bj m a 0/\bj m a 0<=i)/\(∀a b,a<i->b<i->gu (oI p a) (oI p b)=true->bj m a 0=bj m b 0)/\(∀j,j<k->gu (oI p i) (oI p j)=true->bj m i 0=bj m j 0)/\∀a b,a<=i->b<=i->bj m a 0=bj m b 0->Cn p a b
theorem VE {p:bn} {i:Nat} {m:List Int} (v:i<p.offers.length) (h:MB p i m):∀{k:Nat},k<=i->agx p i k (mX p i (m.set i (i:Int)) k)
 |0,_=>by
  obtain⟨s,y,u,t⟩:=h;have e:∀a,bj (m.set i (i:Int)) a 0=if a=i then(i:Int) else bj m a 0:=λa=>iK (by omega);refine⟨by show(m.set i (i:Int)).length=_;simp_all,λa d=>?_,λa b d g r=>?_,λj w=>by omega,λa b d g c=>?_⟩
  ·show 0<=bj (m.set i (i:Int)) a 0/\bj (m.set i (i:Int)) a 0<=i;grind
  ·show bj (m.set i (i:Int)) a 0=bj (m.set i (i:Int)) b 0;grind
  ·have c:bj (m.set i (i:Int)) a 0=bj (m.set i (i:Int)) b 0:=c;rw[e,e] at c;by_cases o:a=i
   ·by_cases l:b=i;·rw[o,l];exact .refl v
    grind
   grind;|k+1,B=>by
  have z:=VE v h (k:=k) (by omega);unfold mX;generalize mX p i (m.set i (i:Int)) k=q at z ⊢;obtain⟨s,y,u,t,n⟩:=z;split
  ·rename_i r;have e:∀a,a<=i->bj (qW q (bj q k 0) (bj q i 0)) a 0=if bj q a 0=bj q k 0 then bj q i 0 else bj q a 0:=λa d=>agw (by omega);have x:Cn p i k:=Fp v (by omega) r;refine⟨by rw[VD,s],λa d=>?_,λa b d g c=>?_,λj w f=>?_,λa b d g c=>?_⟩
   ·rw[e a d];grind
   ·rw[e a (by omega),e b (by omega),u a b d g c]
   ·rw[e i (ν _),e j (by omega)];by_cases A:j=k;·simp_all
    ·rw[t j (by omega) f]
   ·rw[e a d,e b g] at c;by_cases o:bj q a 0=bj q k 0
    ·by_cases l:bj q b 0=bj q k 0;·exact n a b d g (by rw[o,l])
     ·rw[if_pos o,if_neg l] at c;exact wS (n a k d (by omega) o) (wS (agv x) (n i b (ν _) g c))
    ·by_cases l:bj q b 0=bj q k 0
     ·rw[if_neg o,if_pos l] at c;exact wS (n a i d (ν _) c) (wS x (n k b (by omega) g l.symm))
     ·rw[if_neg o,if_neg l] at c;exact n a b d g c
  ·rename_i r;refine⟨s,y,u,λj w f=>?_,n⟩;by_cases A:j=k;·subst A;exact absurd f r
   ·exact t j (by omega) f
theorem VF {p:bn}:∀{i:Nat},i<=p.offers.length->MB p i (nS p i)
 |0,_=>⟨γC,λa h=>by omega,λa b h=>by omega,λa b h=>by omega⟩
 |i+1,r=>by
  obtain⟨j,n,f,o,e⟩:=VE (by omega) (VF (p:=p) (i:=i) (by omega)) (k:=i) (ν _);show MB p (i+1) (mX p i ((nS p i).set i (i:Int)) i);generalize mX p i ((nS p i).set i (i:Int)) i=q at*;refine⟨j,λa d=>by grind,λa b d l g=>?_,λa b d l c=>e a b (by omega) (by omega) c⟩;by_cases s:a=i;·grind
  ·by_cases m:b=i;·grind[MA]
   ·exact f a b (by omega) (by omega) g
def mB (p:bn):List Int:=nS p p.offers.length
def kW (p:bn) (i:Int):Int:=bj (mB p) i.toNat 0
theorem MC {p:bn} {a b:Nat} (m:a<p.offers.length) (f:b<p.offers.length):bj (mB p) a 0=bj (mB p) b 0↔Cn p a b:=by
 obtain⟨_,_,g,i⟩:=VF (p:=p) (ν _);refine⟨i a b m f,λh=>?_⟩;induction h with
 |refl _=>rfl;|@step j k c d e l=>exact(l (qV c).2).trans (g j k (qV c).2 d e)
def oP (p:bn) (f:Int):List Int:=(cG p.offers.length).filter λi=>decide (kW p i=kW p f)
def oQ (p:bn) (f:Int):Bool:=(cG f.toNat).all λj=>decide (kW p j≠kW p f)
def cz (p:bn):List (List Int):=((cG p.offers.length).filter (oQ p)).map (oP p)
theorem BJ {p:bn} {f i:Int}:i∈oP p f↔(0<=i/\i<p.offers.length)/\kW p i=kW p f:=by
 simp_all[oP,jv]
theorem agy {p:bn} {f:Int}:eL p.offers.length (oP p f):=⟨rM.sublist γR,λx a=>(BJ.1 a).1⟩
theorem ze {p:bn} {f:Int} (c:0<=f):oQ p f=true↔∀j,0<=j->j<f->kW p j≠kW p f:=by
 unfold oQ;rw[φ];exact⟨λh j a b=>of_decide_eq_true (h j (jv.2 ⟨a,by omega⟩)),λh j d=>by
  grind[jv]⟩
theorem VG {p:bn}:∀(n:Nat) {i:Int},0<=i->i<n->i<p.offers.length->∃f,(0<=f/\f<=i)/\oQ p f=true/\kW p f=kW p i
 |0,i,h0,h1,_=>by omega;|n+1,i,h0,h1,h2=>by
  by_cases h:oQ p i=true;·exact⟨i,⟨h0,εf _⟩,h,rfl⟩
  ·rw[ze h0] at h;have:∃j,0<=j/\j<i/\kW p j=kW p i:=δb λhn=>h λj a b c=>hn ⟨j,a,b,c⟩;obtain⟨j,a,b,c⟩:=this;obtain⟨f,f1,f2,f3⟩:=VG (p:=p) n (i:=j) a (by omega) (by omega);exact⟨f,by omega,f2,f3.trans c⟩
theorem agz {p:bn} {c:List Int}:c∈cz p↔∃f:Int,((0<=f/\f<p.offers.length)/\oQ p f=true)/\oP p f=c:=by
 grind[cz,jv]
def iZ (p:bn) (l:List Int) (i:Nat):Nat->List Int
 |0=>l
 |k+1=>if gu (oI p i) (oI p k)=true/\bj (iZ p l i k) k 0<bj (iZ p l i k) i 0 then(iZ p l i k).set i (bj (iZ p l i k) k 0) else iZ p l i k
def kA (p:bn) (l:List Int):Nat->List Int
 |0=>l
 |i+1=>iZ p (kA p l i) i p.offers.length
def ft (p:bn):Nat->List Int
 |0=>cG p.offers.length
 |r+1=>kA p (ft p r) p.offers.length
def zf (p:bn) (l m:List Int):Prop:=m.length=p.offers.length/\∀a,a<p.offers.length->(0<=bj m a 0/\bj m a 0<=bj l a 0)/\Cn p a (bj m a 0).toNat
theorem VH {p:bn} {l0 l:List Int} {i:Nat} (o:i<p.offers.length) (h:zf p l0 l):∀{k:Nat},k<=p.offers.length->zf p l0 (iZ p l i k)/\(∀a,a<p.offers.length->bj (iZ p l i k) a 0<=bj l a 0)/\∀j,j<k->gu (oI p i) (oI p j)=true->bj (iZ p l i k) i 0<=bj l j 0
 |0,_=>⟨h,λa _=>εf _,λj g=>by omega⟩
 |k+1,t=>by
  obtain⟨⟨n,b⟩,r,u⟩:=VH o h (k:=k) (by omega);unfold iZ;generalize iZ p l i k=q at*;split
  ·rename_i f;have e:∀a,bj (q.set i (bj q k 0)) a 0=if a=i then bj q k 0 else bj q a 0:=λa=>iK (by omega);refine⟨⟨by simp_all,λa d=>?_⟩,λa d=>?_,λj g c=>?_⟩
   ·rw[e];split
    ·rename_i s;subst s;have v:=b a d;have m:=b k (by omega);exact⟨⟨m.1.1,by omega⟩,wS (Fp d (by omega) f.1) m.2⟩
    simp_all
   ·rw[e];split<;>grind
   grind
  ·rename_i f;refine⟨⟨n,b⟩,r,λj g c=>?_⟩;grind
theorem Fq {p:bn} {l0 l:List Int} (h:zf p l0 l):∀{i:Nat},i<=p.offers.length->zf p l0 (kA p l i)/\(∀a,a<p.offers.length->bj (kA p l i) a 0<=bj l a 0)/\∀a j,a<i->j<p.offers.length->gu (oI p a) (oI p j)=true->bj (kA p l i) a 0<=bj l j 0
 |0,_=>⟨h,λa _=>εf _,λa j b=>by omega⟩
 |i+1,r=>by
  obtain⟨q,f,m⟩:=Fq h (i:=i) (by omega);obtain⟨o,d,n⟩:=VH (p:=p) (i:=i) (by omega) q (k:=p.offers.length) (ν _);show zf p l0 (iZ p (kA p l i) i p.offers.length)/\_;refine⟨o,λa b=>εe (d a b) (f a b),λa j b c g=>?_⟩;by_cases e:a=i
  ·subst e;exact εe (n j c g) (f j c)
  ·exact εe (d a (by omega)) (m a j (by omega) c g)
theorem zg {p:bn}:∀{r:Nat},zf p (cG p.offers.length) (ft p r)
 |0=>⟨fU,λa b=>by
   have e:bj (cG p.offers.length) a 0=(a:Int):=by
    grind[cV,cG]
   show(0<=bj (cG p.offers.length) a 0/\bj (cG p.offers.length) a 0<=bj (cG p.offers.length) a 0)/\Cn p a (bj (cG p.offers.length) a 0).toNat;rw[e];exact⟨by omega,.refl b⟩⟩
 |r+1=>(Fq zg (ν _)).1
theorem VI {c:Type} {f g:c->Bool}:∀{l:List c},(∀x∈l,f x=true->g x=true)->(∃x∈l,g x=true/\f x=false)->l.countP f<l.countP g
 |[],_,⟨x,a,_⟩=>by cases a;|y::l,h,⟨x,a,e,d⟩=>by
  have i:l.countP f<=l.countP g:=List.countP_mono_left λz b=>h z (γy _ b);rw[ζ7,ζ7];rcases γv.1 a with rfl|a;·grind
  ·have:=VI (l:=l) (λz b=>h z (γy _ b)) ⟨x,a,e,d⟩;grind
theorem agA {p:bn} {S:Nat->Prop} {m i:Nat} (h:Cn p m i) (hm:S m) (hi:¬S i):∃a b,(Cn p m a/\Cn p m b)/\S a/\¬S b/\gu (oI p a) (oI p b)=true:=by
 induction h with
 |refl _=>exact absurd hm hi;|@step j k c d e ih=>
  by_cases hj:S j;·exact⟨j,k,⟨c,.step c d e⟩,hj,hi,e⟩
  ·exact ih hj
theorem agB {p:bn} {m:Nat} (hm:m<p.offers.length) (hmin:∀a,Cn p m a->m<=a) {i:Nat} (hi:Cn p m i):bj (ft p p.offers.length) i 0=m:=by
 have ge:∀r a,Cn p m a->(m:Int)<=bj (ft p r) a 0:=λr a ha=>by
  have h:=(zg (p:=p) (r:=r)).2 a (qV ha).2;have:=hmin _ (wS ha h.2);omega
 have mono:∀r a,a<p.offers.length->bj (ft p (r+1)) a 0<=bj (ft p r) a 0:=λr a ha=>(Fq (l0:=cG p.offers.length) (zg (p:=p) (r:=r)) (ν _)).2.1 a ha;have agC:∀r a b,a<p.offers.length->b<p.offers.length->gu (oI p a) (oI p b)=true->bj (ft p (r+1)) a 0<=bj (ft p r) b 0:=λr a b ha hb hc=>(Fq (l0:=cG p.offers.length) (zg (p:=p) (r:=r)) (ν _)).2.2 a b ha hb hc;have VJ:∀r,bj (ft p r) m 0=m:=λr=>by
  have h1:=ge r m (.refl hm);have h2:=((zg (p:=p) (r:=r)).2 m hm).1.2;have e:bj (cG p.offers.length) m 0=(m:Int):=by
   rw[cV (by rw[fU];exact hm)];simp[cG]
  omega
 have key:∀r,(∀a,Cn p m a->bj (ft p r) a 0=m)\/r+1<=(ω p.offers.length).countP (λa=>decide (bj (ft p r) a 0=m)&&decide (bj (mB p) m 0=bj (mB p) a 0)):=by
  intro r;induction r with
  |zero=>
   refine .inr ?_;refine List.countP_pos_iff.2 ⟨m,γp.2 hm,?_⟩;rw[decide_eq_true (VJ 0),decide_eq_true rfl];rfl;|succ r ih=>
   rcases ih with ih|ih
   ·refine .inl λa ha=>?_;have h1:=ge (r+1) a ha;have h2:=mono r a (qV ha).2;have h3:=ih a ha;omega
   ·by_cases hall:∀a,Cn p m a->bj (ft p r) a 0=m
    ·refine .inl λa ha=>?_;have h1:=ge (r+1) a ha;have h2:=mono r a (qV ha).2;have h3:=hall a ha;omega
    ·refine .inr ?_;have:∃x,Cn p m x/\bj (ft p r) x 0≠m:=δb λhn=>hall λx hx=>δb λh=>hn ⟨x,hx,h⟩;obtain⟨x,hx,hxn⟩:=this;obtain⟨a,b,⟨ca,cb⟩,sa,sb,he⟩:=agA (S:=λa=>bj (ft p r) a 0=m) hx (VJ r) hxn;have hlt:=VI (l:=ω p.offers.length) (f:=λa=>decide (bj (ft p r) a 0=m)&&decide (bj (mB p) m 0=bj (mB p) a 0)) (g:=λa=>decide (bj (ft p (r+1)) a 0=m)&&decide (bj (mB p) m 0=bj (mB p) a 0)) (λz hz hf=>by
       simp only[θ,decide_eq_true_eq] at hf ⊢;have hzn:=γp.1 hz;have h1:=ge (r+1) z ((MC hm hzn).1 hf.2);have h2:=mono r z hzn;exact⟨by omega,hf.2⟩)
      ⟨b,γp.2 (qV cb).2,by
       simp only[θ,decide_eq_true_eq];have h1:=ge (r+1) b cb;have h2:=agC r b a (qV cb).2 (qV ca).2 (by rw[MA];exact he);have sa:bj (ft p r) a 0=m:=sa;exact⟨by omega,(MC hm (qV cb).2).2 cb⟩,by
       rw[decide_eq_false (show ¬bj (ft p r) b 0=(m:Int) from sb)];rfl⟩;omega
 rcases key p.offers.length with h|h;·exact h i hi
 ·have:=List.countP_le_length (p:=λa=>decide (bj (ft p p.offers.length) a 0=m)&&decide (bj (mB p) m 0=bj (mB p) a 0)) (l:=ω p.offers.length);rw[List.length_range] at this;omega
def sr (p:bn):List Int:=ft p p.offers.length
def tC (p:bn) (f:Int):List Int:=(cG p.offers.length).filter λi=>decide (bj (sr p) i.toNat 0=f)
theorem Ft {p:bn} {i j:Int} (b:0<=i/\i<p.offers.length) (a:0<=j/\j<p.offers.length):kW p i=kW p j↔Cn p i.toNat j.toNat:=MC (by omega) (by omega)
theorem VK {p:bn} {f i:Int} (b:0<=f/\f<p.offers.length) (g:oQ p f=true) (c:0<=i/\i<p.offers.length) (h:kW p f=kW p i):bj (sr p) i.toNat 0=f:=by
 have:=agB (p:=p) (m:=f.toNat) (by omega) (λa e=>?_) ((Ft b c).1 h)
 ·rw[show((f.toNat:Nat):Int)=f by omega] at this;exact this
 ·have d:=(qV e).2;have j:kW p f=kW p (a:Int):=(Ft b (by omega)).2 (by simp_all);grind[ze]
theorem agD {p:bn} {f:Int} (c:0<=f/\f<p.offers.length):tC p f=if oQ p f=true then oP p f else[]:=by
 split
 ·rename_i b;unfold tC oP;refine εn λi a=>?_;have a:=jv.1 a;rw[decide_eq_decide];refine⟨λh=>?_,λh=>VK c b a h.symm⟩;have d:=((zg (p:=p) (r:=p.offers.length)).2 i.toNat (by omega)).2;have e:bj (ft p p.offers.length) i.toNat 0=f:=h;grind[Ft]
 ·rename_i b;unfold tC;refine List.filter_eq_nil_iff.2 λi a h=>b ?_;have a:=jv.1 a;have h:=of_decide_eq_true h;grind[VG,VK]
theorem VL {a:Type} {P:a->Bool} {g h:a->List Int}:∀{l:List a},(∀x∈l,g x=if P x=true then h x else[])->(∀x∈l,P x=true->h x≠[])->(l.map g).filter (λc=>decide (c≠[]))=(l.filter P).map h
 |[],_,_=>rfl
 |x::l,d,e=>by
  have f:=VL (l:=l) (λy b=>d y (γy _ b)) (λy b=>e y (γy _ b));grind
theorem agE {p:bn}:((cG p.offers.length).map (tC p)).filter (λc=>decide (c≠[]))=cz p:=by
 refine VL (λf hf=>agD (jv.1 hf)) λf hf _=>?_;have:f∈oP p f:=BJ.2 ⟨jv.1 hf,rfl⟩;exact List.ne_nil_of_mem this
def Fv (p:bn) (l:List Off):bn:={p with offers:=l}
theorem agF {α:Type} {a:α} {l:List α} {d:α}:bj (a::l) 0 d=a:=rfl
theorem agG {α:Type} {a:α} {l:List α} {n:Nat} {d:α}:bj (a::l) (n+1) d=bj l n d:=by simp[bj]
theorem agH {p:bn} (h:bz p=0):(p.offers.map Off.key).Nodup:=by
 unfold bz at h;split at h;·rename_i h1;exact absurd h h1
 ·exact(DN h).1
theorem agI {p:bn} (hc:bz p=0) {L:List Off} (hl:L.length<=p.offers.length) (hm:∀x∈L,x∈p.offers) (hn:(L.map Off.key).Nodup):bz (Fv p L)=0:=by
 have hz:=vY hc;refine UY ?_ (λx hx=>?_) hn
 ·obtain⟨f1,f2,f3,f4,f5⟩:=vX hz.1;exact HW (p:=Fv p L) f1 (λj hj=>by have h:=(ot (p:=p) (k:=j)).1 (f2 j hj);exact ot.2 h) (by simp only[Fv];omega) f5
 ·exact hz.2 x (hm x hx)
theorem agJ {p:bn} (hc:bz p=0) {i j:Int} (hi:0<=i/\i<p.offers.length) (hj:0<=j/\j<p.offers.length) (h:(oI p i).key=(oI p j).key):i=j:=by
 have hn:=agH hc;have h1:i.toNat<(p.offers.map Off.key).length:=by rw[Ξ];omega
 have h2:j.toNat<(p.offers.map Off.key).length:=by rw[Ξ];omega
 have e:(p.offers.map Off.key)[i.toNat]=(p.offers.map Off.key)[j.toNat]:=by
  rw[δB,δB];unfold oI at h;rwa [cV (by omega),cV (by omega)] at h
 have:=(List.getElem_inj hn).1 e;omega
theorem MD {α β:Type} {f:α->β}:∀{l:List α},l.Nodup->(∀x∈l,∀y∈l,f x=f y->x=y)->(l.map f).Nodup
 |[],_,_=>by simp;|x::l,h,hi=>by
  rw[γW] at h;rw[π,γW];refine⟨λhm=>?_,MD h.2 λa ha b hb=>hi a (γy _ ha) b (γy _ hb)⟩;obtain⟨y,hy,he⟩:=Ψ.1 hm;exact h.1 (hi x (γX ..) y (γy _ hy) he.symm▸hy)
def fK (p:bn) (c:List Int):bn:=Fv p (c.map (oI p))
def qX (c t:List Int):List Int:=t.map λk=>bj c k.toNat 0
theorem ME {p:bn} {c:List Int}:(fK p c).offers.length=c.length:=Ξ _
theorem MF {p:bn} (b:bz p=0) {c:List Int} (h:eL p.offers.length c):bz (fK p c)=0:=by
 refine agI b (by simp_all[s7]) (λx f=>?_) ?_
 ·obtain⟨i,a,rfl⟩:=Ψ.1 f;have:=h.2 i a;exact dq (by omega)
 ·rw[γ3];exact MD (A4 h) λi a j d e=>agJ b (h.2 i a) (h.2 j d) e
theorem BK {p:bn} {c:List Int} (h:c∈cz p):eL p.offers.length c:=by
 grind[agz,agy]
theorem agK {a b:Off} (h:a.bT=b.bT):gu a b=true:=by grind[gu]
theorem agL {n:Nat} {t:List Int}:nB 0 n t↔eL n t:=by
 grind[nB,eL]
theorem agM {l:List Int} {m:Nat} (a:l.Nodup) (h:∀x∈l,0<=x/\x<m):l.length<=m:=by
 have b:l.Perm ((cG m).filter λx=>decide (x∈l)):=by
  refine(γ4 a ((rM.sublist γR).imp λh=>by omega)).2 λx=>?_;simp_all[jv]
 rw[b.length_eq];grind[fU]
theorem Fz {p:bn} (hc:bz p=0):(cz p).length<=p.classes.length:=by
 have hl:(cz p).length=((cG p.offers.length).filter (oQ p)).length:=by unfold cz;rw[Ξ]
 rw[hl];have e:((cG p.offers.length).filter (oQ p)).length=(((cG p.offers.length).filter (oQ p)).map λf=>(oI p f).bT).length:=by rw[Ξ]
 rw[e];refine agM (MD ((rM.sublist γR).imp λh=>by omega) λi hi j hj hb=>?_) λx hx=>?_
 ·obtain⟨i1,i2⟩:=γt.1 hi;obtain⟨j1,j2⟩:=γt.1 hj;have i1:=jv.1 i1;have j1:=jv.1 j1;have hn:kW p i=kW p j:=(Ft i1 j1).2 (Fp (by omega) (by omega) (by
   rw[show((i.toNat:Nat):Int)=i by omega,show((j.toNat:Nat):Int)=j by omega];exact agK hb));by_cases h1:i<j;·exact absurd hn ((ze j1.1).1 j2 i i1.1 h1)
  ·by_cases h2:j<i;·exact absurd hn.symm ((ze i1.1).1 i2 j j1.1 h2)
   ·omega
 ·obtain⟨f,hf,rfl⟩:=Ψ.1 hx;have:=kR hc (jv.1 (γt.1 hf).1);exact⟨this.1,this.2.1⟩
def MG:bn:=⟨.zero,.zero,.zero,[],[]⟩
theorem agN:kF Tryz.prog 57 [.os 0 0 0 0] [.cells [] 3 1 true] (.bI []) [.cells [] 3 1 true]:=
 (GH sQ 60 57 [.os 0 0 0 0] [.cells [] 3 1 true] true (.bI []) [.cells [] 3 1 true] (by kernel_rfl)).2.1
def VM:dG where
 f:=57;α:=Nat×List Int;put a:=[.ow 0 a.1 1];st a:=[.row (.i .i64) a.2 3 true];dec v o:=match v,o with
  |[.ow 0 n 1],[.row t l 3 true]=>match iH t (.i .i64) l with
   |some l=>some (n,l)
   |_=>none
  |_,_=>none;ok v o a h:=by
  grind[mJ]
 inj a b e1 e2:=by
  obtain⟨n,l⟩:=a;obtain⟨n',l'⟩:=b;simp only[gL,Γ,SV.g,AV.os.injEq,true_and] at e1;simp only[gO,π,List.map_nil,bq.g,Γ,bR.cells.injEq,and_true,true_and] at e2;have h4:l=l':=by
   have hf:=congrArg List.length e2;rw[eY,eY] at hf;exact lA (.i .i64) (by grind[bp.sz]) e2
  simp_all
 dom a:=a.1=a.2.length/\a.2.length<=1000000;res _:=.bI [];out a:=[.row (.i .i64) (dZ a.2) 3 true]
theorem h337e:ec Tryz.prog VM:=by
 rintro⟨n,l⟩ ⟨a,b⟩;simp only at a b;by_cases c:1<=l.length;·exact h337 (n,l) ⟨a,c,b⟩
 ·have:l=[]:=τ (by omega);subst this;subst a;refine⟨by kernel_rfl,?_⟩;have e:dZ []=[]:=by simp[dZ]
  show kF Tryz.prog 57 [.os 0 0 0 0] [.cells [] 3 1 true] (.bI []) (gO [.row (.i .i64) (dZ []) 3 true]);rw[e];exact agN
def BL:bM:=⟨31,bn×List Int,.cons dO (.one (dL (.i .i64))),λa=>(∀i∈a.2,0<=i/\i<a.1.offers.length)/\a.2.length<=1000/\a.1.classes.length<=1000,λa=>dO.put (fK a.1 a.2)⟩
def MH (p:bn) (v:SV):bq:=.cells [.si .i64 p.supply.a0,.si .i64 p.supply.a1,.si .i64 p.supply.a2,.si .i64 p.supply.a3,.si .i64 p.supply.a4,.si .i64 p.supply.a5,
  .si .i64 p.opn.a0,.si .i64 p.opn.a1,.si .i64 p.opn.a2,.si .i64 p.opn.a3,.si .i64 p.opn.a4,.si .i64 p.opn.a5,
  .si .i64 p.cls.a0,.si .i64 p.cls.a1,.si .i64 p.cls.a2,.si .i64 p.cls.a3,.si .i64 p.cls.a4,.si .i64 p.cls.a5,
  .row (.i .i64) p.classes,v] 27 20 false
def VN:bq:=.cells [.il .i64 0,.il .i64 0,.il .i64 0,.il .i64 0,.il .i64 0,.il .i64 0,.il .i64 0,.il .i64 0,.il .i64 0,.il .i64 0,.il .i64 0,.il .i64 0,.il .i64 0,.il .i64 0,.il .i64 0,.il .i64 0,.il .i64 0,.il .i64 0,.sc (.slice none 0 0),.sc (.slice none 0 0)] 27 20 false
def agO (p:bn) (c:List Int):Nat->cC
 |5=> .inv Int (λi=>⟨[(2,.ptr 0 0 20),(4,.ptr 1 0 20),(5,.ptr 2 0 20),(14,.row (.i .i64) c),(15,.si .i64 c.length),(16,.si .i64 i)],[.cells p.ss 27 20 false,VN,MH p (.ow 3 (c.take i.toNat).length 8),.row .off ((c.take i.toNat).map (oI p)) 65 true]⟩)
   (λs=>iS s 16) (λi=>0<=i/\i<=c.length) (λi=>(c.length - i).toNat) λ_ _=> .look
 |_=> .look
theorem h562:Holds Tryz.prog BL:=by
 refine cH (L:=[AZ]) BL (λa=>agO a.1 a.2) (by grind[h330]) ?_;rintro⟨p,c⟩ ⟨Z,h2,h3⟩;simp only at Z h2 h3;refine bQ (let a:=γg .i64;let b:=(0:Int);let d:=bq.cells;let y:=Ω;let I:=bq.row;let L:=γP;let Y:=L 0 0 20;let W:=L 1 0 20;let X:=L 2 0 20;let J:=bp.i .i64;let H:=(↑c.length:Int);let N:=a H;let e:=γA .i64 0;let O:=a p.supply.a0;let M:=a p.supply.a1;let S:=a p.supply.a2;let q:=a p.supply.a3;let B:=a p.supply.a4;let A:=a p.supply.a5;let r:=a p.opn.a0;let v:=a p.opn.a1;let D:=a p.opn.a2;let u:=a p.opn.a3;let o:=a p.opn.a4;let w:=a p.opn.a5;let l:=a p.cls.a0;let n:=a p.cls.a1;let z:=a p.cls.a2;let C:=a p.cls.a3;let t:=a p.cls.a4;let s:=a p.cls.a5;let k:=y J p.classes;let F:=d [O,M,S,q,B,A,r,v,D,u,o,w,l,n,z,C,t,s,k,y bp.off p.offers] 27 20 false;let T:=SV.sc (Value.slice none 0 0);let E:=d [e,e,e,e,e,e,e,e,e,e,e,e,e,e,e,e,e,e,T,T] 27 20 false;let K:=d [O,M,S,q,B,A,r,v,D,u,o,w,l,n,z,C,t,s,k,SV.ow 3 0 8] 27 20 false;let U:=I bp.off [] 65 true;let h:=(fK p c).supply;let f:=(fK p c).opn;let j:=(fK p c).cls;p.classes.length<=1000000/\(((Y.same Y/\W.same W/\X.same X/\(y J c).same (y J c)/\(a (↑c.length:Int)).same N/\e.same (a 0)/\True)/\F.same F/\E.same E/\K.same K/\U.same U/\True)/\b<=b/\b<=H)/\∀(x:Int),let G:=bj c x.toNat b;let m:=γb (oI p) (Δ x.toNat c);let Q:=m.length+1;let g:=x+(1:Int);let R:=a g;let V:=m++[bj p.offers G.toNat bp.off.dflt];let P:=Δ g.toNat c;b<=x/\x<=H->(decide (x<H)=true->b<=x/\x<(↑c.length:Int)/\x.toNat<c.length/\b<=G/\G<(↑p.offers.length:Int)/\G.toNat<p.offers.length/\1=1/\(Δ x.toNat c).length=m.length/\Q*64<=140737488355328/\Q<=1000000000000/\cq .i64 g/\((Y.same Y/\W.same W/\X.same X/\(y J c).same (y J c)/\N.same N/\R.same R/\True)/\F.same F/\E.same E/\(d [O,M,S,q,B,A,r,v,D,u,o,w,l,n,z,C,t,s,k,SV.ow 3 V.length 8] 27 20 false).same (d [O,M,S,q,B,A,r,v,D,u,o,w,l,n,z,C,t,s,k,SV.ow 3 P.length 8] 27 20 false)/\(I bp.off V 65 true).same (I bp.off (γb (oI p) P) 65 true)/\True)/\(b<=g/\g<=H)/\(H - g).toNat<(H - x).toNat)/\(decide (x<H)=false->(Δ x.toNat c).length=m.length/\(γQ [O,M,S,q,B,A,r,v,D,u,o,w,l,n,z,C,t,s,k,y bp.off m]).same (γQ [a h.a0,a h.a1,a h.a2,a h.a3,a h.a4,a h.a5,a f.a0,a f.a1,a f.a2,a f.a3,a f.a4,a f.a5,a j.a0,a j.a1,a j.a2,a j.a3,a j.a4,a j.a5,y J (fK p c).classes,y bp.off (fK p c).offers]))) (by kernel_rfl) ?_;simp only[vcs];have I:∀{a b:Nat},a=b->(MH p (.ow 3 a 8)).same (MH p (.ow 3 b 8)):=by rintro _ _ rfl;rfl
 have a7:∀{x y:List Off},x=y->(bq.row .off x 65 true).same (bq.row .off y 65 true):=by rintro _ _ rfl;rfl
 have a6:∀x:Int,0<=x->x<c.length->γb (oI p) (Δ x.toNat c)++[bj p.offers (bj c x.toNat 0).toNat bp.off.dflt]=γb (oI p) (Δ (x+1).toNat c):=λx h0 Z=>by
  rw[jZ (d:=0) h0 Z,γa];rfl
 refine⟨by omega,by omega,?_⟩;rintro x ⟨x0,x1⟩;refine⟨λN=>?_,λa8=>?_⟩
 ·have hb:=Z (bj c x.toNat 0) (dq (by omega));have a9:(γb (oI p) (Δ x.toNat c)).length=x.toNat:=by simp_all
  rw[a6 x x0 N];refine⟨x0,N,by omega,hb.1,hb.2,by omega,(Ξ _).symm,by omega,by omega,by omega,⟨I (Ξ _),a7 rfl⟩,by omega,by omega⟩
 ·rw[show x.toNat=c.length by omega,ψ];exact⟨(Ξ _).symm,rfl⟩
def qY (p:bn) (l:List Int):Int:=if bz p≠0 then bz p else if jd p l=true then 0 else 4
def oR (p:bn) (l:List Int):bn:=if qY p l=0 then fK p l else MG
def MI:bM:=⟨15,bn×List Int,.cons dO (.one (dL (.i .i64))),λa=>a.2.length<=1000000000000,λa=> .bI [.agg (oR a.1 a.2).ss,.si .i64 (qY a.1 a.2)]⟩
def agP (p:bn) (l:List Int):Nat->cC
 |6=> .inv (Int×Int) (λx=>⟨[(1,.row (.i .i64) l),(2,.ptr 0 0 20),(4,.ptr 1 0 20),(7,.si .i64 x.2),(16,.row (.i .i64) l),(17,.si .i64 l.length),(18,.si .i64 x.1)],[.cells p.ss 27 20 false,VN]⟩)
   (λs=>(iS s 18,iS s 7)) (λx=>(0<=x.1/\x.1<=l.length)/\(-1<=x.2/\x.2<1000)/\(eU p.offers (-1) l).isSome=(eU p.offers x.2 (l.drop x.1.toNat)).isSome) (λx=>(l.length - x.1).toNat) λ_ _=> .look
 |_=> .look
theorem h554:Holds Tryz.prog MI:=by
 refine cH (L:=[po,BL]) MI (λa=>agP a.1 a.2) (by grind[h79,h562]) ?_;rintro⟨p,l⟩ (hl:l.length<=1000000000000);refine bQ (let a:=γg .i64;let d:=Ω;let e:=(-1:Int);let h:=(0:Int);let n:=γA .i64;let q:=(1000:Int);let A:=SV.bI;let E:=γQ;let T:=decide (bz p≠h);let b:=n 0;let m:=bp.i .i64;let M:=E [b,b,b,b,b,b,b,b,b,b,b,b,b,b,b,b,b,b,d m [],d m []];let y:=(oR p l).supply;let w:=(oR p l).opn;let v:=(oR p l).cls;let J:=A [E [a y.a0,a y.a1,a y.a2,a y.a3,a y.a4,a y.a5,a w.a0,a w.a1,a w.a2,a w.a3,a w.a4,a w.a5,a v.a0,a v.a1,a v.a2,a v.a3,a v.a4,a v.a5,d m (oR p l).classes,d bp.off (oR p l).offers],a (qY p l)];let K:=γP 0 0 20;let I:=γP 1 0 20;let c:=(↑l.length:Int);let u:=a c;let r:=bq.cells [a p.supply.a0,a p.supply.a1,a p.supply.a2,a p.supply.a3,a p.supply.a4,a p.supply.a5,a p.opn.a0,a p.opn.a1,a p.opn.a2,a p.opn.a3,a p.opn.a4,a p.opn.a5,a p.cls.a0,a p.cls.a1,a p.cls.a2,a p.cls.a3,a p.cls.a4,a p.cls.a5,d m p.classes,d bp.off p.offers] 27 20 false;let z:=SV.sc (Value.slice none 0 0);let s:=bq.cells [b,b,b,b,b,b,b,b,b,b,b,b,b,b,b,b,b,b,z,z] 27 20 false;let t:=(eU p.offers e l).isSome;let f:=(fK p l).supply;let k:=(fK p l).opn;let o:=(fK p l).cls;True/\(T=true->(A [M,a (bz p)]).same J)/\(T=false->((((d m l).same (d m l)/\K.same K/\I.same I/\(n e).same (a e)/\(d m l).same (d m l)/\(a (↑l.length:Int)).same u/\b.same (a 0)/\True)/\r.same r/\s.same s/\True)/\(h<=h/\h<=c)/\(e<=e/\e<q)/\t=t)/\∀(x:Int×Int),let G:=decide (x.fst<c);let j:=bj l x.fst.toNat h;let H:=decide (j<=x.snd);let D:=decide ((↑p.offers.length:Int)<=j);let g:=x.fst+(1:Int);let B:=a j;let C:=a g;(h<=x.fst/\x.fst<=c)/\(e<=x.snd/\x.snd<q)/\t=(eU p.offers x.snd (List.drop x.fst.toNat l)).isSome->(G=true->h<=x.fst/\x.fst<(↑l.length:Int)/\x.fst.toNat<l.length/\(H=true->(A [M,n 4]).same J)/\(H=false->(D=true->(A [M,n 4]).same J)/\(D=false->cq .i64 g/\(((d m l).same (d m l)/\K.same K/\I.same I/\B.same B/\(d m l).same (d m l)/\u.same u/\C.same C/\True)/\r.same r/\s.same s/\True)/\((h<=g/\g<=c)/\(e<=j/\j<q)/\t=(eU p.offers j (List.drop g.toNat l)).isSome)/\(c - g).toNat<(c - x.fst).toNat)))/\(G=false->((∀(i:Int),i∈l->h<=i/\i<(↑p.offers.length:Int))/\l.length<=1000/\p.classes.length<=1000)/\(A [E [a f.a0,a f.a1,a f.a2,a f.a3,a f.a4,a f.a5,a k.a0,a k.a1,a k.a2,a k.a3,a k.a4,a k.a5,a o.a0,a o.a1,a o.a2,a o.a3,a o.a4,a o.a5,d m (fK p l).classes,d bp.off (fK p l).offers],b]).same J))) (by kernel_rfl) ?_;simp only[vcs];have Z:qY p l≠0->oR p l=MG:=λh=>by simp_all[oR]
 refine⟨λh=>?_,λh=>?_⟩
 ·have e:qY p l=bz p:=by simp_all[qY]
  rw[Z (by omega),e];exact⟨rfl,rfl⟩
 ·have hc:bz p=0:=Classical.not_not.1 h;have P:=dQ hc;have e:qY p l=if jd p l=true then 0 else 4:=by simp_all[qY]
  refine⟨⟨by omega,by omega,by simp⟩,?_⟩;rintro⟨i,U⟩ ⟨⟨N,i1⟩,⟨Y,V⟩,q⟩;simp only at N i1 Y V q ⊢;have F:jd p l=false->qY p l=4/\oR p l=MG:=λhb=>by
   simp_all
  refine⟨λA=>?_,λa6=>?_⟩
  ·rw[uv (d:=0) N A] at q;generalize S:bj l i.toNat 0=x at q ⊢;simp only[eU] at q;refine⟨N,A,by omega,λR=>?_,λR=>⟨λh2=>?_,λh2=>?_⟩⟩
   ·rw[if_pos (.inl R)] at q;obtain⟨O,Q⟩:=F q;rw[Q,O];exact⟨rfl,rfl⟩
   ·rw[if_pos (.inr (by omega))] at q;obtain⟨O,Q⟩:=F q;rw[Q,O];exact⟨rfl,rfl⟩
   ·rw[if_neg (by omega),Option.isSome_map] at q;have:=P.2.1;grind
  ·rw[show i.toNat=l.length from by omega,List.drop_length] at q;have E:jd p l=true:=q;rw[E] at e;have e0:qY p l=0:=e;have X:oR p l=fK p l:=by simp_all[oR]
   have ha:=Js (by omega) E;rw[X,e0];have W:=Jq (n:=p.offers.length) (a:=0) (by omega) ha.1 (λx S=>by grind);exact⟨⟨λx S=>by grind,by have:=P.2.1;omega,by have:=P.1;omega⟩,rfl,rfl⟩
open Go.Maps Go.RowKit Go.Proofs Go.ChangeShapes
def gJ (l:List Int) (k:Nat) (x:Int):List Int:=(cG k).filter λi=>decide (bj l i.toNat 0=x)
theorem agQ {l:List Int} {k:Nat} {x:Int}:gJ l (k+1) x=if bj l k 0=x then gJ l k x++[(k:Int)] else gJ l k x:=by
 grind[gJ,pX]
def nT (H:Type) (l:List Int):Nat->DataW H
 |0=> .map []
 |k+1=>(nT H l k).put (.int .i64 (bj l k 0)) (.slice (lits .i64 (gJ l k (bj l k 0)++[(k:Int)])) [])
theorem VO {H:Type} {l:List Int}:∀{k:Nat},Go.Maps.IsMap (nT H l k)
 |0=>isMap_empty
 |k+1=>VO.put _ _
theorem FA {H:Type} {l:List Int} {x:Int}:∀{k:Nat} (z:DataW H),(nT H l k).atKey (.int .i64 x) z=if gJ l k x=[] then z else .slice (lits .i64 (gJ l k x)) []
 |0,z=>by grind[nT,gJ,cG,DataW.atKey];|k+1,z=>by
  rw[nT,agQ];by_cases h:bj l k 0=x
  ·subst h;rw[atKey_put_same VO (by simp[WideAt.IsKeyLit]),if_pos rfl,if_neg (by simp)]
  ·rw[atKey_put_other (by grind),if_neg h];exact FA z
theorem VP {H:Type} {l:List Int} {x:Int} {k:Nat}:θc (nT H l k) (.int .i64 x)=decide (gJ l k x≠[]):=by
 by_cases h:gJ l k x=[];all_goals simp_all[has_false_of_atKey,FA,has_true_of_atKey]
theorem agR {H:Type} {w:World} {base:Nat} {e:TypeId} {v:Value} {zs l:List Int} {k:Nat} (ho:w.ownsInts base e .i64 v zs)
  (hat:(nT H l k).atKey (.int .i64 (bj l k 0)) .nil=rowDatum .i64 v zs):zs=gJ l k (bj l k 0):=by
 rw[FA] at hat;rcases ho.datum (H:=H) with⟨h1,rfl⟩|h1<;>rw[h1] at hat
 ·split at hat;·rename_i h;exact h.symm
  ·cases hat
 ·split at hat;·cases hat
  ·injection hat with hat;have hinj:∀{a b:List Int},lits (H:=H) .i64 a=lits .i64 b->a=b:=by
    intro a;induction a with
    |nil=>intro b h;cases b with|nil=>rfl|cons y b=>simp[lits] at h
    |cons x a ih=>
     intro b h;cases b with
     |nil=>simp[lits] at h;|cons y b=>
      simp[lits] at h ih;rw[h.1,ih h.2]
   exact(hinj hat).symm
theorem VQ {l:List Int} {n:Nat} {x i:Int}:i∈gJ l n x↔(0<=i/\i<n)/\bj l i.toNat 0=x:=by
 unfold gJ cG;grind
theorem agS {l:List Int} {n:Nat} {x:Int}:(gJ l n x).Pairwise (·<·):=rM.sublist γR
def eW (l:List Int) (n:Nat):List Int:=(cG n).filter λf=>decide ((gJ l n (bj l f.toNat 0)).head?=some f)
theorem MJ {l:List Int} {n:Nat}:(eW l n).Pairwise (·<·):=rM.sublist γR
theorem FB {l:List Int} {n:Nat} {f:Int}:f∈eW l n↔(gJ l n (bj l f.toNat 0)).head?=some f:=by
 unfold eW;rw[γt];constructor;·simp_all
 ·intro h;refine⟨?_,decide_eq_true h⟩;have:=(VQ.1 (List.mem_of_mem_head? h)).1;grind[cG]
theorem agT {l:List Int} {n:Nat} {x:Int} (h:gJ l n x≠[]):∃f t,gJ l n x=f::t/\f∈eW l n/\bj l f.toNat 0=x:=by
 cases e:gJ l n x with
 |nil=>exact absurd e h;|cons f t=>
  have hf:=(VQ.1 (show f∈gJ l n x by rw[e];exact γX)).2;exact⟨f,t,rfl,FB.2 (by rw[hf,e];rfl),hf⟩
theorem agU {l:List Int} {n:Nat} {f g:Int} (b:f∈eW l n) (a:g∈eW l n) (h:bj l f.toNat 0=bj l g.toNat 0):f=g:=by
 grind[FB]
theorem agV {hs l:List Int} (hn:hs.Nodup) (hl:l.Pairwise (·<·)) (hm:∀x,x∈hs↔x∈l):(hs.mergeSort λx y=>decide (x<=y))=l:=by
 have hp:hs.Perm l:=(γ4 hn (hl.imp λh=>Int.ne_of_lt h)).2 hm;have h1:=δ7 (le:=λx y:Int=>decide (x<=y)) (λa b c=>by simp;omega) (λa b=>by simp;omega) hs;exact εF (le:=λx y:Int=>x<=y) (λa b _ _ h h'=>by omega) (h1.imp λh=>by simpa using h) (hl.imp λh=>γe h) ((δu _ _).trans hp)
theorem agW {p:bn}:cz p=(eW (mB p) p.offers.length).map λf=>gJ (mB p) p.offers.length (bj (mB p) f.toNat 0):=by
 unfold cz;have e:∀f,oP p f=gJ (mB p) p.offers.length (bj (mB p) f.toNat 0):=λf=>rfl;have h:(cG p.offers.length).filter (oQ p)=eW (mB p) p.offers.length:=by
  unfold eW;refine εn λf hf=>?_;obtain⟨h0,h1⟩:=jv.1 hf;rw[<-e f];have hin:f∈oP p f:=BJ.2 ⟨⟨h0,h1⟩,rfl⟩;have hasc:(oP p f).Pairwise (·<·):=agS;cases hc:oP p f with
  |nil=>rw[hc] at hin;cases hin;|cons g t=>
   rw[hc] at hasc;have hg:=BJ.1 (show g∈oP p f by rw[hc];exact γX);by_cases hfg:g=f
   ·subst hfg;rw[List.head?_cons];have:oQ p g=true:=(ze h0).2 λj a b c=>by
     have hj:j∈oP p g:=BJ.2 ⟨⟨a,by omega⟩,c⟩;rw[hc] at hj;rcases γv.1 hj with rfl|hj;·omega
     ·have:=ζn hasc hj;omega
    simp[this]
   ·have hlt:g<f:=by
     rw[hc] at hin;rcases γv.1 hin with rfl|hj;·exact absurd rfl hfg
     ·exact ζn hasc hj
    have:¬oQ p f=true:=λhb=>(ze h0).1 hb g hg.1.1 hlt hg.2;simp only[Bool.not_eq_true] at this;simp[this,hfg]
 rw[h];exact List.map_congr_left λf _=>e f
open Go.Maps Go.RowKit Go.Proofs Go.ChangeShapes
theorem agX {l:List Int} {n:Nat} {f:Int} (h:f∈eW l n):0<=f/\f<n:=by
 grind[eW,jv]
structure zh (O:Value->List Int->Prop) (l:List Int) (n:Nat) (D:DataW Unit) (left:Lit->Bool) (cnt:Nat) (hs:List (Int×Value)):Prop where
 d:(hs.map εo).Nodup
 i:∀h∈hs,h.1∈eW l n/\O h.2 (gJ l n (bj l h.1.toNat 0))/\left (.int .i64 (bj l h.1.toNat 0))=false
 a:∀f∈eW l n,left (.int .i64 (bj l f.toNat 0))=false->∃h∈hs,h.1=f
 c:hs.length+cnt<=n
 h:∀kl,left kl=true->θc D kl=true
theorem VR (a b:Int):(Lit.int .i64 a).sameKey (.int .i64 b)=decide (a=b):=by simp[Lit.sameKey]
theorem zh.step {O:Value->List Int->Prop} {l:List Int} {n:Nat} {D:DataW Unit} {e:Lit->Bool} {o:Nat} {x:List (Int×Value)} (h:zh O l n D e o x) {f:Int} {v:Value} (A:f∈eW l n)
  (I:O v (gJ l n (bj l f.toNat 0))) (s:e (.int .i64 (bj l f.toNat 0))=true) {k:Nat} (J:k<o):
  zh O l n D (λz=>e z&&!z.sameKey (.int .i64 (bj l f.toNat 0))) k (x++[(f,v)]):=by
 refine⟨?_,?_,?_,?_,?_⟩
 ·rw[γa,List.nodup_append];refine⟨h.d,by simp,?_⟩;intro a B b u p;simp at u;subst u;subst p;obtain⟨q,E,rfl⟩:=Ψ.1 B;rw[(h.i _ E).2.2] at s;cases s
 ·intro y m;rcases γk.1 m with m|m
  ·obtain⟨K,H,G⟩:=h.i y m;simp_all
  grind[VR]
 ·intro g w j;rw[VR] at j;by_cases t:bj l g.toNat 0=bj l f.toNat 0;·exact⟨(f,v),by simp,(agU w A t).symm⟩
  ·rw[decide_eq_false t] at j;simp at j;obtain⟨y,m,F⟩:=h.a g w j;grind
 ·have:=h.c;grind
 ·intro C r;simp only[θ] at r;exact h.h C r.1
def mY (hs:List (Int×Value)) (f:Int):Value:=((hs.find? λh=>decide (h.1=f)).map ζ8).getD (.slice none 0 0)
theorem VS {a:List (Int×Value)} (b:(a.map εo).Nodup) {q:Int×Value} (c:q∈a):mY a q.1=q.2:=by
 unfold mY;induction a<;>grind
theorem agY {a:List (Int×Value)} (b:(a.map εo).Nodup):(a.map εo).map (mY a)=a.map ζ8:=by
 simp_all[VS]
theorem zh.done {O:Value->List Int->Prop} {l:List Int} {n:Nat} {D:DataW Unit} {b:Lit->Bool} {j:Nat} {e:List (Int×Value)} (h:zh O l n D b j e) (m:∀o,b o=false):
  (∀f,f∈e.map εo↔f∈eW l n)/\(∀f∈eW l n,O (mY e f) (gJ l n (bj l f.toNat 0)))/\((e.map εo).mergeSort λx y=>decide (x<=y))=eW l n:=by
 have k:∀f,f∈e.map εo↔f∈eW l n:=λf=>by
  constructor
  ·intro c;obtain⟨q,g,rfl⟩:=Ψ.1 c;exact(h.i q g).1
  ·intro c;obtain⟨q,g,rfl⟩:=h.a f c (m _);grind
 refine⟨k,λf c=>?_,agV h.d MJ k⟩;obtain⟨q,g,rfl⟩:=Ψ.1 ((k f).2 c);rw[VS h.d g];exact(h.i q g).2.1
theorem agZ {H:Type} {w:World} {base:Nat} {e:TypeId} {v:Value} {zs l:List Int} {k:Nat} {x:Int} (ho:w.ownsInts base e .i64 v zs)
  (hat:(nT H l k).atKey (.int .i64 x) .nil=rowDatum .i64 v zs):zs=gJ l k x:=by
 rw[FA] at hat;rcases ho.datum (H:=H) with⟨h1,rfl⟩|h1<;>rw[h1] at hat
 ·split at hat;·rename_i h;exact h.symm
  ·cases hat
 ·split at hat;·cases hat
  ·injection hat with hat;have hinj:∀{a b:List Int},lits (H:=H) .i64 a=lits .i64 b->a=b:=by
    intro a;induction a with
    |nil=>intro b h;cases b with|nil=>rfl|cons y b=>simp[lits] at h
    |cons x a ih=>
     intro b h;cases b with
     |nil=>simp[lits] at h;|cons y b=>
      simp[lits] at h ih;rw[h.1,ih h.2]
   exact(hinj hat).symm
end Go.Vi
namespace Go.Proofs
open Go.RowKit Go.Maps Go.Vi Go.ChangeShapes
theorem ag0:(Tryz.prog.info? 3).map (λi=>(i.zero,i.size,i.bytes))=some (some (.int .i64 0),1,8):=by kernel_rfl
theorem ag1:(Tryz.prog.info? 24).map (λi=>(i.zero,i.size,i.bytes))=some (some (.slice none 0 0),1,24):=by kernel_rfl
theorem ag2 (w:World):(zeroValue 24).run Tryz.prog w= .ok (.slice none 0 0) w:=by kernel_rfl
theorem MK:Keyed Tryz.prog 3:=int_keyed Tryz.underlying3
open Go.Shelf Go.Sort Go.Lib
theorem ag3 (f c:Nat) (b i d g:Nat) (x y:Int) (W:World) (o:0<b) (l:0<d) (n:W.cell? ⟨f,0,none⟩=some (.int .i64 x)) (j:W.cell? ⟨c,0,none⟩=some (.int .i64 y)) (k:0<=x/\x<256) (m:0<=y/\y<256):
  Calls Tryz.prog 51 #[.slice (some ⟨f,0,none⟩) b i,.slice (some ⟨c,0,none⟩) d g] W λe h=>e= .returned (.int .i64 (x - y))/\∃q a,h=grow (W.drewN q) a:=by
 go_enter Tryz.func51,Tryz.ntmps51;go_wp2;go_quiet (fail);go_wp2;go_ret;exact⟨rfl,nq,#[],by simp_all⟩
theorem ag4 {b:Type} [Inhabited b] {enc:b->Value} {w:World} {g:Nat} {a:Array Value} {e:TypeId} {d:Array b} (i:w.heap[g]?=some (.cells a e (0,0))) (h:a.toList.take d.size=d.toList.map enc):Sort.Holds enc w g 0 d:=by
 intro j c;refine⟨?_,by grind[World.frozen?]⟩;have f:(a.toList.take d.size)[j]?=(d.toList.map enc)[j]?:=by rw[h]
 rw[δz c] at f;simp_all[World.cell?]
theorem ag5 {w:World} {B:Nat} {v:Value} {x:Int} {tl:List Int} (h:w.ownsInts B 3 .i64 v (x::tl)):
  ∃(g n cap:Nat),v= .slice (some ⟨g,0,none⟩) n cap/\0<n/\g<w.heap.size/\B<=g/\w.cell? ⟨g,0,none⟩=some (.int .i64 x):=by
 obtain⟨hr,_⟩:=h;have hr2:=hr;rcases hr.2 with⟨_,h0⟩|⟨g,cap,cur,rfl,hgb,hgg,q1,q2,q3,q4⟩;·simp at h0
 ·refine⟨g,_,cap,rfl,by simp,(γz.1 hgg).1,hgb,?_⟩;rw[World.ownsRow.cellAt hr2 0 (by simp)];simp
theorem VT {d:Type} [Inhabited d] (enc:d->Value) (W:World) (b c n:Nat) (e:Array d) (os:Array Obj) (a:Addr) (f:a.block≠b) (g:a.block<W.heap.size):(sortWorld enc W b c n e os).cell? a=W.cell? a:=by
 unfold sortWorld;rw[cell?_grow _ _ _ (by simp_all),cell?_putRow_other _ _ b c e _ (Or.inl f)];rfl
theorem ag6 {b:Type} [Inhabited b] (enc:b->Value) {w:World} {g n:Nat} {os:Array Obj} {a:Array Value} {e:TypeId} {c:Nat×Nat} (d:Array b) (f:w.heap[g]?=some (.cells a e c)):
  (sortWorld enc w g 0 n d os).heap[g]?=some (.cells (putCells enc 0 d a) e c):=by
 grind[sortWorld,heap_grow_old,putRow,mapBlock,Sort.ahead,onCells]
theorem ag7 {a:Type} [Inhabited a] (enc:a->Value) {w:World} {g n:Nat} {os:Array Obj} (d:Array a):w.grownBy (sortWorld enc w g 0 n d os) (some g):=by
 unfold sortWorld;refine⟨rfl,rfl,rfl,by simp_all,λk c b=>?_⟩;grind[heap_grow_old,putRow,mapBlock,Sort.ahead]
theorem ag8 {b:Type} [Inhabited b] (enc:b->Value) (a:Array Value) (d:Array b) (h:d.size<=a.size):(putCells enc 0 d a).toList.take d.size=d.toList.map enc:=by
 apply List.ext_getElem?;grind[putCells]
abbrev Hd (l:List Int) (n:Nat):={f:Int //f∈eW l n}
def qZ {l:List Int} {n:Nat} (x y:Hd l n):Int:=x.val - y.val
theorem wT {l:List Int} {n:Nat} (x y:Hd l n):ltOf qZ x y=decide (x.val<y.val):=by
 grind[ltOf,qZ]
theorem ag9 {l:List Int} {n:Nat}:SWO (ltOf (qZ (l:=l) (n:=n))) where
 irrefl x:=by grind[wT]
 trans x y z a b:=by grind[wT]
 ntrans x y z a b:=by grind[wT]
theorem aha {l:List Int} {n:Nat} (c:List (Hd l n)) (m:∀f,f∈c.map εQ↔f∈eW l n) (i:(c.map εQ).Nodup):(c.mergeSort λx y=>!ltOf qZ y x).map εQ=eW l n:=by
 have e:=δu c λx y=>!ltOf qZ y x;have d:=δ7 (le:=λx y=>!ltOf (qZ (l:=l) (n:=n)) y x) (λx y z g o=>by grind[wT]) (λx y=>by grind[wT]) c;have j:(c.mergeSort λx y=>!ltOf qZ y x).Pairwise λx y=>x.val<=y.val:=d.imp λ{x y} h=>by grind[wT]
 have g:((c.mergeSort λx y=>!ltOf qZ y x).map εQ).Pairwise (·<=·):=by
  grind
 have k:(eW l n).Perm (c.map εQ):=(γ4 (MJ.imp λh=>Int.ne_of_lt h) i).2 λf=>(m f).symm;exact εF (le:=λx y:Int=>x<=y) (λa b _ _ h p=>by omega) g (MJ.imp λh=>γe h) ((e.map _).trans k.symm)
def ahb (w':World) (B:Nat) (l:List Int) (n:Nat) (e:Ending):Prop:=
 (e= .returned (.slice none 0 0)/\eW l n=[])\/∃(g cap:Nat) (cur:Array Value) (sv:Int->Value),e= .returned (.slice (some ⟨g,0,none⟩) (eW l n).length cap)/\B<=g/\w'.heap[g]?=some (.cells cur 24 (0,0))/\(eW l n).length<=cap/\cap<=maxLen/\
  cur.size=cap*1/\cur.toList.take (eW l n).length=(eW l n).map sv/\∀f∈eW l n,w'.ownsInts B 3 .i64 (sv f) (gJ l n (bj l f.toNat 0))
theorem VU {P:Program} {e:Array Oper} {c:Oper} {a:Act} {w:World} {K:Act->Prop} (f:TypeId) (x:Operand) (p:Addr) (b:List Value) (d:Array Field) (k:∀j v,b[j]?=some v->w.cell? (p.add j)=some v)
  (o:P.underlying f=some (.struct d)) (r:(P.info? f).map (·.size)=some b.length) (m:c.op= .load f x) (l:a.eval x= .pointer (some p)) (n:Region.wanted c (yielded e a.tmps)=true)
  (h:K (a.put c.dst (.agg b.toArray))):if Region.wanted c (yielded e a.tmps) then c.still P a w K else K (a.put c.dst undef):=by
 have g:(loadVar f p).run P w= .ok (.agg b.toArray) w:=by
  have g:(loadCells p b.length).run P w= .ok b.toArray w:=run_loadCells_list (P:=P) w p b k;cases q:P.info? f with
  |none=>simp_all;|some i=>
   simp_all[isAgg,run_underlying,loadVar,sizeOf,typeInfo]
 rw[if_pos n];unfold Oper.still execOp;simp only[m,l,Instr.loadAt,Instr.sureAddr,Sem.run_bind,Sem.run_pure,Result.andThen_ok,g];exact⟨rfl,h⟩
def VX (v:Fin 8->Value):Value:=.agg #[v 0,v 1,v 2,v 3,v 4,v 5,v 6,v 7]
theorem add_block (q:Addr) (m:Nat):(q.add m).block=q.block:=by grind[Addr.add]
theorem ahc {w:World} {B g n c d:Nat} {e:TypeId} {xs:List Value} (h:w.ownsRow B e d (.slice (some ⟨g,0,none⟩) n c) n xs):B<=g:=by
 rcases h.2 with⟨b,_⟩|⟨j,a,f,b,i,_⟩<;>simp_all
theorem BM {w:World} {B g n c:Nat} {l:List Int} {j:Nat} (h:w.ownsInts B 3 .i64 (.slice (some ⟨g,0,none⟩) n c) l) (b:l.length=n) (d:j<n):w.cell? ⟨g,j,none⟩=some (.int .i64 (bj l j 0)):=by
 have a:=h.1;rw[b] at a;rw[World.ownsRow.cellAt a j (by omega)];grind[bj]
theorem ahd {w:World} {b f:Nat} {e:TypeId} {a:Nat} {v:Value} {n:Nat} {xs:List Value} (h:w.ownsRow b e a v n xs) (o:f<=b):w.ownsRow f e a v n xs:=by
 obtain⟨i,l⟩:=h;refine⟨i,l.imp id ?_⟩;rintro⟨g,c,d,m,k,j⟩;exact⟨g,c,d,m,δS o k,j⟩
theorem VY {w b:World} {B g n c S:Nat} {l:List Int} (h:w.ownsInts B 3 .i64 (.slice (some ⟨g,0,none⟩) n c) l) (a:Below S w b) (d:w.heap.size=S):b.ownsInts B 3 .i64 (.slice (some ⟨g,0,none⟩) n c) l:=by
 subst d;exact World.ownsInts.kept (row:=none) h ⟨a.os,a.tape,a.output,a.size,λk e _=>a.block k e⟩ (.inr (by simp[Value.ownBlock]))
theorem ahe {w:World} {B g n a:Nat} {l:List Int} (h:w.ownsInts (B+1) 3 .i64 (.slice (some ⟨g,0,none⟩) n a) l) (c:l.length=n) (b:0<n):B<w.heap.size:=by
 have:=h.1.lt g (by simp[Value.ownBlock]);omega
def q8 (x y:Int) (l:List Int) (i:Nat):List Int:=(l.take i).map (λz=>if z=x then y else z)++l.drop i
theorem ML {x y:Int} {l:List Int} {i:Nat}:(q8 x y l i).length=l.length:=by grind[q8]
theorem ahf {x y:Int} {l:List Int} {i:Nat} (h:i<l.length):q8 x y l (i+1)=if l[i]=x then(q8 x y l i).set i y else q8 x y l i:=by
 have a:l.take (i+1)=l.take i++[l[i]]:=γ0 h;have b:l.drop i=l[i]::l.drop (i+1):=List.drop_eq_getElem_cons h;have c:((l.take i).map λz=>if z=x then y else z).length=i:=by simp;omega
 unfold q8;rw[a,γa,List.append_assoc,b];split<;>simp_all
theorem ahg (g n w:Nat) (l:List Int) (F:l.length=n) (N:n<=60) (x y:Int) (E:(Lit.int .i64 y).wf=true) (Q:∀z∈l,(Lit.int .i64 z).wf=true) (W:World) (A:g<W.heap.size)
  (G:∀j (h:j<l.length),W.cell? ⟨g,j,none⟩=some (.int .i64 l[j]))
  (p:Calls Tryz.prog 52 #[.slice (some ⟨g,0,none⟩) n w] W λe f=>∃c a,e= .returned (.slice (some ⟨c,0,none⟩) n a)/\f.ownsInts W.heap.size 3 .i64 (.slice (some ⟨c,0,none⟩) n a) l/\Below W.heap.size W f):
  Calls Tryz.prog 49 #[.slice (some ⟨g,0,none⟩) n w,.int .i64 x,.int .i64 y] W λe f=>∃c a,e= .returned (.slice (some ⟨c,0,none⟩) n a)/\f.ownsInts W.heap.size 3 .i64 (.slice (some ⟨c,0,none⟩) n a) (q8 x y l n)/\Below W.heap.size W f:=by
 go_enter Tryz.func49,Tryz.ntmps49;go_wp2_with (go_at_call 52;refine p.mono ?_;rintro e f ⟨c,a,rfl,B,L⟩);go_loopw [14] (λi v=>∃k:Nat,k<=n/\i= .int .i64 k/\v.ownsInts W.heap.size 3 .i64 (.slice (some ⟨c,0,none⟩) n a) (q8 x y l k)/\Below W.heap.size W v)
  (λi _=>n - (intOf i).toNat);case atStart=>grind[q8]
 case round=>
  obtain⟨k,O,rfl,q,o⟩:=hrel;by_cases I:k<n
  ·have H:wr.cell? ⟨g,k,none⟩=some (.int .i64 (l[k]'(by omega))):=(o.cell (by exact A)).trans (G k (by omega));have d:=@ahf x y l k (by omega);by_cases t:l[k]'(by omega)=x
   ·rw[if_pos t] at d;have b:=q.1;rw[ML,F] at b;obtain⟨C,K⟩:=b.stored k (.int .i64 y);have D:=b.frozenAt k;have r:=b.cellAt k (by omega);rw[γE,μ (by grind[ML])] at r;go_wp2;have s:W.heap.size<=c:=by
     rcases b.2 with⟨M,_⟩|⟨R,u,J,M,P,_⟩<;>simp_all
    refine⟨⟨k+1,by omega,by simp,⟨?_,?_⟩,o.setCell (by exact s) _⟩,by simp[intOf];omega⟩;·simp_all[ML]
    ·intro z m;rw[d] at m;rcases δk m with m|rfl;·exact q.2 z m
     ·exact E
   ·rw[if_neg t] at d;go_wp2;grind[intOf]
  ·obtain rfl:k=n:=by omega
   go_wp2;go_ret;exact⟨c,a,rfl,q,o⟩
theorem ahh (x0 x1 x2 x3 x4 x5 x6 x7 x8 x9 x10 x11 x12 x13 x14 x15 x16 x17 x18:Value) (a:Option Addr) (n cap:Nat) (hn:n<=60) (nm:Nat->List Int) (hnm:∀k,(nm k).length=n) (ahp:nm 0=δ n 0) (hwf:∀k,k<=n->∀x∈nm k,(Lit.int .i64 x).wf=true)
  (nk:Nat->Nat->List Int) (hnk:∀k j,(nk k j).length=n) (hwk:∀k j,k<n->∀x∈nk k j,(Lit.int .i64 x).wf=true) (aiJ:∀k,k<n->nk k 0=(nm k).set k (k:Int)) (ahq:∀k,k<n->nk k k=nm (k+1))
  (cn:Nat->Nat->Bool) (VZ:∀k j,k<n->j<k->nk k (j+1)=if cn k j=true then qW (nk k j) (bj (nk k j) j 0) (bj (nk k j) k 0) else nk k j)
  (ov:Nat->Fin 8->Value) (w:World)
  (hoc:∀i,i<n->∃q,a=some q/\q.block<w.heap.size/\∀j:Fin 8,w.cell? ((q.add (i*8)).add j)=some (ov i j))
  (hcon:∀i j,i<n->j<n->∀W,Calls Tryz.prog 48 #[VX (ov i),VX (ov j)] W λe w'=>e= .returned (.bool (cn i j))/\Below W.heap.size W w')
  (ahr:∀(W:World) (B g cp:Nat) (l:List Int),l.length=n->W.ownsInts B 3 .i64 (.slice (some ⟨g,0,none⟩) n cp) l->∀x y,(Lit.int .i64 y).wf=true->Calls Tryz.prog 49 #[.slice (some ⟨g,0,none⟩) n cp,.int .i64 x,.int .i64 y] W λe w'=>
   ∃g2 cp2,e= .returned (.slice (some ⟨g2,0,none⟩) n cp2)/\w'.ownsInts W.heap.size 3 .i64 (.slice (some ⟨g2,0,none⟩) n cp2) (qW l x y)/\Below W.heap.size W w'):
  Calls Tryz.prog 29 #[.agg #[x0,x1,x2,x3,x4,x5,x6,x7,x8,x9,x10,x11,x12,x13,x14,x15,x16,x17,x18,.slice a n cap]] w λe w'=>∃B,w.heap.size<=B/\ahb w' B (nm n) n e/\Below w.heap.size w w':=by
 have hmm:=@run_makeMap Tryz.prog;obtain⟨i0,hi,hz0,hz1,hz2⟩:=info_parts ag0;go_enter Tryz.func29,Tryz.ntmps29;go_wp2_with (first
  |(at_make;refine wpList_make_full _ rfl _ _ 24 rfl (w.heap.size+1) 3 i0 (.int .i64 0) 1 Tryz.underlying24 hi hz0 hz1 .i64 .i64 _ _ n rfl rfl rfl rfl (by rw[hz2];omega) (by unfold maxLen;omega) (by simp) ?_;intro w0 hown0 V0);|go_in);go_loopw [18,3] (λi v wr=>∃(k:Nat) (g:Nat) (cp:Nat),k<=n/\i= .int .i64 k/\v= .slice (some ⟨g,0,none⟩) n cp/\wr.ownsInts (w.heap.size+1) 3 .i64 v (nm k)/\wr.cell? ⟨w.heap.size,19,none⟩=some (.slice a n cap)/\Below w.heap.size w wr)
  (λi _ _=>n - (intOf i).toNat);case atStart=>
  refine⟨0,w.heap.size+1,n,by omega,rfl,rfl,⟨?_,λz hz=>hwf 0 (δ4 _) z hz⟩,?_,((Below.refl _ w).alloc (ν _) _).grown V0 (by simp) (by simp_all)⟩;rotate_left
  ·refine(World.cell?_of_block (V0.block w.heap.size (by simp) (by simp_all))).trans ?_;simp_all
  rw[hnm 0,ahp];have e1:(madeCells (Value.int IntKind.i64 0).cells (n*1)).toList=(δ n (0:Int)).map (Value.int .i64):=by
   rw[Nat.mul_one,List.map_replicate];exact toList_madeCells_one _ _
  simp_all
 case round=>
  obtain⟨k,g,cp,hk,rfl,rfl,hown,V1,hnx⟩:=hrel;by_cases hlt:k<n
  ·obtain⟨q,rfl,hqb,_⟩:=hoc k hlt;have uX:=hown.1;rw[hnm k] at uX;obtain⟨hs1,hs2⟩:=uX.stored k (.int .i64 k);have hfr:=uX.frozenAt k;have hce:=uX.cellAt k (by omega);rw[γE,μ (by simp_all)] at hce;go_wp2;have hgb:w.heap.size+1<=g:=ahc uX;have hX:(wr.setCell ⟨g,k,none⟩ (.int .i64 k)).ownsInts (w.heap.size+1) 3 .i64 (.slice (some ⟨g,0,none⟩) n cp) (nk k 0):=by
    refine⟨?_,hwk k 0 hlt⟩;simp_all
   have hY:(wr.setCell ⟨g,k,none⟩ (.int .i64 k)).cell? ⟨w.heap.size,19,none⟩=some (.slice (some q) n cap):=by
    rw[<-V1];exact World.cell?_of_block (Below.heap_setCell _ _ _ _ (by simp;omega))
   have hZ:Below w.heap.size w (wr.setCell ⟨g,k,none⟩ (.int .i64 k)):=hnx.setCell (by simp;omega) _;clear hs1 hs2 hfr hce hown V1 hnx uX;generalize wr.setCell ⟨g,k,none⟩ (.int .i64 k)=wa at*;go_loopw [26,3] (λi v ws=>∃(j:Nat) (g:Nat) (cp:Nat),j<=k/\i= .int .i64 j/\v= .slice (some ⟨g,0,none⟩) n cp/\ws.ownsInts (w.heap.size+1) 3 .i64 v (nk k j)/\ws.cell? ⟨w.heap.size,19,none⟩=some (.slice (some q) n cap)/\Below w.heap.size w ws)
    (λi _ _=>k - (intOf i).toNat);case atStart=>exact⟨0,g,cp,δ4 _,rfl,rfl,hX,hY,hZ⟩
   case round=>
    obtain⟨j,g2,cp2,hj,rfl,rfl,ho2,hp2,hb2⟩:=hrel;by_cases hjk:j<k
    ·have hcs:∀i,i<n->∀m u,[ov i 0,ov i 1,ov i 2,ov i 3,ov i 4,ov i 5,ov i 6,ov i 7][m]?=some u->wr.cell? ((q.add (i*8)).add m)=some u:=by
      intro i hi m u hu;obtain⟨q',e,_,c⟩:=hoc i hi;injection e with e;subst e;have c0:∀m:Fin 8,wr.cell? ((q.add (i*8)).add m)=some (ov i m):=λm=>(hb2.cell (by simp_all[add_block])).trans (c m);match m,hu with
      |0,hu=>cases hu;exact c0 0;|1,hu=>cases hu;exact c0 1;|2,hu=>cases hu;exact c0 2;|3,hu=>cases hu;exact c0 3;|4,hu=>cases hu;exact c0 4;|5,hu=>cases hu;exact c0 5;|6,hu=>cases hu;exact c0 6;|7,hu=>cases hu;exact c0 7;|m+8,hu=>simp at hu
     have hjn:j<n:=by omega
     have aiL:(j:Int)<(n:Int):=by omega
     have hln:=hnk k j;have hoj:wr.cell? ⟨g2,j,none⟩=some (.int .i64 (bj (nk k j) j 0)):=BM ho2 hln (by omega);have hok:wr.cell? ⟨g2,k,none⟩=some (.int .i64 (bj (nk k j) k 0)):=BM ho2 hln (by omega);have hwy:(Lit.int .i64 (bj (nk k j) k 0)).wf=true:=hwk k j hlt _ (by simp[bj,show k<(nk k j).length by omega]);go_wp2;refine wp_region_still_tail 10 (by kernel_rfl) (by kernel_rfl) ?_;simp only[δt,εs,εy,εr];still_step;still_step;still_step;still_step;refine wpStill_step (λK hK=>?_);refine VU 65 (.tmp 32) (q.add (k*8)) _ _ (hcs k hlt) Tryz.underlying65 (by kernel_rfl) rfl rfl (by rfl) ?_;simp only[Act.put,ζd,δ9,ζh];refine hK _ ?_;clear hK K;still_step;still_step;still_step;still_step;refine wpStill_step (λK hK=>?_);refine VU 65 (.tmp 37) (q.add (j*8)) _ _ (hcs j (by omega)) Tryz.underlying65 (by kernel_rfl) rfl rfl (by rfl) ?_;simp only[Act.put,ζd,δ9,ζh];refine hK _ ?_;clear hK K;refine wpStill_nil ?_;change wpList _ _ _ _ _ wr.drew;have hbd:Below wr.heap.size wr wr.drew:=(Below.refl _ _).drew;have hsd:wr.drew.heap.size=wr.heap.size:=rfl;have ho3:wr.drew.ownsInts (w.heap.size+1) 3 .i64 (.slice (some ⟨g2,0,none⟩) n cp2) (nk k j):=ho2;have hp3:wr.drew.cell? ⟨w.heap.size,19,none⟩=some (.slice (some q) n cap):=hp2;have hb3:Below w.heap.size w wr.drew:=hb2.drew;have hwz:w.heap.size<wr.heap.size:=ahe ho2 hln (by omega);clear hoj hok ho2 hp2 hb2 hcs;generalize wr.drew=wd at*;have hc1:=hcon k j hlt hjn wd;rw[hsd] at hc1;cases hcj:cn k j with
     |false=>
      go_wp2_with (go_at_call 48;refine hc1.mono ?_;rintro e w' ⟨rfl,hb4⟩);have BN:=VZ k j hlt hjk;rw[hcj,if_neg (by simp)] at BN;refine⟨⟨j+1,g2,cp2,by omega,by go_num,rfl,?_,?_,?_⟩,by simp[intOf];omega⟩
      ·rw[BN];exact VY ho3 hb4 (by rw[hsd])
      ·rw[<-hp3];exact hb4.cell (by show w.heap.size<_;omega)
      ·exact hb3.trans (hb4.mono (by omega));|true=>
      go_wp2_with (go_at_call 48;refine hc1.mono ?_;rintro e w' ⟨rfl,hb4⟩);have BN:=VZ k j hlt hjk;rw[hcj,if_pos rfl] at BN;have FC:=VY ho3 hb4 (by rw[hsd]);have V2:w'.cell? ⟨w.heap.size,19,none⟩=some (.slice (some q) n cap):=by
       rw[<-hp3];exact hb4.cell (by show w.heap.size<_;omega)
      have hb5:=hb3.trans (hb4.mono (show w.heap.size<=wr.heap.size by omega));have aiM:w.heap.size<w'.heap.size:=γh hwz (by rw[<-hsd];exact hb4.size);have hoj:w'.cell? ⟨g2,j,none⟩=some (.int .i64 (bj (nk k j) j 0)):=BM FC hln (by omega);have hok:w'.cell? ⟨g2,k,none⟩=some (.int .i64 (bj (nk k j) k 0)):=BM FC hln (by omega);clear ho3 hp3 hb3 hb4 hc1 hsd;refine wp_region_still_tail 9 (by kernel_rfl) (by kernel_rfl) ?_;simp only[δt,εs,εy,εr];still_step;still_step;still_step;still_step;still_step;still_step;still_step;still_step;still_step;refine wpStill_nil ?_;change wpList _ _ _ _ _ w'.drew;have ho5:w'.drew.ownsInts (w.heap.size+1) 3 .i64 (.slice (some ⟨g2,0,none⟩) n cp2) (nk k j):=FC;have hp5:w'.drew.cell? ⟨w.heap.size,19,none⟩=some (.slice (some q) n cap):=V2;have hb6:Below w.heap.size w w'.drew:=hb5.drew;have hsd:w'.drew.heap.size=w'.heap.size:=rfl;clear hoj hok FC V2 hb5;generalize w'.drew=wd2 at*;have hc2:=ahr wd2 _ g2 cp2 (nk k j) hln ho5 (bj (nk k j) j 0) (bj (nk k j) k 0) hwy;go_wp2_with (go_at_call 49;refine hc2.mono ?_;rintro e w'' ⟨g3,cp3,rfl,MM,V3⟩);rw[<-BN] at MM;refine⟨⟨j+1,g3,cp3,by omega,by go_num,rfl,⟨ahd MM.1 (by omega),MM.2⟩,?_,?_⟩,by simp[intOf];omega⟩
      ·rw[<-hp5];exact V3.cell (by show w.heap.size<_;omega)
      ·exact hb6.trans (V3.mono (by omega))
    ·obtain rfl:j=k:=by omega
     go_wp2;refine⟨⟨j+1,g2,cp2,by omega,by go_num,rfl,by rw[<-ahq j hlt];exact ho2,hp2,hb2⟩,by simp[intOf];omega⟩
  ·obtain rfl:k=n:=by omega
   have hln:=hnm k;have hcl:∀j,j<k->wr.cell? ⟨g,j,none⟩=some (.int .i64 (bj (nm k) j 0)):=by
    intro j hj;have h1:=hown.1;rw[hln] at h1;rw[World.ownsRow.cellAt h1 j (by omega)];simp[bj,show j<(nm k).length by omega]
   have hg:g<wr.heap.size:=by
    rcases hown.1.2 with⟨h0,_⟩|⟨g3,aiN,cur,h0,_,hgg,_⟩;·cases h0
    ·injection h0 with h0;injection h0 with h0;injection h0 with h0;subst h0;exact(γz.1 hgg).1
   generalize hnl:nm k=l at*;generalize wr=w1 at*;go_wp2;go_loopw [55] (λi ws=>∃j:Nat,j<=k/\i= .int .i64 j/\ws.ownsGroups Tryz.prog 3 (w1.heap.size+1) 3 .i64 w1.heap.size j (nT Unit l j)/\Below w1.heap.size w1 ws/\w1.heap.size+1<=ws.heap.size)
    (λi _=>k - (intOf i).toNat);case atStart=>exact⟨0,δ4 _,rfl,World.ownsGroups_made _ _ _ _ _,(Below.refl _ _).alloc (ν _) _,by simp⟩
   case round=>
    obtain⟨j,hj,rfl,hgr,hbl,hws⟩:=hrel;have hcx:j<k->wr.cell? ⟨g,j,none⟩=some (.int .i64 (bj l j 0)):=λh=>(hbl.cell (by exact hg)).trans (hcl j h);have hkey:j<k->keyOf Tryz.prog 3 (.int .i64 (bj l j 0))=some (.int .i64 (bj l j 0)):=λh=>keyOf_int_mk Tryz.underlying3 (hwf k (ν _) _ (by rw[hnl];simp[bj,show j<l.length by omega]));by_cases hjk:j<k
    ·replace hcx:=hcx hjk;replace hkey:=hkey hjk;go_wp2_with (first
      |(at_lookup;refine wpList_lookup_groups _ rfl _ _ 94 rfl 3 24 3 .i64 MK Tryz.underlying94 (ag2 _) (w1.heap.size+1) w1.heap.size j _ rfl hgr (by unfold maxLen;omega) _ _ rfl hkey ?_;intro v zs hat hoi hzl hback);|(at_builtin;refine wpList_append_own_at _ rfl _ _ 24 rfl (w1.heap.size+1) 3 i0 (.int .i64 0) 1 8 Tryz.underlying24 hi hz0 hz1 hz2 rfl (by decide) _ _ _ rfl (hoi.1.alloc _) ⟨wr.heap.size,0,none⟩ 1 1 [.int .i64 j] rfl rfl (cell_one_new _ _ _) (ints_oneCell .i64 [(j:Int)]) (by unfold maxLen;omega) (by omega) (by simp;omega) ?_;intro v' w2 hown' hgrow hnil hloc);|(at_mapUpdate;refine wpList_mapUpdate_back _ rfl _ _ _ 94 rfl hback rfl rfl rfl ((World.grownBy_alloc _ _ _).trans hgrow) (hoi.appended hown' (WalkArith.wf_i64 (by omega))) (by simp;omega) (hloc.imp id (λh=>⟨_,h,by simp⟩)) ?_;intro w3 hown3 hgrow3);|go_in);have hall:=(World.grownBy_alloc wr _ _).trans hgrow;go_roundw;case rel=>
      refine⟨j+1,by omega,by go_num,?_,hbl.groups hoi hall hgrow3 hbl.size (Nat.le_succ _) (ν _),δS hws (δS hall.size hgrow3.size)⟩;have hz:=agR hoi hat;rw[nT,<-hz,<-(hoi.appended hown' (WalkArith.wf_i64 (by omega))).datum_pos (by simp)];exact hown3
     case measure=>simp[intOf];omega
    ·obtain rfl:j=k:=by omega
     have hmap:wr.ownsMap Tryz.prog 3 (rowElem wr (w1.heap.size+1) 3 .i64) w1.heap.size j (nT Unit l j):=by
      obtain⟨es,ck,h1,h2,h3,h4,h5,h6,h7⟩:=hgr;exact⟨es,ck,h1,h2,h3,h4⟩
     generalize wr=w4 at*;go_wp2_with (first
      |(at_range;refine wpList_range_own _ rfl _ 94 rfl 3 24 MK Tryz.underlying94 _ w1.heap.size j _ rfl hmap ?_;intro w5 hrg0 hg0 hs0);|go_in);go_frame;go_loopw [9] (λu ws=>∃(left:Lit->Bool) (cnt:Nat) (hs:List (Int×Value)),ws.ranges Tryz.prog 3 (rowElem w4 (w1.heap.size+1) 3 .i64) w1.heap.size w4.heap.size j (nT Unit l j) left cnt/\
       ws.ownsRow (w4.heap.size+1) 24 1 u hs.length (hs.map ζ8)/\zh (λv zs=>w4.ownsInts (w1.heap.size+1) 3 .i64 v zs) l j (nT Unit l j) left cnt hs/\
       w4.heap.size+1<=ws.heap.size/\Below w4.heap.size w4 ws)
      (λ_ ws=>ws.rangeLeft w1.heap.size w4.heap.size);case atStart=>
      refine⟨θc (nT Unit l j),Go.Maps.size (nT Unit l j),[],hrg0,⟨by simp,.inl ⟨rfl,rfl⟩⟩,⟨List.nodup_nil,by simp,?_,?_,λ_ h=>h⟩,by omega,(Below.refl _ w4).grown hg0 (ν _) (by intro k hk;cases hk)⟩
      ·intro f hf hl;rw[VP] at hl;have h2:=FB.1 hf;simp at hl;rw[hl] at h2;cases h2
      ·have:=hmap.size_le;simp;omega
     case round=>
      obtain⟨left,cnt,hs,hrg,hrow,hse,hsz,hbe⟩:=hrel;go_wp2_with (first
       |(at_next;refine wpList_next_ranges _ rfl _ rfl 3 MK (rowElem w4 (w1.heap.size+1) 3 .i64) (Value.int .i64) (λc:Option Addr×Nat×Nat=>Value.slice c.1 c.2.1 c.2.2) (λkey kl hkey=>by obtain⟨x,rfl,_⟩:=Maps.keyOf_int_inv Tryz.underlying3 hkey;exact⟨x,rfl⟩) (λv y hv=>by
        obtain⟨zs,ho,_⟩:=rowElem_inv hv;obtain⟨_,h|⟨g,cp,_,h,_⟩⟩:=ho.1;·exact⟨(none,0,0),h.1⟩
        ·exact⟨(some ⟨g,0,none⟩,zs.length,cp),h⟩) w1.heap.size w4.heap.size j _ _ _ rfl hrg ?_ ?_);|go_in)
      ·intro hc0 hl0;have eg:∀args w,(callFunc 51 args).run Tryz.prog w= .ok (.enter 51 args) w:=enters_of Tryz.func51 (by kernel_rfl) rfl;obtain⟨hmem,hO,hsrt⟩:=hse.done hl0;have hhs:hs.length<=60:=by have:=hse.c;omega
       rcases hrow.2 with⟨rfl,hn0⟩|⟨g2,cap2,cur,rfl,hgb,hgg,q1,q2,q3,q4⟩
       ·have ly:=AnyF.slices_SortFunc_none {Tryz.layR with} none 0 (.func (.func 51) #[] #[]) wr;change Calls Tryz.prog 50 _ _ _ at ly;go_wp2_with (go_at_call 50;refine ly.mono ?_;rintro e w' ⟨rfl,rfl⟩);go_ret;refine⟨w1.heap.size+1,ζw hnx.size,.inl ⟨rfl,?_⟩,hnx.trans ((hbl.trans (hbe.mono (by omega))).mono hnx.size)⟩;rw[hnl,δ2];intro f hf;have hf2:=(hmem f).2 hf;rw[τ hn0] at hf2;cases hf2
       ·by_cases hne:hs=[]
        ·subst hne;have ly:=AnyF.slices_SortFunc_none {Tryz.layR with} (some ⟨g2,0,none⟩) cap2 (.func (.func 51) #[] #[]) wr;change Calls Tryz.prog 50 _ _ _ at ly;go_wp2_with (go_at_call 50;refine ly.mono ?_;rintro e w' ⟨rfl,rfl⟩);go_ret;have h0:eW l j=[]:=by
          rw[δ2];intro f hf;have hf2:=(hmem f).2 hf;cases hf2
         refine⟨w1.heap.size+1,ζw hnx.size,?_,hnx.trans ((hbl.trans (hbe.mono (by omega))).mono hnx.size)⟩;rw[hnl];refine .inr ⟨g2,cap2,cur,mY [],by rw[h0];rfl,by omega,hgg,by rw[h0];simp,q2,q3,by rw[h0];simp,λf hf=>?_⟩;rw[h0] at hf;cases hf
        have hhd:∀x:Hd l j,∃(g n cap:Nat),mY hs x.val= .slice (some ⟨g,0,none⟩) n cap/\0<n/\g<w4.heap.size/\w1.heap.size+1<=g/\w4.cell? ⟨g,0,none⟩=some (.int .i64 x.val):=λx=>by
         have h1:=hO x.val x.property;have h2:=FB.1 x.property;cases hc:gJ l j (bj l x.val.toNat 0) with
         |nil=>rw[hc] at h2;cases h2;|cons y tl=>
          rw[hc] at h1 h2;injection h2 with h2;subst h2;exact ag5 h1
        have hbd:∀x:Hd l j,0<=x.val/\x.val<256:=λx=>by
         have:=agX x.property;omega
        have ahx:((hs.map εo).attachWith (·∈eW l j) (λf hf=>(hmem f).1 hf)).map (λx:Hd l j=>mY hs x.val)=hs.map ζ8:=by
         have:(λx:Hd l j=>mY hs x.val)=(mY hs)∘εQ:=rfl;rw[this,<-γ3,εR];exact agY hse.d
        obtain⟨q0,hq0⟩:=List.exists_mem_of_ne_nil _ hne;haveI:Inhabited (Hd l j):=⟨⟨q0.1,(hse.i q0 hq0).1⟩⟩;have ly:=Any.slices_SortFunc_total Tryz.layR (λx:Hd l j=>mY hs x.val) (λx=>by obtain⟨g,n,cap,e,_⟩:=hhd x;show(mY hs x.val).oneCell'=true;rw[e];rfl) qZ ag9 51 #[] g2 0 cap2 ((hs.map εo).attachWith (·∈eW l j) (λf hf=>(hmem f).1 hf)).toArray wr eg
         (λm os dk hdk x y=>by
          obtain⟨ga,na,ca,ea,la,ba,da,fa⟩:=hhd x;obtain⟨gb,nb,cb,eb,lb,bb,db,fb⟩:=hhd y;simp only[ea,eb];have aiO:=hbe.size;exact ag3 ga gb na ca nb cb x.val y.val _ la lb (by rw[VT _ _ _ _ _ _ _ _ (by show ga≠g2;omega) (by show ga<_;omega),hbe.cell (by exact ba)];exact fa)
           (by rw[VT _ _ _ _ _ _ _ _ (by show gb≠g2;omega) (by show gb<_;omega),hbe.cell (by exact bb)];exact fb) (hbd x) (hbd y)) (ag4 hgg (by simp only[ζ2,εN,Ξ];rw[show hs.length=hs.length*1 by omega,q4];exact ahx.symm)) (γz.1 hgg).1 (by simp;omega) (λx y h1 h2=>by rw[wT] at h1 h2;simp at h1 h2;exact Subtype.ext (by omega));change Calls Tryz.prog 50 _ _ _ at ly;simp only[ζ2,εN,Ξ] at ly;go_wp2_with (go_at_call 50;refine ly.mono ?_;rintro e w' ⟨rfl,N,os,rfl⟩);go_ret;have V4:((hs.map εo).attachWith (·∈eW l j) (λf hf=>(hmem f).1 hf)).map εQ=hs.map εo:=εR _;have hT:=aha ((hs.map εo).attachWith (·∈eW l j) (λf hf=>(hmem f).1 hf)) (by rw[V4];exact hmem) (by rw[V4];exact hse.d);have hpl:=(δu ((hs.map εo).attachWith (·∈eW l j) (λf hf=>(hmem f).1 hf)) λx y=>!ltOf qZ y x).length_eq;generalize (((hs.map εo).attachWith (·∈eW l j) (λf hf=>(hmem f).1 hf)).mergeSort λx y=>!ltOf qZ y x)=ts at hT hpl ⊢;simp only[εN,Ξ] at hpl;have hdl:(eW l j).length=hs.length:=by rw[<-hT,Ξ,hpl]
        have hbs:=hbe.size;have hb':=hbe.grown (ag7 (λx:Hd l j=>mY hs x.val) (n:=N) (os:=os) (g:=g2) ts.toArray) hbe.size (by intro k hk;injection hk with hk;omega);refine⟨w1.heap.size+1,ζw hnx.size,?_,hnx.trans ((hbl.trans (hb'.mono (by omega))).mono hnx.size)⟩;rw[hnl];have htk:=ag8 (λx:Hd l j=>mY hs x.val) cur ts.toArray (by simp;omega);refine .inr ⟨g2,cap2,_,mY hs,by rw[hdl];rfl,by omega,ag6 _ _ hgg,by omega,q2,by simp[putCells,q3],?_,λf hf=>?_⟩
        ·rw[hdl,<-hpl];refine Eq.trans ?_ (congrArg (γb (mY hs)) hT);rw[γ3];simpa using htk
        ·refine World.ownsInts.kept (row:=none) (hO f hf) ⟨hb'.os,hb'.tape,hb'.output,hb'.size,λk hk _=>hb'.block k hk⟩ ?_;obtain⟨g,n,cap,e,_⟩:=hhd ⟨f,hf⟩;right;rw[show mY hs f=_ from e];simp[Value.ownBlock]
      ·intro x ca cn cc kl y yy w6 cnt1 hkx hlx hRc hat hrg1 hlt hg1 hs1 hen;obtain⟨_,e1,rfl,hwx⟩:=Maps.keyOf_int_inv Tryz.underlying3 hkx;cases e1;obtain⟨zs,hoc,hyy⟩:=rowElem_inv hRc;cases hyy;obtain⟨i1,hi1,hy0,hy1,hy2⟩:=info_parts ag1;have h1c:∀v∈[Value.slice ca cn cc],v.oneCell'=true:=by
        intro v hv;rw[List.mem_singleton] at hv;subst hv;rfl
       have hkl:=hse.h _ hlx;rw[VP] at hkl;obtain⟨f,tl,hft,hfh,hfx⟩:=agT (of_decide_eq_true hkl);have uX:=hrow.kept hg1 (by
        rcases hrow.2 with⟨rfl,_⟩|⟨g,cap,cur,rfl,hgb,_⟩;·exact .inl rfl
        ·right;simp[Value.ownBlock];omega);have hcc:=hse.c;have hhs:hs.length<=60:=by omega
       have ahB:Below w4.heap.size w4 w6:=hbe.grown hg1 hbe.size (by intro k hk;injection hk with hk;omega);go_wp2_with (first
        |(at_builtin;refine wpList_append_own _ rfl _ _ 30 rfl (w4.heap.size+1) 24 i1 (.slice none 0 0) 1 24 Tryz.underlying30 hi1 hy0 hy1 hy2 rfl (by decide) _ _ _ rfl (uX.alloc _) ⟨wr.heap.size,0,none⟩ 1 1 [Value.slice ca cn cc] rfl rfl (by rw[<-hs1];exact cell_one_new _ _ _) h1c (by unfold maxLen;omega) (by omega) (by simp;omega) ?_;intro v' w7 ahC ahD aiP);|go_in);have MN:(w6.alloc (Obj.cells #[Value.slice ca cn cc] 24)).grownBy w7 u9.ownBlock:=ahD;have hzs:zs=gJ l j x:=agZ hoc (hat .nil);have hO:w4.ownsInts (w1.heap.size+1) 3 .i64 (Value.slice ca cn cc) (gJ l j (bj l f.toNat 0)):=by
        rw[hfx,<-hzs];exact hoc
       have hrw:some w1.heap.size≠u9.ownBlock/\some w4.heap.size≠u9.ownBlock:=by
        rcases hrow.2 with⟨rfl,_⟩|⟨g,cap,cur,rfl,hgb,_⟩;·exact⟨by simp[Value.ownBlock],by simp[Value.ownBlock]⟩
        ·exact⟨by simp[Value.ownBlock];omega,by simp[Value.ownBlock];omega⟩
       have V5:=(hrg1.alloc (Obj.cells #[Value.slice ca cn cc] 24)).kept MN hrw.1 hrw.2;have aiQ:=MN.size;have hsa:(w6.alloc (Obj.cells #[Value.slice ca cn cc] 24)).heap.size=w6.heap.size+1:=by simp
       have hbs:=hbe.size;subst hfx;refine⟨⟨_,cnt1,hs++[(f,.slice ca cn cc)],V5,?_,hse.step hfh hO hlx hlt,by omega,(ahB.alloc (by omega) _).grown MN (by omega) ?_⟩,?_⟩
       ·rw[List.length_append,γa];exact ahC
       ·intro k hk;rcases hrow.2 with⟨rfl,_⟩|⟨g,cap,cur,rfl,hgb,_⟩;·cases hk
        ·simp[Value.ownBlock] at hk;omega
       ·rw[V5.left_eq,hrg.left_eq];exact hlt
end Go.Proofs
namespace Go.Vi
open Go.Proofs.YtbnhiekmnpikhaaGreat.Ir
open Go.Proofs
theorem ahE {a b:Off} (d:a.want.ok=true) (c:b.want.ok=true):gu a b=true↔a.bT=b.bT\/¬((a.want.meet b.want).a0=0/\(a.want.meet b.want).a1=0/\(a.want.meet b.want).a2=0/\(a.want.meet b.want).a3=0/\(a.want.meet b.want).a4=0/\(a.want.meet b.want).a5=0):=by
 have d:=bC.jb.1 d;have c:=bC.jb.1 c;simp only[gu,List.any_cons,List.any_nil,Bool.or_eq_true,θ,decide_eq_true_eq,Bool.false_eq_true,or_false];simp only[bC.at,agF,agG,bC.meet];omega
def V6:bM:=⟨48,Off×Off,.cons (dY .off) (.one (dY .off)),λa=>a.1.want.ok=true/\a.2.want.ok=true,λa=> .sb (gu a.1 a.2)⟩
theorem h565:Holds Tryz.prog V6:=by
 refine cH (L:=[H7]) V6 (λ_=>λ_=> .look) (by grind[h163]) ?_;rintro⟨a,b⟩ ⟨e,f⟩;simp only at e f;refine bQ (let e:=(0:Int);let d:=decide (a.bT=b.bT);let c:=a.want.meet b.want;(d=true->(SV.bl true).same (γx (gu a b)))/\(d=false->True/\(γx !(decide (c.a0=e)&&(decide (c.a1=e)&&(decide (c.a2=e)&&(decide (c.a3=e)&&(decide (c.a4=e)&&(decide (c.a5=e)&&true))))))).same (γx (gu a b)))) (by kernel_rfl) ?_;simp only[vcs];grind[ahE]
def BO (p:bn) (i:Nat) (j:Fin 8):Value:=bj (dy .off (oI p i)) j .nilFunc
theorem V7 {W:World} (o:Off):bw kJ W [] [] ((dY .off).put o).g (.agg (dy .off o).toArray):=by
 show bw kJ W [] [] (.agg ((dy .off o).map .sc)) _;simp only[bw];exact⟨_,rfl,by simpa using vo kJ W [] [] (dy .off o) (by simp[dy,iv,Value.oneCell'])⟩
theorem ahF {a b:Off} (j:a.want.ok=true) (h:b.want.ok=true) (W:World):Calls Tryz.prog 48 #[.agg (dy .off a).toArray,.agg (dy .off b).toArray] W λe g=>e= .returned (.bool (gu a b))/\RowKit.Below W.heap.size W g:=by
 refine((h565 (a,b) ⟨j,h⟩).2 kJ W [] [.agg (dy .off a).toArray,.agg (dy .off b).toArray] (zA W (λb f=>f.elim)) ⟨_,_,rfl,V7 a,_,_,rfl,V7 b,rfl⟩).mono ?_;rintro e i ⟨u,c,rfl,_,d,k⟩;have d:bw kJ i c [] (.sc (.bool (gu a b))) u:=d;grind[bw,Qk]
theorem ahG {l:List Int} {x y:Int}:q8 x y l l.length=qW l x y:=by simp[q8,qW]
theorem ahH {n:Nat} (v:n<=60) (W:World) (B g d:Nat) (l:List Int) (i:l.length=n) (k:W.ownsInts B 3 .i64 (.slice (some ⟨g,0,none⟩) n d) l) (x y:Int) (t:(Lit.int .i64 y).wf=true):
  Calls Tryz.prog 49 #[.slice (some ⟨g,0,none⟩) n d,.int .i64 x,.int .i64 y] W λe o=>
   ∃m a,e= .returned (.slice (some ⟨m,0,none⟩) n a)/\o.ownsInts W.heap.size 3 .i64 (.slice (some ⟨m,0,none⟩) n a) (qW l x y)/\RowKit.Below W.heap.size W o:=by
 have s:∀j (h:j<l.length),W.cell? ⟨g,j,none⟩=some (.int .i64 l[j]):=λj h=>by
  rw[BM k i (by omega)];grind[bj]
 have z:=ahg g n d l i v x y t k.2 W (by have:=k.1.lt g (by simp[Value.ownBlock]);omega) s (by
  have p:Calls Tryz.prog 52 #[.slice (some ⟨g,0,none⟩) n d] W _:=RL Tryz.layC Tryz.t3 (.int .i64 0) 1 8 (by kernel_rfl) (by kernel_rfl) (by kernel_rfl) (by kernel_rfl) (by kernel_rfl) (by omega) Tryz.sizeOf3 ⟨g,0,none⟩ n d (l.map (Value.int .i64)) W (by simp[i]) (by grind[maxLen]) (by omega) (λj u w=>by
   grind[Addr.add_lit]) (by simp[Value.oneCell']);refine p.mono ?_;rintro e o ⟨A,rfl,b,q,f⟩;have c:=b;rcases c.2 with h|⟨m,a,r,rfl,_⟩;·simp_all
  ·exact⟨m,a,rfl,⟨by rw[i];exact b,k.2⟩,f⟩);grind[ahG]
theorem BP {p:bn} {i:Nat} {l:List Int}:∀{k:Nat},(mX p i l k).length=l.length
 |0=>rfl
 |k+1=>by
  unfold mX;split;·rw[VD];exact BP
  ·exact BP
theorem FD {p:bn}:∀{k:Nat},(nS p k).length=p.offers.length
 |0=>γC
 |k+1=>by
  show(mX p k _ k).length=_;rw[BP,Φ];exact FD
theorem BQ {p:bn} {i:Nat} {l:List Int} {B:Int} (b:i<l.length) (h:∀x∈l,0<=x/\x<=B):∀{k:Nat},∀x∈mX p i l k,0<=x/\x<=B
 |0=>h
 |k+1=>by
  intro x a;unfold mX at a;split at a
  ·unfold qW at a;obtain⟨y,c,rfl⟩:=Ψ.1 a;split
   ·refine BQ (p:=p) b h (k:=k) _ ?_;grind[BP,cV]
   ·exact BQ b h (k:=k) y c
  ·exact BQ b h (k:=k) x a
theorem MO {p:bn}:∀{k:Nat},k<=p.offers.length->∀x∈nS p k,0<=x/\x<=p.offers.length
 |0,_=>λx a=>by
  have:=List.eq_of_mem_replicate a;omega;|k+1,b=>by
  refine BQ (by grind[FD]) λx a=>?_;rcases δk a with a|rfl;·exact MO (by omega) x a
  ·omega
theorem ahI {A:dM} {w:World} {B:Nat} {v:Value} {l:List Int} (e:w.ownsInts B 3 .i64 v l) (u:∀b,A b->b<B):bw A w [] [] (.sl l.length (l.map λx=>AV.sc (.int .i64 x))) v:=by
 have m:dB (l.map λx=>AV.sc (.int .i64 x))=true:=by rw[<-mO];grind[o9]
 have d:=e.1;rcases e.1.2 with⟨rfl,y⟩|⟨g,k,o,rfl,q,p,h,r,s,t⟩;·grind[bw,dr]
 ·simp only[bw];refine⟨_,_,rfl,h,m,dr.k9 _ _ _ λi c a=>?_⟩;rw[γE] at a;obtain⟨x,f,rfl⟩:=ε.1 a;have n:=(ζ.1 f).1;refine⟨⟨g,0,none⟩,.int .i64 x,rfl,⟨λ⟨i,c,a⟩=>by simp at a,λj=>by grind⟩,?_,by simp[bw,Value.oneCell']⟩;rw[Addr.add_lit,Nat.zero_add,Nat.zero_add,World.ownsRow.cellAt d i (by omega),γE,f];rfl
theorem V8 (L:List (List Int)):cF (.bD (.i .i64)) L=L.map λl=>AV.sl l.length (l.map λx=>AV.sc (.int .i64 x)):=by
 induction L with
 |nil=>rfl;|cons l L a=>
  rw[π,<-a,<-mO];rfl
theorem ahJ {w:World} {a:Addr} {v:Value} (h:w.cell? a=some v):a.block<w.heap.size:=by
 grind[World.cell?]
theorem ahK (q:Addr) (a b:Nat):(q.add a).add b=q.add (a+b):=by
 unfold Addr.add;grind
theorem ahL {p:bn} {i:Nat} (a:i<p.offers.length) (j:Fin 8):(cF .off p.offers)[i*8+j]?=some (.sc (BO p i j)):=by
 have h:=OX (s:=.off) a;have b:((cF .off p.offers).drop (i*bp.off.sz))[(j:Nat)]?=some (.sc (BO p i j)):=by
  rw[h];obtain⟨j,c⟩:=j;have:j=0\/j=1\/j=2\/j=3\/j=4\/j=5\/j=6\/j=7:=by omega
  rcases this with rfl|rfl|rfl|rfl|rfl|rfl|rfl|rfl<;>rfl
 rwa [List.getElem?_drop] at b
def MP:bM:=⟨29,bn,.one dO,λp=>bz p=0/\p.offers.length<=60,λp=> .row (.bD (.i .i64)) (cz p)⟩
theorem h560:Holds Tryz.prog MP:=by
 rintro(p:bn) ⟨hc,hn⟩;refine⟨by kernel_rfl,?_⟩;intro A w σ vs Q E;have T:σ=[]:=by have:=Q.len;simp_all
 subst T;replace E:bG A w [] [] [.agg (gL p.ss)] vs:=E;simp only[bG] at E;obtain⟨v,r,rfl,hv,rfl⟩:=E;simp only[bw] at hv;obtain⟨cs,rfl,C⟩:=hv;obtain⟨cs⟩:=cs;simp only[bn.ss,gL,SV.g,bG] at C;obtain⟨x0,r0,rfl, -,x1,r1,rfl, -,x2,r2,rfl, -,x3,r3,rfl, -,x4,r4,rfl, -,x5,r5,rfl, -,x6,r6,rfl, -,x7,r7,rfl, -,x8,r8,rfl, -,x9,r9,rfl, -,J,a8,rfl, -,H,b0,rfl, -,U,a7,rfl, -,a1,b2,rfl, -,V,b4,rfl, -,a0,b5,rfl, -,I,a5,rfl, -,L,b1,rfl, -,F,a6,rfl, -,b6,b3,rfl,D,rfl⟩:=C;simp only[bw] at D;obtain⟨a,Z,rfl,a2,_,hM⟩:=D;have K:∀i,i<p.offers.length->∃q,a=some q/\q.block<w.heap.size/\∀j:Fin 8,w.cell? ((q.add (i*8)).add j)=some (BO p i j):=by
  intro i m;have hq:∀j:Fin 8,∃b,a=some b/\w.cell? (b.add (i*8+j))=some (BO p i j):=λj=>by
   obtain⟨b,v,e,_,M,a3⟩:=dr.get _ _ _ hM _ _ (ahL m j);grind[bw]
  obtain⟨q,rfl,h0⟩:=hq 0;refine⟨q,rfl,?_,λj=>?_⟩
  ·have:=ahJ h0;grind[add_block]
  simp_all[ahK]
 have t:∀i:Nat,i<p.offers.length->(oI p i).want.ok=true:=λi m=>(kR hc (i:=(i:Int)) ⟨by omega,by omega⟩).2.2.1;have a4:∀k:Nat,((nS p k).set k (k:Int)).length=p.offers.length:=λk=>by grind[FD]
 have n:=ahh x0 x1 x2 x3 x4 x5 x6 x7 x8 x9 J H U a1 V a0 I L F a p.offers.length Z hn (nS p) (λ_=>FD) rfl (λk s x o=>WalkArith.wf_i64 (by have:=MO s x o;omega))
  (λk j=>mX p k ((nS p k).set k (k:Int)) j) (λk j=>by grind[BP])
  (λk j s x o=>WalkArith.wf_i64 (by
   have:=BQ (p:=p) (i:=k) (B:=p.offers.length) (by simp_all) (λx o=>by
    rcases δk o with o|rfl;·exact MO (by omega) x o
    ·omega) (k:=j) x o;omega))
  (λk s=>rfl) (λk s=>rfl) (λi j=>gu (oI p i) (oI p j)) (λk j s hj=>rfl) (BO p) w K (λi j m hj W=>ahF (t i m) (t j hj) W) (λW B g cp l X ho x y hy=>ahH hn W B g cp l X ho x y hy);refine n.mono ?_;rintro e w' ⟨B,hB,z,d⟩;have hA:∀b,A b->b<B:=λb h=>γh (Q.jH b h) hB;have R:bU A w' [] []:=⟨rfl,by simp,by simp,by simp,by simp,λb h=>γh (Q.jH b h) d.size⟩;have hE:Ext w [] [] w' [] []:=⟨d.size,λb h _=>⟨d.block b h,λ⟨i,c,m⟩=>by simp at m⟩,ν _,λ_ _ ⟨_,_,_,_,h,_⟩=>by simp at h,λ_ ⟨_,_,_,h⟩=>by simp at h,d.os,d.tape,d.output⟩;have e2:(MP.res p).G= .sl (cz p).length ((cz p).map λl=>AV.sl l.length (l.map λx=>AV.sc (.int .i64 x))):=by rw[<-V8];rfl
 have P:dB ((cz p).map λl=>AV.sl l.length (l.map λx=>AV.sc (.int .i64 x)))=true:=by rw[<-V8];grind[o9]
 have u:cz p=(eW (nS p p.offers.length) p.offers.length).map λf=>gJ (nS p p.offers.length) p.offers.length (bj (nS p p.offers.length) f.toNat 0):=agW;rw[e2];rcases z with⟨rfl,h0⟩|⟨g,cp,Y,sv,rfl,hg,a9,h1,h2,h3,h4,h5⟩;·grind[bw,dr]
 ·have X:(cz p).length=(eW (nS p p.offers.length) p.offers.length).length:=by rw[u,Ξ]
  refine⟨_,[],rfl,R,?_,hE⟩;rw[X];simp only[bw];refine⟨_,_,rfl,h1,P,dr.k9 _ _ _ λi c m=>?_⟩;rw[u,γ3,γE] at m;obtain⟨f,S,rfl⟩:=ε.1 m;have N:=(ζ.1 S).1;have h9:(Y.toList.take (eW (nS p p.offers.length) p.offers.length).length)[i]?=some (sv f):=by rw[h4,γE,S];rfl
  rw[δz N,Array.getElem?_toList] at h9;refine⟨⟨g,0,none⟩,sv f,rfl,⟨λ⟨i,c,m⟩=>by simp at m,λO=>by have:=hA g O;omega⟩,?_,ahI (h5 f (List.mem_of_getElem? S)) hA⟩;rw[Addr.add_lit];simp_all[World.cell?]
end Go.Vi

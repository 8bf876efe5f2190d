/-
  The abstract interpreter: every operation that is no call does what the model's does.
  Conditions: none.
-/
import Derived.Test.YtddpfdamlefbgaaGreatSF02
import Derived.OrdersIn
import Derived.AtR
set_option maxRecDepth 100000
set_option maxHeartbeats 4000000
set_option linter.all false
namespace Go.Vi
def IOp.isCall:IOp→Bool
 | .call .. | .callv .. | .callm .. =>true
 |_=>false
section
variable {P:Program} {A:Clr} {w w':World} {σ σ':Sig} {o o':Store} {ρA:Operand→AV} {ρC:Operand→Value} {oper:Oper} {v:AV}
theorem pair_map {b:Type} {x:Option b} {f:b→AV×Store} {p:AV×Store} (h:x.map f=some p):∃a,x=some a∧f a=p:=by
 simp_all
theorem eff_gives {call:Oracle} {fl:Bool} {iop:IOp} {nid:Nat} (hc:compOp P fl oper=some iop) (hnc:iop.isCall=false) (hS:SimO A w σ o) (hρ:∀x,Rep A w σ o (ρA x) (ρC x))
  (he:eff call iop ρA o nid=some (v,o')):Gives A P ρC oper w σ o v o':=by
 rw[eff_eq] at he
 unfold compOp at hc
 split at hc
 ·
  rename_i x hop
  injection hc with hc;subst hc
  simp only[effS,Option.some.injEq,Prod.mk.injEq] at he
  obtain⟨rfl,rfl⟩:=he
  exact g_mov hS hρ (.inl hop)
 ·rename_i x hop
  injection hc with hc;subst hc
  simp only[effS,Option.some.injEq,Prod.mk.injEq] at he
  obtain⟨rfl,rfl⟩:=he
  exact g_mov hS hρ (.inr hop)
 ·rename_i c a b hop
  injection hc with hc;subst hc
  simp only[effS] at he
  split at he
  ·rename_i hcc
   simp only[Option.some.injEq,Prod.mk.injEq] at he
   obtain⟨rfl,rfl⟩:=he
   exact g_pick (t:=true) hS hρ hop hcc
  ·rename_i hcc
   simp only[Option.some.injEq,Prod.mk.injEq] at he
   obtain⟨rfl,rfl⟩:=he
   exact g_pick (t:=false) hS hρ hop hcc
  ·cases he
 ·rename_i e hop
  obtain⟨z,hz,rfl⟩:=Option.map_eq_some_iff.1 hc
  simp only[effS] at he
  obtain⟨o2,hm,h2⟩:=pair_map he
  obtain⟨hd,rfl⟩:=mkO_some hm
  simp only[Prod.mk.injEq] at h2
  obtain⟨rfl,rfl⟩:=h2
  exact g_alloc hS hop hz hd
 ·rename_i e x hop
  injection hc with hc;subst hc
  simp only[effS] at he
  split at he
  ·rename_i h1
   obtain⟨o2,hm,h2⟩:=pair_map he
   obtain⟨hd,rfl⟩:=mkO_some hm
   simp only[Prod.mk.injEq] at h2
   obtain⟨rfl,rfl⟩:=h2
   exact g_box hS hρ hop h1 hd
  ·cases he
 ·
  rename_i t parts hop
  split at hc
  ·rename_i z fields hz ht
   split at hc
   ·rename_i places hpl
    obtain⟨ps,hps,rfl⟩:=Option.map_eq_some_iff.1 hc
    simp only[effS] at he
    obtain⟨cs,hf,h2⟩:=pair_map he
    simp only[Prod.mk.injEq] at h2
    obtain⟨rfl,rfl⟩:=h2
    obtain⟨hl,hg⟩:=optAll_get hps
    refine g_build (place:=fun i=>places[i]?) hS hρ hop hz (fun zv hzv l=>?_) hl.symm (fun i p q hp hq=>?_) hf
    ·cases hi:P.info? t with
     |none=>simp[hi] at hzv
     |some i=>
      simp[hi] at hzv
      unfold placesT at hpl
      simp[Program.built,hi,ht,hzv,hpl]
    ·have:=hg i p q hp hq
     simp only[placeT,Option.map_eq_some_iff] at this
     obtain⟨r,h1,rfl⟩:=this
     exact⟨h1,rfl⟩
   ·cases hc
  ·rename_i z k e hz ht
   obtain⟨n,hn,rfl⟩:=Option.map_eq_some_iff.1 hc
   simp only[effS] at he
   obtain⟨cs,hf,h2⟩:=pair_map he
   simp only[Prod.mk.injEq] at h2
   obtain⟨rfl,rfl⟩:=h2
   refine g_build (place:=fun i=>some (i*n,n)) hS hρ hop hz (fun zv hzv l=>?_) (by simp) (fun i p q hp hq=>?_) hf
   ·cases hi:P.info? t with
    |none=>simp[hi] at hzv
    |some i=>
     simp[hi] at hzv
     cases hie:P.info? e with
     |none=>simp[sizeT,hie] at hn
     |some ie=>
      simp[sizeT,hie] at hn
      simp[Program.built,hi,ht,hzv,hie,hn]
   ·rw[List.getElem?_map,hp] at hq
    simp at hq
    subst hq
    exact⟨rfl,rfl⟩
  ·cases hc
 ·
  rename_i t len parts hop
  split at hc
  ·rename_i e ht
   split at hc
   ·rename_i z hz
    split at hc
    ·rename_i hcond
     injection hc with hc;subst hc
     split at he
     ·simp only[effS] at he
      split at he
      ·rename_i cs hf
       split at he
       ·rename_i hp
        simp only[Option.some.injEq,Prod.mk.injEq] at he
        obtain⟨rfl,rfl⟩:=he
        exact g_mkimm hS hρ hop ht hz hcond.2 hcond.1 hf hp
       ·cases he
      ·cases he
     ·simp only[effS] at he
      split at he
      ·rename_i cs hf
       obtain⟨o2,hm,h2⟩:=pair_map he
       obtain⟨hd,rfl⟩:=mkO_some hm
       simp only[Prod.mk.injEq] at h2
       obtain⟨rfl,rfl⟩:=h2
       exact g_mkrow hS hρ hop ht hz hcond.2 hcond.1 hf hd
      ·cases he
    ·cases hc
   ·cases hc
  ·cases hc
 ·
  rename_i t a hop
  obtain⟨n,hn,rfl⟩:=Option.map_eq_some_iff.1 hc
  simp only[effS] at he
  split at he
  ·rename_i cs off hb
   obtain⟨a',hp,h2⟩:=pair_map he
   simp only[Prod.mk.injEq] at h2
   obtain⟨rfl,rfl⟩:=h2
   exact g_load hS hρ hop hn hb hp
  ·cases he
 ·
  rename_i t a x hop
  obtain⟨n,hn,rfl⟩:=Option.map_eq_some_iff.1 hc
  simp only[effS] at he
  split at he
  ·rename_i id off tot ha
   split at he
   ·rename_i cs e sz pu ho
    split at he
    ·rename_i hcond
     simp only[Option.some.injEq,Prod.mk.injEq] at he
     obtain⟨rfl,rfl⟩:=he
     obtain⟨c1,c2,c3,c4,c5⟩:=hcond
     exact g_store hS hρ hop hn ha ho c1 c2 c3 c4 c5
    ·cases he
   ·cases he
  ·cases he
 ·
  rename_i x hop
  injection hc with hc;subst hc
  simp only[effS] at he
  have hx:=hρ x
  split at he
  ·rename_i a b c hxa
   simp only[Option.some.injEq,Prod.mk.injEq] at he
   obtain⟨rfl,rfl⟩:=he
   rw[hxa] at hx
   simp only[Rep] at hx
   obtain⟨_,⟨p,hp⟩,_⟩:=hx
   rw[←hxa]
   exact g_nilc hS hρ hop hp
  ·rename_i a b hxa
   simp only[Option.some.injEq,Prod.mk.injEq] at he
   obtain⟨rfl,rfl⟩:=he
   rw[hxa] at hx
   simp only[Rep] at hx
   obtain⟨p,hp,_⟩:=hx
   rw[←hxa]
   exact g_nilc hS hρ hop hp
  ·cases he
 ·
  rename_i op t x y t' hop
  have hbin:∀(h:iop= .bin op x y),Gives A P ρC oper w σ o v o':=by
   intro h
   subst h
   simp only[effS] at he
   split at he
   ·rename_i a b ha hb
    obtain⟨r,hr,h2⟩:=pair_map he
    simp only[Prod.mk.injEq] at h2
    obtain⟨rfl,rfl⟩:=h2
    exact g_bin hS hρ hop ha hb hr
   ·cases he
  have heq:∀(neg:Bool),(op= .eql∧neg=false)∨(op= .neq∧neg=true)→
    (match P.underlying t with
     |some (.struct _)|some (.array _ _)=>if 20≤P.depth then(kindsT P 20 t).map fun ks=>IOp.eqf neg ks x y else none
     |some .bool=>some (.beq neg x y)
     |some (.int _)|some .string=>some (.bin op x y)
     |some (.pointer _)=>some (.pnil neg x y)
     |_=>none)=some iop→Gives A P ρC oper w σ o v o':=by
   intro neg hn hc
   have hagg:isAggT P t=some true→(if 20≤P.depth then(kindsT P 20 t).map fun ks=>IOp.eqf neg ks x y else none)=some iop→Gives A P ρC oper w σ o v o':=by
    intro hag hc
    split at hc
    ·rename_i hD
     obtain⟨ks,hk,rfl⟩:=Option.map_eq_some_iff.1 hc
     simp only[effS] at he
     split at he
     ·rename_i a b ha hb
      obtain⟨r,hr,h2⟩:=pair_map he
      simp only[Prod.mk.injEq] at h2
      obtain⟨rfl,rfl⟩:=h2
      exact g_eqf hS hρ hop hn hag hk hD ha hb hr
     ·cases he
    ·cases hc
   split at hc
   ·rename_i hu;exact hagg (by simp[isAggT,hu]) hc
   ·rename_i hu;exact hagg (by simp[isAggT,hu]) hc
   ·rename_i hu
    injection hc with hc;subst hc
    simp only[effS] at he
    split at he
    ·rename_i a b ha hb
     simp only[Option.some.injEq,Prod.mk.injEq] at he
     obtain⟨rfl,rfl⟩:=he
     exact g_beq hS hρ hop hn hu ha hb
    ·cases he
   ·injection hc with hc;exact hbin hc.symm
   ·injection hc with hc;exact hbin hc.symm
   ·rename_i hu
    injection hc with hc;subst hc
    simp only[effS] at he
    split at he
    ·rename_i ha hb
     simp only[Option.some.injEq,Prod.mk.injEq] at he
     obtain⟨rfl,rfl⟩:=he
     have hx:=hρ x
     rw[ha] at hx
     simp only[Rep] at hx
     obtain⟨_,⟨p,hp⟩,_⟩:=hx
     simpa using g_pnil hS hρ hop hn hu hp hb
    ·rename_i ha hb
     simp only[Option.some.injEq,Prod.mk.injEq] at he
     obtain⟨rfl,rfl⟩:=he
     have hx:=hρ x
     rw[ha] at hx
     simpa using g_pnil hS hρ hop hn hu (rep_sc hx) hb
    ·cases he
   ·cases hc
  split at hc
  ·exact heq false (.inl ⟨rfl,rfl⟩) hc
  ·exact heq true (.inr ⟨rfl,rfl⟩) hc
  ·injection hc with hc;exact hbin hc.symm
 ·
  rename_i op t x hop
  injection hc with hc;subst hc
  simp only[effS] at he
  obtain⟨r,hr,h2⟩:=pair_map he
  simp only[Prod.mk.injEq] at h2
  obtain⟨rfl,rfl⟩:=h2
  exact g_un hS hρ hop hr
 ·
  rename_i s d x hop
  split at hc
  ·rename_i ds k hs hd
   injection hc with hc;subst hc
   simp only[effS] at he
   split at he
   ·rename_i k' n hx
    simp only[Option.some.injEq,Prod.mk.injEq] at he
    obtain⟨rfl,rfl⟩:=he
    exact g_conv hS hρ hop hs hd hx
   ·cases he
  ·cases hc
 ·
  rename_i s x f hop
  split at hc
  ·rename_i fs hs
   split at hc
   ·rename_i g hg
    split at hc
    ·rename_i n hn
     split at hc
     ·cases hc
     ·rename_i hn0
      injection hc with hc;subst hc
      simp only[effS] at he
      obtain⟨r,hr,h2⟩:=pair_map he
      simp only[Prod.mk.injEq] at h2
      obtain⟨rfl,rfl⟩:=h2
      exact g_fieldA hS hρ hop hs hg hn hn0 hr
    ·cases hc
   ·cases hc
  ·cases hc
 ·
  rename_i t x f hop
  split at hc
  ·rename_i fs hs
   split at hc
   ·rename_i g hg
    obtain⟨n,hn,rfl⟩:=Option.map_eq_some_iff.1 hc
    simp only[effS] at he
    split at he
    ·rename_i cs hx
     obtain⟨r,hr,h2⟩:=pair_map he
     simp only[Prod.mk.injEq] at h2
     obtain⟨rfl,rfl⟩:=h2
     exact g_field hS hρ hop hs hg hn hx hr
    ·cases he
   ·cases hc
  ·cases hc
 ·
  rename_i t x i hop
  split at hc
  ·rename_i len e ht
   obtain⟨n,hn,rfl⟩:=Option.map_eq_some_iff.1 hc
   simp only[effS] at he
   split at he
   ·rename_i k hi
    split at he
    ·rename_i hcond
     obtain⟨r,hr,h2⟩:=pair_map he
     simp only[Prod.mk.injEq] at h2
     obtain⟨rfl,rfl⟩:=h2
     exact g_idxA hS hρ hop ht hn hi hcond.1 hcond.2 hr
    ·cases he
   ·cases he
  ·rename_i e ht
   split at hc
   ·rename_i n hn
    split at hc
    ·cases hc
    ·rename_i hn0
     injection hc with hc;subst hc
     simp only[effS] at he
     split at he
     ·rename_i k hi
      obtain⟨r,hr,h2⟩:=pair_map he
      simp only[Prod.mk.injEq] at h2
      obtain⟨rfl,rfl⟩:=h2
      exact g_idxS hS hρ hop ht hn hn0 hi hr
     ·cases he
   ·cases hc
  ·cases hc
 ·
  rename_i t x i hop
  split at hc
  ·rename_i len e ht
   split at hc
   ·rename_i s n hs hn
    injection hc with hc;subst hc
    simp only[effS] at he
    split at he
    ·rename_i k cs hi hx
     split at he
     ·rename_i hcond
      obtain⟨r,hr,h2⟩:=pair_map he
      simp only[Prod.mk.injEq] at h2
      obtain⟨rfl,rfl⟩:=h2
      exact g_idx hS hρ hop ht hs hn hi hcond.1 hcond.2 hx hr
     ·cases he
    ·cases he
   ·cases hc
  ·rename_i ht
   injection hc with hc;subst hc
   simp only[effS] at he
   split at he
   ·rename_i k s hi hx
    split at he
    ·rename_i hcond
     obtain⟨r,hr,h2⟩:=pair_map he
     simp only[Prod.mk.injEq] at h2
     obtain⟨rfl,rfl⟩:=h2
     exact g_idxStr hS hρ hop ht hi hcond hx hr
    ·cases he
   ·cases he
  ·cases hc
 ·
  rename_i t l c hop
  split at hc
  ·rename_i e ht
   split at hc
   ·rename_i z b hz hb
    split at hc
    ·rename_i hpos
     injection hc with hc;subst hc
     simp only[effS] at he
     split at he
     ·rename_i n m hl hm
      split at he
      ·rename_i hcond
       obtain⟨c1,c2,c3,c4⟩:=hcond
       obtain⟨o2,hmk,h2⟩:=pair_map he
       obtain⟨hd,rfl⟩:=mkO_some hmk
       simp only[Prod.mk.injEq] at h2
       obtain⟨rfl,rfl⟩:=h2
       exact g_mkslice hS hρ hop ht hz hb hl hm c1 c2 c3 c4 hd
      ·cases he
     ·cases he
    ·cases hc
   ·cases hc
  ·cases hc
 ·
  rename_i t x lo hi hop
  split at hc
  ·rename_i e ht
   split at hc
   ·rename_i n hn
    split at hc
    ·cases hc
    ·rename_i hn0
     injection hc with hc;subst hc
     simp only[effS] at he
     obtain⟨r,hr,h2⟩:=pair_map he
     simp only[Prod.mk.injEq] at h2
     obtain⟨rfl,rfl⟩:=h2
     exact g_slice hS hρ hop ht hn hn0 hr
   ·cases hc
  ·rename_i ht
   injection hc with hc;subst hc
   simp only[effS] at he
   split at he
   ·rename_i s hx
    split at he
    ·rename_i l k hl hk
     split at he
     ·rename_i hcond
      simp only[Option.some.injEq,Prod.mk.injEq] at he
      obtain⟨rfl,rfl⟩:=he
      exact g_sliceStr hS hρ hop ht hx hl hk hcond.1 hcond.2
     ·cases he
    ·cases he
   ·cases he
  ·cases hc
 ·
  rename_i t x lo hi mx hop
  split at hc
  ·rename_i e ht
   split at hc
   ·rename_i n hn
    split at hc
    ·cases hc
    ·rename_i hn0
     injection hc with hc;subst hc
     simp only[effS] at he
     obtain⟨r,hr,h2⟩:=pair_map he
     simp only[Prod.mk.injEq] at h2
     obtain⟨rfl,rfl⟩:=h2
     exact g_slice3 hS hρ hop ht hn hn0 hr
   ·cases hc
  ·cases hc
 ·
  rename_i c hop
  split at hc
  ·split at hc
   ·injection hc with hc;subst hc;simp[IOp.isCall] at hnc
   ·cases hc
  ·injection hc with hc;subst hc;simp[IOp.isCall] at hnc
  ·split at hc
   ·cases hc
   ·injection hc with hc;subst hc;simp[IOp.isCall] at hnc
  ·rename_i hcal
   split at hc
   ·rename_i s x t t' ha hty
    split at hc
    ·rename_i htt
     subst htt
     split at hc
     ·rename_i e ht
      split at hc
      ·rename_i z b hz hb
       split at hc
       ·rename_i hpos
        injection hc with hc;subst hc
        simp only[effS] at he
        exact g_append hS hρ hop hcal (Array.ext' ha) (Array.ext' hty) ht hz hb rfl hpos he
       ·cases hc
      ·cases hc
     ·cases hc
    ·cases hc
   ·cases hc
  ·rename_i hcal
   split at hc
   ·rename_i x t ha hty
    have ha':c.args=#[x]:=Array.ext' ha
    have hty':c.argTypes=#[t]:=Array.ext' hty
    have hlen:∀k,(k=0∧∃e,P.underlying t=some (.slice e))∨(k=1∧P.underlying t=some .string)∨(k=2∧∃a b,P.underlying t=some (.map a b))→iop= .len k x→Gives A P ρC oper w σ o v o':=by
     intro k ht hh
     subst hh
     simp only[effS] at he
     obtain⟨n,hn,h2⟩:=pair_map he
     simp only[Prod.mk.injEq] at h2
     obtain⟨rfl,rfl⟩:=h2
     exact g_len hS hρ hop hcal ha' hty' ht hn
    split at hc
    ·rename_i e ht;injection hc with hc;exact hlen 0 (.inl ⟨rfl,e,ht⟩) hc.symm
    ·rename_i ht;injection hc with hc;exact hlen 1 (.inr (.inl ⟨rfl,ht⟩)) hc.symm
    ·rename_i k e ht;injection hc with hc;exact hlen 2 (.inr (.inr ⟨rfl,k,e,ht⟩)) hc.symm
    ·rename_i n e ht
     injection hc with hc;subst hc
     simp only[effS,Option.some.injEq,Prod.mk.injEq] at he
     obtain⟨rfl,rfl⟩:=he
     exact g_lenArr hS hop hcal ha' hty' ht
    ·cases hc
   ·cases hc
  ·rename_i hcal
   split at hc
   ·rename_i x y ha
    injection hc with hc;subst hc
    simp only[effS] at he
    split at he
    ·rename_i k a k' b hx hy
     split at he
     ·rename_i hkk
      subst hkk
      simp only[Option.some.injEq,Prod.mk.injEq] at he
      obtain⟨rfl,rfl⟩:=he
      exact g_mm (mx:=false) hS hρ hop hcal (Array.ext' ha) hx hy
     ·cases he
    ·cases he
   ·cases hc
  ·rename_i hcal
   split at hc
   ·rename_i x y ha
    injection hc with hc;subst hc
    simp only[effS] at he
    split at he
    ·rename_i k a k' b hx hy
     split at he
     ·rename_i hkk
      subst hkk
      simp only[Option.some.injEq,Prod.mk.injEq] at he
      obtain⟨rfl,rfl⟩:=he
      exact g_mm (mx:=true) hS hρ hop hcal (Array.ext' ha) hx hy
     ·cases he
    ·cases he
   ·cases hc
  ·cases hc
 ·
  rename_i x i hop
  injection hc with hc;subst hc
  simp only[effS] at he
  split at he
  ·rename_i vs hx
   obtain⟨r,hr,h2⟩:=pair_map he
   simp only[Prod.mk.injEq] at h2
   obtain⟨rfl,rfl⟩:=h2
   exact g_extract hS hρ hop hx hr
  ·cases he
 ·rename_i f a b hop
  split at hc
  ·injection hc with hc;subst hc
   simp only[effS,Option.some.injEq,Prod.mk.injEq] at he
   obtain⟨rfl,rfl⟩:=he
   exact g_mkfn hS hρ (fun _=>rfl) hop
  ·cases hc
 ·rename_i t x hop
  split at hc
  ·rename_i fs ht
   injection hc with hc;subst hc
   simp only[effS] at he
   split at he
   ·rename_i cs hx
    split at he
    ·rename_i hp
     simp only[Option.some.injEq,Prod.mk.injEq] at he
     obtain⟨rfl,rfl⟩:=he
     exact g_mkif hS hρ ht hop hx hp
    ·cases he
   ·cases he
  ·cases hc
 ·rename_i t hop
  split at hc
  ·split at hc
   ·injection hc with hc;subst hc
    simp only[effS] at he
    obtain⟨o2,hmk,h2⟩:=pair_map he
    obtain⟨hd,rfl⟩:=mkO_some hmk
    simp only[Prod.mk.injEq] at h2
    obtain⟨rfl,rfl⟩:=h2
    exact g_mkmap hS hop hd
   ·cases hc
  ·cases hc
 ·
  rename_i t x k ok hop
  split at hc
  ·rename_i kt et ht
   split at hc
   ·rename_i ks ka z g hk hag hz hg
    split at hc
    ·rename_i hzo
     injection hc with hc;subst hc
     simp only[effS] at he
     split at he
     ·rename_i id kv hx hkv
      split at he
      ·rename_i es kt' pu ho
       split at he
       ·rename_i hkt
        subst hkt
        split at he
        ·rename_i i a q hf
         simp only[Option.some.injEq,Prod.mk.injEq] at he
         obtain⟨rfl,rfl⟩:=he
         obtain⟨zv,hzv⟩:=zeroA_some hz hzo
         obtain⟨u,hu1,hu2⟩:=zeroA_rep (w:=w) (σ:=σ) (o:=o) hz hzo hzv
         have:=g_lookup (ok:=ok) hS hρ hop ht hk hag ⟨zv,u,hzv,hu1,hu2⟩ hx hkv ho hf hzv
         simpa using this
        ·rename_i zv hf hzv
         simp only[Option.some.injEq,Prod.mk.injEq] at he
         obtain⟨rfl,rfl⟩:=he
         obtain⟨u,hu1,hu2⟩:=zeroA_rep (w:=w) (σ:=σ) (o:=o) hz hzo hzv
         have:=g_lookup (ok:=ok) hS hρ hop ht hk hag ⟨zv,u,hzv,hu1,hu2⟩ hx hkv ho hf hzv
         simpa using this
        ·cases he
       ·cases he
      ·cases he
     ·cases he
    ·cases hc
   ·cases hc
  ·cases hc
 ·rename_i t m k v' hop
  split at hc
  ·rename_i kt et ht
   split at hc
   ·rename_i ks ka hk hag
    injection hc with hc;subst hc
    simp only[effS] at he
    split at he
    ·rename_i id kv hx hkv
     split at he
     ·rename_i es kt' pu ho
      split at he
      ·cases he
      ·rename_i hcond
       simp only[not_or,Decidable.not_not] at hcond
       obtain⟨hpu,hkt⟩:=hcond
       subst hkt
       have hpu':pu=true→(ρA v').pure=true:=fun hp=>by
        cases hq:(ρA v').pure with
        |true=>rfl
        |false=>exact absurd ⟨hp,hq⟩ hpu
       split at he
       ·rename_i i a hf
        simp only[Option.some.injEq,Prod.mk.injEq] at he
        obtain⟨rfl,rfl⟩:=he
        exact g_mapset hS hρ (.inl hop) ht hk hag hx hkv ho hpu' hf
       ·rename_i hf
        simp only[Option.some.injEq,Prod.mk.injEq] at he
        obtain⟨rfl,rfl⟩:=he
        exact g_mapset hS hρ (.inl hop) ht hk hag hx hkv ho hpu' hf
       ·cases he
     ·cases he
    ·cases he
   ·cases hc
  ·cases hc
 ·rename_i t m k v' hop
  split at hc
  ·rename_i kt et ht
   split at hc
   ·rename_i ks ka hk hag
    injection hc with hc;subst hc
    simp only[effS] at he
    split at he
    ·rename_i id kv hx hkv
     split at he
     ·rename_i es kt' pu ho
      split at he
      ·cases he
      ·rename_i hcond
       simp only[not_or,Decidable.not_not] at hcond
       obtain⟨hpu,hkt⟩:=hcond
       subst hkt
       have hpu':pu=true→(ρA v').pure=true:=fun hp=>by
        cases hq:(ρA v').pure with
        |true=>rfl
        |false=>exact absurd ⟨hp,hq⟩ hpu
       split at he
       ·rename_i i a hf
        simp only[Option.some.injEq,Prod.mk.injEq] at he
        obtain⟨rfl,rfl⟩:=he
        exact g_mapset hS hρ (.inr hop) ht hk hag hx hkv ho hpu' hf
       ·rename_i hf
        simp only[Option.some.injEq,Prod.mk.injEq] at he
        obtain⟨rfl,rfl⟩:=he
        exact g_mapset hS hρ (.inr hop) ht hk hag hx hkv ho hpu' hf
       ·cases he
     ·cases he
    ·cases he
   ·cases hc
  ·cases hc
 ·cases hc
end
section
variable {A A':Clr} {w w':World} {σ σ':Sig} {o o':Store}
def Tr (o:Store) (σ:Sig) (o':Store) (c:Sig) (id a:Nat):Prop:=
 (∀f e g h,o[id]?=some (.cells f e g h)→∃b i d,o'[a]?=some (.cells b i g d)∧b.length=f.length)∧(IsMap o id→IsMap o' a)∧c[a]?=σ[id]?
theorem Tr.lenLe {id b a:Nat} (h:Tr o σ o' σ' id b) (k:LenLe o id a):LenLe o' b a:=by
 obtain⟨j,e,f,l,g,n⟩:=k
 obtain⟨d,i,c,m,p⟩:=h.1 j e f l g
 exact⟨d,i,f,c,m,by omega⟩
theorem Tr.cur {id g f sz:Nat} (h:Tr o σ o' σ' id g) (k:LenLe o id f) (p:CurO o' g sz f):CurO o id sz f:=by
 obtain⟨m,e,j,l,n,w⟩:=k
 obtain⟨r,y,s,u,x⟩:=h.1 m e j l n
 obtain⟨t,v,q,i,z⟩:=p
 rw[u] at i
 injection i with i
 injection i with a b c d
 subst a c
 exact⟨m,e,l,n,by omega⟩
mutual
theorem AV.pure_ren (m:Nat→Option Nat):∀(c:AV),c.pure=true→c.ren m=some c
 | .sc _,_=>rfl
 | .sl _ _,_=>rfl
 | .ud,h| .agg _,h| .tup _,h| .ep _ _,h| .ptr _ _ _,h| .os _ _ _ _,h| .mp _,h| .fn _ _ _,h| .ifc _ _,h=>by simp[AV.pure] at h
end
theorem pureL_ren (m:Nat→Option Nat):∀(cs:List AV),pureL cs=true→renL m cs=some cs
 |[],_=>rfl
 |c::cs,h=>by
  simp only[pureL,Bool.and_eq_true] at h
  simp only[renL,AV.pure_ren m c h.1,pureL_ren m cs h.2]
mutual
theorem Rep.ren [SameL A A'] (l:∀b,b<w.heap.size→Fr A σ b→Fr A' σ' b) {m:Nat→Option Nat} (k:∀id e,m id=some e→Tr o σ o' σ' id e):
  ∀(c:AV) (v:Value) (q:AV),c.ren m=some q→Rep A w σ o c v→Rep A' w σ' o' q v
 | .ud,v,q,d,_=>by grind[AV.ren,Rep]
 | .sc u,v,q,d,h=>by grind[AV.ren,Rep]
 | .sl n g,v,q,d,h=>by
  simp only[AV.ren,Option.some.injEq] at d;subst d
  simp only[Rep] at h ⊢
  obtain⟨a,D,rfl,T,s,F⟩:=h
  exact⟨a,D,rfl,T,s,RepM.ren l k g a 0 s F⟩
 | .ep g G,v,q,d,h=>by
  simp only[AV.ren,Option.some.injEq] at d;subst d
  simp only[Rep] at h ⊢
  obtain⟨a,rfl,s,F⟩:=h
  exact⟨a,rfl,s,RepM.ren l k g _ 0 s F⟩
 | .agg g,v,q,d,h=>by
  simp only[AV.ren,Option.map_eq_some_iff] at d
  obtain⟨i,p,rfl⟩:=d
  simp only[Rep] at h ⊢
  obtain⟨B,rfl,z⟩:=h
  exact⟨B,rfl,RepL.ren l k g _ i p z⟩
 | .tup g,v,q,d,h=>by
  simp only[AV.ren,Option.map_eq_some_iff] at d
  obtain⟨i,p,rfl⟩:=d
  simp only[Rep] at h ⊢
  obtain⟨B,rfl,z⟩:=h
  exact⟨B,rfl,RepL.ren l k g _ i p z⟩
 | .ptr id G I,v,q,d,h=>by
  simp only[AV.ren,Option.map_eq_some_iff] at d
  obtain⟨e,p,rfl⟩:=d
  have C:=k id e p
  simp only[Rep] at h ⊢
  refine⟨C.lenLe h.1,h.2.1,fun L E=>?_⟩
  rw[C.2.2]
  exact h.2.2 L (C.cur h.1 E)
 | .os id G P I,v,q,d,h=>by
  simp only[AV.ren,Option.map_eq_some_iff] at d
  obtain⟨e,p,rfl⟩:=d
  have C:=k id e p
  simp only[Rep] at h ⊢
  obtain⟨N,a,D,K,z,O⟩:=h
  refine⟨C.lenLe N,a,D,K,z,fun L E=>?_⟩
  have:=O L (C.cur N E)
  unfold OsOk at this ⊢
  rw[C.2.2]
  exact this
 | .mp id,v,q,d,h=>by
  simp only[AV.ren,Option.map_eq_some_iff] at d
  obtain⟨e,p,rfl⟩:=d
  have C:=k id e p
  simp only[Rep] at h ⊢
  rw[C.2.2]
  exact⟨C.2.1 h.1,h.2⟩
 | .fn f a b,v,q,d,h=>by
  simp only[AV.ren] at d
  split at d
  ·rename_i Q V p J
   injection d with d;subst d
   simp only[Rep] at h ⊢
   obtain⟨x,y,rfl,R,S⟩:=h
   exact⟨x,y,by rw[SameL.eq (A:=A) (A':=A')],RepL.ren l k a _ Q p R,RepL.ren l k b _ V J S⟩
  ·cases d
 | .ifc t g,v,q,d,h=>by
  simp only[AV.ren,Option.some.injEq] at d;subst d
  simp only[Rep] at h ⊢
  obtain⟨B,rfl,s,z⟩:=h
  exact⟨B,rfl,s,RepL.ren l k g _ g (pureL_ren m g s) z⟩
theorem RepL.ren [SameL A A'] (l:∀b,b<w.heap.size→Fr A σ b→Fr A' σ' b) {m:Nat→Option Nat} (k:∀id e,m id=some e→Tr o σ o' σ' id e):
  ∀(g:List AV) (B:List Value) (i:List AV),renL m g=some i→RepL A w σ o g B→RepL A' w σ' o' i B
 |[],B,i,d,h=>by grind[renL,RepL]
 |c::g,B,i,d,h=>by
  simp only[renL] at d
  split at d
  ·rename_i W H p J
   injection d with d;subst d
   simp only[RepL] at h ⊢
   obtain⟨v,r,rfl,K,z⟩:=h
   exact⟨v,r,rfl,Rep.ren l k c v W p K,RepL.ren l k g r H J z⟩
  ·cases d
theorem RepM.ren [SameL A A'] (l:∀b,b<w.heap.size→Fr A σ b→Fr A' σ' b) {m:Nat→Option Nat} (k:∀id e,m id=some e→Tr o σ o' σ' id e):
  ∀(g:List AV) (a:Option Addr) (j:Nat),pureL g=true→RepM A w σ o g a j→RepM A' w σ' o' g a j
 |[],_,_,_,_=>by simp[RepM]
 |c::g,a,j,s,h=>by
  simp only[pureL,Bool.and_eq_true] at s
  simp only[RepM] at h ⊢
  obtain⟨⟨b,v,rfl,U,d,F⟩,z⟩:=h
  have M:b.block<w.heap.size:=by grind[cell_of_blk,add_block]
  exact⟨⟨b,v,rfl,l _ M U,d,Rep.ren l k c v c (AV.pure_ren m c s.1) F⟩,RepM.ren l k g _ (j+1) s.2 z⟩
end
theorem renL_get {m:Nat→Option Nat}:∀{cs a:List AV},renL m cs=some a→a.length=cs.length∧∀(j:Nat) (b:AV),a[j]?=some b→∃c,cs[j]?=some c∧c.ren m=some b
 |[],a,h=>by grind[renL]
 |c::cs,a,h=>by
  simp only[renL] at h
  split at h
  ·rename_i k e f d
   injection h with h;subst h
   obtain⟨i,g⟩:=renL_get d
   grind
  ·cases h
theorem renM_get {m:Nat→Option Nat}:∀{es a:List (Value×AV)},renM m es=some a→a.length=es.length∧∀(j:Nat) (b:Value×AV),a[j]?=some b→∃e,es[j]?=some e∧e.1=b.1∧e.2.ren m=some b.2
 |[],a,h=>by grind[renM]
 |e::es,a,h=>by
  simp only[renM] at h
  split at h
  ·rename_i v d f c
   injection h with h;subst h
   obtain⟨g,i⟩:=renM_get c
   grind
  ·cases h
theorem ren_one {m:Nat→Option Nat} {c a:AV} (h:c.ren m=some a) (b:c.one=true):a.one=true:=by
 cases c<;>simp only[AV.ren,Option.some.injEq,Option.map_eq_some_iff] at h<;>simp only[AV.one,Bool.false_eq_true] at b<;>grind[AV.ren,AV.one]
mutual
theorem ren_pure {m:Nat→Option Nat}:∀{c a:AV},c.ren m=some a→c.pure=true→a=c
 |c,a,h,b=>by
  grind[AV.pure_ren]
end
theorem ObjOK.ren [SameL A A'] (hA:∀b,b<w.heap.size→Fr A σ b→Fr A' σ' b) {m:Nat→Option Nat} (hm:∀id id',m id=some id'→Tr o σ o' σ' id id') {i i':Nat} {x x':AObj} (hx:x.ren m=some x') (hσ:σ'[i']?=σ[i]?)
  (h:ObjOK A w σ o i x):ObjOK A' w σ' o' i' x':=by
 cases x with
 |dead=>simp only[AObj.ren,Option.some.injEq] at hx;subst hx;simp only[ObjOK] at h ⊢;rw[hσ];exact h
 |cells cs e sz pu=>
  simp only[ObjOK] at h
  obtain⟨h1,h2,h3⟩:=h
  have key:∀cs',cs'.length=cs.length→(pu=true→pureL cs'=true)→oneL cs'=true→(∀(j:Nat) (c':AV) (v:Value),cs'[j]?=some c'→(∀c,cs[j]?=some c→Rep A w σ o c v→Rep A' w σ' o' c' v))→ObjOK A' w σ' o' i' (.cells cs' e sz pu):=by
   intro cs' k1 k2 k3 k4
   simp only[ObjOK]
   refine⟨k2,k3,?_⟩
   rcases h3 with⟨h0,h0'⟩|⟨b,cap,arr,r1,r2,r3,r4,r5,r6⟩
   ·left;rw[hσ];exact⟨h0,List.eq_nil_of_length_eq_zero (by rw[k1,h0'];rfl)⟩
   ·refine .inr ⟨b,cap,arr,by rw[hσ];exact r1,r2,r3,r4,by omega,fun j c' hj=>?_⟩
    have hjl:j<cs.length:=by have:=(List.getElem?_eq_some_iff.1 hj).1;omega
    obtain⟨v,hv,hr⟩:=r6 j _ (List.getElem?_eq_getElem hjl)
    exact⟨v,hv,k4 j c' v hj _ (List.getElem?_eq_getElem hjl) hr⟩
  simp only[AObj.ren] at hx
  split at hx
  ·rename_i hpu
   injection hx with hx;subst hx
   refine key cs rfl h1 h2 fun j c' v hj c hc hr=>?_
   rw[hj] at hc
   injection hc with hc
   subst hc
   exact Rep.ren hA hm c' v c' (AV.pure_ren m c' (pureL_get (h1 hpu) c' (List.mem_of_getElem? hj))) hr
  ·rename_i hpu
   obtain⟨cs',hc',rfl⟩:=Option.map_eq_some_iff.1 hx
   obtain⟨g1,g2⟩:=renL_get hc'
   refine key cs' g1 (fun hp=>absurd hp hpu) (oneL_of.2 fun c hc=>?_) fun j c' v hj c hc hr=>?_
   ·obtain⟨j,hj⟩:=List.getElem?_of_mem hc
    obtain⟨c0,q1,q2⟩:=g2 j c hj
    exact ren_one q2 (oneL_of.1 h2 c0 (List.mem_of_getElem? q1))
   ·obtain⟨c0,q1,q2⟩:=g2 j c' hj
    rw[hc] at q1
    injection q1 with q1
    subst q1
    exact Rep.ren hA hm c v c' q2 hr
 |map es kt pu=>
  simp only[ObjOK] at h
  obtain⟨h1,h2,b,c,en,cl,h3,h4,h5,h6⟩:=h
  simp only[AObj.ren] at hx
  split at hx
  ·rename_i hpu
   injection hx with hx;subst hx
   simp only[ObjOK]
   refine⟨h1,h2,b,c,en,cl,by rw[hσ];exact h3,h4,h5,fun j e he=>?_⟩
   obtain⟨m',q1,q2,q3⟩:=h6 j e he
   exact⟨m',q1,q2,Rep.ren hA hm e.2 _ e.2 (AV.pure_ren m e.2 (h1 hpu e (List.mem_of_getElem? he))) q3⟩
  ·rename_i hpu
   obtain⟨es',hc',rfl⟩:=Option.map_eq_some_iff.1 hx
   obtain⟨g1,g2⟩:=renM_get hc'
   simp only[ObjOK]
   refine⟨fun hp=>absurd hp hpu,fun e he=>?_,b,c,en,cl,by rw[hσ];exact h3,h4,⟨by have:=h5.1;omega,h5.2⟩,fun j e' he=>?_⟩
   ·obtain⟨j,hj⟩:=List.getElem?_of_mem he
    obtain⟨e0,q1,q2,_⟩:=g2 j e hj
    rw[←q2]
    exact h2 e0 (List.mem_of_getElem? q1)
   ·obtain⟨e0,q1,q2,q3⟩:=g2 j e' he
    obtain⟨m',r1,r2,r3⟩:=h6 j e0 q1
    exact⟨m',r1,by rw[r2,q2],Rep.ren hA hm e0.2 _ e'.2 q3 r3⟩
def cutM (k:Nat):Nat→Option Nat:=fun i=>if i<k then some i else none
mutual
theorem bel_ren (k:Nat):∀(c:AV),c.bel k=true→c.ren (cutM k)=some c
 | .ud,_| .sc _,_| .sl _ _,_| .ep _ _,_| .ifc _ _,_=>rfl
 | .agg d,h=>by simp only[AV.bel] at h;simp[AV.ren,belL_ren k d h]
 | .tup d,h=>by simp only[AV.bel] at h;simp[AV.ren,belL_ren k d h]
 | .ptr e _ _,h=>by simp_all[AV.bel,AV.ren,cutM]
 | .os e _ _ _,h=>by simp_all[AV.bel,AV.ren,cutM]
 | .mp e,h=>by simp_all[AV.bel,AV.ren,cutM]
 | .fn f a b,h=>by simp only[AV.bel,Bool.and_eq_true] at h;simp[AV.ren,belL_ren k a h.1,belL_ren k b h.2]
theorem belL_ren (k:Nat):∀(d:List AV),belL k d=true→renL (cutM k) d=some d
 |[],_=>rfl
 |c::d,h=>by simp only[belL,Bool.and_eq_true] at h;simp[renL,bel_ren k c h.1,belL_ren k d h.2]
end
theorem belL_mem {k:Nat} {cs:List AV}:belL k cs=true↔∀c∈cs,c.bel k=true:=by
 induction cs<;>grind[belL]
theorem cutM_tr (k:Nat) (id a:Nat) (h:cutM k id=some a):Tr o σ (o.take k) (σ.take k) id a:=by
 unfold cutM at h
 split at h
 ·rename_i i
  injection h with h;subst h
  refine⟨fun f e j b g=>⟨f,e,b,by simp_all,rfl⟩,fun⟨d,c,b,g⟩=>⟨d,c,b,by simp_all⟩,by simp_all⟩
 ·cases h
theorem fr_take (k:Nat) (b:Nat) (h:Fr A σ b):Fr A (σ.take k) b:=by
 refine⟨?_,h.2⟩
 rintro⟨i,c,a⟩
 rw[List.getElem?_take] at a
 split at a
 ·exact h.1 ⟨i,c,a⟩
 ·cases a
theorem Rep.take {k:Nat} {c:AV} {v:Value} (h:Rep A w σ o c v) (a:c.bel k=true):Rep A w (σ.take k) (o.take k) c v:=
 Rep.ren (fun b _ d=>fr_take k b d) (cutM_tr k) c v c (bel_ren k c a) h
theorem bel_objR {k:Nat} {x:AObj} (h:x.bel k=true):x.ren (cutM k)=some x:=by
 cases x with
 |dead=>rfl
 |cells g e i c=>
  grind[AObj.bel,AObj.ren,belL_ren]
 |map a f c=>
  simp only[AObj.bel,Bool.or_eq_true] at h
  simp only[AObj.ren]
  split
  ·rfl
  ·rename_i b
   have d:=h.resolve_left b
   have:renM (cutM k) a=some a:=by
    clear h b
    induction a<;>grind[belL,renM,bel_ren]
   rw[this];rfl
theorem SimO.take (e:SimO A w σ o) {k:Nat} (n:∀x∈o.take k,x.bel k=true):SimO A w (σ.take k) (o.take k):=by
 have a:∀(i:Nat) (s:Option (Nat×Nat)),(σ.take k)[i]?=some s→σ[i]?=some s:=by
  grind
 refine⟨by simp[e.len],fun i j b c d g m=>e.dist i j b c d (a _ _ g) (a _ _ m),fun i b c g=>e.bnd i b c (a _ _ g),fun i x f=>?_,fun i b c g=>e.av i b c (a _ _ g),e.avb⟩
 have h:=f
 rw[List.getElem?_take] at f
 split at f
 ·rename_i p
  exact ObjOK.ren (fun b _ l=>fr_take k b l) (cutM_tr k) (bel_objR (n x (List.mem_of_getElem? h))) (by simp_all) (e.obj i x f)
 ·cases f
theorem Ext.take {v:World} {j:Sig} {u:Store} (h:Ext v j u w σ o) {k:Nat} (C:u.length≤k):Ext v j u w (σ.take k) (o.take k) where
 size:=h.size
 blk:=fun b z B=>by
  obtain⟨g,p⟩:=h.blk b z B
  refine⟨g,?_⟩
  rintro⟨i,c,q⟩
  rw[List.getElem?_take] at q
  split at q
  ·exact p ⟨i,c,q⟩
  ·cases q
 len:=by have:=h.len;simp;omega
 cur:=fun m t l=>by
  obtain⟨g,p⟩:=h.cur m t l
  have d:m<k:=by
   obtain⟨r,e,n,a,f,_⟩:=l
   grind
  refine⟨?_,fun n A=>?_⟩
  ·obtain⟨r,e,n,a,f,s⟩:=g
   exact⟨r,e,n,a,by simp_all,s⟩
  ·rw[List.getElem?_take_of_lt d]
   refine p n ?_
   obtain⟨r,e,a,f,s⟩:=A
   rw[List.getElem?_take_of_lt d] at f
   exact⟨r,e,a,f,s⟩
 isMap:=fun m l=>by
  obtain⟨g,p⟩:=h.isMap m l
  have d:m<k:=by
   obtain⟨x,y,a,f⟩:=l
   grind
  refine⟨?_,by simp_all⟩
  obtain⟨x,y,a,f⟩:=g
  exact⟨x,y,a,by simp_all⟩
 os:=h.os
 tape:=h.tape
 output:=h.output
mutual
theorem Rep.bel {k:Nat} (g:∀i x,k≤i→o[i]?=some x→x.isDead=true):∀(c:AV) (v:Value),Rep A w σ o c v→c.bel k=true
 | .ud,_,_| .sc _,_,_| .sl _ _,_,_| .ep _ _,_,_| .ifc _ _,_,_=>rfl
 | .agg d,v,h=>by simp only[Rep] at h;obtain⟨l,_,j⟩:=h;simp only[AV.bel];exact RepL.bel g d _ j
 | .tup d,v,h=>by simp only[Rep] at h;obtain⟨l,_,j⟩:=h;simp only[AV.bel];exact RepL.bel g d _ j
 | .ptr n _ _,v,h=>by
  simp only[Rep] at h
  obtain⟨⟨d,e,s,m,p,_⟩,_⟩:=h
  simp only[AV.bel,decide_eq_true_eq]
  grind[AObj.isDead]
 | .os n _ _ _,v,h=>by
  simp only[Rep] at h
  obtain⟨⟨d,e,s,m,p,_⟩,_⟩:=h
  simp only[AV.bel,decide_eq_true_eq]
  grind[AObj.isDead]
 | .mp n,v,h=>by
  simp only[Rep] at h
  obtain⟨⟨B,z,m,p⟩,_⟩:=h
  simp only[AV.bel,decide_eq_true_eq]
  grind[AObj.isDead]
 | .fn f a b,v,h=>by simp only[Rep] at h;obtain⟨x,y,_,u,q⟩:=h;simp only[AV.bel,Bool.and_eq_true];exact⟨RepL.bel g a _ u,RepL.bel g b _ q⟩
theorem RepL.bel {k:Nat} (g:∀i x,k≤i→o[i]?=some x→x.isDead=true):∀(d:List AV) (l:List Value),RepL A w σ o d l→belL k d=true
 |[],_,_=>rfl
 |c::d,l,h=>by
  simp only[RepL] at h
  obtain⟨v,r,_,t,j⟩:=h
  simp only[belL,Bool.and_eq_true]
  exact⟨Rep.bel g c v t,RepL.bel g d r j⟩
end
theorem ObjOK.bel {k i:Nat} {x:AObj} (n:∀i x,k≤i→o[i]?=some x→x.isDead=true) (h:ObjOK A w σ o i x):x.bel k=true:=by
 cases x with
 |dead=>rfl
 |cells t e s g=>
  simp only[ObjOK] at h
  simp only[AObj.bel,Bool.or_eq_true]
  right
  refine belL_mem.2 fun c a=>?_
  obtain⟨j,f⟩:=List.getElem?_of_mem a
  grind[Rep.bel]
 |map r p g=>
  simp only[ObjOK] at h
  obtain⟨_,_,b,c,m,l,_,_,_,q⟩:=h
  simp only[AObj.bel,Bool.or_eq_true]
  right
  refine belL_mem.2 fun c a=>?_
  obtain⟨e,d,rfl⟩:=List.mem_map.1 a
  obtain⟨j,f⟩:=List.getElem?_of_mem d
  grind[Rep.bel]
theorem deads_get {n i:Nat} {x:AObj} (h:(deads n)[i]?=some x):x= .dead:=by
 grind[deads]
theorem SimO.deads (f:SimO A w σ o) (n:Nat):SimO A w (σ++List.replicate n none) (o++deads n)∧Ext w σ o w (σ++List.replicate n none) (o++deads n):=by
 have g:∀(i:Nat) (b c:Nat),(σ++List.replicate n none)[i]?=some (some (b,c))→σ[i]?=some (some (b,c)):=by
  grind
 have v:Ext w σ o w (σ++List.replicate n none) (o++Go.Vi.deads n):=by
  refine⟨Nat.le_refl _,fun b _ F=>⟨rfl,fun⟨i,c,h⟩=>F ⟨i,c,g i b c h⟩⟩,by simp,fun K I q=>?_,fun K q=>?_,rfl,rfl,rfl⟩
  ·obtain⟨H,e,G,m,s,C⟩:=q
   have a:=(List.getElem?_eq_some_iff.1 s).1
   refine⟨⟨H,e,G,m,by grind,C⟩,fun B D=>⟨?_,by rw[List.getElem?_append_left (by rw[f.len];exact a)]⟩⟩
   obtain⟨p,J,u,l,t⟩:=D
   rw[List.getElem?_append_left a] at l
   exact⟨p,J,u,l,t⟩
  ·obtain⟨z,y,m,s⟩:=q
   have a:=(List.getElem?_eq_some_iff.1 s).1
   exact⟨⟨z,y,m,by grind⟩,by rw[List.getElem?_append_left (by rw[f.len];exact a)]⟩
 refine⟨⟨by simp[Go.Vi.deads,f.len],fun i j b c d h E=>f.dist i j b c d (g _ _ _ h) (g _ _ _ E),fun i b c h=>f.bnd i b c (g _ _ _ h),fun i x k=>?_,fun i b c h=>f.av i b c (g _ _ _ h),f.avb⟩,v⟩
 rw[List.getElem?_append] at k
 split at k
 ·rename_i a
  exact(f.obj i x k).ext v (by rw[List.getElem?_append_left (by rw[f.len];exact a)]) fun _ _ _=>rfl
 ·rename_i a
  have:=deads_get k
  subst this
  simp only[ObjOK]
  have r:=(List.getElem?_eq_some_iff.1 k).1
  simp[Go.Vi.deads] at r
  rw[List.getElem?_append_right (by rw[f.len];omega),List.getElem?_replicate,if_pos (by rw[f.len];omega)]
theorem sweep_sim (f:SimO A w σ o) (k:Nat):∃b,SimO A w b (sweep k o)∧(∀c v,Rep A w σ o c v→Rep A w b (sweep k o) c v)∧
  ∀(e:World) (a:Sig) (d:Store),d.length≤k→Ext e a d w σ o→Ext e a d w b (sweep k o):=by
 unfold sweep
 split
 ·rename_i h
  have g:∀i x,k≤i→o[i]?=some x→x.isDead=true:=by
   intro i x r l
   refine List.all_eq_true.1 h x (List.mem_of_getElem? (i:=i - k) ?_)
   simp_all
  refine⟨σ.take k,f.take fun x l=>?_,fun c v m=>m.take (Rep.bel g c v m),fun e a d q p=>p.take q⟩
  obtain⟨j,n⟩:=List.getElem?_of_mem (List.mem_of_mem_take l)
  exact ObjOK.bel g (f.obj j x n)
 ·exact⟨σ,f,fun _ _ h=>h,fun _ _ _ _ h=>h⟩
end
def CallO (P:Program) (f:FuncId) (args:List AV) (o:Store) (r:AV) (o':Store):Prop:=
 ∀(A:Clr) (w:World) (b:Sig) (d:List Value),SimO A w b o→RepL A w b o args d→
  Calls P f d.toArray w fun e c=>∃u a,e= .returned u∧SimO A c a o'∧Rep A c a o' r u∧Ext w b o c a o'
def OracleOK (P:Program) (call:Oracle):Prop:=
 ∀f a o b r c,call f a o b=some (r,c)→goodF P f=true∧CallO P f a o r c∧(b=false→c=[])
section
variable {P:Program} {A B:Clr} {w w':World} {σ σ':Sig} {o o':Store}
theorem mapM_get {d e:Type} {f:d→Option e}:∀{l:List d} {c:List e},l.mapM f=some c→c.length=l.length∧∀(j:Nat) (a:d),l[j]?=some a→∃b,c[j]?=some b∧f a=some b
 |[],c,h=>by simp_all
 |a::l,c,h=>by
  rw[List.mapM_cons] at h
  cases g:f a with
  |none=>simp[g] at h
  |some b=>
   cases i:l.mapM f with
   |none=>simp_all
   |some r=>
    simp[g,i] at h
    subst h
    obtain⟨m,k⟩:=mapM_get i
    grind
theorem repL_mapM {f:AV→Option AV} {cs a:List AV} {vs:List Value} (h:cs.mapM f=some a) (e:RepL A w σ o cs vs) (n:∀c∈cs,∀d v,f c=some d→Rep A w σ o c v→Rep B w σ' o' d v):RepL B w σ' o' a vs:=by
 obtain⟨p,m⟩:=mapM_get h
 have q:=RepL.length _ _ e
 refine RepL.of_get _ _ (by omega) fun j d k=>?_
 have g:j<cs.length:=by grind
 obtain⟨v,r,i⟩:=RepL.get _ _ e j _ (List.getElem?_eq_getElem g)
 obtain⟨b,s,l⟩:=m j _ (List.getElem?_eq_getElem g)
 grind
theorem freeze_rep [SameL A B] (hS:SimO A w σ o) (hB:∀b,b<w.heap.size→Fr A σ b→¬B b):∀(d:Nat) (a Q:AV) (u:Value),freeze o d a=some Q→(∀id∈tchF o d a,∀b c,σ[id]?=some (some (b,c))→¬B b)→
  Rep A w σ o a u→Rep B w [] [] Q u:=by
 have F:∀b,b<w.heap.size→Fr A σ b→Fr B [] b:=fun b z f=>⟨fun⟨i,c,E⟩=>by simp at E,hB b z f⟩
 have M:∀id t,(fun _:Nat=>(none:Option Nat)) id=some t→Tr o σ [] [] id t:=fun _ _ h=>by cases h
 intro d
 induction d with
 |zero=>
  intro a Q u f _ s
  cases a<;>simp only[freeze,reduceCtorEq,Option.some.injEq] at f
  ·grind[Rep]
  ·rename_i v
   split at f
   ·injection f with f;subst f
    have:=rep_sc s
    subst this
    simp only[Rep,RepM]
    exact⟨none,0,rfl,Nat.le_refl _,rfl,trivial⟩
   grind[Rep]
  ·subst f;exact Rep.ren F M _ _ _ rfl s
  ·subst f;exact Rep.ren F M _ _ _ rfl s
 |succ d ih=>
  intro a Q u f ht s
  cases a<;>simp only[freeze,reduceCtorEq,Option.some.injEq] at f
  ·grind[Rep]
  ·rename_i v
   split at f
   ·injection f with f;subst f
    have:=rep_sc s
    subst this
    simp only[Rep,RepM]
    exact⟨none,0,rfl,Nat.le_refl _,rfl,trivial⟩
   grind[Rep]
  ·rename_i C
   obtain⟨I,h1,rfl⟩:=Option.map_eq_some_iff.1 f
   grind[Rep,repL_mapM,tchF]
  ·rename_i C
   obtain⟨I,h1,rfl⟩:=Option.map_eq_some_iff.1 f
   grind[Rep,repL_mapM,tchF]
  ·subst f;exact Rep.ren F M _ _ _ rfl s
  ·
   rename_i id q r a3
   split at f
   ·rename_i C e R pu T
    split at f
    ·rename_i y
     obtain⟨D,P⟩:=y
     simp only[Rep] at s
     obtain⟨a5,X,O,rfl,J,G⟩:=s
     have Z:=G R ⟨C,e,pu,T,D⟩
     have L:=hS.obj id _ T
     simp only[ObjOK] at L
     obtain⟨q1,q2,q3⟩:=L
     have k:∀(j:Nat) (c:AV),((C.drop q).take (r*R))[j]?=some c→∃(p:Addr) (v:Value),X=some p∧¬B p.block∧w.cell? (p.add j)=some v∧Rep A w σ o c v:=by
      intro j c n
      rw[List.getElem?_take] at n
      split at n
      ·rename_i S
       rw[List.getElem?_drop] at n
       have a1:0<r:=by
        grind
       unfold OsOk at Z
       split at Z
       ·omega
       ·rename_i b c2 K
        rcases q3 with⟨h0,_⟩|⟨b',a0,a4,U,_,r3,_,_,r6⟩
        ·simp_all
        ·rw[K] at U
         simp only[Option.some.injEq,Prod.mk.injEq] at U
         obtain⟨rfl,rfl⟩:=U
         obtain⟨v,hv,m⟩:=r6 _ c n
         refine⟨⟨b,q,none⟩,v,(by grind[offR_le]),ht id (by simp[tchF]) b c2 K,?_,m⟩
         grind[add_own,World.cell?]
       simp_all
      ·cases n
     split at f
     ·rename_i N
      injection f with f;subst f
      have g:pureL ((C.drop q).take (r*R))=true:=pureL_of fun c n=>pureL_get (q1 N) c (List.mem_of_mem_drop (List.mem_of_mem_take n))
      simp only[Rep]
      refine⟨X,O,rfl,J,g,RepM.of_get _ _ _ fun j c n=>?_⟩
      obtain⟨p,v,V,x,l,m⟩:=k j c n
      exact⟨p,v,V,⟨fun⟨i,c,E⟩=>by simp at E,x⟩,by simpa using l,Rep.ren F M c v c (AV.pure_ren _ c (pureL_get g c (List.mem_of_getElem? n))) m⟩
     ·rename_i N
      split at f
      ·rename_i I H
       split at f
       ·rename_i g
        injection f with f;subst f
        obtain⟨m1,m2⟩:=mapM_get H
        simp only[Rep]
        refine⟨X,O,rfl,J,g,RepM.of_get _ _ _ fun j c' W=>?_⟩
        have S:j<((C.drop q).take (r*R)).length:=by grind
        obtain⟨p,v,V,x,l,m⟩:=k j _ (List.getElem?_eq_getElem S)
        obtain⟨b,z,Y⟩:=m2 j _ (List.getElem?_eq_getElem S)
        rw[W] at z
        injection z with z
        subst z
        refine⟨p,v,V,⟨fun⟨i,c,E⟩=>by simp at E,x⟩,by simpa using l,ih _ _ v Y (fun t a2=>ht t ?_) m⟩
        simp only[tchF,T,List.mem_cons]
        grind
       ·cases f
      ·cases f
    ·cases f
   ·cases f
  ·grind[Rep,SameL.eq,repL_mapM,tchF]
  ·subst f;exact Rep.ren F M _ _ _ rfl s
theorem SimO.far (f:SimO A w σ o) (e:Ext w [] [] w' σ' o'):SimO A w' σ o∧Ext w σ o w' σ o:=by
 have a:∀b,b<w.heap.size→w'.heap[b]?=w.heap[b]?:=fun b d=>(e.blk b d fun⟨i,c,l⟩=>by simp at l).1
 have g:Ext w σ o w' σ o:=⟨e.size,fun b d k=>⟨a b d,k⟩,Nat.le_refl _,fun _ _ h=>⟨h,fun _ h=>⟨h,rfl⟩⟩,fun _ h=>⟨h,rfl⟩,e.os,e.tape,e.output⟩
 exact⟨⟨f.len,f.dist,fun i b c h=>Nat.lt_of_lt_of_le (f.bnd i b c h) e.size,fun i x j=>(f.obj i x j).ext g rfl fun b c d=>a b (f.bnd i b c d),f.av,fun b d=>Nat.lt_of_lt_of_le (f.avb b d) e.size⟩,g⟩
mutual
theorem noSl_rep:∀(r:AV) (u:Value),r.noSl=true→Rep A w σ o r u→Rep B w' σ' o' r u
 | .ud,_,_,_=>by simp[Rep]
 | .sc v,u,_,h=>by grind[Rep]
 | .agg b,u,a,h=>by
  simp only[AV.noSl] at a
  simp only[Rep] at h ⊢
  obtain⟨d,rfl,e⟩:=h
  exact⟨d,rfl,noSlL_rep b _ a e⟩
 | .tup b,u,a,h=>by
  simp only[AV.noSl] at a
  simp only[Rep] at h ⊢
  obtain⟨d,rfl,e⟩:=h
  exact⟨d,rfl,noSlL_rep b _ a e⟩
 | .sl n b,u,a,h=>by
  grind[AV.noSl,Rep,RepM]
 | .ep _ _,_,a,_| .ptr _ _ _,_,a,_| .os _ _ _ _,_,a,_| .mp _,_,a,_| .fn _ _ _,_,a,_| .ifc _ _,_,a,_=>by simp[AV.noSl] at a
theorem noSlL_rep:∀(b:List AV) (d:List Value),noSlL b=true→RepL A w σ o b d→RepL B w' σ' o' b d
 |[],d,_,h=>by grind[RepL]
 |c::b,d,a,h=>by
  simp only[noSlL,Bool.and_eq_true] at a
  simp only[RepL] at h ⊢
  obtain⟨v,r,rfl,f,e⟩:=h
  exact⟨v,r,rfl,noSl_rep c v a.1 f,noSlL_rep b r a.2 e⟩
end
theorem simO_nil (w:World) (a:∀b,A b→b<w.heap.size):SimO A w [] []:=⟨rfl,by simp,by simp,by simp,by simp,a⟩
theorem call_pure {call:Oracle} (q:OracleOK P call) (n:SimO A w σ o) {f:FuncId} {args a:List AV} {vs:List Value} (N:RepL A w σ o args vs) (K:args.mapM (freeze o 6)=some a) {r:AV}
  (X:call f a [] false=some (r,[])) (y:(args.flatMap (tchF o 6)).isEmpty=true∨r.noSl=true):
  goodF P f=true∧Calls P f vs.toArray w fun e w'=>∃u g,e= .returned u∧SimO A w' g o∧Rep A w' g o r u∧Ext w σ o w' g o:=by
 obtain⟨S,C,_⟩:=q _ _ _ _ _ _ X
 refine⟨S,?_⟩
 rcases y with y|y
 ·
  let B:Clr:=⟨fun b=>A b∨Own σ b,A.l⟩
  have Q:∀b,B b→b<w.heap.size:=fun b z=>Or.elim (show A b∨Own σ b from z) (n.avb b) fun⟨i,c,V⟩=>n.bnd i b c V
  haveI:SameL A B:=⟨rfl⟩
  haveI:SameL B A:=⟨rfl⟩
  have j:RepL B w [] [] a vs:=repL_mapM K N fun c E J v s t=>freeze_rep n (fun b _ d z=>Or.elim (show A b∨Own σ b from z) d.2 d.1) 6 c J v s (fun I U=>by
   simp_all) t
  refine(C B w [] vs (simO_nil w Q) j).mono ?_
  rintro e w' ⟨u,g,rfl,F,p,G⟩
  obtain⟨M,L⟩:=n.far G
  refine⟨u,σ,rfl,M,?_,L⟩
  have D:r.bel 0=true:=Rep.bel (k:=0) (fun i x _ W=>by simp at W) r u p
  refine Rep.ren (m:=cutM 0) (fun b z d=>⟨fun R=>d.2 (show A b∨Own σ b from .inr R),fun T=>d.2 (show A b∨Own σ b from .inl T)⟩) (fun I O h=>by grind[cutM]) r u r (bel_ren 0 r D) p
 ·have j:RepL A w [] [] a vs:=repL_mapM K N fun c E J v s t=>freeze_rep n (fun b _ d z=>d.2 z) 6 c J v s (fun I _ b Y H=>n.av I b Y H) t
  refine(C A w [] vs (simO_nil w n.avb) j).mono ?_
  rintro e w' ⟨u,g,rfl,F,p,G⟩
  obtain⟨M,L⟩:=n.far G
  grind[noSl_rep]
end
section
variable {A:Clr} {w:World} {σ:Sig} {o:Store}
def drF (o:Store) (p:Nat→Bool) (i:Nat):Bool:=p i&&(match o[i]? with|some (.cells _ _ _ true)=>true|_=>false)
def sigF (o:Store) (p:Nat→Bool) (σ:Sig):Sig:=(List.range σ.length).map fun i=>if drF o p i then none else(σ[i]?).getD none
theorem sigF_len (o:Store) (p:Nat→Bool) (σ:Sig):(sigF o p σ).length=σ.length:=by simp[sigF]
theorem sigF_get {o:Store} {p:Nat→Bool} {σ:Sig} {i:Nat} (a:i<σ.length):(sigF o p σ)[i]?=some (if drF o p i then none else(σ[i]?).getD none):=by
 simp[sigF,a]
theorem sigF_some {o:Store} {p:Nat→Bool} {σ:Sig} {i:Nat} {s:Nat×Nat} (h:(sigF o p σ)[i]?=some (some s)):σ[i]?=some (some s)∧drF o p i=false:=by
 have a:i<σ.length:=by grind[sigF_len]
 simp_all[sigF_get]
theorem sigF_keep {o:Store} {p:Nat→Bool} {σ:Sig} {i:Nat} (h:drF o p i=false):(sigF o p σ)[i]?=σ[i]?:=by
 grind[sigF_get,sigF_len]
def dropO (p:Nat→Bool) (i:Nat):AObj→AObj
 | .cells b e a true=>if p i then .dead else .cells b e a true
 |x=>x
theorem dropPu_get (p:Nat→Bool):∀(o:Store) (k i:Nat),(dropPu p k o)[i]?=(o[i]?).map (dropO p (k+i))
 |[],k,i=>by simp[dropPu]
 |x::r,k,i=>by
  simp only[dropPu]
  cases i with
  |zero=>simp only[List.getElem?_cons_zero,Option.map_some,Nat.add_zero];congr 1
  |succ i=>simp only[List.getElem?_cons_succ];rw[dropPu_get p r (k+1) i,show k+1+i=k+(i+1) from by omega]
theorem frzS_get {p:Nat→Bool} {a:Store}:∀{o o':Store},frzS a p o=some o'→o'.length=o.length∧∀(i:Nat) (x:AObj),o[i]?=some x→∃y,x.frz a p=some y∧o'[i]?=some y
 |[],o',h=>by grind[frzS]
 |x::r,o',h=>by
  simp only[frzS] at h
  split at h
  ·rename_i y l e b
   injection h with h;subst h
   obtain⟨d,c⟩:=frzS_get b
   grind
  ·cases h
theorem frzL_get {o:Store} {p:Nat→Bool}:∀{cs a:List AV},frzL o p cs=some a→a.length=cs.length∧∀(j:Nat) (b:AV),a[j]?=some b→∃c,cs[j]?=some c∧c.frz o p=some b
 |[],a,h=>by grind[frzL]
 |c::cs,a,h=>by
  simp only[frzL] at h
  split at h
  ·rename_i k e f d
   injection h with h;subst h
   obtain⟨i,g⟩:=frzL_get d
   grind
  ·cases h
theorem frzM_get {o:Store} {p:Nat→Bool}:∀{es a:List (Value×AV)},frzM o p es=some a→a.length=es.length∧∀(j:Nat) (b:Value×AV),a[j]?=some b→∃e,es[j]?=some e∧e.1=b.1∧e.2.frz o p=some b.2
 |[],a,h=>by grind[frzM]
 |e::es,a,h=>by
  simp only[frzM] at h
  split at h
  ·rename_i v d f c
   injection h with h;subst h
   obtain⟨g,i⟩:=frzM_get c
   grind
  ·cases h
theorem frzE_get {o:Store} {p:Nat→Bool}:∀{env a:EnvA},frzE o p env=some a→∀s,(getE env s).frz o p=some (getE a s)
 |[],a,h,s=>by simp only[frzE,Option.some.injEq] at h;subst h;rfl
 |(k,v)::r,a,h,s=>by
  simp only[frzE] at h
  split at h
  ·rename_i e d b c
   injection h with h;subst h
   simp only[getE]
   cases f:Nat.beq k s with
   |true=>exact b
   |false=>exact frzE_get c s
  ·cases h
mutual
theorem AV.pure_frz (o:Store) (p:Nat→Bool):∀(c:AV),c.pure=true→c.frz o p=some c
 | .sc _,_=>rfl
 | .sl _ _,_=>rfl
 | .ud,h| .agg _,h| .tup _,h| .ep _ _,h| .ptr _ _ _,h| .os _ _ _ _,h| .mp _,h| .fn _ _ _,h| .ifc _ _,h=>by simp[AV.pure] at h
end
theorem frz_one {o:Store} {p:Nat→Bool} {c a:AV} (h:c.frz o p=some a) (b:c.one=true):a.one=true:=by
 cases c<;>simp only[AV.one,Bool.false_eq_true] at b<;>simp only[AV.frz] at h<;>grind[AV.one,AV.frz]
structure Frz (o:Store) (p:Nat→Bool) (o2:Store):Prop where
 len:o2.length=o.length
 get:∀i x,o[i]?=some x→(drF o p i=true∧o2[i]?=some .dead)∨(drF o p i=false∧∃y,x.frz o p=some y∧o2[i]?=some y)
theorem frz_of {o a:Store} {p:Nat→Bool} (h:frzS o p o=some a):Frz o p (dropPu p 0 a):=by
 obtain⟨k,l⟩:=frzS_get h
 have n:(dropPu p 0 a).length=o.length:=by
  rw[←k]
  apply Nat.le_antisymm
  ·rcases Nat.lt_or_ge a.length (dropPu p 0 a).length with h|h
   ·exfalso
    have:=dropPu_get p a 0 a.length
    simp_all
   ·exact h
  ·rcases Nat.lt_or_ge (dropPu p 0 a).length a.length with h|h
   ·exfalso
    have:=dropPu_get p a 0 (dropPu p 0 a).length
    simp_all
   ·exact h
 refine⟨n,fun i x j=>?_⟩
 obtain⟨y,b,f⟩:=l i x j
 have d:=dropPu_get p a 0 i
 rw[f,Nat.zero_add] at d
 simp only[Option.map_some] at d
 unfold drF
 rw[j]
 cases x with
 |cells s e q g=>
  cases g with
  |true=>
   simp only[AObj.frz,if_true,Option.some.injEq] at b
   grind[dropO]
  |false=>
   right
   simp only[AObj.frz,Bool.false_eq_true,if_false,Option.map_eq_some_iff] at b
   grind[dropO]
 |dead=>
  simp only[AObj.frz,Option.some.injEq] at b
  subst b
  right
  exact⟨by simp,_,rfl,d⟩
 |map r m g=>
  right
  have:∃c,y= .map c m g:=by
   simp only[AObj.frz] at b
   split at b
   ·grind
   ·obtain⟨c,_,rfl⟩:=Option.map_eq_some_iff.1 b;simp_all
  obtain⟨c,rfl⟩:=this
  exact⟨by simp,_,b,d⟩
theorem Frz.tr {o2:Store} {p:Nat→Bool} (h:Frz o p o2) {id:Nat} (m:drF o p id=false):Tr o σ o2 (sigF o p σ) id id:=by
 refine⟨fun n e q d c=>?_,fun⟨l,g,d,c⟩=>?_,sigF_keep m⟩
 ·rcases h.get id _ c with⟨i,_⟩|⟨_,y,a,b⟩
  ·simp_all
  ·simp only[AObj.frz] at a
   split at a
   ·grind
   ·obtain⟨k,j,rfl⟩:=Option.map_eq_some_iff.1 a
    grind[frzL_get]
 ·rcases h.get id _ c with⟨i,_⟩|⟨_,y,a,b⟩
  ·simp_all
  ·simp only[AObj.frz] at a
   split at a
   ·injection a with a;subst a;exact⟨l,g,d,b⟩
   ·obtain⟨f,j,rfl⟩:=Option.map_eq_some_iff.1 a
    exact⟨f,g,d,b⟩
theorem fr_sigF {p:Nat→Bool} {b:Nat} (h:Fr A σ b):Fr A (sigF o p σ) b:=⟨fun⟨i,c,a⟩=>h.1 ⟨i,c,(sigF_some a).1⟩,h.2⟩
mutual
theorem Rep.frz (E:SimO A w σ o) {p:Nat→Bool} {o2:Store} (D:Frz o p o2):∀(c:AV) (v:Value) (q:AV),c.frz o p=some q→Rep A w σ o c v→Rep A w (sigF o p σ) o2 q v
 | .ud,v,q,d,_=>by grind[AV.frz,Rep]
 | .sc u,v,q,d,h=>by grind[AV.frz,Rep]
 | .sl n s,v,q,d,h=>by
  simp only[AV.frz,Option.some.injEq] at d;subst d
  exact Rep.ren (m:=fun _=>none) (fun b _ z=>fr_sigF z) (fun _ _ h=>by cases h) _ _ _ rfl h
 | .ep s B,v,q,d,h=>by
  simp only[AV.frz,Option.some.injEq] at d;subst d
  exact Rep.ren (m:=fun _=>none) (fun b _ z=>fr_sigF z) (fun _ _ h=>by cases h) _ _ _ rfl h
 | .agg s,v,q,d,h=>by
  simp only[AV.frz,Option.map_eq_some_iff] at d
  obtain⟨k,K,rfl⟩:=d
  simp only[Rep] at h ⊢
  obtain⟨F,rfl,Q⟩:=h
  exact⟨F,rfl,RepL.frz E D s _ k K Q⟩
 | .tup s,v,q,d,h=>by
  simp only[AV.frz,Option.map_eq_some_iff] at d
  obtain⟨k,K,rfl⟩:=d
  simp only[Rep] at h ⊢
  obtain⟨F,rfl,Q⟩:=h
  exact⟨F,rfl,RepL.frz E D s _ k K Q⟩
 | .ptr l B G,v,q,d,h=>by
  have H:drF o p l=false∧q= .ptr l B G:=by
   grind[drF,AV.frz]
  obtain⟨H,rfl⟩:=H
  exact Rep.ren (m:=fun i=>if i=l then some l else none) (fun b _ z=>fr_sigF z) (fun i j g=>by
   split at g
   ·rename_i M;injection g with g;subst M;subst g;exact D.tr H
   ·cases g) _ _ _ (by simp[AV.ren]) h
 | .mp l,v,q,d,h=>by
  simp only[AV.frz,Option.some.injEq] at d;subst d
  have H:drF o p l=false:=by
   simp only[Rep] at h
   obtain⟨⟨es,kt,pu,S⟩,_⟩:=h
   simp[drF,S]
  exact Rep.ren (m:=fun i=>if i=l then some l else none) (fun b _ z=>fr_sigF z) (fun i j g=>by
   split at g
   ·rename_i M;injection g with g;subst M;subst g;exact D.tr H
   ·cases g) _ _ _ (by simp[AV.ren]) h
 | .fn f a b,v,q,d,h=>by
  simp only[AV.frz] at d
  split at d
  ·rename_i a' b' K h2
   injection d with d;subst d
   simp only[Rep] at h ⊢
   obtain⟨x,y,rfl,hx,hy⟩:=h
   exact⟨x,y,rfl,RepL.frz E D a _ a' K hx,RepL.frz E D b _ b' h2 hy⟩
  ·cases d
 | .ifc t s,v,q,d,h=>by
  simp only[AV.frz,Option.some.injEq] at d;subst d
  exact Rep.ren (m:=fun _=>none) (fun b _ z=>fr_sigF z) (fun _ _ h=>by cases h) _ _ _ rfl h
 | .os l B L G,v,q,d,h=>by
  have a3:drF o p l=false→q= .os l B L G→Rep A w (sigF o p σ) o2 q v:=by
   rintro H rfl
   exact Rep.ren (m:=fun i=>if i=l then some l else none) (fun b _ z=>fr_sigF z) (fun i j g=>by
    split at g
    ·rename_i M;injection g with g;subst M;subst g;exact D.tr H
    ·cases g) _ _ _ (by simp[AV.ren]) h
  simp only[AV.frz] at d
  split at d
  ·rename_i hp
   split at d
   ·rename_i s e sz pu S
    split at d
    ·rename_i V
     subst V
     split at d
     ·rename_i J
      injection d with d;subst d
      obtain⟨N,R⟩:=J
      have a4:drF o p l=true:=by grind[drF]
      simp only[Rep] at h
      obtain⟨a6,X,Y,rfl,W,O⟩:=h
      have hk:=O sz ⟨s,e,true,S,N⟩
      have P:=E.obj l _ S
      simp only[ObjOK] at P
      obtain⟨q1,q2,q3⟩:=P
      have C:pureL ((s.drop B).take (L*sz))=true:=pureL_of fun c d=>pureL_get (q1 trivial) c (List.mem_of_mem_drop (List.mem_of_mem_take d))
      simp only[Rep]
      refine⟨X,Y,rfl,W,C,RepM.of_get _ _ _ fun j c d=>?_⟩
      have a0:=pureL_get C c (List.mem_of_getElem? d)
      rw[List.getElem?_take] at d
      split at d
      ·rename_i hj
       rw[List.getElem?_drop] at d
       have a2:0<L:=by
        grind
       unfold OsOk at hk
       split at hk
       ·omega
       ·rename_i b c2 I
        rcases q3 with⟨M,_⟩|⟨b',a1,a5,T,_,r3,_,_,r6⟩
        ·simp_all
        ·rw[I] at T
         simp only[Option.some.injEq,Prod.mk.injEq] at T
         obtain⟨rfl,rfl⟩:=T
         obtain⟨u,hu,U⟩:=r6 _ c d
         refine⟨⟨b,B,none⟩,u,(by grind[offR_le]),⟨?_,E.av l b c2 I⟩,?_,?_⟩
         ·rintro⟨i,c3,hi⟩
          obtain⟨k1,k2⟩:=sigF_some hi
          have:=E.dist l i b c2 c3 I k1
          simp_all
         ·grind[add_own,World.cell?]
         ·exact Rep.ren (m:=fun _=>none) (fun b _ z=>fr_sigF z) (fun _ _ h=>by cases h) c u c (AV.pure_ren _ c a0) U
       simp_all
      ·cases d
     ·cases d
    grind[drF]
   grind[drF]
  grind[drF]
theorem RepL.frz (E:SimO A w σ o) {p:Nat→Bool} {o2:Store} (D:Frz o p o2):∀(s:List AV) (F:List Value) (k:List AV),frzL o p s=some k→RepL A w σ o s F→RepL A w (sigF o p σ) o2 k F
 |[],F,k,d,h=>by grind[frzL,RepL]
 |c::s,F,k,d,h=>by
  simp only[frzL] at d
  split at d
  ·rename_i c1 Z K h2
   injection d with d;subst d
   simp only[RepL] at h ⊢
   obtain⟨v,r,rfl,hv,Q⟩:=h
   exact⟨v,r,rfl,Rep.frz E D c v c1 K hv,RepL.frz E D s r Z h2 Q⟩
  ·cases d
end
end
section
variable {A:Clr} {w:World} {σ:Sig} {o:Store}
theorem ObjOK.frz (hS:SimO A w σ o) {p:Nat→Bool} {o2:Store} (hF:Frz o p o2) {i:Nat} {x y:AObj} (hx:o[i]?=some x) (hd:drF o p i=false) (hy:x.frz o p=some y):ObjOK A w (sigF o p σ) o2 i y:=by
 have h:=hS.obj i x hx
 have hσ:=sigF_keep (σ:=σ) hd
 cases x with
 |dead=>simp only[AObj.frz,Option.some.injEq] at hy;subst hy;simp only[ObjOK] at h ⊢;rw[hσ];exact h
 |cells cs e sz pu=>
  simp only[ObjOK] at h
  obtain⟨h1,h2,h3⟩:=h
  have key:∀cs',cs'.length=cs.length→(pu=true→pureL cs'=true)→oneL cs'=true→(∀(j:Nat) (c':AV) (v:Value),cs'[j]?=some c'→(∀c,cs[j]?=some c→Rep A w σ o c v→Rep A w (sigF o p σ) o2 c' v))→ObjOK A w (sigF o p σ) o2 i (.cells cs' e sz pu):=by
   intro cs' k1 k2 k3 k4
   simp only[ObjOK]
   refine⟨k2,k3,?_⟩
   rcases h3 with⟨h0,h0'⟩|⟨b,cap,arr,r1,r2,r3,r4,r5,r6⟩
   ·left;rw[hσ];exact⟨h0,List.eq_nil_of_length_eq_zero (by rw[k1,h0'];rfl)⟩
   ·refine .inr ⟨b,cap,arr,by rw[hσ];exact r1,r2,r3,r4,by omega,fun j c' hj=>?_⟩
    have hjl:j<cs.length:=by have:=(List.getElem?_eq_some_iff.1 hj).1;omega
    obtain⟨v,hv,hr⟩:=r6 j _ (List.getElem?_eq_getElem hjl)
    exact⟨v,hv,k4 j c' v hj _ (List.getElem?_eq_getElem hjl) hr⟩
  simp only[AObj.frz] at hy
  split at hy
  ·rename_i hpu
   injection hy with hy;subst hy
   refine key cs rfl h1 h2 fun j c' v hj c hc hr=>?_
   rw[hj] at hc
   injection hc with hc
   subst hc
   exact Rep.frz hS hF c' v c' (AV.pure_frz o p c' (pureL_get (h1 hpu) c' (List.mem_of_getElem? hj))) hr
  ·rename_i hpu
   obtain⟨cs',hc',rfl⟩:=Option.map_eq_some_iff.1 hy
   obtain⟨g1,g2⟩:=frzL_get hc'
   refine key cs' g1 (fun hp=>absurd hp hpu) (oneL_of.2 fun c hc=>?_) fun j c' v hj c hc hr=>?_
   ·obtain⟨j,hj⟩:=List.getElem?_of_mem hc
    obtain⟨c0,q1,q2⟩:=g2 j c hj
    exact frz_one q2 (oneL_of.1 h2 c0 (List.mem_of_getElem? q1))
   ·obtain⟨c0,q1,q2⟩:=g2 j c' hj
    rw[hc] at q1
    injection q1 with q1
    subst q1
    exact Rep.frz hS hF c v c' q2 hr
 |map es kt pu=>
  simp only[ObjOK] at h
  obtain⟨h1,h2,b,c,en,cl,h3,h4,h5,h6⟩:=h
  simp only[AObj.frz] at hy
  split at hy
  ·rename_i hpu
   injection hy with hy;subst hy
   simp only[ObjOK]
   refine⟨h1,h2,b,c,en,cl,by rw[hσ];exact h3,h4,h5,fun j e he=>?_⟩
   obtain⟨m',q1,q2,q3⟩:=h6 j e he
   exact⟨m',q1,q2,Rep.frz hS hF e.2 _ e.2 (AV.pure_frz o p e.2 (h1 hpu e (List.mem_of_getElem? he))) q3⟩
  ·rename_i hpu
   obtain⟨es',hc',rfl⟩:=Option.map_eq_some_iff.1 hy
   obtain⟨g1,g2⟩:=frzM_get hc'
   simp only[ObjOK]
   refine⟨fun hp=>absurd hp hpu,fun e he=>?_,b,c,en,cl,by rw[hσ];exact h3,h4,⟨by have:=h5.1;omega,h5.2⟩,fun j e' he=>?_⟩
   ·obtain⟨j,hj⟩:=List.getElem?_of_mem he
    obtain⟨e0,q1,q2,_⟩:=g2 j e hj
    rw[←q2]
    exact h2 e0 (List.mem_of_getElem? q1)
   ·obtain⟨e0,q1,q2,q3⟩:=g2 j e' he
    obtain⟨m',r1,r2,r3⟩:=h6 j e0 q1
    exact⟨m',r1,by rw[r2,q2],Rep.frz hS hF e0.2 _ e'.2 q3 r3⟩
theorem SimO.frz (e:SimO A w σ o) {p:Nat→Bool} {o2:Store} (g:Frz o p o2):SimO A w (sigF o p σ) o2:=by
 refine⟨by rw[sigF_len,g.len,e.len],fun i j b c d a m=>e.dist i j b c d (sigF_some a).1 (sigF_some m).1,fun i b c a=>e.bnd i b c (sigF_some a).1,fun i y h=>?_,fun i b c a=>e.av i b c (sigF_some a).1,e.avb⟩
 have a:i<o.length:=by have:=(List.getElem?_eq_some_iff.1 h).1;rw[g.len] at this;exact this
 have l:=List.getElem?_eq_getElem a
 rcases g.get i _ l with⟨k,f⟩|⟨k,z,f,n⟩
 ·rw[h] at f
  injection f with f
  subst f
  simp only[ObjOK]
  rw[sigF_get (by rw[e.len];exact a),k]
  rfl
 grind[ObjOK.frz]
theorem Ext.frz {t:World} {k:Sig} {h:Store} (a:Ext t k h w σ o) {p:Nat→Bool} {o2:Store} (m:Frz o p o2) (B:∀i,i<h.length→p i=false):Ext t k h w (sigF o p σ) o2 where
 size:=a.size
 blk:=fun b u y=>by
  obtain⟨g,j⟩:=a.blk b u y
  exact⟨g,fun⟨i,c,z⟩=>j ⟨i,c,(sigF_some z).1⟩⟩
 len:=by rw[m.len];exact a.len
 cur:=fun d q l=>by
  obtain⟨g,j⟩:=a.cur d q l
  have r:d<h.length:=by obtain⟨D,e,s,A,x,_⟩:=l;grind
  have n:drF o p d=false:=by grind[drF]
  have f:=m.tr (σ:=σ) n
  refine⟨f.lenLe g,fun s v=>?_⟩
  rw[f.2.2]
  exact j s (f.cur g v)
 isMap:=fun d l=>by
  obtain⟨g,j⟩:=a.isMap d l
  have r:d<h.length:=by obtain⟨C,E,A,x⟩:=l;grind
  have n:drF o p d=false:=by grind[drF]
  have f:=m.tr (σ:=σ) n
  exact⟨f.2.1 g,by rw[f.2.2];exact j⟩
 os:=a.os
 tape:=a.tape
 output:=a.output
end
def visitR (o:Store) (d:Nat) (id:Nat) (acc:List Nat):List Nat:=
 if acc.contains id then acc else
 match o[id]? with
 |some (.cells b _ _ a)=>if a then acc++[id] else reachF o d b (acc++[id])
 |some (.map c _ a)=>if a then acc++[id] else reachF o d (c.map (·.2)) (acc++[id])
 |_=>acc++[id]
def stepR (o:Store) (d:Nat) (v:AV) (acc:List Nat):List Nat:=
 match v with
 | .agg e| .tup e=>reachF o d e acc
 | .ptr c _ _| .os c _ _ _| .mp c=>visitR o d c acc
 | .fn _ a b=>reachF o d b (reachF o d a acc)
 |_=>acc
theorem reachF_cons (o:Store) (d:Nat) (v:AV) (vs:List AV) (acc:List Nat):reachF o (d+1) (v::vs) acc=reachF o d vs (stepR o d v acc):=by
 cases v<;>rfl
theorem putBack_length:∀(a:List Nat) (o X:Store),(putBack o a X).length=o.length
 |[],o,X=>by cases X<;>rfl
 |i::r,o,[]=>rfl
 |i::r,o,x::l=>by simp only[putBack];rw[putBack_length r];simp
theorem putBack_ne:∀(a:List Nat) (o X:Store) (j:Nat),j∉a→(putBack o a X)[j]?=o[j]?
 |[],o,X,j,_=>by cases X<;>rfl
 |i::r,o,[],j,_=>rfl
 |i::r,o,x::l,j,h=>by
  simp only[List.mem_cons,not_or] at h
  simp only[putBack]
  rw[putBack_ne r _ l j h.2,List.getElem?_set_ne (Ne.symm h.1)]
theorem renS_length {m:Nat→Option Nat}:∀{o o':Store},renS m o=some o'→o'.length=o.length
 |[],o',h=>by grind[renS]
 |x::r,o',h=>by
  simp only[renS] at h
  split at h
  ·rename_i y l b a;injection h with h;subst h;simp[renS_length a]
  ·cases h
theorem reachF_prefix (o:Store):∀(d:Nat) (vs:List AV) (acc:List Nat),∃t,reachF o d vs acc=acc++t
 |0,vs,acc=>⟨[],by grind[reachF]⟩
 |d+1,[],acc=>⟨[],by simp[reachF]⟩
 |d+1,v::vs,acc=>by
  rw[reachF_cons]
  have e:∀c,∃t,visitR o d c acc=acc++t:=by
   intro c
   unfold visitR
   split
   ·simp_all
   ·split
    ·split
     ·simp_all
     ·obtain⟨t,h⟩:=reachF_prefix o d ‹_› (acc++[c]);simp_all
    ·split
     ·simp_all
     ·rename_i m _ _ _ _;obtain⟨t,h⟩:=reachF_prefix o d (m.map (·.2)) (acc++[c]);simp_all
    simp_all
  have j:∃t,stepR o d v acc=acc++t:=by
   cases v with
   |agg g=>exact reachF_prefix o d g acc
   |tup g=>exact reachF_prefix o d g acc
   |ptr c _ _=>exact e c
   |os c _ _ _=>exact e c
   |mp c=>exact e c
   |fn f a b=>
    obtain⟨i,n⟩:=reachF_prefix o d a acc
    obtain⟨l,p⟩:=reachF_prefix o d b (acc++i)
    grind[stepR]
   |_=>exact⟨[],by simp[stepR]⟩
  obtain⟨t,h⟩:=j
  obtain⟨l,k⟩:=reachF_prefix o d vs (acc++t)
  simp_all
theorem idxOf_spec:∀{b:List Nat} {i k j:Nat},idxOf b i k=some j→k≤j∧b[j - k]?=some i
 |[],i,k,j,h=>by grind[idxOf]
 |a::r,i,k,j,h=>by
  simp only[idxOf] at h
  split at h
  ·simp_all
  ·obtain⟨d,c⟩:=idxOf_spec h
   grind
theorem nodupN_spec:∀{l:List Nat},callOwn.nodupN l=true→l.Nodup
 |[],_=>List.nodup_nil
 |a::r,h=>by
  simp only[callOwn.nodupN,Bool.and_eq_true,Bool.not_eq_true',List.contains_eq_mem,decide_eq_false_iff_not] at h
  exact List.nodup_cons.2 ⟨h.1,nodupN_spec h.2⟩
theorem subStore_get {o:Store} {b:List Nat}:∀{r:List Nat} {s:Store},subStore o b r=some s→s.length=r.length∧∀(j i:Nat),r[j]?=some i→∃x y,o[i]?=some x∧x.ren (fun j=>idxOf b j)=some y∧s[j]?=some y
 |[],s,h=>by grind[subStore]
 |a::r,s,h=>by
  simp only[subStore] at h
  split at h
  ·rename_i x l f c
   obtain⟨y,d,rfl⟩:=Option.map_eq_some_iff.1 h
   obtain⟨g,e⟩:=subStore_get c
   grind
  ·cases h
theorem renS_get {m:Nat→Option Nat}:∀{o o':Store},renS m o=some o'→∀(i:Nat) (x:AObj),o[i]?=some x→∃y,x.ren m=some y∧o'[i]?=some y
 |[],o',h,i,x,b=>by simp at b
 |a::r,o',h,i,x,b=>by
  simp only[renS] at h
  split at h
  ·rename_i y l f c
   injection h with h;subst h
   cases i with
   |zero=>simp_all
   |succ i=>obtain⟨z,e,d⟩:=renS_get c i x (by simp_all);simp_all
  ·cases h
theorem ren_cells {m:Nat→Option Nat} {cs:List AV} {e:TypeId} {sz:Nat} {pu:Bool} {y:AObj} (h:(AObj.cells cs e sz pu).ren m=some y):∃a,y= .cells a e sz pu∧a.length=cs.length:=by
 simp only[AObj.ren] at h
 split at h
 ·grind
 ·obtain⟨a,b,rfl⟩:=Option.map_eq_some_iff.1 h;grind[renL_get]
theorem ren_map {m:Nat→Option Nat} {es:List (Value×AV)} {b:List Nat×Bool} {pu:Bool} {y:AObj} (h:(AObj.map es b pu).ren m=some y):∃a,y= .map a b pu:=by
 simp only[AObj.ren] at h
 split at h
 ·grind
 ·obtain⟨a,c,rfl⟩:=Option.map_eq_some_iff.1 h;simp_all
def sigSub (σ:Sig) (a:List Nat):Sig:=a.map fun i=>(σ[i]?).getD none
section
variable {A A':Clr} {w:World} {σ:Sig} {o s:Store} {ids:List Nat}
theorem sigSub_some {j:Nat} {t:Nat×Nat} (h:(sigSub σ ids)[j]?=some (some t)):∃i,ids[j]?=some i∧σ[i]?=some (some t):=by
 grind[sigSub]
theorem sigSub_get (a:σ.length=o.length) (b:subStore o ids ids=some s) {j i:Nat} (c:ids[j]?=some i):(sigSub σ ids)[j]?=σ[i]?:=by
 obtain⟨_,d⟩:=subStore_get b
 grind[sigSub]
theorem sub_tr (c:σ.length=o.length) (i:subStore o ids ids=some s) {id a:Nat} (h:idxOf ids id=some a):Tr o σ s (sigSub σ ids) id a:=by
 obtain⟨_,f⟩:=idxOf_spec h
 simp only[Nat.sub_zero] at f
 obtain⟨_,n⟩:=subStore_get i
 obtain⟨x,y,m,l,d⟩:=n a id f
 refine⟨fun r e q j b=>?_,fun⟨p,k,j,b⟩=>?_,sigSub_get c i f⟩
 ·grind[ren_cells]
 ·rw[m] at b;injection b with b;subst b
  obtain⟨g,rfl⟩:=ren_map l
  exact⟨g,k,j,d⟩
theorem SimO.sub [SameL A A'] (f:SimO A w σ o) (u:ids.Nodup) (n:subStore o ids ids=some s) (E:∀b,b<w.heap.size→Fr A σ b→Fr A' (sigSub σ ids) b)
  (D:∀i∈ids,∀b c,σ[i]?=some (some (b,c))→¬A' b) (g:∀b,A' b→b<w.heap.size):SimO A' w (sigSub σ ids) s:=by
 obtain⟨F,B⟩:=subStore_get n
 refine⟨by grind[sigSub],fun i j b c d m l=>?_,fun i b c m=>?_,fun j y C=>?_,fun i b c m=>?_,g⟩
 ·obtain⟨x,k,e⟩:=sigSub_some m
  obtain⟨z,t,p⟩:=sigSub_some l
  have:=f.dist x z b c d e p
  subst this
  exact(List.getElem?_inj (List.getElem?_eq_some_iff.1 k).1 u).1 (k.trans t.symm)
 ·obtain⟨x,k,e⟩:=sigSub_some m
  exact f.bnd x b c e
 ·have q:j<ids.length:=by grind
  have l:=List.getElem?_eq_getElem q
  obtain⟨x,H,k,r,a⟩:=B j _ l
  rw[C] at a
  injection a with a
  subst a
  exact ObjOK.ren E (fun G v h=>sub_tr f.len n h) r (sigSub_get f.len n l) (f.obj _ x k)
 grind[sigSub_some]
theorem finishOwn_sound {o':Store} {U:World} {H:Sig} {p:Store} (Z:SimO A w σ o) (hE:Ext U H p w σ o) {V r:AV} {u:Value} (hr:Rep A w σ o V u) (g:finishOwn p.length V o=some (r,o')):
  ∃F,SimO A w F o'∧Rep A w F o' r u∧Ext U H p w F o':=by
 unfold finishOwn at g
 split at g
 ·rename_i Y o1 S O
  have N:=frz_of O
  have f:=Z.frz N
  have d:=hE.frz N (fun i z=>by simp_all)
  have C:=Rep.frz Z N _ _ _ S hr
  simp only at g
  generalize dropPu (fun i=>decide (p.length≤i)) 0 o1=M at g N f d C
  generalize sigF o (fun i=>decide (p.length≤i)) σ=D at f d C
  obtain⟨t,ht⟩:=reachF_prefix M reachD (Y::(M.take p.length).flatMap finishOwn.AObj.avs) (List.range p.length)
  generalize reachF M reachD (Y::(M.take p.length).flatMap finishOwn.AObj.avs) (List.range p.length)=n at g ht
  split at g
  ·rename_i L
   split at g
   ·rename_i r2 s2 Q s
    simp only[Option.some.injEq,Prod.mk.injEq] at g
    obtain⟨rfl,rfl⟩:=g
    have J:∀b,b<w.heap.size→Fr A D b→Fr A (sigSub D n) b:=fun b _ g=>⟨fun⟨i,c,z⟩=>by
     obtain⟨x,hx,B⟩:=sigSub_some z
     exact g.1 ⟨x,c,B⟩,g.2⟩
    have K:∀i,i<p.length→n[i]?=some i:=by
     grind
    have y:∀i,i<p.length→idxOf n i=some i:=by
     intro i z
     have T:i∈n:=List.mem_of_getElem? (K i z)
     have:∃j,idxOf n i=some j:=by
      have a0:∀(l:List Nat) (k:Nat),i∈l→∃j,idxOf l i k=some j:=by
       intro l
       induction l with
       |nil=>simp_all
       |cons a l ih=>
        intro k h
        simp only[idxOf]
        split
        ·simp_all
        ·rename_i P
         refine ih (k+1) ((List.mem_cons.1 h).resolve_left fun q=>P (by simp[q]))
      simp_all
     obtain⟨j,W⟩:=this
     obtain⟨_,q⟩:=idxOf_spec W
     simp only[Nat.sub_zero] at q
     have:=(List.getElem?_inj (List.getElem?_eq_some_iff.1 q).1 (nodupN_spec L)).1 (q.trans (K i z).symm)
     rw[W,this]
    refine⟨sigSub D n,f.sub (nodupN_spec L) s J (fun i _ b c h=>f.av i b c h) f.avb,Rep.ren J (fun v a1 h=>sub_tr f.len s h) _ _ _ Q C,d.size,fun b hb hn=>?_,?_,fun v R I=>?_,fun v I=>?_,d.os,d.tape,d.output⟩
    ·obtain⟨G,q⟩:=d.blk b hb hn
     refine⟨G,fun⟨i,c,z⟩=>?_⟩
     obtain⟨x,hx,B⟩:=sigSub_some z
     exact q ⟨x,c,B⟩
    ·grind[subStore_get]
    ·obtain⟨G,q⟩:=d.cur v R I
     have E:v<p.length:=by obtain⟨cs,e,X,pu,ho,_⟩:=I;grind
     have m:=sub_tr f.len s (y v E)
     refine⟨m.lenLe G,fun X hc=>?_⟩
     rw[m.2.2]
     exact q X (m.cur G hc)
    ·obtain⟨G,q⟩:=d.isMap v I
     have E:v<p.length:=by obtain⟨es,kt,pu,ho⟩:=I;grind
     have m:=sub_tr f.len s (y v E)
     exact⟨m.2.1 G,by rw[m.2.2];exact q⟩
   ·cases g
  ·cases g
 ·cases g
end
theorem putBack_at:∀(b:List Nat) (o X:Store) (j i:Nat) (x:AObj),b.Nodup→b[j]?=some i→i<o.length→X[j]?=some x→(putBack o b X)[i]?=some x
 |[],o,X,j,i,x,_,c,_,_=>by simp at c
 |a::r,o,[],j,i,x,_,_,_,d=>by simp at d
 |a::r,o,y::l,j,i,x,e,c,f,d=>by
  rw[List.nodup_cons] at e
  simp only[putBack]
  cases j with
  |zero=>
   grind[putBack_ne]
  |succ j=>
   simp only[List.getElem?_cons_succ] at c d
   exact putBack_at r _ l j i x e.2 c (by simp_all) d
theorem idxOf_mem {i:Nat}:∀{l:List Nat} {k:Nat},i∈l→∃j,idxOf l i k=some j
 |[],k,h=>by simp at h
 |a::l,k,h=>by
  simp only[idxOf]
  split
  ·simp_all
  ·rename_i b
   exact idxOf_mem ((List.mem_cons.1 h).resolve_left fun c=>b (by simp[c]))
def sigBack (σ b:Sig) (a:List Nat):Sig:=
 ((List.range σ.length).map fun i=>match idxOf a i with|some j=>(b[j]?).getD none|none=>(σ[i]?).getD none)++b.drop a.length
section
variable {A:Clr} {w:World} {σ:Sig} {o:Store}
theorem call_own {P:Program} {call:Oracle} (a9:OracleOK P call) (v:SimO A w σ o) {f:FuncId} {args:List AV} {vs:List Value} (hr:RepL A w σ o args vs)
  {r:AV} {o':Store} (J:callOwn call f args o=some (r,o')):
  goodF P f=true∧Calls P f vs.toArray w fun e w'=>∃u g,e= .returned u∧SimO A w' g o'∧Rep A w' g o' r u∧Ext w σ o w' g o':=by
 unfold callOwn at J
 simp only at J
 generalize reachF o reachD args []=a at J
 split at J
 ·rename_i U T ha I
  split at J
  ·rename_i r1 n c1
   split at J
   ·cases J
   ·rename_i Q
    simp only[not_or,Bool.not_eq_false,Nat.not_lt] at Q
    obtain⟨d2,a1⟩:=Q
    have a1:=nodupN_spec a1
    split at J
    ·rename_i r2 b9 c0 S
     simp only[Option.some.injEq,Prod.mk.injEq] at J
     obtain⟨rfl,d3⟩:=J
     obtain⟨hg,c2,_⟩:=a9 _ _ _ _ _ _ c1
     refine⟨hg,?_⟩
     have d0:=subStore_get I
     have b2:∀(j i:Nat),a[j]?=some i→i<o.length:=fun j i m=>by
      grind
     have d4:=fun {j i:Nat} (m:a[j]?=some i)=>sigSub_get v.len I m
     obtain⟨N,s,a5⟩:∃N:Clr,(∀b,N b↔(A b∨(Own σ b∧¬Own (sigSub σ a) b)))∧N.l=A.l:=⟨⟨fun b=>A b∨(Own σ b∧¬Own (sigSub σ a) b),A.l⟩,fun b=>Iff.rfl,rfl⟩
     haveI:SameL A N:=⟨a5⟩
     haveI:SameL N A:=⟨a5.symm⟩
     have b4:∀b,b<w.heap.size→Fr A σ b→Fr N (sigSub σ a) b:=fun b _ hf=>⟨fun⟨i,c,p⟩=>by
      obtain⟨x,hx,G⟩:=sigSub_some p
      exact hf.1 ⟨x,c,G⟩,fun h=>((s b).1 h).elim hf.2 fun h=>hf.1 h.1⟩
     have c6:SimO N w (sigSub σ a) T:=v.sub a1 I b4 (fun i p b c h hA=>by
      rcases(s b).1 hA with q|⟨_,q⟩
      ·exact v.av i b c h q
      ·obtain⟨j,m⟩:=List.getElem?_of_mem p
       exact q ⟨j,c,by simp_all⟩) (fun b h=>((s b).1 h).elim (v.avb b) fun⟨⟨i,c,p⟩,_⟩=>v.bnd i b c p)
     have b1:RepL N w (sigSub σ a) T U vs:=RepL.ren b4 (fun D d6 h=>sub_tr v.len I h) args vs U ha hr
     refine(c2 N w _ vs c6 b1).mono ?_
     rintro e w' ⟨u,g,rfl,C,c7,X⟩
     have d5:=renS_length S
     have hN:=v.len
     have b7:(sigBack σ g a).length=o.length+(n.length - a.length):=by simp[sigBack,hN,C.len]
     have a7:o'.length=o.length+(n.length - a.length):=by grind[putBack_length]
     have a8:∀i,i<o.length→idxOf a i=none→(sigBack σ g a)[i]?=σ[i]?∧o'[i]?=o[i]?∧i∉a:=by
      intro i p hn
      have d1:i∉a:=fun h=>by obtain⟨j,m⟩:=idxOf_mem (k:=0) h;simp_all
      grind[sigBack,putBack_ne]
     have b6:∀j t,backN a o.length j=some t→(sigBack σ g a)[t]?=g[j]?∧o'[t]?=b9[j]?:=by
      intro j t m
      unfold backN at m
      split at m
      ·rename_i i K
       injection m with m;subst m
       have p:=b2 j i K
       have c3:j<a.length:=(List.getElem?_eq_some_iff.1 K).1
       obtain⟨j2,E⟩:=idxOf_mem (k:=0) (List.mem_of_getElem? K)
       have B:=(idxOf_spec E).2
       simp only[Nat.sub_zero] at B
       have:=(List.getElem?_inj (List.getElem?_eq_some_iff.1 B).1 a1).1 (B.trans K.symm)
       subst this
       constructor
       ·unfold sigBack
        rw[List.getElem?_append_left (by simp;omega)]
        have:j2<g.length:=by rw[C.len];omega
        simp_all
       grind[putBack_at]
      ·rename_i K
       injection m with m;subst m
       have c3:=List.getElem?_eq_none_iff.1 K
       constructor
       ·unfold sigBack
        rw[List.getElem?_append_right (by simp;omega)]
        simp_all
       grind
     have b8:∀i,i<o'.length→(∃j,j<n.length∧backN a o.length j=some i)∨(i<o.length∧idxOf a i=none):=by
      intro i p
      rw[a7] at p
      rcases Nat.lt_or_ge i o.length with q|q
      ·cases hq:idxOf a i with
       |none=>exact .inr ⟨q,rfl⟩
       |some j=>
        left
        have B:=(idxOf_spec hq).2
        simp only[Nat.sub_zero] at B
        have:=(List.getElem?_eq_some_iff.1 B).1
        exact⟨j,by omega,by simp[backN,B]⟩
      grind[backN]
     have F:∀i b c,i<o.length→idxOf a i=none→σ[i]?=some (some (b,c))→N b:=by
      intro i b c p hn hs
      refine(s b).2 (.inr ⟨⟨i,c,hs⟩,?_⟩)
      rintro⟨j,d,m⟩
      obtain⟨x,hx,G⟩:=sigSub_some m
      have:=v.dist i x b c d hs G
      grind
     have L:∀i b c,(sigBack σ g a)[i]?=some (some (b,c))→(∃j,backN a o.length j=some i∧g[j]?=some (some (b,c)))∨(i<o.length∧idxOf a i=none∧σ[i]?=some (some (b,c))):=by
      grind
     have a3:∀j t,backN a o.length j=some t→Tr n g o' (sigBack σ g a) j t:=by
      intro j t m
      obtain⟨Y,W⟩:=b6 j t m
      refine⟨fun cs e sz Z ho=>?_,fun⟨es,kt,Z,ho⟩=>?_,Y⟩
      ·grind[renS_get,ren_cells]
      ·obtain⟨y,hy,c5⟩:=renS_get S j _ ho
       obtain⟨c8,rfl⟩:=ren_map hy
       exact⟨c8,kt,Z,by rw[W];exact c5⟩
     have a6:∀b,b<w'.heap.size→Fr N g b→Fr A (sigBack σ g a) b:=by
      intro b _ hf
      refine⟨?_,fun h=>hf.2 ((s b).2 (.inl h))⟩
      rintro⟨i,c,p⟩
      rcases L i b c p with⟨j,_,m⟩|⟨q,H,M⟩
      ·exact hf.1 ⟨j,c,m⟩
      ·exact hf.2 (F i b c q H M)
     have a0:∀i b c,i<o.length→idxOf a i=none→σ[i]?=some (some (b,c))→¬Own (sigSub σ a) b:=by
      rintro i b c p hn hs ⟨j,d,m⟩
      obtain⟨x,hx,G⟩:=sigSub_some m
      have:=v.dist i x b c d hs G
      grind
     have R:∀b,Own (sigSub σ a) b→Own σ b:=fun b ⟨i,c,p⟩=>by
      obtain⟨x,hx,G⟩:=sigSub_some p
      exact⟨x,c,G⟩
     have O:∀D,D<o.length→∀j,idxOf a D=some j→backN a o.length j=some D:=by
      intro D _ j m
      have B:=(idxOf_spec m).2
      grind[backN]
     have b5:Ext w σ o w' (sigBack σ g a) o':=by
      refine⟨X.size,fun b hb hn=>?_,by omega,fun D c4 a2=>?_,fun D hm=>?_,X.os,X.tape,X.output⟩
      ·obtain⟨q,H⟩:=X.blk b hb fun h=>hn (R b h)
       refine⟨q,?_⟩
       rintro⟨i,c,p⟩
       rcases L i b c p with⟨j,_,m⟩|⟨_,_,M⟩
       ·exact H ⟨j,c,m⟩
       ·exact hn ⟨i,c,M⟩
      ·have V:D<o.length:=by obtain⟨cs,e,sz,Z,ho,_⟩:=a2;grind
       cases hq:idxOf a D with
       |none=>
        obtain⟨l1,l2,_⟩:=a8 D V hq
        refine⟨?_,fun sz b0=>⟨?_,l1⟩⟩
        ·obtain⟨cs,e,sz,Z,ho,hl⟩:=a2
         exact⟨cs,e,sz,Z,by grind,hl⟩
        ·obtain⟨cs,e,Z,ho,hl⟩:=b0
         exact⟨cs,e,Z,by grind,hl⟩
       |some j=>
        have Y:=sub_tr v.len I hq
        have W:=a3 j D (O D V j hq)
        obtain⟨q,H⟩:=X.cur j c4 (Y.lenLe a2)
        refine⟨W.lenLe q,fun sz b0=>?_⟩
        obtain⟨M,h4⟩:=H sz (W.cur q b0)
        exact⟨Y.cur a2 M,by rw[W.2.2,h4,Y.2.2]⟩
      ·have V:D<o.length:=by obtain⟨es,kt,Z,ho⟩:=hm;grind
       cases hq:idxOf a D with
       |none=>
        obtain⟨l1,l2,_⟩:=a8 D V hq
        obtain⟨es,kt,Z,ho⟩:=hm
        exact⟨⟨es,kt,Z,by grind⟩,l1⟩
       |some j=>
        have Y:=sub_tr v.len I hq
        have W:=a3 j D (O D V j hq)
        obtain⟨q,H⟩:=X.isMap j (Y.2.1 hm)
        exact⟨W.2.1 q,by rw[W.2.2,H,Y.2.2]⟩
     refine⟨u,sigBack σ g a,rfl,⟨by omega,fun i k b c d p hk=>?_,fun i b c p=>?_,fun i y hy=>?_,fun i b c p=>?_,fun b hb=>Nat.lt_of_lt_of_le (v.avb b hb) X.size⟩,Rep.ren a6 a3 _ _ _ c0 c7,b5⟩
     ·rcases L i b c p with⟨j,m,E⟩|⟨q,H,M⟩<;>rcases L k b d hk with⟨l,hl,b3⟩|⟨g1,g2,g3⟩
      ·have:=C.dist j l b c d E b3
       grind
      ·exact absurd (F k b d g1 g2 g3) (C.av j b c E)
      ·exact absurd (F i b c q H M) (C.av l b d b3)
      ·exact v.dist i k b c d M g3
     ·rcases L i b c p with⟨j,m,E⟩|⟨q,H,M⟩
      ·exact C.bnd j b c E
      ·exact Nat.lt_of_lt_of_le (v.bnd i b c M) X.size
     ·rcases b8 i (List.getElem?_eq_some_iff.1 hy).1 with⟨j,c9,m⟩|⟨q,H⟩
      ·have hx:=List.getElem?_eq_getElem c9
       obtain⟨z,hz,a4⟩:=renS_get S j _ hx
       obtain⟨Y,W⟩:=b6 j i m
       rw[←W,hy] at a4
       injection a4 with a4
       subst a4
       exact ObjOK.ren a6 a3 hz Y (C.obj j _ hx)
      ·obtain⟨l1,l2,_⟩:=a8 i q H
       rw[l2] at hy
       exact(v.obj i y hy).ext b5 l1 fun b c hb=>(X.blk b (v.bnd i b c hb) (a0 i b c q H hb)).1
     ·rcases L i b c p with⟨j,m,E⟩|⟨q,H,M⟩
      ·exact fun h=>C.av j b c E ((s b).2 (.inl h))
      ·exact v.av i b c M
    ·cases J
  ·cases J
 ·cases J
end
section
variable {P:Program} {A:Clr} {D:List Deferred} {w w':World} {σ σ':Sig} {o o':Store}
theorem call_any {call:Oracle} (b:OracleOK P call) (d:SimO A w σ o) {f:FuncId} {args:List AV} {vs:List Value} (g:RepL A w σ o args vs) {own:Bool} {r:AV} (c:callA call f args o own=some (r,o')):
  goodF P f=true∧Calls P f vs.toArray w fun e w'=>∃u a,e= .returned u∧SimO A w' a o'∧Rep A w' a o' r u∧Ext w σ o w' a o':=by
 grind[callA,call_own,call_pure]
theorem run_callFunc {f:FuncId} (b:goodF P f=true) (args:Array Value) (w:World):(callFunc f args).run P w= .ok (.enter f args) w:=by
 unfold goodF at b
 cases c:P.funcs[f]? with
 |none=>simp_all
 |some a=>
  simp only[c,Option.any_some,Bool.and_eq_true,Bool.not_eq_true'] at b
  have d:a.body.isNone=false:=by simp_all
  have e:¬a.name= "runtime.NumGoroutine" :=by
   simp_all
  have g:¬a.body=none:=by grind
  simp_all[callFunc]
theorem methF_run {name:String} {t:TypeId} {f:FuncId} (h:methF P name t=some f) (v:Value) (w:World) (n:Nat):(method (n+1) t v name).run P w= .ok (f,v) w:=by
 unfold methF at h
 split at h
 ·rename_i fs i hu hi
  split at h
  ·rename_i m hm
   split at h
   ·rename_i g hp hf
    injection h with h;subst h
    simp[method,typeInfo,hi,hm,hp,hf,follow,receiverAt,run_underlying hu,Place.get]
   ·cases h
  ·cases h
 ·cases h
theorem methT_ok {name:String} {t:TypeId} {f:FuncId}:∀{n:Nat},lookM (methL P name n) t=some f→methF P name t=some f
 |0,h=>by simp[methL,lookM] at h
 |n+1,h=>by
  simp only[methL] at h
  split at h
  ·rename_i g hg
   simp only[lookM] at h
   cases hb:Nat.beq n t with
   |true=>
    rw[hb] at h
    simp only[cond_true,Option.some.injEq] at h
    subst h
    rw[←Nat.eq_of_beq_eq_true hb]
    exact hg
   |false=>
    rw[hb] at h
    exact methT_ok h
  ·exact methT_ok h
theorem compOp_call {fl:Bool} {a:Oper} {b:IOp} (e:compOp P fl a=some b) (h:b.isCall=true):
  ∃c:Call,a.op= .call c∧((∃f,c.callee= .value (.func f)∧b= .call f c.args.toList fl)∨(∃x,c.callee= .value x∧b= .callv x c.args.toList fl)∨∃x d,c.callee= .invoke x d∧b= .callm (methT P d) x c.args.toList):=by
 cases g:a.op
 case call c=>
  refine⟨c,rfl,?_⟩
  simp only[compOp,g] at e
  grind[IOp.isCall]
 case buildSlice=>
  grind[compOp,IOp.isCall]
 case slice t x k i j=>
  grind[compOp,IOp.isCall]
 case makeMap t r=>
  grind[compOp,IOp.isCall]
 all_goals
  exfalso
  simp only[compOp,g,reduceCtorEq] at e
  try (repeat' (split at e))<;>first
   |(cases e;done)
   |(injection e with e;subst e;simp[IOp.isCall] at h;done)
   |(obtain⟨_,_,rfl⟩:=Option.map_eq_some_iff.1 e;simp[IOp.isCall] at h;done)
def FR (rnd:Option Nat):Fence:={Fence.wide with round:=rnd}
theorem callsIn_FR {rnd:Option Nat} {n:Nat} {f:FuncId} {args:Array Value} {R:Ending→World→Prop} (h:Calls P f args w R):CallsIn (FR rnd) n P f args w R:=
 (callsIn_wide (n:=n)).2 h
theorem compOp_defer {fl:Bool} {a:Oper} {b:IOp} (d:compOp P fl a=some b) (c:Call):a.op≠ .defer c:=by
 grind[compOp]
theorem op_wp {call:Oracle} (D:OracleOK P call) {fl:Bool} {b:Oper} {C:IOp} (O:compOp P fl b=some C) (W:SimO A w σ o) {p:Operand→AV} {a:Act} (n:∀x,Rep A w σ o (p x) (a.eval x)) {nid:Nat} {v:AV}
  (i:eff call C p o nid=some (v,o')) {m:Act→World→Prop} {Q:Exit→Act→World→Prop}
  (V:∀u w' z,SimO A w' z o'→Rep A w' z o' v u→Ext w σ o w' z o'→m (a.put b.dst u) w') {rnd:Option Nat}:b.wpIn (FR rnd) 0 P a w m Q:=by
 have r:b.semAt (FR rnd).round a.eval=execOp a.eval b:=Oper.semAt_eq _ _ _ (compOp_defer O)
 by_cases R:C.isCall=false
 ·obtain⟨u,Z,G,e,q,X,Y⟩:=eff_gives O R W n i
  unfold Oper.wpIn
  rw[r]
  refine⟨fun _ _=>trivial,?_⟩
  rcases e with e|⟨e,rfl⟩
  ·rw[e]
   exact V u Z G q X Y
  ·rw[e]
   exact V undef Z G q X Y
 ·
  have E:∀(f:FuncId) (l:List AV) (k:List Value) (F:Bool),RepL A w σ o l k→callA call f l o F=some (v,o')→
    (goodF P f=true→(execOp a.eval b).run P w= .ok (.enter f k.toArray) w)→b.wpIn (FR rnd) 0 P a w m Q:=by
   intro f l k F L M J
   obtain⟨s,I⟩:=call_any D W L M
   unfold Oper.wpIn
   rw[r,J s]
   refine⟨fun _ _=>trivial,fun h=>by grind[FR,Fence.wide],(callsIn_FR I).mono ?_⟩
   grind
  obtain⟨c,y,hh⟩:=compOp_call O (by simp_all)
  rw[eff_eq] at i
  rcases hh with⟨f,d,rfl⟩|⟨x,d,rfl⟩|⟨x,H,d,rfl⟩
  ·simp only[effS] at i
   refine E f (c.args.toList.map p) (c.args.toList.map a.eval) fl (repL_map n _) i fun s=>?_
   simp only[execOp,y,resolve,d]
   simp[Act.eval,Deferred.ofValue,invoke,run_callFunc s]
   grind
  ·simp only[effS] at i
   split at i
   ·rename_i g B j K
    have q:=n x
    rw[K] at q
    simp only[Rep] at q
    obtain⟨f',c',S,N,T⟩:=q
    refine E g (B++c.args.toList.map p++j) (f'.toList++c.args.toList.map a.eval++c'.toList) fl (RepL.append (RepL.append N (repL_map n _)) T) i fun s=>?_
    simp only[execOp,y,resolve,d]
    simp[S,fnL,Deferred.ofValue,invoke,run_callFunc s]
   ·cases i
  ·simp only[effS] at i
   split at i
   ·rename_i t cs K
    split at i
    ·rename_i f N
     have q:=n x
     rw[K] at q
     simp only[Rep] at q
     obtain⟨k,S,_,hl⟩:=q
     have L:RepL A w σ o (.agg cs::c.args.toList.map p) (.agg k::c.args.toList.map a.eval):=by
      grind[RepL,Rep,repL_map]
     refine E f _ _ false L i fun s=>?_
     have hm:(method (P.types.size+Made.depth) t (.agg k) H).run P w= .ok (f,.agg k) w:=methF_run (methT_ok N) (.agg k) w (P.types.size+99)
     have hz:(#[Value.iface t (.agg k)]++Array.map a.eval c.args)[0]?=some (Value.iface t (.agg k)):=by grind
     have U:#[Value.agg k]++(Array.map a.eval c.args).extract 0 c.args.size=(Value.agg k::List.map a.eval c.args.toList).toArray:=Array.ext' (by simp;exact List.take_of_length_le (by simp))
     simp only[execOp,y,resolve,d,S]
     simp[invoke,hz,callMethod,hm,run_callFunc s,U]
    ·cases i
   ·cases i
def MkD (b w:World) (a:List Deferred):Prop:=
 a.Pairwise (fun d e=>d.target≠e.target)∧∀d∈a,∃r,d={target:=.collected r,args:=#[]}∧b.heap.size≤r∧w.heap[r]?=some (.deferred (some []))
theorem SimO.notOwn (d:SimO A w σ o) {r:Nat} {x:Obj} (h:w.heap[r]?=some x) (g:∀a b c,x≠ .cells a b c) (l:∀a b,x≠ .map a b):¬Own σ r:=by
 rintro⟨i,c,k⟩
 have f:i<o.length:=by rw[←d.len];grind
 have e:=d.obj i _ (List.getElem?_eq_getElem f)
 cases j:o[i]<;>grind[ObjOK,Prod.mk.injEq]
theorem MkD.ext {c:World} {b:List Deferred} (h:MkD c w b) (e:SimO A w σ o) (i:Ext w σ o w' σ' o'):MkD c w' b:=
 ⟨h.1,fun d g=>by
  obtain⟨r,j,f,a⟩:=h.2 d g
  exact⟨r,j,f,by rw[(i.blk r (Array.getElem?_eq_some_iff.1 a).1 (e.notOwn a (by simp) (by simp))).1];exact a⟩⟩
def DfO (D:List Deferred) (b w:World) (c:List Deferred):Prop:=∃a,c=a++D∧MkD b w a
theorem DfO.ext {b:World} {D a:List Deferred} (h:DfO D b w a) (c:SimO A w σ o) (f:Ext w σ o w' σ' o'):DfO D b w' a:=by
 obtain⟨d,g,e⟩:=h
 exact⟨d,g,e.ext c f⟩
structure Sim (A:Clr) (nt:Nat) (D:List Deferred) (w0:World) (σ0:Sig) (o0:Store) (st:St) (a:Act) (w:World) (σ:Sig):Prop where
 sim:SimO A w σ st.o
 env:∀s,Rep A w σ st.o (getE st.env s) (a.tmps.getD s undef)
 size:a.tmps.size=nt
 defers:DfO D w0 w a.defers
 ext:Ext w0 σ0 o0 w σ st.o
theorem rep_ofVal (v:Value):Rep A w σ o (.ofVal v) v:=by
 cases v<;>simp only[AV.ofVal]<;>try (simp[Rep,Value.oneCell'];done)
 grind[Rep,repL_sc]
theorem Sim.ev {d:Nat} {e:World} {b:Sig} {c:Store} {st:St} {a:Act} (h:Sim A d D e b c st a w σ) (x:Operand):Rep A w σ st.o (evA st.env x) (a.eval x):=by
 cases x with
 |tmp t=>exact h.env t
 |const v=>exact rep_ofVal v
 |global g=>simp[evA,Rep]
 |func f=>simp only[evA,Act.eval,Rep];exact⟨#[],#[],rfl,by simp[RepL],by simp[RepL]⟩
theorem put_getD {a:Act} {b:Option Tmp} {u:Value} {c:Nat} (f:a.tmps.size=c) (e:dstOk c b=true) (s:Nat):
  (a.put b u).tmps.getD s undef=if b=some s then u else a.tmps.getD s undef:=by
 cases b with
 |none=>simp[Act.put]
 |some d=>
  simp only[dstOk,decide_eq_true_eq] at e
  simp only[Act.put,Option.some.injEq]
  by_cases h:d=s<;>simp_all
theorem put_size (a:Act) (b:Option Tmp) (u:Value):(a.put b u).tmps.size=a.tmps.size∧(a.put b u).defers=a.defers:=by
 cases b<;>simp[Act.put]
theorem getE_put (env:EnvA) (a:Option Nat) (v:AV) (s:Nat):getE (putE env a v) s=if a=some s then v else getE env s:=by
 cases a with
 |none=>simp[putE]
 |some d=>
  simp_all[putE,getE]
theorem Sim.put {e:Nat} {g:World} {c:Sig} {f:Store} {st:St} {a:Act} (h:Sim A e D g c f st a w σ) (k:SimO A w' σ' o') (d:Ext w σ st.o w' σ' o') {b:Option Tmp} (i:dstOk e b=true) {v:AV} {u:Value} (j:Rep A w' σ' o' v u):
  Sim A e D g c f ⟨putE st.env b v,o'⟩ (a.put b u) w' σ' where
 sim:=k
 env:=fun s=>by
  simp only[getE_put,put_getD h.size i]
  split
  ·exact j
  ·exact(h.env s).ext d
 size:=by rw[(put_size _ _ _).1];exact h.size
 defers:=by rw[(put_size _ _ _).2];exact h.defers.ext h.sim d
 ext:=h.ext.trans d
theorem wanted_of {x:Nat} {v:World} {l:Sig} {p:Store} {st:St} {a:Act} (h:Sim A x D v l p st a w σ) {f:Array Oper} {d:Oper} {b:Bool}
  (e:wantA st.env (d.guard.map fun g=>(((f[g.1]?).bind (·.dst)),g.2))=some b):Region.wanted d (yielded f a.tmps)=b:=by
 unfold Region.wanted
 cases u:d.guard with
 |none=>grind[wantA]
 |some g=>
  obtain⟨j,q⟩:=g
  simp only[u,Option.map_some,wantA] at e
  cases n:(f[j]?).bind (·.dst) with
  |none=>simp_all
  |some s=>
   simp only[n] at e
   have i:=h.env s
   simp only[yielded,n,Option.bind_some]
   split at e
   ·rename_i c m
    injection e with e
    rw[m] at i
    have k:=rep_sc i
    have o:a.tmps[s]?=some (.bool c):=by
     rw[Array.getD_eq_getD_getElem?] at k
     grind[undef]
    simp_all
   ·rename_i m
    injection e with e
    rw[m] at i
    simp only[Rep,RepL] at i
    obtain⟨r,k,o⟩:=i
    have t:r=#[]:=Array.ext' (by omega)
    subst t
    have o:a.tmps[s]?=some (.tuple #[])∨a.tmps[s]?=none:=by
     rw[Array.getD_eq_getD_getElem?] at k
     grind
    grind
   ·cases e
theorem runOp_wp {call:Oracle} (e:OracleOK P call) {j:Nat} {fl:List Nat} {c:Array Oper} {nid k:Nat} {i:IOper} (f:compOper P j fl c nid k=some i) {base:Nat} {st st':St} (b:runOp call base i st=some st')
  {t:World} {g:Sig} {p:Store} {a:Act} (h:Sim A j D t g p st a w σ) {K:Act→World→Prop} {Q:Exit→Act→World→Prop} (o:∀s w' d,Sim A j D t g p st' s w' d→K s w') {rnd:Option Nat}:wpOpIn (FR rnd) 0 P c Q k K a w:=by
 unfold compOper at f
 cases q:c[k]? with
 |none=>simp_all
 |some n=>
  simp only[q] at f
  split at f
  ·rename_i r
   obtain⟨E,l,rfl⟩:=Option.map_eq_some_iff.1 f
   unfold wpOpIn
   simp only[q]
   simp only[runOp] at b
   split at b
   ·cases b
   ·rename_i m
    have:=wanted_of h m
    rw[this]
    injection b with b
    subst b
    simp only[Bool.false_eq_true,if_false]
    exact⟨fun _ _=>trivial,o _ _ σ (h.put h.sim (Ext.refl _ _ _) r (by simp only[Rep];exact⟨#[],rfl,by simp[RepL]⟩))⟩
   ·rename_i m
    have:=wanted_of h m
    rw[this]
    simp only[if_true]
    split at b
    ·rename_i v C z
     injection b with b
     subst b
     exact op_wp e l h.sim h.ev z fun u w' d B x y=>o _ _ d (h.put B y r x)
    ·cases b
  ·cases f
theorem runOps_wp {call:Oracle} (c:OracleOK P call) {o:Nat} {fl:List Nat} {f:Array Oper} {base:Nat} {u:World} {g:Sig} {s:Store} {Q:Exit→Act→World→Prop} {rnd:Option Nat}:
  ∀(l:List IOper) (b:List Nat),l.length=b.length→(∀(j:Nat) (i:IOper) (k:Nat),l[j]?=some i→b[j]?=some k→∃nid,compOper P o fl f nid k=some i)→∀(st st':St) (a:Act) (w:World) (σ:Sig),
   runOps call base l st=some st'→Sim A o D u g s st a w σ→(∀m w' d,Sim A o D u g s st' m w' d→Q .normal m w')→wpOpsIn (FR rnd) 0 P f Q b a w
 |[],[],_,_,st,st',a,w,σ,e,h,p=>by
  simp only[runOps,Option.some.injEq] at e
  subst e
  exact p a w σ h
 |[],_::_,n,_,_,_,_,_,_,_,_,_=>by simp at n
 |_::_,[],n,_,_,_,_,_,_,_,_,_=>by simp at n
 |i::l,k::b,n,t,st,st',a,w,σ,e,h,p=>by
  simp only[runOps] at e
  split at e
  ·rename_i q v
   obtain⟨nid,r⟩:=t 0 i k (by simp) (by simp)
   rw[wpOpsIn_cons]
   exact runOp_wp c r v h fun m w' d y=>runOps_wp c l b (by simp_all) (fun j z x C B=>t (j+1) z x (by simp_all) (by simp_all)) q st' m w' d e y p
  ·cases e
theorem compOpers_get {d:Nat} {fl:List Nat} {b:Array Oper}:∀{k:Nat} {a:List Nat} {l:List IOper} {n:Nat},compOpers P d fl b k a=some (l,n)→
  l.length=a.length∧(∀(j:Nat) (i:IOper) (q:Nat),l[j]?=some i→a[j]?=some q→∃nid,compOper P d fl b nid q=some i)
 |k,[],l,n,h=>by grind[compOpers]
 |k,i::r,l,n,h=>by
  simp only[compOpers] at h
  split at h
  ·cases h
  ·rename_i x o
   split at h
   ·cases h
   ·rename_i g m c
    simp only[Option.some.injEq,Prod.mk.injEq] at h
    obtain⟨rfl,_⟩:=h
    obtain⟨e,f⟩:=compOpers_get c
    grind
end
section
variable {call:Oracle} {ρ ρ2:Operand→AV} {nid:Nat}
theorem eff_pure {a:IOp} (d:a.cls=0) (o o2:Store):effS call a ρ o2 nid=(effS call a ρ o nid).map fun p=>(p.1,o2):=by
 cases a<;>try (simp[IOp.cls] at d;done)
 case call f c b=>cases b<;>simp[IOp.cls] at d
 case callv f c b=>cases b<;>simp[IOp.cls] at d
 all_goals simp only[effS]
 all_goals (repeat' split)<;>simp_all [Option.map_map,Function.comp_def]
theorem eff_pure_o {a:IOp} (b:a.cls=0) {o o':Store} {v:AV} (h:effS call a ρ o nid=some (v,o')):o'=o:=by
 grind[eff_pure]
theorem behind_congr {o o2:Store} {a:AV} (h:∀j∈tchAV a,o2[j]?=o[j]?):behind o2 a=behind o a:=by
 cases a<;>simp only[behind]
 grind[tchAV]
theorem elemsA_congr {o o2:Store} {sz:Nat} {a:AV} (h:∀j∈tchAV a,o2[j]?=o[j]?):elemsA o2 sz a=elemsA o sz a:=by
 cases a with
 |os e d b c=>grind[elemsA,tchAV]
 |sc v=>unfold elemsA;grind
 |_=>rfl
theorem idxSA_congr {o o2:Store} {sz:Nat} {a:AV} {i:Int} (h:∀j∈tchAV a,o2[j]?=o[j]?):idxSA o2 sz a i=idxSA o sz a i:=by
 cases a<;>simp only[idxSA]
 grind[tchAV]
theorem sliceA_congr {o o2:Store} {sz:Nat} {a:AV} {lo b:Option AV} (h:∀j∈tchAV a,o2[j]?=o[j]?):sliceA o2 sz a lo b=sliceA o sz a lo b:=by
 cases a with
 |os f e c d=>grind[sliceA,tchAV]
 |sc v=>unfold sliceA;grind
 |_=>rfl
theorem sliceA3_congr {o o2:Store} {sz:Nat} {a:AV} {lo:Option AV} {b mx:AV} (h:∀j∈tchAV a,o2[j]?=o[j]?):sliceA3 o2 sz a lo b mx=sliceA3 o sz a lo b mx:=by
 cases a<;>grind[id,sliceA3,tchAV]
theorem lenA_congr {o o2:Store} {k:Nat} {a:AV} (h:∀j∈tchAV a,o2[j]?=o[j]?):lenA o2 k a=lenA o k a:=by
 cases a with
 |mp b=>
  match k with
  |0=>rfl
  |1=>rfl
  |2=>grind[lenA,tchAV]
  |_+3=>rfl
 |_=>unfold lenA;split<;>first|rfl|(simp_all;done)
theorem flatMap_congr' {c e:Type} {f g:c→List e}:∀{l:List c},(∀a∈l,f a=g a)→l.flatMap f=l.flatMap g
 |[],_=>rfl
 |a::l,h=>by
  simp only[List.flatMap_cons]
  rw[h a (by simp),flatMap_congr' fun b d=>h b (by simp[d])]
theorem mapM_congr' {c e:Type} {f g:c→Option e}:∀{l:List c},(∀a∈l,f a=g a)→l.mapM f=l.mapM g
 |[],_=>rfl
 |a::l,h=>by
  rw[List.mapM_cons,List.mapM_cons,h a (by simp),mapM_congr' fun b d=>h b (by simp[d])]
theorem freeze_congr {o o2:Store}:∀(d:Nat) (a:AV),(∀j∈tchF o d a,o2[j]?=o[j]?)→freeze o2 d a=freeze o d a∧tchF o2 d a=tchF o d a
 |0,a,_=>by cases a<;>simp[freeze,tchF]
 |d+1,a,h=>by
  cases a with
  |agg i=>
   simp only[tchF,List.mem_flatMap,forall_exists_index,and_imp] at h
   have l:=fun c g=>freeze_congr d c (fun j b=>h j c g b)
   grind[freeze,tchF,mapM_congr',flatMap_congr']
  |tup i=>
   simp only[tchF,List.mem_flatMap,forall_exists_index,and_imp] at h
   have l:=fun c g=>freeze_congr d c (fun j b=>h j c g b)
   grind[freeze,tchF,mapM_congr',flatMap_congr']
  |fn f x y=>
   simp only[tchF,List.mem_append,List.mem_flatMap] at h
   have v:=fun c g=>freeze_congr d c (fun j b=>h j (.inl ⟨c,g,b⟩))
   have z:=fun c g=>freeze_congr d c (fun j b=>h j (.inr ⟨c,g,b⟩))
   grind[freeze,tchF,mapM_congr',flatMap_congr']
  |os k q s n=>
   have r:=h k (by simp[tchF])
   simp only[freeze,tchF]
   rw[r]
   cases p:o[k]? with
   |none=>simp_all
   |some x=>
    cases x with
    |dead=>simp_all
    |map w t m=>simp_all
    |cells i e u m=>
     cases m with
     |true=>simp_all
     |false=>
      simp only[tchF,p,List.mem_cons,Bool.false_eq_true,if_false,List.mem_flatMap] at h
      have l:=fun c g=>freeze_congr d c (fun j b=>h j (.inr ⟨c,g,b⟩))
      simp_all[mapM_congr',flatMap_congr']
  |_=>simp[freeze,tchF]
theorem callA_pure {f:FuncId} {args:List AV} {o o2:Store} (h:∀j∈args.flatMap (tchF o 6),o2[j]?=o[j]?):
  callA call f args o2 false=(callA call f args o false).map (fun p=>(p.1,o2))∧args.flatMap (tchF o2 6)=args.flatMap (tchF o 6):=by
 simp only[List.mem_flatMap,forall_exists_index,and_imp] at h
 have d:=fun c a=>freeze_congr 6 c (fun j e=>h j c a e)
 have b:args.flatMap (tchF o2 6)=args.flatMap (tchF o 6):=flatMap_congr' fun c a=>(d c a).2
 refine⟨?_,b⟩
 unfold callA
 rw[if_neg (by simp),if_neg (by simp),b,mapM_congr' fun c a=>(d c a).1]
 grind
theorem eff_reads {b:IOp} (w:b.cls=1) {o o2:Store} (h:∀j∈tch b ρ o nid,o2[j]?=o[j]?):
  effS call b ρ o2 nid=(effS call b ρ o nid).map (fun p=>(p.1,o2))∧tch b ρ o2 nid=tch b ρ o nid:=by
 cases b<;>try (simp[IOp.cls] at w;done)
 case load n a=>
  simp only[effS,tch] at h ⊢
  rw[behind_congr h]
  refine⟨?_,trivial⟩
  split<;>simp[Option.map_map,Function.comp_def]
 case idxS l x i=>
  simp only[effS,tch] at h ⊢
  refine⟨?_,trivial⟩
  split
  ·rw[idxSA_congr h];simp_all[Function.comp_def]
  ·rfl
 case slice l x q y=>
  simp only[effS,tch] at h ⊢
  refine⟨?_,trivial⟩
  rw[sliceA_congr h];simp_all[Function.comp_def]
 case slice3 l x q y A=>
  simp only[effS,tch] at h ⊢
  refine⟨?_,trivial⟩
  rw[sliceA3_congr h];simp_all[Function.comp_def]
 case len k x=>
  simp only[effS,tch] at h ⊢
  refine⟨?_,trivial⟩
  rw[lenA_congr h];simp_all[Function.comp_def]
 case lookup z m F D x k C=>
  simp only[effS,tch] at h ⊢
  refine⟨?_,trivial⟩
  split<;>grind[id,tchAV]
 case callm r x c=>
  simp only[effS,tch] at h ⊢
  split
  ·rename_i t B u
   simp only[u] at h ⊢
   refine⟨?_,(callA_pure (call:=call) (f:=0) h).2⟩
   grind[callA_pure]
  simp_all
 case call f c d=>
  cases d<;>grind[effS,tch,callA_pure,IOp.cls]
 case callv f c d=>
  cases d
  ·simp only[effS,tch] at h ⊢
   split
   ·grind[callA_pure]
   ·rename_i s
    refine⟨rfl,?_⟩
    split
    ·rename_i E g e v
     simp only[v] at h ⊢
     exact(callA_pure (call:=call) (f:=0) h).2
    ·rfl
  grind[IOp.cls]
theorem eff_reads_o {a:IOp} (b:a.cls=1) {o o':Store} {v:AV} (h:effS call a ρ o nid=some (v,o')):o'=o:=by
 have:=(eff_reads (call:=call) (ρ:=ρ) (nid:=nid) b (o:=o) (o2:=o) fun _ _=>rfl).1
 grind
theorem set_same {o:Store} {id:Nat}:o.set id ((o[id]?).getD .dead)=o:=by
 apply List.ext_getElem?
 grind
theorem eff_writes {d:IOp} (H:d.cls=2) {o o':Store} {v:AV} (b:effS call d ρ o nid=some (v,o')):
  ∃id x,id∈wrt d ρ o nid∧o'=o.set id x∧∀o2,(∀j∈tch d ρ o nid,o2[j]?=o[j]?)→
   effS call d ρ o2 nid=some (v,o2.set id x)∧tch d ρ o2 nid=tch d ρ o nid∧wrt d ρ o2 nid=wrt d ρ o nid:=by
 have C:∀{x:AObj} {g:AV} {v:AV} {o':Store},(mkO nid x o).map (fun o'=>(g,o'))=some (v,o')→v=g∧o'=o.set nid x∧∀o2:Store,o2[nid]?=o[nid]?→(mkO nid x o2).map (fun o'=>(g,o'))=some (v,o2.set nid x):=by
  grind[mkO]
 cases d<;>try (simp[IOp.cls] at H;done)
 case alloc z e y=>
  simp only[effS,tch,wrt] at b ⊢
  grind
 case box e x=>
  simp only[effS,tch,wrt] at b ⊢
  grind
 case mkrow z D E e A=>
  simp only[effS,tch,wrt] at b ⊢
  grind
 case mkslice z e A q l c y=>
  simp only[effS,tch,wrt] at b ⊢
  grind
 case mkmap Q y=>
  simp only[effS,tch,wrt] at b ⊢
  grind
 case store n a x=>
  simp only[effS,tch,wrt] at b ⊢
  split at b
  ·rename_i id R G J
   split at b
   ·rename_i L e A y K
    split at b
    ·rename_i p
     simp only[Option.some.injEq,Prod.mk.injEq] at b
     obtain⟨rfl,rfl⟩:=b
     refine⟨id,_,by simp[J,tchAV],rfl,fun o2 h=>⟨?_,trivial,trivial⟩⟩
     have U:=h id (by simp[J,tchAV])
     grind
    ·cases b
   ·cases b
  ·cases b
 case append e A q s x y=>
  simp only[effS,tch,wrt] at b ⊢
  unfold appendA at b
  split at b
  ·cases b
  ·rename_i m F P
   split at b
   ·cases b
   ·rename_i N
    have t:∀o2:Store,(∀j∈nid::(tchAV (ρ s)++tchAV (ρ x)),o2[j]?=o[j]?)→elemsA o2 A (ρ x)=some (m,F):=fun o2 h=>by
     grind[elemsA_congr]
    split at b
    ·rename_i B
     split at b
     ·rename_i I
      simp only[Option.some.injEq,Prod.mk.injEq] at b
      obtain⟨rfl,rfl⟩:=b
      refine⟨nid,(o[nid]?).getD .dead,by simp,set_same.symm,fun o2 h=>⟨?_,trivial,trivial⟩⟩
      rw[←h nid (by simp),set_same]
      simp_all[appendA]
     ·split at b
      ·rename_i I p
       obtain⟨rfl,rfl,h3⟩:=C b
       refine⟨nid,_,by simp,rfl,fun o2 h=>⟨?_,trivial,trivial⟩⟩
       simp_all[appendA]
      ·cases b
    ·rename_i id D G B
     split at b
     ·rename_i L e' S O K
      split at b
      ·rename_i p
       simp only[Option.some.injEq,Prod.mk.injEq] at b
       obtain⟨rfl,rfl⟩:=b
       refine⟨id,_,by simp[B,tchAV],rfl,fun o2 h=>⟨?_,trivial,trivial⟩⟩
       unfold appendA
       rw[t o2 h]
       have U:=h id (by simp[B,tchAV])
       simp_all
      ·cases b
     ·cases b
    ·rename_i n L B
     split at b
     ·rename_i I
      simp only[Option.some.injEq,Prod.mk.injEq] at b
      obtain⟨rfl,rfl⟩:=b
      refine⟨nid,(o[nid]?).getD .dead,by simp,set_same.symm,fun o2 h=>⟨?_,trivial,trivial⟩⟩
      rw[←h nid (by simp),set_same]
      simp_all[appendA]
     ·cases b
    ·cases b
 case mapset W X x k v'=>
  simp only[effS,tch,wrt] at b ⊢
  split at b
  ·rename_i id Y M V
   split at b
   ·rename_i Z Q y K
    split at b
    ·cases b
    ·rename_i p
     split at b
     ·rename_i i w T
      simp only[Option.some.injEq,Prod.mk.injEq] at b
      obtain⟨rfl,rfl⟩:=b
      refine⟨id,_,by simp[M,tchAV],rfl,fun o2 h=>⟨?_,trivial,trivial⟩⟩
      simp_all[tchAV]
     ·rename_i T
      simp only[Option.some.injEq,Prod.mk.injEq] at b
      obtain⟨rfl,rfl⟩:=b
      refine⟨id,_,by simp[M,tchAV],rfl,fun o2 h=>⟨?_,trivial,trivial⟩⟩
      simp_all[tchAV]
     ·cases b
   ·cases b
  ·cases b
 case call f u r=>cases r<;>simp[IOp.cls] at H
 case callv f u r=>cases r<;>simp[IOp.cls] at H
theorem reachF_mono (o:Store):∀(d:Nat) (vs:List AV) (acc:List Nat) (j:Nat),j∈acc→j∈reachF o d vs acc
 |0,vs,acc,j,h=>by grind[reachF]
 |d+1,[],acc,j,h=>by simp_all[reachF]
 |d+1,v::vs,acc,j,h=>by
  rw[reachF_cons]
  apply reachF_mono o d
  have e:∀c,j∈visitR o d c acc:=by
   intro c
   unfold visitR
   split
   ·exact h
   ·split
    ·split
     ·simp[h]
     ·exact reachF_mono o d _ _ j (by simp[h])
    ·split
     ·simp[h]
     ·exact reachF_mono o d _ _ j (by simp[h])
    ·simp[h]
  cases v with
  |agg g=>exact reachF_mono o d _ _ j h
  |tup g=>exact reachF_mono o d _ _ j h
  |ptr c _ _=>exact e c
  |os c _ _ _=>exact e c
  |mp c=>exact e c
  |fn f a b=>exact reachF_mono o d _ _ j (reachF_mono o d _ _ j h)
  |_=>exact h
theorem visitR_mem (o:Store) (d id:Nat) (acc:List Nat):id∈visitR o d id acc:=by
 grind[visitR,reachF_mono]
theorem reachF_congr {o o2:Store}:∀(d:Nat) (vs:List AV) (acc:List Nat),(∀j∈reachF o d vs acc,o2[j]?=o[j]?)→reachF o2 d vs acc=reachF o d vs acc
 |0,vs,acc,_=>by grind[reachF]
 |d+1,[],acc,_=>by simp[reachF]
 |d+1,v::vs,acc,h=>by
  rw[reachF_cons] at h
  rw[reachF_cons,reachF_cons]
  have m:∀c,(∀j∈visitR o d c acc,o2[j]?=o[j]?)→visitR o2 d c acc=visitR o d c acc:=by
   intro c g
   have r:=g c (visitR_mem o d c acc)
   unfold visitR at g ⊢
   split
   ·rfl
   ·rename_i q
    rw[if_neg q] at g
    rw[r]
    cases p:o[c]? with
    |none=>rfl
    |some x=>
     rw[p] at g
     cases x with
     |dead=>rfl
     |cells l e w n=>
      cases n with
      |true=>rfl
      |false=>exact reachF_congr d _ _ g
     |map s u n=>
      cases n with
      |true=>rfl
      |false=>exact reachF_congr d _ _ g
  have k:stepR o2 d v acc=stepR o d v acc:=by
   have i:=fun j g=>h j (reachF_mono o d vs _ j g)
   cases v with
   |agg l=>exact reachF_congr d l acc i
   |tup l=>exact reachF_congr d l acc i
   |ptr c _ _=>exact m c i
   |os c _ _ _=>exact m c i
   |mp c=>exact m c i
   |fn f a b=>
    have y:reachF o2 d a acc=reachF o d a acc:=reachF_congr d a acc fun j g=>i j (reachF_mono o d b _ j g)
    have t:reachF o2 d b (reachF o d a acc)=reachF o d b (reachF o d a acc):=reachF_congr d b _ i
    grind[stepR]
   |_=>rfl
  rw[k]
  exact reachF_congr d vs _ h
theorem subStore_congr {o o2:Store} {a:List Nat}:∀{r:List Nat},(∀j∈r,o2[j]?=o[j]?)→subStore o2 a r=subStore o a r
 |[],_=>rfl
 |i::r,h=>by
  simp only[subStore]
  rw[h i (by simp),subStore_congr fun j b=>h j (by simp[b])]
theorem putBack_eq:∀(a:List Nat) (o o2 X:Store) (j:Nat),o2.length=o.length→a.length=X.length→(j∈a∨o2[j]?=o[j]?)→(putBack o2 a X)[j]?=(putBack o a X)[j]?
 |[],o,o2,X,j,_,_,h=>by grind[putBack]
 |i::r,o,o2,[],j,_,c,_=>by simp at c
 |i::r,o,o2,x::l,j,b,c,h=>by
  simp only[putBack]
  refine putBack_eq r _ _ l j (by simp[b]) (by simp_all) ?_
  grind
theorem callOwn_loc {f:FuncId} {args:List AV} {o o':Store} {r:AV} (h:callOwn call f args o=some (r,o')):
  o.length≤o'.length∧(∀j,j<o.length→j∉reachF o reachD args []→o'[j]?=o[j]?)∧
  ∀o2:Store,o2.length=o.length→(∀j∈reachF o reachD args [],o2[j]?=o[j]?)→∃g,callOwn call f args o2=some (r,g)∧
   reachF o2 reachD args []=reachF o reachD args []∧∀j,(j∈reachF o reachD args []∨o.length≤j)→g[j]?=o'[j]?:=by
 have b:∀o2:Store,(∀j∈reachF o reachD args [],o2[j]?=o[j]?)→reachF o2 reachD args []=reachF o reachD args []:=fun o2 h=>reachF_congr reachD args [] h
 have e:∀o2:Store,(∀j∈reachF o reachD args [],o2[j]?=o[j]?)→subStore o2 (reachF o reachD args []) (reachF o reachD args [])=subStore o (reachF o reachD args []) (reachF o reachD args []):=fun o2 h=>subStore_congr h
 unfold callOwn at h
 simp only at h
 generalize q:reachF o reachD args []=a at h b e
 split at h
 ·rename_i m l v y
  split at h
  ·rename_i B i n
   split at h
   ·cases h
   ·rename_i d
    split at h
    ·rename_i A c x t
     simp only[Option.some.injEq,Prod.mk.injEq] at h
     obtain⟨rfl,rfl⟩:=h
     simp only[not_or] at d
     have u:=renS_length t
     have z:a.length=(c.take a.length).length:=by simp;omega
     refine⟨by simp[putBack_length],fun j s w=>?_,fun o2 p k=>?_⟩
     ·grind[putBack_length,putBack_ne]
     ·refine⟨putBack o2 a (c.take a.length)++c.drop a.length,?_,b o2 k,fun j s=>?_⟩
      ·unfold callOwn
       grind
      grind[putBack_length,putBack_eq]
    ·cases h
  ·cases h
 ·cases h
end
end Go.Vi

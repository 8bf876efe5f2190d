/-
  The abstract interpreter: every operation that is no call does what the model's does.
  Conditions: none.
-/
import Derived.Test.YtoifpgeocpjneaaDD02
import Derived.OrdersIn
import Derived.AtR
set_option maxRecDepth 100000
set_option maxHeartbeats 4000000
set_option linter.unusedSimpArgs false
set_option linter.unusedVariables false
namespace Go.Vi
def IOp.isCall:IOp→Bool
 | .call .. | .callv .. =>true
 |_=>false
section
variable {P:Program} {A:Clr} {w w':World} {σ σ':Sig} {o o':Store} {ρA:Operand→AV} {ρC:Operand→Value} {oper:Oper} {v:AV}
theorem pair_map {α:Type} {x:Option α} {f:α→AV×Store} {p:AV×Store} (h:x.map f=some p):∃a,x=some a∧f a=p:=by
 simpa[Option.map_eq_some_iff] using h
theorem eff_gives {call:Oracle} {fl:Bool} {iop:IOp} {nid:Nat} (hc:compOp P fl oper=some iop) (hnc:iop.isCall=false) (hS:SimO A w σ o) (hρ:∀x,Rep A w σ o (ρA x) (ρC x))
  (he:eff call iop ρA o nid=some (v,o')):Gives A P ρC oper w σ o v o':=by
 rw[eff_eq] at he
 unfold compOp at hc
 split at hc
 ·
  rename_i x hop
  injection hc with hc;subst hc
  simp only[effS,Option.some.injEq,Prod.mk.injEq] at he
  obtain⟨rfl,rfl⟩:=he
  exact g_mov hS hρ (.inl hop)
 ·rename_i x hop
  injection hc with hc;subst hc
  simp only[effS,Option.some.injEq,Prod.mk.injEq] at he
  obtain⟨rfl,rfl⟩:=he
  exact g_mov hS hρ (.inr hop)
 ·rename_i c a b hop
  injection hc with hc;subst hc
  simp only[effS] at he
  split at he
  ·rename_i hcc
   simp only[Option.some.injEq,Prod.mk.injEq] at he
   obtain⟨rfl,rfl⟩:=he
   exact g_pick (t:=true) hS hρ hop hcc
  ·rename_i hcc
   simp only[Option.some.injEq,Prod.mk.injEq] at he
   obtain⟨rfl,rfl⟩:=he
   exact g_pick (t:=false) hS hρ hop hcc
  ·cases he
 ·rename_i e hop
  obtain⟨z,hz,rfl⟩:=Option.map_eq_some_iff.1 hc
  simp only[effS] at he
  obtain⟨o2,hm,h2⟩:=pair_map he
  obtain⟨hd,rfl⟩:=mkO_some hm
  simp only[Prod.mk.injEq] at h2
  obtain⟨rfl,rfl⟩:=h2
  exact g_alloc hS hop hz hd
 ·rename_i e x hop
  injection hc with hc;subst hc
  simp only[effS] at he
  split at he
  ·rename_i h1
   obtain⟨o2,hm,h2⟩:=pair_map he
   obtain⟨hd,rfl⟩:=mkO_some hm
   simp only[Prod.mk.injEq] at h2
   obtain⟨rfl,rfl⟩:=h2
   exact g_box hS hρ hop h1 hd
  ·cases he
 ·
  rename_i t parts hop
  split at hc
  ·rename_i z fields hz ht
   split at hc
   ·rename_i places hpl
    obtain⟨ps,hps,rfl⟩:=Option.map_eq_some_iff.1 hc
    simp only[effS] at he
    obtain⟨cs,hf,h2⟩:=pair_map he
    simp only[Prod.mk.injEq] at h2
    obtain⟨rfl,rfl⟩:=h2
    obtain⟨hl,hg⟩:=optAll_get hps
    refine g_build (place:=fun i=>places[i]?) hS hρ hop hz (fun zv hzv l=>?_) hl.symm (fun i p q hp hq=>?_) hf
    ·cases hi:P.info? t with
     |none=>simp[hi] at hzv
     |some i=>
      simp[hi] at hzv
      unfold placesT at hpl
      simp[Program.built,hi,ht,hzv,hpl]
    ·have:=hg i p q hp hq
     simp only[placeT,Option.map_eq_some_iff] at this
     obtain⟨r,h1,rfl⟩:=this
     exact⟨h1,rfl⟩
   ·cases hc
  ·rename_i z k e hz ht
   obtain⟨n,hn,rfl⟩:=Option.map_eq_some_iff.1 hc
   simp only[effS] at he
   obtain⟨cs,hf,h2⟩:=pair_map he
   simp only[Prod.mk.injEq] at h2
   obtain⟨rfl,rfl⟩:=h2
   refine g_build (place:=fun i=>some (i*n,n)) hS hρ hop hz (fun zv hzv l=>?_) (by simp) (fun i p q hp hq=>?_) hf
   ·cases hi:P.info? t with
    |none=>simp[hi] at hzv
    |some i=>
     simp[hi] at hzv
     cases hie:P.info? e with
     |none=>simp[sizeT,hie] at hn
     |some ie=>
      simp[sizeT,hie] at hn
      simp[Program.built,hi,ht,hzv,hie,hn]
   ·rw[List.getElem?_map,hp] at hq
    simp at hq
    subst hq
    exact⟨rfl,rfl⟩
  ·cases hc
 ·
  rename_i t len parts hop
  split at hc
  ·rename_i e ht
   split at hc
   ·rename_i z hz
    split at hc
    ·rename_i hcond
     injection hc with hc;subst hc
     split at he
     ·simp only[effS] at he
      split at he
      ·rename_i cs hf
       split at he
       ·rename_i hp
        simp only[Option.some.injEq,Prod.mk.injEq] at he
        obtain⟨rfl,rfl⟩:=he
        exact g_mkimm hS hρ hop ht hz hcond.2 hcond.1 hf hp
       ·cases he
      ·cases he
     ·simp only[effS] at he
      split at he
      ·rename_i cs hf
       obtain⟨o2,hm,h2⟩:=pair_map he
       obtain⟨hd,rfl⟩:=mkO_some hm
       simp only[Prod.mk.injEq] at h2
       obtain⟨rfl,rfl⟩:=h2
       exact g_mkrow hS hρ hop ht hz hcond.2 hcond.1 hf hd
      ·cases he
    ·cases hc
   ·cases hc
  ·cases hc
 ·
  rename_i t a hop
  obtain⟨n,hn,rfl⟩:=Option.map_eq_some_iff.1 hc
  simp only[effS] at he
  split at he
  ·rename_i cs off hb
   obtain⟨a',hp,h2⟩:=pair_map he
   simp only[Prod.mk.injEq] at h2
   obtain⟨rfl,rfl⟩:=h2
   exact g_load hS hρ hop hn hb hp
  ·cases he
 ·
  rename_i t a x hop
  obtain⟨n,hn,rfl⟩:=Option.map_eq_some_iff.1 hc
  simp only[effS] at he
  split at he
  ·rename_i id off tot ha
   split at he
   ·rename_i cs e sz pu ho
    split at he
    ·rename_i hcond
     simp only[Option.some.injEq,Prod.mk.injEq] at he
     obtain⟨rfl,rfl⟩:=he
     obtain⟨c1,c2,c3,c4,c5⟩:=hcond
     exact g_store hS hρ hop hn ha ho c1 c2 c3 c4 c5
    ·cases he
   ·cases he
  ·cases he
 ·
  rename_i x hop
  injection hc with hc;subst hc
  simp only[effS] at he
  have hx:=hρ x
  split at he
  ·rename_i a b c hxa
   simp only[Option.some.injEq,Prod.mk.injEq] at he
   obtain⟨rfl,rfl⟩:=he
   rw[hxa] at hx
   simp only[Rep] at hx
   obtain⟨_,⟨p,hp⟩,_⟩:=hx
   rw[←hxa]
   exact g_nilc hS hρ hop hp
  ·rename_i a b hxa
   simp only[Option.some.injEq,Prod.mk.injEq] at he
   obtain⟨rfl,rfl⟩:=he
   rw[hxa] at hx
   simp only[Rep] at hx
   obtain⟨p,hp,_⟩:=hx
   rw[←hxa]
   exact g_nilc hS hρ hop hp
  ·cases he
 ·
  rename_i op t x y t' hop
  have hbin:∀(h:iop= .bin op x y),Gives A P ρC oper w σ o v o':=by
   intro h
   subst h
   simp only[effS] at he
   split at he
   ·rename_i a b ha hb
    obtain⟨r,hr,h2⟩:=pair_map he
    simp only[Prod.mk.injEq] at h2
    obtain⟨rfl,rfl⟩:=h2
    exact g_bin hS hρ hop ha hb hr
   ·cases he
  have heq:∀(neg:Bool),(op= .eql∧neg=false)∨(op= .neq∧neg=true)→
    (match P.underlying t with
     |some (.struct _)|some (.array _ _)=>if 20≤P.depth then(kindsT P 20 t).map fun ks=>IOp.eqf neg ks x y else none
     |some .bool=>some (.beq neg x y)
     |some (.int _)|some .string=>some (.bin op x y)
     |_=>none)=some iop→Gives A P ρC oper w σ o v o':=by
   intro neg hn hc
   have hagg:isAggT P t=some true→(if 20≤P.depth then(kindsT P 20 t).map fun ks=>IOp.eqf neg ks x y else none)=some iop→Gives A P ρC oper w σ o v o':=by
    intro hag hc
    split at hc
    ·rename_i hD
     obtain⟨ks,hk,rfl⟩:=Option.map_eq_some_iff.1 hc
     simp only[effS] at he
     split at he
     ·rename_i a b ha hb
      obtain⟨r,hr,h2⟩:=pair_map he
      simp only[Prod.mk.injEq] at h2
      obtain⟨rfl,rfl⟩:=h2
      exact g_eqf hS hρ hop hn hag hk hD ha hb hr
     ·cases he
    ·cases hc
   split at hc
   ·rename_i hu;exact hagg (by simp[isAggT,hu]) hc
   ·rename_i hu;exact hagg (by simp[isAggT,hu]) hc
   ·rename_i hu
    injection hc with hc;subst hc
    simp only[effS] at he
    split at he
    ·rename_i a b ha hb
     simp only[Option.some.injEq,Prod.mk.injEq] at he
     obtain⟨rfl,rfl⟩:=he
     exact g_beq hS hρ hop hn hu ha hb
    ·cases he
   ·injection hc with hc;exact hbin hc.symm
   ·injection hc with hc;exact hbin hc.symm
   ·cases hc
  split at hc
  ·exact heq false (.inl ⟨rfl,rfl⟩) hc
  ·exact heq true (.inr ⟨rfl,rfl⟩) hc
  ·injection hc with hc;exact hbin hc.symm
 ·
  rename_i op t x hop
  injection hc with hc;subst hc
  simp only[effS] at he
  obtain⟨r,hr,h2⟩:=pair_map he
  simp only[Prod.mk.injEq] at h2
  obtain⟨rfl,rfl⟩:=h2
  exact g_un hS hρ hop hr
 ·
  rename_i s d x hop
  split at hc
  ·rename_i ds k hs hd
   injection hc with hc;subst hc
   simp only[effS] at he
   split at he
   ·rename_i k' n hx
    simp only[Option.some.injEq,Prod.mk.injEq] at he
    obtain⟨rfl,rfl⟩:=he
    exact g_conv hS hρ hop hs hd hx
   ·cases he
  ·cases hc
 ·
  rename_i s x f hop
  split at hc
  ·rename_i fs hs
   split at hc
   ·rename_i g hg
    split at hc
    ·rename_i n hn
     split at hc
     ·cases hc
     ·rename_i hn0
      injection hc with hc;subst hc
      simp only[effS] at he
      obtain⟨r,hr,h2⟩:=pair_map he
      simp only[Prod.mk.injEq] at h2
      obtain⟨rfl,rfl⟩:=h2
      exact g_fieldA hS hρ hop hs hg hn hn0 hr
    ·cases hc
   ·cases hc
  ·cases hc
 ·
  rename_i t x f hop
  split at hc
  ·rename_i fs hs
   split at hc
   ·rename_i g hg
    obtain⟨n,hn,rfl⟩:=Option.map_eq_some_iff.1 hc
    simp only[effS] at he
    split at he
    ·rename_i cs hx
     obtain⟨r,hr,h2⟩:=pair_map he
     simp only[Prod.mk.injEq] at h2
     obtain⟨rfl,rfl⟩:=h2
     exact g_field hS hρ hop hs hg hn hx hr
    ·cases he
   ·cases hc
  ·cases hc
 ·
  rename_i t x i hop
  split at hc
  ·rename_i len e ht
   obtain⟨n,hn,rfl⟩:=Option.map_eq_some_iff.1 hc
   simp only[effS] at he
   split at he
   ·rename_i k hi
    split at he
    ·rename_i hcond
     obtain⟨r,hr,h2⟩:=pair_map he
     simp only[Prod.mk.injEq] at h2
     obtain⟨rfl,rfl⟩:=h2
     exact g_idxA hS hρ hop ht hn hi hcond.1 hcond.2 hr
    ·cases he
   ·cases he
  ·rename_i e ht
   split at hc
   ·rename_i n hn
    split at hc
    ·cases hc
    ·rename_i hn0
     injection hc with hc;subst hc
     simp only[effS] at he
     split at he
     ·rename_i k hi
      obtain⟨r,hr,h2⟩:=pair_map he
      simp only[Prod.mk.injEq] at h2
      obtain⟨rfl,rfl⟩:=h2
      exact g_idxS hS hρ hop ht hn hn0 hi hr
     ·cases he
   ·cases hc
  ·cases hc
 ·
  rename_i t x i hop
  split at hc
  ·rename_i len e ht
   split at hc
   ·rename_i s n hs hn
    injection hc with hc;subst hc
    simp only[effS] at he
    split at he
    ·rename_i k cs hi hx
     split at he
     ·rename_i hcond
      obtain⟨r,hr,h2⟩:=pair_map he
      simp only[Prod.mk.injEq] at h2
      obtain⟨rfl,rfl⟩:=h2
      exact g_idx hS hρ hop ht hs hn hi hcond.1 hcond.2 hx hr
     ·cases he
    ·cases he
   ·cases hc
  ·rename_i ht
   injection hc with hc;subst hc
   simp only[effS] at he
   split at he
   ·rename_i k s hi hx
    split at he
    ·rename_i hcond
     obtain⟨r,hr,h2⟩:=pair_map he
     simp only[Prod.mk.injEq] at h2
     obtain⟨rfl,rfl⟩:=h2
     exact g_idxStr hS hρ hop ht hi hcond hx hr
    ·cases he
   ·cases he
  ·cases hc
 ·
  rename_i t l c hop
  split at hc
  ·rename_i e ht
   split at hc
   ·rename_i z b hz hb
    split at hc
    ·rename_i hpos
     injection hc with hc;subst hc
     simp only[effS] at he
     split at he
     ·rename_i n m hl hm
      split at he
      ·rename_i hcond
       obtain⟨c1,c2,c3,c4⟩:=hcond
       obtain⟨o2,hmk,h2⟩:=pair_map he
       obtain⟨hd,rfl⟩:=mkO_some hmk
       simp only[Prod.mk.injEq] at h2
       obtain⟨rfl,rfl⟩:=h2
       exact g_mkslice hS hρ hop ht hz hb hl hm c1 c2 c3 c4 hd
      ·cases he
     ·cases he
    ·cases hc
   ·cases hc
  ·cases hc
 ·
  rename_i t x lo hi hop
  split at hc
  ·rename_i e ht
   split at hc
   ·rename_i n hn
    split at hc
    ·cases hc
    ·rename_i hn0
     injection hc with hc;subst hc
     simp only[effS] at he
     obtain⟨r,hr,h2⟩:=pair_map he
     simp only[Prod.mk.injEq] at h2
     obtain⟨rfl,rfl⟩:=h2
     exact g_slice hS hρ hop ht hn hn0 hr
   ·cases hc
  ·rename_i ht
   injection hc with hc;subst hc
   simp only[effS] at he
   split at he
   ·rename_i s hx
    split at he
    ·rename_i l k hl hk
     split at he
     ·rename_i hcond
      simp only[Option.some.injEq,Prod.mk.injEq] at he
      obtain⟨rfl,rfl⟩:=he
      exact g_sliceStr hS hρ hop ht hx hl hk hcond.1 hcond.2
     ·cases he
    ·cases he
   ·cases he
  ·cases hc
 ·
  rename_i t x lo hi mx hop
  split at hc
  ·rename_i e ht
   split at hc
   ·rename_i n hn
    split at hc
    ·cases hc
    ·rename_i hn0
     injection hc with hc;subst hc
     simp only[effS] at he
     obtain⟨r,hr,h2⟩:=pair_map he
     simp only[Prod.mk.injEq] at h2
     obtain⟨rfl,rfl⟩:=h2
     exact g_slice3 hS hρ hop ht hn hn0 hr
   ·cases hc
  ·cases hc
 ·
  rename_i c hop
  split at hc
  ·split at hc
   ·injection hc with hc;subst hc;simp[IOp.isCall] at hnc
   ·cases hc
  ·injection hc with hc;subst hc;simp[IOp.isCall] at hnc
  ·rename_i hcal
   split at hc
   ·rename_i s x t t' ha hty
    split at hc
    ·rename_i htt
     subst htt
     split at hc
     ·rename_i e ht
      split at hc
      ·rename_i z b hz hb
       split at hc
       ·rename_i hpos
        injection hc with hc;subst hc
        simp only[effS] at he
        exact g_append hS hρ hop hcal (Array.ext' ha) (Array.ext' hty) ht hz hb rfl hpos he
       ·cases hc
      ·cases hc
     ·cases hc
    ·cases hc
   ·cases hc
  ·rename_i hcal
   split at hc
   ·rename_i x t ha hty
    have ha':c.args=#[x]:=Array.ext' ha
    have hty':c.argTypes=#[t]:=Array.ext' hty
    have hlen:∀k,(k=0∧∃e,P.underlying t=some (.slice e))∨(k=1∧P.underlying t=some .string)∨(k=2∧∃a b,P.underlying t=some (.map a b))→iop= .len k x→Gives A P ρC oper w σ o v o':=by
     intro k ht hh
     subst hh
     simp only[effS] at he
     obtain⟨n,hn,h2⟩:=pair_map he
     simp only[Prod.mk.injEq] at h2
     obtain⟨rfl,rfl⟩:=h2
     exact g_len hS hρ hop hcal ha' hty' ht hn
    split at hc
    ·rename_i e ht;injection hc with hc;exact hlen 0 (.inl ⟨rfl,e,ht⟩) hc.symm
    ·rename_i ht;injection hc with hc;exact hlen 1 (.inr (.inl ⟨rfl,ht⟩)) hc.symm
    ·rename_i k e ht;injection hc with hc;exact hlen 2 (.inr (.inr ⟨rfl,k,e,ht⟩)) hc.symm
    ·rename_i n e ht
     injection hc with hc;subst hc
     simp only[effS,Option.some.injEq,Prod.mk.injEq] at he
     obtain⟨rfl,rfl⟩:=he
     exact g_lenArr hS hop hcal ha' hty' ht
    ·cases hc
   ·cases hc
  ·rename_i hcal
   split at hc
   ·rename_i x y ha
    injection hc with hc;subst hc
    simp only[effS] at he
    split at he
    ·rename_i k a k' b hx hy
     split at he
     ·rename_i hkk
      subst hkk
      simp only[Option.some.injEq,Prod.mk.injEq] at he
      obtain⟨rfl,rfl⟩:=he
      exact g_mm (mx:=false) hS hρ hop hcal (Array.ext' ha) hx hy
     ·cases he
    ·cases he
   ·cases hc
  ·rename_i hcal
   split at hc
   ·rename_i x y ha
    injection hc with hc;subst hc
    simp only[effS] at he
    split at he
    ·rename_i k a k' b hx hy
     split at he
     ·rename_i hkk
      subst hkk
      simp only[Option.some.injEq,Prod.mk.injEq] at he
      obtain⟨rfl,rfl⟩:=he
      exact g_mm (mx:=true) hS hρ hop hcal (Array.ext' ha) hx hy
     ·cases he
    ·cases he
   ·cases hc
  ·cases hc
 ·
  rename_i x i hop
  injection hc with hc;subst hc
  simp only[effS] at he
  split at he
  ·rename_i vs hx
   obtain⟨r,hr,h2⟩:=pair_map he
   simp only[Prod.mk.injEq] at h2
   obtain⟨rfl,rfl⟩:=h2
   exact g_extract hS hρ hop hx hr
  ·cases he
 ·rename_i f a b hop
  split at hc
  ·injection hc with hc;subst hc
   simp only[effS,Option.some.injEq,Prod.mk.injEq] at he
   obtain⟨rfl,rfl⟩:=he
   exact g_mkfn hS hρ (fun _=>rfl) hop
  ·cases hc
 ·rename_i t hop
  split at hc
  ·split at hc
   ·injection hc with hc;subst hc
    simp only[effS] at he
    obtain⟨o2,hmk,h2⟩:=pair_map he
    obtain⟨hd,rfl⟩:=mkO_some hmk
    simp only[Prod.mk.injEq] at h2
    obtain⟨rfl,rfl⟩:=h2
    exact g_mkmap hS hop hd
   ·cases hc
  ·cases hc
 ·
  rename_i t x k ok hop
  split at hc
  ·rename_i kt et ht
   split at hc
   ·rename_i ks ka z g hk hag hz hg
    split at hc
    ·rename_i hzo
     injection hc with hc;subst hc
     simp only[effS] at he
     split at he
     ·rename_i id kv hx hkv
      split at he
      ·rename_i es kt' pu ho
       split at he
       ·rename_i hkt
        subst hkt
        split at he
        ·rename_i i a q hf
         simp only[Option.some.injEq,Prod.mk.injEq] at he
         obtain⟨rfl,rfl⟩:=he
         obtain⟨zv,hzv⟩:=zeroA_some hz hzo
         obtain⟨u,hu1,hu2⟩:=zeroA_rep (w:=w) (σ:=σ) (o:=o) hz hzo hzv
         have:=g_lookup (ok:=ok) hS hρ hop ht hk hag ⟨zv,u,hzv,hu1,hu2⟩ hx hkv ho hf hzv
         simpa using this
        ·rename_i zv hf hzv
         simp only[Option.some.injEq,Prod.mk.injEq] at he
         obtain⟨rfl,rfl⟩:=he
         obtain⟨u,hu1,hu2⟩:=zeroA_rep (w:=w) (σ:=σ) (o:=o) hz hzo hzv
         have:=g_lookup (ok:=ok) hS hρ hop ht hk hag ⟨zv,u,hzv,hu1,hu2⟩ hx hkv ho hf hzv
         simpa using this
        ·cases he
       ·cases he
      ·cases he
     ·cases he
    ·cases hc
   ·cases hc
  ·cases hc
 ·rename_i t m k v' hop
  split at hc
  ·rename_i kt et ht
   split at hc
   ·rename_i ks ka hk hag
    injection hc with hc;subst hc
    simp only[effS] at he
    split at he
    ·rename_i id kv hx hkv
     split at he
     ·rename_i es kt' pu ho
      split at he
      ·cases he
      ·rename_i hcond
       simp only[not_or,Decidable.not_not] at hcond
       obtain⟨hpu,hkt⟩:=hcond
       subst hkt
       have hpu':pu=true→(ρA v').pure=true:=fun hp=>by
        cases hq:(ρA v').pure with
        |true=>rfl
        |false=>exact absurd ⟨hp,hq⟩ hpu
       split at he
       ·rename_i i a hf
        simp only[Option.some.injEq,Prod.mk.injEq] at he
        obtain⟨rfl,rfl⟩:=he
        exact g_mapset hS hρ (.inl hop) ht hk hag hx hkv ho hpu' hf
       ·rename_i hf
        simp only[Option.some.injEq,Prod.mk.injEq] at he
        obtain⟨rfl,rfl⟩:=he
        exact g_mapset hS hρ (.inl hop) ht hk hag hx hkv ho hpu' hf
       ·cases he
     ·cases he
    ·cases he
   ·cases hc
  ·cases hc
 ·rename_i t m k v' hop
  split at hc
  ·rename_i kt et ht
   split at hc
   ·rename_i ks ka hk hag
    injection hc with hc;subst hc
    simp only[effS] at he
    split at he
    ·rename_i id kv hx hkv
     split at he
     ·rename_i es kt' pu ho
      split at he
      ·cases he
      ·rename_i hcond
       simp only[not_or,Decidable.not_not] at hcond
       obtain⟨hpu,hkt⟩:=hcond
       subst hkt
       have hpu':pu=true→(ρA v').pure=true:=fun hp=>by
        cases hq:(ρA v').pure with
        |true=>rfl
        |false=>exact absurd ⟨hp,hq⟩ hpu
       split at he
       ·rename_i i a hf
        simp only[Option.some.injEq,Prod.mk.injEq] at he
        obtain⟨rfl,rfl⟩:=he
        exact g_mapset hS hρ (.inr hop) ht hk hag hx hkv ho hpu' hf
       ·rename_i hf
        simp only[Option.some.injEq,Prod.mk.injEq] at he
        obtain⟨rfl,rfl⟩:=he
        exact g_mapset hS hρ (.inr hop) ht hk hag hx hkv ho hpu' hf
       ·cases he
     ·cases he
    ·cases he
   ·cases hc
  ·cases hc
 ·cases hc
end
section
variable {A A':Clr} {w w':World} {σ σ':Sig} {o o':Store}
def Tr (o:Store) (σ:Sig) (o':Store) (σ':Sig) (id id':Nat):Prop:=
 (∀cs e sz pu,o[id]?=some (.cells cs e sz pu)→∃cs' e' pu',o'[id']?=some (.cells cs' e' sz pu')∧cs'.length=cs.length)∧(IsMap o id→IsMap o' id')∧σ'[id']?=σ[id]?
theorem Tr.lenLe {id id' tot:Nat} (h:Tr o σ o' σ' id id') (k:LenLe o id tot):LenLe o' id' tot:=by
 obtain⟨cs,e,sz,pu,h1,h2⟩:=k
 obtain⟨cs',e',pu',h3,h4⟩:=h.1 cs e sz pu h1
 exact⟨cs',e',sz,pu',h3,by omega⟩
theorem Tr.cur {id id' tot sz:Nat} (h:Tr o σ o' σ' id id') (k:LenLe o id tot) (hc:CurO o' id' sz tot):CurO o id sz tot:=by
 obtain⟨cs,e,sz0,pu,h1,h2⟩:=k
 obtain⟨cs',e',pu',h3,h4⟩:=h.1 cs e sz0 pu h1
 obtain⟨cs2,e2,pu2,h5,h6⟩:=hc
 rw[h3] at h5
 injection h5 with h5
 injection h5 with a b c d
 subst a c
 exact⟨cs,e,pu,h1,by omega⟩
mutual
theorem AV.pure_ren (m:Nat→Option Nat):∀(c:AV),c.pure=true→c.ren m=some c
 | .sc _,_=>rfl
 | .sl _ _,_=>rfl
 | .ud,h| .agg _,h| .tup _,h| .ep _ _,h| .ptr _ _ _,h| .os _ _ _ _,h| .mp _,h| .fn _ _ _,h=>by simp[AV.pure] at h
end
mutual
theorem Rep.ren [SameL A A'] (hA:∀b,b<w.heap.size→Fr A σ b→Fr A' σ' b) {m:Nat→Option Nat} (hm:∀id id',m id=some id'→Tr o σ o' σ' id id'):
  ∀(c:AV) (v:Value) (c':AV),c.ren m=some c'→Rep A w σ o c v→Rep A' w σ' o' c' v
 | .ud,v,c',hc,_=>by simp only[AV.ren,Option.some.injEq] at hc;subst hc;simp[Rep]
 | .sc u,v,c',hc,h=>by simp only[AV.ren,Option.some.injEq] at hc;subst hc;simpa[Rep] using h
 | .sl n cs,v,c',hc,h=>by
  simp only[AV.ren,Option.some.injEq] at hc;subst hc
  simp only[Rep] at h ⊢
  obtain⟨a,cap,rfl,hn,hp,hr⟩:=h
  exact⟨a,cap,rfl,hn,hp,RepM.ren hA hm cs a 0 hp hr⟩
 | .ep cs off,v,c',hc,h=>by
  simp only[AV.ren,Option.some.injEq] at hc;subst hc
  simp only[Rep] at h ⊢
  obtain⟨a,rfl,hp,hr⟩:=h
  exact⟨a,rfl,hp,RepM.ren hA hm cs _ 0 hp hr⟩
 | .agg cs,v,c',hc,h=>by
  simp only[AV.ren,Option.map_eq_some_iff] at hc
  obtain⟨cs',h1,rfl⟩:=hc
  simp only[Rep] at h ⊢
  obtain⟨vs,rfl,hl⟩:=h
  exact⟨vs,rfl,RepL.ren hA hm cs _ cs' h1 hl⟩
 | .tup cs,v,c',hc,h=>by
  simp only[AV.ren,Option.map_eq_some_iff] at hc
  obtain⟨cs',h1,rfl⟩:=hc
  simp only[Rep] at h ⊢
  obtain⟨vs,rfl,hl⟩:=h
  exact⟨vs,rfl,RepL.ren hA hm cs _ cs' h1 hl⟩
 | .ptr id off tot,v,c',hc,h=>by
  simp only[AV.ren,Option.map_eq_some_iff] at hc
  obtain⟨id',h1,rfl⟩:=hc
  have ht:=hm id id' h1
  simp only[Rep] at h ⊢
  refine⟨ht.lenLe h.1,h.2.1,fun sz hcu=>?_⟩
  rw[ht.2.2]
  exact h.2.2 sz (ht.cur h.1 hcu)
 | .os id off len tot,v,c',hc,h=>by
  simp only[AV.ren,Option.map_eq_some_iff] at hc
  obtain⟨id',h1,rfl⟩:=hc
  have ht:=hm id id' h1
  simp only[Rep] at h ⊢
  obtain⟨h0,a,cap,hv,hl,hk⟩:=h
  refine⟨ht.lenLe h0,a,cap,hv,hl,fun sz hcu=>?_⟩
  have:=hk sz (ht.cur h0 hcu)
  unfold OsOk at this ⊢
  rw[ht.2.2]
  exact this
 | .mp id,v,c',hc,h=>by
  simp only[AV.ren,Option.map_eq_some_iff] at hc
  obtain⟨id',h1,rfl⟩:=hc
  have ht:=hm id id' h1
  simp only[Rep] at h ⊢
  rw[ht.2.2]
  exact⟨ht.2.1 h.1,h.2⟩
 | .fn f a b,v,c',hc,h=>by
  simp only[AV.ren] at hc
  split at hc
  ·rename_i a' b' h1 h2
   injection hc with hc;subst hc
   simp only[Rep] at h ⊢
   obtain⟨x,y,rfl,hx,hy⟩:=h
   exact⟨x,y,by rw[SameL.eq (A:=A) (A':=A')],RepL.ren hA hm a _ a' h1 hx,RepL.ren hA hm b _ b' h2 hy⟩
  ·cases hc
theorem RepL.ren [SameL A A'] (hA:∀b,b<w.heap.size→Fr A σ b→Fr A' σ' b) {m:Nat→Option Nat} (hm:∀id id',m id=some id'→Tr o σ o' σ' id id'):
  ∀(cs:List AV) (vs:List Value) (cs':List AV),renL m cs=some cs'→RepL A w σ o cs vs→RepL A' w σ' o' cs' vs
 |[],vs,cs',hc,h=>by simp only[renL,Option.some.injEq] at hc;subst hc;simpa[RepL] using h
 |c::cs,vs,cs',hc,h=>by
  simp only[renL] at hc
  split at hc
  ·rename_i c1 cs1 h1 h2
   injection hc with hc;subst hc
   simp only[RepL] at h ⊢
   obtain⟨v,r,rfl,hv,hl⟩:=h
   exact⟨v,r,rfl,Rep.ren hA hm c v c1 h1 hv,RepL.ren hA hm cs r cs1 h2 hl⟩
  ·cases hc
theorem RepM.ren [SameL A A'] (hA:∀b,b<w.heap.size→Fr A σ b→Fr A' σ' b) {m:Nat→Option Nat} (hm:∀id id',m id=some id'→Tr o σ o' σ' id id'):
  ∀(cs:List AV) (a:Option Addr) (j:Nat),pureL cs=true→RepM A w σ o cs a j→RepM A' w σ' o' cs a j
 |[],_,_,_,_=>by simp[RepM]
 |c::cs,a,j,hp,h=>by
  simp only[pureL,Bool.and_eq_true] at hp
  simp only[RepM] at h ⊢
  obtain⟨⟨b,v,rfl,hf,hc,hr⟩,hl⟩:=h
  have hlt:b.block<w.heap.size:=by have:=cell_of_blk hc;rwa [add_block] at this
  exact⟨⟨b,v,rfl,hA _ hlt hf,hc,Rep.ren hA hm c v c (AV.pure_ren m c hp.1) hr⟩,RepM.ren hA hm cs _ (j+1) hp.2 hl⟩
end
theorem renL_get {m:Nat→Option Nat}:∀{cs cs':List AV},renL m cs=some cs'→cs'.length=cs.length∧∀(j:Nat) (c':AV),cs'[j]?=some c'→∃c,cs[j]?=some c∧c.ren m=some c'
 |[],cs',h=>by simp only[renL,Option.some.injEq] at h;subst h;simp
 |c::cs,cs',h=>by
  simp only[renL] at h
  split at h
  ·rename_i c1 cs1 h1 h2
   injection h with h;subst h
   obtain⟨i1,i2⟩:=renL_get h2
   refine⟨by simp[i1],fun j d hd=>?_⟩
   cases j with
   |zero=>simp at hd;subst hd;exact⟨c,by simp,h1⟩
   |succ j=>simp at hd;obtain⟨c2,h3,h4⟩:=i2 j d hd;exact⟨c2,by simpa using h3,h4⟩
  ·cases h
theorem renM_get {m:Nat→Option Nat}:∀{es es':List (Value×AV)},renM m es=some es'→es'.length=es.length∧∀(j:Nat) (e':Value×AV),es'[j]?=some e'→∃e,es[j]?=some e∧e.1=e'.1∧e.2.ren m=some e'.2
 |[],es',h=>by simp only[renM,Option.some.injEq] at h;subst h;simp
 |e::es,es',h=>by
  simp only[renM] at h
  split at h
  ·rename_i v es1 h1 h2
   injection h with h;subst h
   obtain⟨i1,i2⟩:=renM_get h2
   refine⟨by simp[i1],fun j d hd=>?_⟩
   cases j with
   |zero=>simp at hd;subst hd;exact⟨e,by simp,rfl,h1⟩
   |succ j=>simp at hd;obtain⟨c2,h3,h4⟩:=i2 j d hd;exact⟨c2,by simpa using h3,h4⟩
  ·cases h
theorem ren_one {m:Nat→Option Nat} {c c':AV} (h:c.ren m=some c') (h1:c.one=true):c'.one=true:=by
 cases c<;>simp only[AV.ren,Option.some.injEq,Option.map_eq_some_iff] at h<;>simp only[AV.one,Bool.false_eq_true] at h1
 all_goals first
  |(subst h;first|exact h1|rfl)
  |(obtain⟨_,_,rfl⟩:=h;rfl)
  |(split at h
    ·injection h with h;subst h;rfl
    ·cases h)
mutual
theorem ren_pure {m:Nat→Option Nat}:∀{c c':AV},c.ren m=some c'→c.pure=true→c'=c
 |c,c',h,hp=>by
  have:=AV.pure_ren m c hp
  rw[this] at h
  injection h with h
  exact h.symm
end
theorem ObjOK.ren [SameL A A'] (hA:∀b,b<w.heap.size→Fr A σ b→Fr A' σ' b) {m:Nat→Option Nat} (hm:∀id id',m id=some id'→Tr o σ o' σ' id id') {i i':Nat} {x x':AObj} (hx:x.ren m=some x') (hσ:σ'[i']?=σ[i]?)
  (h:ObjOK A w σ o i x):ObjOK A' w σ' o' i' x':=by
 cases x with
 |dead=>simp only[AObj.ren,Option.some.injEq] at hx;subst hx;simp only[ObjOK] at h ⊢;rw[hσ];exact h
 |cells cs e sz pu=>
  simp only[ObjOK] at h
  obtain⟨h1,h2,h3⟩:=h
  have key:∀cs',cs'.length=cs.length→(pu=true→pureL cs'=true)→oneL cs'=true→(∀(j:Nat) (c':AV) (v:Value),cs'[j]?=some c'→(∀c,cs[j]?=some c→Rep A w σ o c v→Rep A' w σ' o' c' v))→ObjOK A' w σ' o' i' (.cells cs' e sz pu):=by
   intro cs' k1 k2 k3 k4
   simp only[ObjOK]
   refine⟨k2,k3,?_⟩
   rcases h3 with⟨h0,h0'⟩|⟨b,cap,arr,r1,r2,r3,r4,r5,r6⟩
   ·left;rw[hσ];exact⟨h0,List.eq_nil_of_length_eq_zero (by rw[k1,h0'];rfl)⟩
   ·refine .inr ⟨b,cap,arr,by rw[hσ];exact r1,r2,r3,r4,by omega,fun j c' hj=>?_⟩
    have hjl:j<cs.length:=by have:=(List.getElem?_eq_some_iff.1 hj).1;omega
    obtain⟨v,hv,hr⟩:=r6 j _ (List.getElem?_eq_getElem hjl)
    exact⟨v,hv,k4 j c' v hj _ (List.getElem?_eq_getElem hjl) hr⟩
  simp only[AObj.ren] at hx
  split at hx
  ·rename_i hpu
   injection hx with hx;subst hx
   refine key cs rfl h1 h2 fun j c' v hj c hc hr=>?_
   rw[hj] at hc
   injection hc with hc
   subst hc
   exact Rep.ren hA hm c' v c' (AV.pure_ren m c' (pureL_get (h1 hpu) c' (List.mem_of_getElem? hj))) hr
  ·rename_i hpu
   obtain⟨cs',hc',rfl⟩:=Option.map_eq_some_iff.1 hx
   obtain⟨g1,g2⟩:=renL_get hc'
   refine key cs' g1 (fun hp=>absurd hp hpu) (oneL_of.2 fun c hc=>?_) fun j c' v hj c hc hr=>?_
   ·obtain⟨j,hj⟩:=List.getElem?_of_mem hc
    obtain⟨c0,q1,q2⟩:=g2 j c hj
    exact ren_one q2 (oneL_of.1 h2 c0 (List.mem_of_getElem? q1))
   ·obtain⟨c0,q1,q2⟩:=g2 j c' hj
    rw[hc] at q1
    injection q1 with q1
    subst q1
    exact Rep.ren hA hm c v c' q2 hr
 |map es kt pu=>
  simp only[ObjOK] at h
  obtain⟨h1,h2,b,c,en,cl,h3,h4,h5,h6⟩:=h
  simp only[AObj.ren] at hx
  split at hx
  ·rename_i hpu
   injection hx with hx;subst hx
   simp only[ObjOK]
   refine⟨h1,h2,b,c,en,cl,by rw[hσ];exact h3,h4,h5,fun j e he=>?_⟩
   obtain⟨m',q1,q2,q3⟩:=h6 j e he
   exact⟨m',q1,q2,Rep.ren hA hm e.2 _ e.2 (AV.pure_ren m e.2 (h1 hpu e (List.mem_of_getElem? he))) q3⟩
  ·rename_i hpu
   obtain⟨es',hc',rfl⟩:=Option.map_eq_some_iff.1 hx
   obtain⟨g1,g2⟩:=renM_get hc'
   simp only[ObjOK]
   refine⟨fun hp=>absurd hp hpu,fun e he=>?_,b,c,en,cl,by rw[hσ];exact h3,h4,by omega,fun j e' he=>?_⟩
   ·obtain⟨j,hj⟩:=List.getElem?_of_mem he
    obtain⟨e0,q1,q2,_⟩:=g2 j e hj
    rw[←q2]
    exact h2 e0 (List.mem_of_getElem? q1)
   ·obtain⟨e0,q1,q2,q3⟩:=g2 j e' he
    obtain⟨m',r1,r2,r3⟩:=h6 j e0 q1
    exact⟨m',r1,by rw[r2,q2],Rep.ren hA hm e0.2 _ e'.2 q3 r3⟩
def cutM (k:Nat):Nat→Option Nat:=fun i=>if i<k then some i else none
mutual
theorem bel_ren (k:Nat):∀(c:AV),c.bel k=true→c.ren (cutM k)=some c
 | .ud,_| .sc _,_| .sl _ _,_| .ep _ _,_=>rfl
 | .agg cs,h=>by simp only[AV.bel] at h;simp[AV.ren,belL_ren k cs h]
 | .tup cs,h=>by simp only[AV.bel] at h;simp[AV.ren,belL_ren k cs h]
 | .ptr id _ _,h=>by simp only[AV.bel,decide_eq_true_eq] at h;simp[AV.ren,cutM,h]
 | .os id _ _ _,h=>by simp only[AV.bel,decide_eq_true_eq] at h;simp[AV.ren,cutM,h]
 | .mp id,h=>by simp only[AV.bel,decide_eq_true_eq] at h;simp[AV.ren,cutM,h]
 | .fn f a b,h=>by simp only[AV.bel,Bool.and_eq_true] at h;simp[AV.ren,belL_ren k a h.1,belL_ren k b h.2]
theorem belL_ren (k:Nat):∀(cs:List AV),belL k cs=true→renL (cutM k) cs=some cs
 |[],_=>rfl
 |c::cs,h=>by simp only[belL,Bool.and_eq_true] at h;simp[renL,bel_ren k c h.1,belL_ren k cs h.2]
end
theorem belL_mem {k:Nat} {cs:List AV}:belL k cs=true↔∀c∈cs,c.bel k=true:=by
 induction cs with
 |nil=>simp[belL]
 |cons c cs ih=>simp[belL,ih]
theorem cutM_tr (k:Nat) (id id':Nat) (h:cutM k id=some id'):Tr o σ (o.take k) (σ.take k) id id':=by
 unfold cutM at h
 split at h
 ·rename_i hk
  injection h with h;subst h
  refine⟨fun cs e sz pu ho=>⟨cs,e,pu,by rw[List.getElem?_take_of_lt hk];exact ho,rfl⟩,fun⟨es,kt,pu,ho⟩=>⟨es,kt,pu,by rw[List.getElem?_take_of_lt hk];exact ho⟩,by rw[List.getElem?_take_of_lt hk]⟩
 ·cases h
theorem fr_take (k:Nat) (b:Nat) (h:Fr A σ b):Fr A (σ.take k) b:=by
 refine⟨?_,h.2⟩
 rintro⟨i,c,hi⟩
 rw[List.getElem?_take] at hi
 split at hi
 ·exact h.1 ⟨i,c,hi⟩
 ·cases hi
theorem Rep.take {k:Nat} {c:AV} {v:Value} (h:Rep A w σ o c v) (hb:c.bel k=true):Rep A w (σ.take k) (o.take k) c v:=
 Rep.ren (fun b _ hf=>fr_take k b hf) (cutM_tr k) c v c (bel_ren k c hb) h
theorem bel_objR {k:Nat} {x:AObj} (h:x.bel k=true):x.ren (cutM k)=some x:=by
 cases x with
 |dead=>rfl
 |cells cs e sz pu=>
  simp only[AObj.bel,Bool.or_eq_true] at h
  simp only[AObj.ren]
  split
  ·rfl
  ·rename_i hp;rw[belL_ren k cs (h.resolve_left hp)];rfl
 |map es kt pu=>
  simp only[AObj.bel,Bool.or_eq_true] at h
  simp only[AObj.ren]
  split
  ·rfl
  ·rename_i hp
   have h2:=h.resolve_left hp
   have:renM (cutM k) es=some es:=by
    clear h hp
    induction es with
    |nil=>rfl
    |cons e es ih=>
     simp only[List.map_cons,belL,Bool.and_eq_true] at h2
     simp[renM,bel_ren k e.2 h2.1,ih h2.2]
   rw[this];rfl
theorem SimO.take (hS:SimO A w σ o) {k:Nat} (hb:∀x∈o.take k,x.bel k=true):SimO A w (σ.take k) (o.take k):=by
 have hsub:∀(i:Nat) (s:Option (Nat×Nat)),(σ.take k)[i]?=some s→σ[i]?=some s:=by
  intro i s h
  rw[List.getElem?_take] at h
  split at h
  ·exact h
  ·cases h
 refine⟨by simp[hS.len],fun i j b c d hi hj=>hS.dist i j b c d (hsub _ _ hi) (hsub _ _ hj),fun i b c hi=>hS.bnd i b c (hsub _ _ hi),fun i x hx=>?_,fun i b c hi=>hS.av i b c (hsub _ _ hi),hS.avb⟩
 have hx0:=hx
 rw[List.getElem?_take] at hx
 split at hx
 ·rename_i hk
  exact ObjOK.ren (fun b _ hf=>fr_take k b hf) (cutM_tr k) (bel_objR (hb x (List.mem_of_getElem? hx0))) (by rw[List.getElem?_take_of_lt hk]) (hS.obj i x hx)
 ·cases hx
theorem Ext.take {w0:World} {σ0:Sig} {o0:Store} (h:Ext w0 σ0 o0 w σ o) {k:Nat} (hk:o0.length≤k):Ext w0 σ0 o0 w (σ.take k) (o.take k) where
 size:=h.size
 blk:=fun b hb hn=>by
  obtain⟨h1,h2⟩:=h.blk b hb hn
  refine⟨h1,?_⟩
  rintro⟨i,c,hi⟩
  rw[List.getElem?_take] at hi
  split at hi
  ·exact h2 ⟨i,c,hi⟩
  ·cases hi
 len:=by have:=h.len;simp;omega
 cur:=fun id tot ha=>by
  obtain⟨h1,h2⟩:=h.cur id tot ha
  have hid:id<k:=by
   obtain⟨cs,e,sz,pu,ho,_⟩:=ha
   have:=(List.getElem?_eq_some_iff.1 ho).1
   omega
  refine⟨?_,fun sz hc=>?_⟩
  ·obtain⟨cs,e,sz,pu,ho,hl⟩:=h1
   exact⟨cs,e,sz,pu,by rw[List.getElem?_take_of_lt hid];exact ho,hl⟩
  ·rw[List.getElem?_take_of_lt hid]
   refine h2 sz ?_
   obtain⟨cs,e,pu,ho,hl⟩:=hc
   rw[List.getElem?_take_of_lt hid] at ho
   exact⟨cs,e,pu,ho,hl⟩
 isMap:=fun id ha=>by
  obtain⟨h1,h2⟩:=h.isMap id ha
  have hid:id<k:=by
   obtain⟨es,kt,pu,ho⟩:=ha
   have:=(List.getElem?_eq_some_iff.1 ho).1
   omega
  refine⟨?_,by rw[List.getElem?_take_of_lt hid];exact h2⟩
  obtain⟨es,kt,pu,ho⟩:=h1
  exact⟨es,kt,pu,by rw[List.getElem?_take_of_lt hid];exact ho⟩
 os:=h.os
 tape:=h.tape
 output:=h.output
mutual
theorem Rep.bel {k:Nat} (hk:∀i x,k≤i→o[i]?=some x→x.isDead=true):∀(c:AV) (v:Value),Rep A w σ o c v→c.bel k=true
 | .ud,_,_| .sc _,_,_| .sl _ _,_,_| .ep _ _,_,_=>rfl
 | .agg cs,v,h=>by simp only[Rep] at h;obtain⟨vs,_,hl⟩:=h;simp only[AV.bel];exact RepL.bel hk cs _ hl
 | .tup cs,v,h=>by simp only[Rep] at h;obtain⟨vs,_,hl⟩:=h;simp only[AV.bel];exact RepL.bel hk cs _ hl
 | .ptr id _ _,v,h=>by
  simp only[Rep] at h
  obtain⟨⟨cs,e,sz,pu,ho,_⟩,_⟩:=h
  simp only[AV.bel,decide_eq_true_eq]
  rcases Nat.lt_or_ge id k with h1|h1
  ·exact h1
  ·have:=hk id _ h1 ho;simp[AObj.isDead] at this
 | .os id _ _ _,v,h=>by
  simp only[Rep] at h
  obtain⟨⟨cs,e,sz,pu,ho,_⟩,_⟩:=h
  simp only[AV.bel,decide_eq_true_eq]
  rcases Nat.lt_or_ge id k with h1|h1
  ·exact h1
  ·have:=hk id _ h1 ho;simp[AObj.isDead] at this
 | .mp id,v,h=>by
  simp only[Rep] at h
  obtain⟨⟨es,kt,pu,ho⟩,_⟩:=h
  simp only[AV.bel,decide_eq_true_eq]
  rcases Nat.lt_or_ge id k with h1|h1
  ·exact h1
  ·have:=hk id _ h1 ho;simp[AObj.isDead] at this
 | .fn f a b,v,h=>by simp only[Rep] at h;obtain⟨x,y,_,ha,hb⟩:=h;simp only[AV.bel,Bool.and_eq_true];exact⟨RepL.bel hk a _ ha,RepL.bel hk b _ hb⟩
theorem RepL.bel {k:Nat} (hk:∀i x,k≤i→o[i]?=some x→x.isDead=true):∀(cs:List AV) (vs:List Value),RepL A w σ o cs vs→belL k cs=true
 |[],_,_=>rfl
 |c::cs,vs,h=>by
  simp only[RepL] at h
  obtain⟨v,r,_,hv,hl⟩:=h
  simp only[belL,Bool.and_eq_true]
  exact⟨Rep.bel hk c v hv,RepL.bel hk cs r hl⟩
end
theorem ObjOK.bel {k i:Nat} {x:AObj} (hk:∀i x,k≤i→o[i]?=some x→x.isDead=true) (h:ObjOK A w σ o i x):x.bel k=true:=by
 cases x with
 |dead=>rfl
 |cells cs e sz pu=>
  simp only[ObjOK] at h
  simp only[AObj.bel,Bool.or_eq_true]
  right
  refine belL_mem.2 fun c hc=>?_
  obtain⟨j,hj⟩:=List.getElem?_of_mem hc
  rcases h.2.2 with⟨_,h0⟩|⟨b,cap,arr,_,_,_,_,_,h6⟩
  ·subst h0;simp at hc
  ·obtain⟨v,_,hr⟩:=h6 j c hj
   exact Rep.bel hk c v hr
 |map es kt pu=>
  simp only[ObjOK] at h
  obtain⟨_,_,b,c,en,cl,_,_,_,h6⟩:=h
  simp only[AObj.bel,Bool.or_eq_true]
  right
  refine belL_mem.2 fun c hc=>?_
  obtain⟨e,he,rfl⟩:=List.mem_map.1 hc
  obtain⟨j,hj⟩:=List.getElem?_of_mem he
  obtain⟨m,_,_,hr⟩:=h6 j e hj
  exact Rep.bel hk e.2 _ hr
theorem deads_get {n i:Nat} {x:AObj} (h:(deads n)[i]?=some x):x= .dead:=by
 unfold deads at h
 rw[List.getElem?_replicate] at h
 split at h
 ·injection h with h;exact h.symm
 ·cases h
theorem SimO.deads (hS:SimO A w σ o) (n:Nat):SimO A w (σ++List.replicate n none) (o++deads n)∧Ext w σ o w (σ++List.replicate n none) (o++deads n):=by
 have hσ:∀(i:Nat) (b c:Nat),(σ++List.replicate n none)[i]?=some (some (b,c))→σ[i]?=some (some (b,c)):=by
  intro i b c h
  rw[List.getElem?_append] at h
  split at h
  ·exact h
  ·rw[List.getElem?_replicate] at h
   split at h
   ·injection h with h;cases h
   ·cases h
 have hE:Ext w σ o w (σ++List.replicate n none) (o++Go.Vi.deads n):=by
  refine⟨Nat.le_refl _,fun b _ hn=>⟨rfl,fun⟨i,c,hi⟩=>hn ⟨i,c,hσ i b c hi⟩⟩,by simp,fun id tot ha=>?_,fun id ha=>?_,rfl,rfl,rfl⟩
  ·obtain⟨cs,e,sz,pu,ho,hl⟩:=ha
   have hid:=(List.getElem?_eq_some_iff.1 ho).1
   refine⟨⟨cs,e,sz,pu,by rw[List.getElem?_append_left hid];exact ho,hl⟩,fun sz' hc=>⟨?_,by rw[List.getElem?_append_left (by rw[hS.len];exact hid)]⟩⟩
   obtain⟨cs',e',pu',ho',hl'⟩:=hc
   rw[List.getElem?_append_left hid] at ho'
   exact⟨cs',e',pu',ho',hl'⟩
  ·obtain⟨es,kt,pu,ho⟩:=ha
   have hid:=(List.getElem?_eq_some_iff.1 ho).1
   exact⟨⟨es,kt,pu,by rw[List.getElem?_append_left hid];exact ho⟩,by rw[List.getElem?_append_left (by rw[hS.len];exact hid)]⟩
 refine⟨⟨by simp[Go.Vi.deads,hS.len],fun i j b c d hi hj=>hS.dist i j b c d (hσ _ _ _ hi) (hσ _ _ _ hj),fun i b c hi=>hS.bnd i b c (hσ _ _ _ hi),fun i x hx=>?_,fun i b c hi=>hS.av i b c (hσ _ _ _ hi),hS.avb⟩,hE⟩
 rw[List.getElem?_append] at hx
 split at hx
 ·rename_i hid
  exact(hS.obj i x hx).ext hE (by rw[List.getElem?_append_left (by rw[hS.len];exact hid)]) fun _ _ _=>rfl
 ·rename_i hid
  have:=deads_get hx
  subst this
  simp only[ObjOK]
  have hlt:=(List.getElem?_eq_some_iff.1 hx).1
  simp[Go.Vi.deads] at hlt
  rw[List.getElem?_append_right (by rw[hS.len];omega),List.getElem?_replicate,if_pos (by rw[hS.len];omega)]
theorem sweep_sim (hS:SimO A w σ o) (k:Nat):∃σ',SimO A w σ' (sweep k o)∧(∀c v,Rep A w σ o c v→Rep A w σ' (sweep k o) c v)∧
  ∀(w0:World) (σ0:Sig) (o0:Store),o0.length≤k→Ext w0 σ0 o0 w σ o→Ext w0 σ0 o0 w σ' (sweep k o):=by
 unfold sweep
 split
 ·rename_i h
  have hk:∀i x,k≤i→o[i]?=some x→x.isDead=true:=by
   intro i x hi hx
   refine List.all_eq_true.1 h x (List.mem_of_getElem? (i:=i - k) ?_)
   rw[List.getElem?_drop,show k+(i - k)=i from by omega]
   exact hx
  refine⟨σ.take k,hS.take fun x hx=>?_,fun c v hr=>hr.take (Rep.bel hk c v hr),fun w0 σ0 o0 h0 hE=>hE.take h0⟩
  obtain⟨j,hj⟩:=List.getElem?_of_mem (List.mem_of_mem_take hx)
  exact ObjOK.bel hk (hS.obj j x hj)
 ·exact⟨σ,hS,fun _ _ h=>h,fun _ _ _ _ h=>h⟩
end
def CallO (P:Program) (f:FuncId) (args:List AV) (o:Store) (r:AV) (o':Store):Prop:=
 ∀(A:Clr) (w:World) (σ:Sig) (vs:List Value),SimO A w σ o→RepL A w σ o args vs→
  Calls P f vs.toArray w fun e w'=>∃u σ',e= .returned u∧SimO A w' σ' o'∧Rep A w' σ' o' r u∧Ext w σ o w' σ' o'
def OracleOK (P:Program) (call:Oracle):Prop:=
 ∀f args o own r o',call f args o own=some (r,o')→goodF P f=true∧CallO P f args o r o'∧(own=false→o'=[])
section
variable {P:Program} {A B:Clr} {w w':World} {σ σ':Sig} {o o':Store}
theorem mapM_get {α β:Type} {f:α→Option β}:∀{l:List α} {l':List β},l.mapM f=some l'→l'.length=l.length∧∀(j:Nat) (a:α),l[j]?=some a→∃b,l'[j]?=some b∧f a=some b
 |[],l',h=>by simp at h;subst h;simp
 |a::l,l',h=>by
  rw[List.mapM_cons] at h
  cases hf:f a with
  |none=>simp[hf] at h
  |some b=>
   cases hl:l.mapM f with
   |none=>simp[hf,hl] at h
   |some r=>
    simp[hf,hl] at h
    subst h
    obtain⟨i1,i2⟩:=mapM_get hl
    refine⟨by simp[i1],fun j c hc=>?_⟩
    cases j with
    |zero=>simp at hc;subst hc;exact⟨b,by simp,hf⟩
    |succ j=>simp at hc;obtain⟨d,h1,h2⟩:=i2 j c hc;exact⟨d,by simpa using h1,h2⟩
theorem repL_mapM {f:AV→Option AV} {cs cs':List AV} {vs:List Value} (h:cs.mapM f=some cs') (hr:RepL A w σ o cs vs) (hf:∀c∈cs,∀c' v,f c=some c'→Rep A w σ o c v→Rep B w σ' o' c' v):RepL B w σ' o' cs' vs:=by
 obtain⟨h1,h2⟩:=mapM_get h
 have hl:=RepL.length _ _ hr
 refine RepL.of_get _ _ (by omega) fun j c' hc'=>?_
 have hj:j<cs.length:=by have:=(List.getElem?_eq_some_iff.1 hc').1;omega
 obtain⟨v,hv,hrep⟩:=RepL.get _ _ hr j _ (List.getElem?_eq_getElem hj)
 obtain⟨b,hb,hfb⟩:=h2 j _ (List.getElem?_eq_getElem hj)
 rw[hc'] at hb
 injection hb with hb
 subst hb
 exact⟨v,hv,hf _ (List.getElem_mem hj) _ _ hfb hrep⟩
theorem freeze_rep [SameL A B] (hS:SimO A w σ o) (hB:∀b,b<w.heap.size→Fr A σ b→¬B b):∀(d:Nat) (a a':AV) (u:Value),freeze o d a=some a'→(∀id∈tchF o d a,∀b c,σ[id]?=some (some (b,c))→¬B b)→
  Rep A w σ o a u→Rep B w [] [] a' u:=by
 have hA:∀b,b<w.heap.size→Fr A σ b→Fr B [] b:=fun b hb hf=>⟨fun⟨i,c,hi⟩=>by simp at hi,hB b hb hf⟩
 have hm:∀id id',(fun _:Nat=>(none:Option Nat)) id=some id'→Tr o σ [] [] id id':=fun _ _ h=>by cases h
 intro d
 induction d with
 |zero=>
  intro a a' u hf _ hr
  cases a<;>simp only[freeze,reduceCtorEq,Option.some.injEq] at hf
  ·subst hf;simp[Rep]
  ·rename_i v
   split at hf
   ·injection hf with hf;subst hf
    have:=rep_sc hr
    subst this
    simp only[Rep,RepM]
    exact⟨none,0,rfl,Nat.le_refl _,rfl,trivial⟩
   ·injection hf with hf;subst hf
    simpa[Rep] using hr
  ·subst hf;exact Rep.ren hA hm _ _ _ rfl hr
 |succ d ih=>
  intro a a' u hf ht hr
  cases a<;>simp only[freeze,reduceCtorEq,Option.some.injEq] at hf
  ·subst hf;simp[Rep]
  ·rename_i v
   split at hf
   ·injection hf with hf;subst hf
    have:=rep_sc hr
    subst this
    simp only[Rep,RepM]
    exact⟨none,0,rfl,Nat.le_refl _,rfl,trivial⟩
   ·injection hf with hf;subst hf
    simpa[Rep] using hr
  ·rename_i cs
   obtain⟨cs',h1,rfl⟩:=Option.map_eq_some_iff.1 hf
   simp only[Rep] at hr ⊢
   obtain⟨vs,rfl,hl⟩:=hr
   refine⟨vs,rfl,repL_mapM h1 hl fun c hc c' v hfc hrc=>ih c c' v hfc (fun id hid=>ht id ?_) hrc⟩
   simp only[tchF,List.mem_flatMap]
   exact⟨c,hc,hid⟩
  ·rename_i cs
   obtain⟨cs',h1,rfl⟩:=Option.map_eq_some_iff.1 hf
   simp only[Rep] at hr ⊢
   obtain⟨vs,rfl,hl⟩:=hr
   refine⟨vs,rfl,repL_mapM h1 hl fun c hc c' v hfc hrc=>ih c c' v hfc (fun id hid=>ht id ?_) hrc⟩
   simp only[tchF,List.mem_flatMap]
   exact⟨c,hc,hid⟩
  ·subst hf;exact Rep.ren hA hm _ _ _ rfl hr
  ·
   rename_i id off len tot
   split at hf
   ·rename_i cs e sz pu ho
    split at hf
    ·rename_i hcond
     obtain⟨htot,hrange⟩:=hcond
     simp only[Rep] at hr
     obtain⟨hle,X,cap,rfl,hlc,hcur⟩:=hr
     have hk:=hcur sz ⟨cs,e,pu,ho,htot⟩
     have hob:=hS.obj id _ ho
     simp only[ObjOK] at hob
     obtain⟨q1,q2,q3⟩:=hob
     have cellsOf:∀(j:Nat) (c:AV),((cs.drop off).take (len*sz))[j]?=some c→∃(p:Addr) (v:Value),X=some p∧¬B p.block∧w.cell? (p.add j)=some v∧Rep A w σ o c v:=by
      intro j c hc
      rw[List.getElem?_take] at hc
      split at hc
      ·rename_i hj
       rw[List.getElem?_drop] at hc
       have hpos:0<len:=by
        rcases Nat.eq_zero_or_pos len with h0|h0
        ·subst h0;simp at hj
        ·exact h0
       unfold OsOk at hk
       split at hk
       ·omega
       ·rename_i b c2 hσ
        rcases q3 with⟨h0,_⟩|⟨b',cap',arr,r1,_,r3,_,_,r6⟩
        ·rw[hσ] at h0;cases h0
        ·rw[hσ] at r1
         simp only[Option.some.injEq,Prod.mk.injEq] at r1
         obtain⟨rfl,rfl⟩:=r1
         obtain⟨v,hv,hrv⟩:=r6 _ c hc
         refine⟨⟨b,off,none⟩,v,(by rw[hk.1 hpos,offR_le (by omega)]),ht id (by simp[tchF]) b c2 hσ,?_,hrv⟩
         rw[add_own]
         simp[World.cell?,r3,hv]
       ·exact hk.elim
      ·cases hc
     split at hf
     ·rename_i hpu
      injection hf with hf;subst hf
      have hpure:pureL ((cs.drop off).take (len*sz))=true:=pureL_of fun c hc=>pureL_get (q1 hpu) c (List.mem_of_mem_drop (List.mem_of_mem_take hc))
      simp only[Rep]
      refine⟨X,cap,rfl,hlc,hpure,RepM.of_get _ _ _ fun j c hc=>?_⟩
      obtain⟨p,v,hp,hnb,hcell,hrv⟩:=cellsOf j c hc
      exact⟨p,v,hp,⟨fun⟨i,c,hi⟩=>by simp at hi,hnb⟩,by simpa using hcell,Rep.ren hA hm c v c (AV.pure_ren _ c (pureL_get hpure c (List.mem_of_getElem? hc))) hrv⟩
     ·rename_i hpu
      split at hf
      ·rename_i cs' hcs'
       split at hf
       ·rename_i hpure
        injection hf with hf;subst hf
        obtain⟨m1,m2⟩:=mapM_get hcs'
        simp only[Rep]
        refine⟨X,cap,rfl,hlc,hpure,RepM.of_get _ _ _ fun j c' hc'=>?_⟩
        have hj:j<((cs.drop off).take (len*sz)).length:=by have:=(List.getElem?_eq_some_iff.1 hc').1;omega
        obtain⟨p,v,hp,hnb,hcell,hrv⟩:=cellsOf j _ (List.getElem?_eq_getElem hj)
        obtain⟨b,hb,hfb⟩:=m2 j _ (List.getElem?_eq_getElem hj)
        rw[hc'] at hb
        injection hb with hb
        subst hb
        refine⟨p,v,hp,⟨fun⟨i,c,hi⟩=>by simp at hi,hnb⟩,by simpa using hcell,ih _ _ v hfb (fun id' hid'=>ht id' ?_) hrv⟩
        simp only[tchF,ho,List.mem_cons]
        right
        rw[if_neg hpu]
        exact List.mem_flatMap.2 ⟨_,List.getElem_mem hj,hid'⟩
       ·cases hf
      ·cases hf
    ·cases hf
   ·cases hf
  ·rename_i f a b
   split at hf
   ·rename_i a' b' h1 h2
    injection hf with hf;subst hf
    simp only[Rep] at hr ⊢
    obtain⟨x,y,rfl,hx,hy⟩:=hr
    refine⟨x,y,by rw[SameL.eq (A:=A) (A':=B)],repL_mapM h1 hx fun c hc c' v hfc hrc=>ih c c' v hfc (fun id hid=>ht id ?_) hrc,repL_mapM h2 hy fun c hc c' v hfc hrc=>ih c c' v hfc (fun id hid=>ht id ?_) hrc⟩
    ·simp only[tchF,List.mem_append,List.mem_flatMap];exact .inl ⟨c,hc,hid⟩
    ·simp only[tchF,List.mem_append,List.mem_flatMap];exact .inr ⟨c,hc,hid⟩
   ·cases hf
theorem SimO.far (hS:SimO A w σ o) (hE:Ext w [] [] w' σ' o'):SimO A w' σ o∧Ext w σ o w' σ o:=by
 have hblk:∀b,b<w.heap.size→w'.heap[b]?=w.heap[b]?:=fun b hb=>(hE.blk b hb fun⟨i,c,hi⟩=>by simp at hi).1
 have hE':Ext w σ o w' σ o:=⟨hE.size,fun b hb hn=>⟨hblk b hb,hn⟩,Nat.le_refl _,fun _ _ h=>⟨h,fun _ h=>⟨h,rfl⟩⟩,fun _ h=>⟨h,rfl⟩,hE.os,hE.tape,hE.output⟩
 exact⟨⟨hS.len,hS.dist,fun i b c h=>Nat.lt_of_lt_of_le (hS.bnd i b c h) hE.size,fun i x hx=>(hS.obj i x hx).ext hE' rfl fun b c hb=>hblk b (hS.bnd i b c hb),hS.av,fun b hb=>Nat.lt_of_lt_of_le (hS.avb b hb) hE.size⟩,hE'⟩
mutual
theorem noSl_rep:∀(r:AV) (u:Value),r.noSl=true→Rep A w σ o r u→Rep B w' σ' o' r u
 | .ud,_,_,_=>by simp[Rep]
 | .sc v,u,_,h=>by simpa[Rep] using h
 | .agg cs,u,hn,h=>by
  simp only[AV.noSl] at hn
  simp only[Rep] at h ⊢
  obtain⟨vs,rfl,hl⟩:=h
  exact⟨vs,rfl,noSlL_rep cs _ hn hl⟩
 | .tup cs,u,hn,h=>by
  simp only[AV.noSl] at hn
  simp only[Rep] at h ⊢
  obtain⟨vs,rfl,hl⟩:=h
  exact⟨vs,rfl,noSlL_rep cs _ hn hl⟩
 | .sl n cs,u,hn,h=>by
  simp only[AV.noSl,List.isEmpty_iff] at hn
  subst hn
  simp only[Rep,RepM] at h ⊢
  exact h
 | .ep _ _,_,hn,_| .ptr _ _ _,_,hn,_| .os _ _ _ _,_,hn,_| .mp _,_,hn,_| .fn _ _ _,_,hn,_=>by simp[AV.noSl] at hn
theorem noSlL_rep:∀(cs:List AV) (vs:List Value),noSlL cs=true→RepL A w σ o cs vs→RepL B w' σ' o' cs vs
 |[],vs,_,h=>by simpa[RepL] using h
 |c::cs,vs,hn,h=>by
  simp only[noSlL,Bool.and_eq_true] at hn
  simp only[RepL] at h ⊢
  obtain⟨v,r,rfl,hv,hl⟩:=h
  exact⟨v,r,rfl,noSl_rep c v hn.1 hv,noSlL_rep cs r hn.2 hl⟩
end
theorem simO_nil (w:World) (hA:∀b,A b→b<w.heap.size):SimO A w [] []:=⟨rfl,by simp,by simp,by simp,by simp,hA⟩
theorem call_pure {call:Oracle} (hcall:OracleOK P call) (hS:SimO A w σ o) {f:FuncId} {args args':List AV} {vs:List Value} (hr:RepL A w σ o args vs) (hf:args.mapM (freeze o 6)=some args') {r:AV}
  (hc:call f args' [] false=some (r,[])) (hcl:(args.flatMap (tchF o 6)).isEmpty=true∨r.noSl=true):
  goodF P f=true∧Calls P f vs.toArray w fun e w'=>∃u σ',e= .returned u∧SimO A w' σ' o∧Rep A w' σ' o r u∧Ext w σ o w' σ' o:=by
 obtain⟨hg,hco,_⟩:=hcall _ _ _ _ _ _ hc
 refine⟨hg,?_⟩
 rcases hcl with hcl|hcl
 ·
  let B:Clr:=⟨fun b=>A b∨Own σ b,A.l⟩
  have hB:∀b,B b→b<w.heap.size:=fun b hb=>Or.elim (show A b∨Own σ b from hb) (hS.avb b) fun⟨i,c,hi⟩=>hS.bnd i b c hi
  haveI:SameL A B:=⟨rfl⟩
  haveI:SameL B A:=⟨rfl⟩
  have harg:RepL B w [] [] args' vs:=repL_mapM hf hr fun c hc' c' v hfc hrc=>freeze_rep hS (fun b _ hfr hb=>Or.elim (show A b∨Own σ b from hb) hfr.2 hfr.1) 6 c c' v hfc (fun id hid=>by
   have:id∈args.flatMap (tchF o 6):=List.mem_flatMap.2 ⟨c,hc',hid⟩
   rw[List.isEmpty_iff.1 hcl] at this
   simp at this) hrc
  refine(hco B w [] vs (simO_nil w hB) harg).mono ?_
  rintro e w' ⟨u,σ',rfl,hS',hr',hE⟩
  obtain⟨h1,h2⟩:=hS.far hE
  refine⟨u,σ,rfl,h1,?_,h2⟩
  have hbel:r.bel 0=true:=Rep.bel (k:=0) (fun i x _ hx=>by simp at hx) r u hr'
  refine Rep.ren (m:=cutM 0) (fun b hb hfr=>⟨fun ho=>hfr.2 (show A b∨Own σ b from .inr ho),fun ha=>hfr.2 (show A b∨Own σ b from .inl ha)⟩) (fun id id' h=>by simp[cutM] at h) r u r (bel_ren 0 r hbel) hr'
 ·have harg:RepL A w [] [] args' vs:=repL_mapM hf hr fun c hc' c' v hfc hrc=>freeze_rep hS (fun b _ hfr hb=>hfr.2 hb) 6 c c' v hfc (fun id _ b c2 hσ=>hS.av id b c2 hσ) hrc
  refine(hco A w [] vs (simO_nil w hS.avb) harg).mono ?_
  rintro e w' ⟨u,σ',rfl,hS',hr',hE⟩
  obtain⟨h1,h2⟩:=hS.far hE
  exact⟨u,σ,rfl,h1,noSl_rep r u hcl hr',h2⟩
end
section
variable {A:Clr} {w:World} {σ:Sig} {o:Store}
def drF (o:Store) (p:Nat→Bool) (i:Nat):Bool:=p i&&(match o[i]? with|some (.cells _ _ _ true)=>true|_=>false)
def sigF (o:Store) (p:Nat→Bool) (σ:Sig):Sig:=(List.range σ.length).map fun i=>if drF o p i then none else(σ[i]?).getD none
theorem sigF_len (o:Store) (p:Nat→Bool) (σ:Sig):(sigF o p σ).length=σ.length:=by simp[sigF]
theorem sigF_get {o:Store} {p:Nat→Bool} {σ:Sig} {i:Nat} (hi:i<σ.length):(sigF o p σ)[i]?=some (if drF o p i then none else(σ[i]?).getD none):=by
 simp[sigF,hi]
theorem sigF_some {o:Store} {p:Nat→Bool} {σ:Sig} {i:Nat} {s:Nat×Nat} (h:(sigF o p σ)[i]?=some (some s)):σ[i]?=some (some s)∧drF o p i=false:=by
 have hi:i<σ.length:=by have:=(List.getElem?_eq_some_iff.1 h).1;simpa[sigF_len] using this
 rw[sigF_get hi] at h
 cases hd:drF o p i with
 |true=>simp[hd] at h
 |false=>
  simp only[hd,Bool.false_eq_true,if_false,Option.some.injEq] at h
  rw[List.getElem?_eq_getElem hi] at h ⊢
  simp at h
  exact⟨by rw[h],rfl⟩
theorem sigF_keep {o:Store} {p:Nat→Bool} {σ:Sig} {i:Nat} (h:drF o p i=false):(sigF o p σ)[i]?=σ[i]?:=by
 rcases Nat.lt_or_ge i σ.length with hi|hi
 ·rw[sigF_get hi,h,List.getElem?_eq_getElem hi];simp
 ·rw[List.getElem?_eq_none hi,List.getElem?_eq_none (by rw[sigF_len];exact hi)]
def dropO (p:Nat→Bool) (i:Nat):AObj→AObj
 | .cells cs e sz true=>if p i then .dead else .cells cs e sz true
 |x=>x
theorem dropPu_get (p:Nat→Bool):∀(o:Store) (k i:Nat),(dropPu p k o)[i]?=(o[i]?).map (dropO p (k+i))
 |[],k,i=>by simp[dropPu]
 |x::r,k,i=>by
  simp only[dropPu]
  cases i with
  |zero=>simp only[List.getElem?_cons_zero,Option.map_some,Nat.add_zero];congr 1
  |succ i=>simp only[List.getElem?_cons_succ];rw[dropPu_get p r (k+1) i,show k+1+i=k+(i+1) from by omega]
theorem frzS_get {p:Nat→Bool} {o0:Store}:∀{o o':Store},frzS o0 p o=some o'→o'.length=o.length∧∀(i:Nat) (x:AObj),o[i]?=some x→∃y,x.frz o0 p=some y∧o'[i]?=some y
 |[],o',h=>by simp only[frzS,Option.some.injEq] at h;subst h;simp
 |x::r,o',h=>by
  simp only[frzS] at h
  split at h
  ·rename_i y l h1 h2
   injection h with h;subst h
   obtain⟨i1,i2⟩:=frzS_get h2
   refine⟨by simp[i1],fun i z hz=>?_⟩
   cases i with
   |zero=>simp at hz;subst hz;exact⟨y,h1,by simp⟩
   |succ i=>obtain⟨y',k1,k2⟩:=i2 i z (by simpa using hz);exact⟨y',k1,by simpa using k2⟩
  ·cases h
theorem frzL_get {o:Store} {p:Nat→Bool}:∀{cs cs':List AV},frzL o p cs=some cs'→cs'.length=cs.length∧∀(j:Nat) (c':AV),cs'[j]?=some c'→∃c,cs[j]?=some c∧c.frz o p=some c'
 |[],cs',h=>by simp only[frzL,Option.some.injEq] at h;subst h;simp
 |c::cs,cs',h=>by
  simp only[frzL] at h
  split at h
  ·rename_i c1 cs1 h1 h2
   injection h with h;subst h
   obtain⟨i1,i2⟩:=frzL_get h2
   refine⟨by simp[i1],fun j d hd=>?_⟩
   cases j with
   |zero=>simp at hd;subst hd;exact⟨c,by simp,h1⟩
   |succ j=>simp at hd;obtain⟨c2,h3,h4⟩:=i2 j d hd;exact⟨c2,by simpa using h3,h4⟩
  ·cases h
theorem frzM_get {o:Store} {p:Nat→Bool}:∀{es es':List (Value×AV)},frzM o p es=some es'→es'.length=es.length∧∀(j:Nat) (e':Value×AV),es'[j]?=some e'→∃e,es[j]?=some e∧e.1=e'.1∧e.2.frz o p=some e'.2
 |[],es',h=>by simp only[frzM,Option.some.injEq] at h;subst h;simp
 |e::es,es',h=>by
  simp only[frzM] at h
  split at h
  ·rename_i v es1 h1 h2
   injection h with h;subst h
   obtain⟨i1,i2⟩:=frzM_get h2
   refine⟨by simp[i1],fun j d hd=>?_⟩
   cases j with
   |zero=>simp at hd;subst hd;exact⟨e,by simp,rfl,h1⟩
   |succ j=>simp at hd;obtain⟨c2,h3,h4⟩:=i2 j d hd;exact⟨c2,by simpa using h3,h4⟩
  ·cases h
theorem frzE_get {o:Store} {p:Nat→Bool}:∀{env env':EnvA},frzE o p env=some env'→∀s,(getE env s).frz o p=some (getE env' s)
 |[],env',h,s=>by simp only[frzE,Option.some.injEq] at h;subst h;rfl
 |(k,v)::r,env',h,s=>by
  simp only[frzE] at h
  split at h
  ·rename_i v' r' h1 h2
   injection h with h;subst h
   simp only[getE]
   cases hq:Nat.beq k s with
   |true=>exact h1
   |false=>exact frzE_get h2 s
  ·cases h
mutual
theorem AV.pure_frz (o:Store) (p:Nat→Bool):∀(c:AV),c.pure=true→c.frz o p=some c
 | .sc _,_=>rfl
 | .sl _ _,_=>rfl
 | .ud,h| .agg _,h| .tup _,h| .ep _ _,h| .ptr _ _ _,h| .os _ _ _ _,h| .mp _,h| .fn _ _ _,h=>by simp[AV.pure] at h
end
theorem frz_one {o:Store} {p:Nat→Bool} {c c':AV} (h:c.frz o p=some c') (h1:c.one=true):c'.one=true:=by
 cases c<;>simp only[AV.one,Bool.false_eq_true] at h1<;>simp only[AV.frz] at h
 all_goals first
  |(injection h with h;subst h;first|exact h1|rfl)
  |((repeat' split at h)<;>first
    |(cases h;done)
    |(injection h with h;subst h;rfl))
structure Frz (o:Store) (p:Nat→Bool) (o2:Store):Prop where
 len:o2.length=o.length
 get:∀i x,o[i]?=some x→(drF o p i=true∧o2[i]?=some .dead)∨(drF o p i=false∧∃y,x.frz o p=some y∧o2[i]?=some y)
theorem frz_of {o o1:Store} {p:Nat→Bool} (h:frzS o p o=some o1):Frz o p (dropPu p 0 o1):=by
 obtain⟨h1,h2⟩:=frzS_get h
 have hl:(dropPu p 0 o1).length=o.length:=by
  rw[←h1]
  apply Nat.le_antisymm
  ·rcases Nat.lt_or_ge o1.length (dropPu p 0 o1).length with h|h
   ·exfalso
    have:=dropPu_get p o1 0 o1.length
    rw[List.getElem?_eq_getElem h] at this
    simp at this
   ·exact h
  ·rcases Nat.lt_or_ge (dropPu p 0 o1).length o1.length with h|h
   ·exfalso
    have:=dropPu_get p o1 0 (dropPu p 0 o1).length
    rw[List.getElem?_eq_getElem h] at this
    simp at this
   ·exact h
 refine⟨hl,fun i x hx=>?_⟩
 obtain⟨y,hy,hy2⟩:=h2 i x hx
 have hg:=dropPu_get p o1 0 i
 rw[hy2,Nat.zero_add] at hg
 simp only[Option.map_some] at hg
 unfold drF
 rw[hx]
 cases x with
 |cells cs e sz pu=>
  cases pu with
  |true=>
   simp only[AObj.frz,if_true,Option.some.injEq] at hy
   subst hy
   simp only[dropO] at hg
   cases hp:p i with
   |true=>left;simp[hp] at hg ⊢;exact hg
   |false=>right;simp[hp] at hg ⊢;exact⟨_,by simp[AObj.frz],hg⟩
  |false=>
   right
   simp only[AObj.frz,Bool.false_eq_true,if_false,Option.map_eq_some_iff] at hy
   obtain⟨cs',hc,rfl⟩:=hy
   simp only[dropO] at hg
   exact⟨by simp,_,by simp[AObj.frz,hc],hg⟩
 |dead=>
  simp only[AObj.frz,Option.some.injEq] at hy
  subst hy
  right
  exact⟨by simp,_,rfl,hg⟩
 |map es kt pu=>
  right
  have:∃es',y= .map es' kt pu:=by
   simp only[AObj.frz] at hy
   split at hy
   ·injection hy with hy;exact⟨es,hy.symm⟩
   ·obtain⟨es',_,rfl⟩:=Option.map_eq_some_iff.1 hy;exact⟨es',rfl⟩
  obtain⟨es',rfl⟩:=this
  exact⟨by simp,_,hy,hg⟩
theorem Frz.tr {o2:Store} {p:Nat→Bool} (h:Frz o p o2) {id:Nat} (hd:drF o p id=false):Tr o σ o2 (sigF o p σ) id id:=by
 refine⟨fun cs e sz pu ho=>?_,fun⟨es,kt,pu,ho⟩=>?_,sigF_keep hd⟩
 ·rcases h.get id _ ho with⟨h1,_⟩|⟨_,y,hy,h2⟩
  ·rw[hd] at h1;cases h1
  ·simp only[AObj.frz] at hy
   split at hy
   ·injection hy with hy;subst hy;exact⟨cs,e,pu,h2,rfl⟩
   ·obtain⟨cs',hc,rfl⟩:=Option.map_eq_some_iff.1 hy
    exact⟨cs',e,pu,h2,(frzL_get hc).1⟩
 ·rcases h.get id _ ho with⟨h1,_⟩|⟨_,y,hy,h2⟩
  ·rw[hd] at h1;cases h1
  ·simp only[AObj.frz] at hy
   split at hy
   ·injection hy with hy;subst hy;exact⟨es,kt,pu,h2⟩
   ·obtain⟨es',hc,rfl⟩:=Option.map_eq_some_iff.1 hy
    exact⟨es',kt,pu,h2⟩
theorem fr_sigF {p:Nat→Bool} {b:Nat} (h:Fr A σ b):Fr A (sigF o p σ) b:=⟨fun⟨i,c,hi⟩=>h.1 ⟨i,c,(sigF_some hi).1⟩,h.2⟩
mutual
theorem Rep.frz (hS:SimO A w σ o) {p:Nat→Bool} {o2:Store} (hF:Frz o p o2):∀(c:AV) (v:Value) (c':AV),c.frz o p=some c'→Rep A w σ o c v→Rep A w (sigF o p σ) o2 c' v
 | .ud,v,c',hc,_=>by simp only[AV.frz,Option.some.injEq] at hc;subst hc;simp[Rep]
 | .sc u,v,c',hc,h=>by simp only[AV.frz,Option.some.injEq] at hc;subst hc;simpa[Rep] using h
 | .sl n cs,v,c',hc,h=>by
  simp only[AV.frz,Option.some.injEq] at hc;subst hc
  exact Rep.ren (m:=fun _=>none) (fun b _ hf=>fr_sigF hf) (fun _ _ h=>by cases h) _ _ _ rfl h
 | .ep cs off,v,c',hc,h=>by
  simp only[AV.frz,Option.some.injEq] at hc;subst hc
  exact Rep.ren (m:=fun _=>none) (fun b _ hf=>fr_sigF hf) (fun _ _ h=>by cases h) _ _ _ rfl h
 | .agg cs,v,c',hc,h=>by
  simp only[AV.frz,Option.map_eq_some_iff] at hc
  obtain⟨cs',h1,rfl⟩:=hc
  simp only[Rep] at h ⊢
  obtain⟨vs,rfl,hl⟩:=h
  exact⟨vs,rfl,RepL.frz hS hF cs _ cs' h1 hl⟩
 | .tup cs,v,c',hc,h=>by
  simp only[AV.frz,Option.map_eq_some_iff] at hc
  obtain⟨cs',h1,rfl⟩:=hc
  simp only[Rep] at h ⊢
  obtain⟨vs,rfl,hl⟩:=h
  exact⟨vs,rfl,RepL.frz hS hF cs _ cs' h1 hl⟩
 | .ptr id off tot,v,c',hc,h=>by
  have hd:drF o p id=false∧c'= .ptr id off tot:=by
   unfold drF
   simp only[AV.frz] at hc
   split at hc
   ·rename_i hp
    split at hc
    ·rename_i pu ho
     split at hc
     ·cases hc
     ·rename_i hpu
      injection hc with hc
      refine⟨?_,hc.symm⟩
      cases pu with
      |true=>exact absurd rfl hpu
      |false=>simp[ho]
    ·rename_i hne
     injection hc with hc
     refine⟨?_,hc.symm⟩
     have:(match o[id]? with|some (.cells _ _ _ true)=>true|_=>false)=false:=by
      split
      ·rename_i a b c ho;exact absurd ho (hne _ _ _ _)
      ·rfl
     rw[this,Bool.and_false]
   ·rename_i hp
    injection hc with hc
    exact⟨by simp[hp],hc.symm⟩
  obtain⟨hd,rfl⟩:=hd
  exact Rep.ren (m:=fun i=>if i=id then some id else none) (fun b _ hf=>fr_sigF hf) (fun i j hij=>by
   split at hij
   ·rename_i h0;injection hij with hij;subst h0;subst hij;exact hF.tr hd
   ·cases hij) _ _ _ (by simp[AV.ren]) h
 | .mp id,v,c',hc,h=>by
  simp only[AV.frz,Option.some.injEq] at hc;subst hc
  have hd:drF o p id=false:=by
   simp only[Rep] at h
   obtain⟨⟨es,kt,pu,ho⟩,_⟩:=h
   simp[drF,ho]
  exact Rep.ren (m:=fun i=>if i=id then some id else none) (fun b _ hf=>fr_sigF hf) (fun i j hij=>by
   split at hij
   ·rename_i h0;injection hij with hij;subst h0;subst hij;exact hF.tr hd
   ·cases hij) _ _ _ (by simp[AV.ren]) h
 | .fn f a b,v,c',hc,h=>by
  simp only[AV.frz] at hc
  split at hc
  ·rename_i a' b' h1 h2
   injection hc with hc;subst hc
   simp only[Rep] at h ⊢
   obtain⟨x,y,rfl,hx,hy⟩:=h
   exact⟨x,y,rfl,RepL.frz hS hF a _ a' h1 hx,RepL.frz hS hF b _ b' h2 hy⟩
  ·cases hc
 | .os id off len tot,v,c',hc,h=>by
  have keep:drF o p id=false→c'= .os id off len tot→Rep A w (sigF o p σ) o2 c' v:=by
   rintro hd rfl
   exact Rep.ren (m:=fun i=>if i=id then some id else none) (fun b _ hf=>fr_sigF hf) (fun i j hij=>by
    split at hij
    ·rename_i h0;injection hij with hij;subst h0;subst hij;exact hF.tr hd
    ·cases hij) _ _ _ (by simp[AV.ren]) h
  simp only[AV.frz] at hc
  split at hc
  ·rename_i hp
   split at hc
   ·rename_i cs e sz pu ho
    split at hc
    ·rename_i hpu
     subst hpu
     split at hc
     ·rename_i hcond
      injection hc with hc;subst hc
      obtain⟨htot,hrange⟩:=hcond
      have hdr:drF o p id=true:=by simp[drF,hp,ho]
      simp only[Rep] at h
      obtain⟨hle,X,cap,rfl,hlc,hcur⟩:=h
      have hk:=hcur sz ⟨cs,e,true,ho,htot⟩
      have hob:=hS.obj id _ ho
      simp only[ObjOK] at hob
      obtain⟨q1,q2,q3⟩:=hob
      have hpure:pureL ((cs.drop off).take (len*sz))=true:=pureL_of fun c hc=>pureL_get (q1 trivial) c (List.mem_of_mem_drop (List.mem_of_mem_take hc))
      simp only[Rep]
      refine⟨X,cap,rfl,hlc,hpure,RepM.of_get _ _ _ fun j c hc=>?_⟩
      have hcp:=pureL_get hpure c (List.mem_of_getElem? hc)
      rw[List.getElem?_take] at hc
      split at hc
      ·rename_i hj
       rw[List.getElem?_drop] at hc
       have hpos:0<len:=by
        rcases Nat.eq_zero_or_pos len with h0|h0
        ·subst h0;simp at hj
        ·exact h0
       unfold OsOk at hk
       split at hk
       ·omega
       ·rename_i b c2 hσ
        rcases q3 with⟨h0,_⟩|⟨b',cap',arr,r1,_,r3,_,_,r6⟩
        ·rw[hσ] at h0;cases h0
        ·rw[hσ] at r1
         simp only[Option.some.injEq,Prod.mk.injEq] at r1
         obtain⟨rfl,rfl⟩:=r1
         obtain⟨u,hu,hru⟩:=r6 _ c hc
         refine⟨⟨b,off,none⟩,u,(by rw[hk.1 hpos,offR_le (by omega)]),⟨?_,hS.av id b c2 hσ⟩,?_,?_⟩
         ·rintro⟨i,c3,hi⟩
          obtain⟨k1,k2⟩:=sigF_some hi
          have:=hS.dist id i b c2 c3 hσ k1
          subst this
          rw[hdr] at k2;cases k2
         ·rw[Nat.zero_add,add_own]
          simp[World.cell?,r3,hu]
         ·exact Rep.ren (m:=fun _=>none) (fun b _ hf=>fr_sigF hf) (fun _ _ h=>by cases h) c u c (AV.pure_ren _ c hcp) hru
       ·exact hk.elim
      ·cases hc
     ·cases hc
    ·rename_i hpu
     injection hc with hc
     refine keep ?_ hc.symm
     cases pu with
     |true=>exact absurd rfl hpu
     |false=>simp[drF,ho]
   ·rename_i hne
    injection hc with hc
    refine keep ?_ hc.symm
    unfold drF
    have:(match o[id]? with|some (.cells _ _ _ true)=>true|_=>false)=false:=by
     split
     ·rename_i a b c ho;exact absurd ho (hne _ _ _ _)
     ·rfl
    rw[this,Bool.and_false]
  ·rename_i hp
   injection hc with hc
   exact keep (by simp[drF,hp]) hc.symm
theorem RepL.frz (hS:SimO A w σ o) {p:Nat→Bool} {o2:Store} (hF:Frz o p o2):∀(cs:List AV) (vs:List Value) (cs':List AV),frzL o p cs=some cs'→RepL A w σ o cs vs→RepL A w (sigF o p σ) o2 cs' vs
 |[],vs,cs',hc,h=>by simp only[frzL,Option.some.injEq] at hc;subst hc;simpa[RepL] using h
 |c::cs,vs,cs',hc,h=>by
  simp only[frzL] at hc
  split at hc
  ·rename_i c1 cs1 h1 h2
   injection hc with hc;subst hc
   simp only[RepL] at h ⊢
   obtain⟨v,r,rfl,hv,hl⟩:=h
   exact⟨v,r,rfl,Rep.frz hS hF c v c1 h1 hv,RepL.frz hS hF cs r cs1 h2 hl⟩
  ·cases hc
end
end
section
variable {A:Clr} {w:World} {σ:Sig} {o:Store}
theorem ObjOK.frz (hS:SimO A w σ o) {p:Nat→Bool} {o2:Store} (hF:Frz o p o2) {i:Nat} {x y:AObj} (hx:o[i]?=some x) (hd:drF o p i=false) (hy:x.frz o p=some y):ObjOK A w (sigF o p σ) o2 i y:=by
 have h:=hS.obj i x hx
 have hσ:=sigF_keep (σ:=σ) hd
 cases x with
 |dead=>simp only[AObj.frz,Option.some.injEq] at hy;subst hy;simp only[ObjOK] at h ⊢;rw[hσ];exact h
 |cells cs e sz pu=>
  simp only[ObjOK] at h
  obtain⟨h1,h2,h3⟩:=h
  have key:∀cs',cs'.length=cs.length→(pu=true→pureL cs'=true)→oneL cs'=true→(∀(j:Nat) (c':AV) (v:Value),cs'[j]?=some c'→(∀c,cs[j]?=some c→Rep A w σ o c v→Rep A w (sigF o p σ) o2 c' v))→ObjOK A w (sigF o p σ) o2 i (.cells cs' e sz pu):=by
   intro cs' k1 k2 k3 k4
   simp only[ObjOK]
   refine⟨k2,k3,?_⟩
   rcases h3 with⟨h0,h0'⟩|⟨b,cap,arr,r1,r2,r3,r4,r5,r6⟩
   ·left;rw[hσ];exact⟨h0,List.eq_nil_of_length_eq_zero (by rw[k1,h0'];rfl)⟩
   ·refine .inr ⟨b,cap,arr,by rw[hσ];exact r1,r2,r3,r4,by omega,fun j c' hj=>?_⟩
    have hjl:j<cs.length:=by have:=(List.getElem?_eq_some_iff.1 hj).1;omega
    obtain⟨v,hv,hr⟩:=r6 j _ (List.getElem?_eq_getElem hjl)
    exact⟨v,hv,k4 j c' v hj _ (List.getElem?_eq_getElem hjl) hr⟩
  simp only[AObj.frz] at hy
  split at hy
  ·rename_i hpu
   injection hy with hy;subst hy
   refine key cs rfl h1 h2 fun j c' v hj c hc hr=>?_
   rw[hj] at hc
   injection hc with hc
   subst hc
   exact Rep.frz hS hF c' v c' (AV.pure_frz o p c' (pureL_get (h1 hpu) c' (List.mem_of_getElem? hj))) hr
  ·rename_i hpu
   obtain⟨cs',hc',rfl⟩:=Option.map_eq_some_iff.1 hy
   obtain⟨g1,g2⟩:=frzL_get hc'
   refine key cs' g1 (fun hp=>absurd hp hpu) (oneL_of.2 fun c hc=>?_) fun j c' v hj c hc hr=>?_
   ·obtain⟨j,hj⟩:=List.getElem?_of_mem hc
    obtain⟨c0,q1,q2⟩:=g2 j c hj
    exact frz_one q2 (oneL_of.1 h2 c0 (List.mem_of_getElem? q1))
   ·obtain⟨c0,q1,q2⟩:=g2 j c' hj
    rw[hc] at q1
    injection q1 with q1
    subst q1
    exact Rep.frz hS hF c v c' q2 hr
 |map es kt pu=>
  simp only[ObjOK] at h
  obtain⟨h1,h2,b,c,en,cl,h3,h4,h5,h6⟩:=h
  simp only[AObj.frz] at hy
  split at hy
  ·rename_i hpu
   injection hy with hy;subst hy
   simp only[ObjOK]
   refine⟨h1,h2,b,c,en,cl,by rw[hσ];exact h3,h4,h5,fun j e he=>?_⟩
   obtain⟨m',q1,q2,q3⟩:=h6 j e he
   exact⟨m',q1,q2,Rep.frz hS hF e.2 _ e.2 (AV.pure_frz o p e.2 (h1 hpu e (List.mem_of_getElem? he))) q3⟩
  ·rename_i hpu
   obtain⟨es',hc',rfl⟩:=Option.map_eq_some_iff.1 hy
   obtain⟨g1,g2⟩:=frzM_get hc'
   simp only[ObjOK]
   refine⟨fun hp=>absurd hp hpu,fun e he=>?_,b,c,en,cl,by rw[hσ];exact h3,h4,by omega,fun j e' he=>?_⟩
   ·obtain⟨j,hj⟩:=List.getElem?_of_mem he
    obtain⟨e0,q1,q2,_⟩:=g2 j e hj
    rw[←q2]
    exact h2 e0 (List.mem_of_getElem? q1)
   ·obtain⟨e0,q1,q2,q3⟩:=g2 j e' he
    obtain⟨m',r1,r2,r3⟩:=h6 j e0 q1
    exact⟨m',r1,by rw[r2,q2],Rep.frz hS hF e0.2 _ e'.2 q3 r3⟩
theorem SimO.frz (hS:SimO A w σ o) {p:Nat→Bool} {o2:Store} (hF:Frz o p o2):SimO A w (sigF o p σ) o2:=by
 refine⟨by rw[sigF_len,hF.len,hS.len],fun i j b c d hi hj=>hS.dist i j b c d (sigF_some hi).1 (sigF_some hj).1,fun i b c hi=>hS.bnd i b c (sigF_some hi).1,fun i y hy=>?_,fun i b c hi=>hS.av i b c (sigF_some hi).1,hS.avb⟩
 have hi:i<o.length:=by have:=(List.getElem?_eq_some_iff.1 hy).1;rw[hF.len] at this;exact this
 have hx:=List.getElem?_eq_getElem hi
 rcases hF.get i _ hx with⟨h1,h2⟩|⟨h1,z,h2,h3⟩
 ·rw[hy] at h2
  injection h2 with h2
  subst h2
  simp only[ObjOK]
  rw[sigF_get (by rw[hS.len];exact hi),h1]
  rfl
 ·rw[hy] at h3
  injection h3 with h3
  subst h3
  exact ObjOK.frz hS hF hx h1 h2
theorem Ext.frz {w0:World} {σ0:Sig} {o0:Store} (hE:Ext w0 σ0 o0 w σ o) {p:Nat→Bool} {o2:Store} (hF:Frz o p o2) (hp:∀i,i<o0.length→p i=false):Ext w0 σ0 o0 w (sigF o p σ) o2 where
 size:=hE.size
 blk:=fun b hb hn=>by
  obtain⟨h1,h2⟩:=hE.blk b hb hn
  exact⟨h1,fun⟨i,c,hi⟩=>h2 ⟨i,c,(sigF_some hi).1⟩⟩
 len:=by rw[hF.len];exact hE.len
 cur:=fun id tot ha=>by
  obtain⟨h1,h2⟩:=hE.cur id tot ha
  have hid:id<o0.length:=by obtain⟨cs,e,sz,pu,ho,_⟩:=ha;exact(List.getElem?_eq_some_iff.1 ho).1
  have hd:drF o p id=false:=by simp[drF,hp id hid]
  have ht:=hF.tr (σ:=σ) hd
  refine⟨ht.lenLe h1,fun sz hc=>?_⟩
  rw[ht.2.2]
  exact h2 sz (ht.cur h1 hc)
 isMap:=fun id ha=>by
  obtain⟨h1,h2⟩:=hE.isMap id ha
  have hid:id<o0.length:=by obtain⟨es,kt,pu,ho⟩:=ha;exact(List.getElem?_eq_some_iff.1 ho).1
  have hd:drF o p id=false:=by simp[drF,hp id hid]
  have ht:=hF.tr (σ:=σ) hd
  exact⟨ht.2.1 h1,by rw[ht.2.2];exact h2⟩
 os:=hE.os
 tape:=hE.tape
 output:=hE.output
end
def visitR (o:Store) (d:Nat) (id:Nat) (acc:List Nat):List Nat:=
 if acc.contains id then acc else
 match o[id]? with
 |some (.cells cs _ _ pu)=>if pu then acc++[id] else reachF o d cs (acc++[id])
 |some (.map es _ pu)=>if pu then acc++[id] else reachF o d (es.map (·.2)) (acc++[id])
 |_=>acc++[id]
def stepR (o:Store) (d:Nat) (v:AV) (acc:List Nat):List Nat:=
 match v with
 | .agg cs| .tup cs=>reachF o d cs acc
 | .ptr id _ _| .os id _ _ _| .mp id=>visitR o d id acc
 | .fn _ a b=>reachF o d b (reachF o d a acc)
 |_=>acc
theorem reachF_cons (o:Store) (d:Nat) (v:AV) (vs:List AV) (acc:List Nat):reachF o (d+1) (v::vs) acc=reachF o d vs (stepR o d v acc):=by
 cases v<;>rfl
theorem putBack_length:∀(ids:List Nat) (o X:Store),(putBack o ids X).length=o.length
 |[],o,X=>by cases X<;>rfl
 |i::r,o,[]=>rfl
 |i::r,o,x::l=>by simp only[putBack];rw[putBack_length r];simp
theorem putBack_ne:∀(ids:List Nat) (o X:Store) (j:Nat),j∉ids→(putBack o ids X)[j]?=o[j]?
 |[],o,X,j,_=>by cases X<;>rfl
 |i::r,o,[],j,_=>rfl
 |i::r,o,x::l,j,h=>by
  simp only[List.mem_cons,not_or] at h
  simp only[putBack]
  rw[putBack_ne r _ l j h.2,List.getElem?_set_ne (Ne.symm h.1)]
theorem renS_length {m:Nat→Option Nat}:∀{o o':Store},renS m o=some o'→o'.length=o.length
 |[],o',h=>by simp only[renS,Option.some.injEq] at h;subst h;rfl
 |x::r,o',h=>by
  simp only[renS] at h
  split at h
  ·rename_i y l h1 h2;injection h with h;subst h;simp[renS_length h2]
  ·cases h
theorem reachF_prefix (o:Store):∀(d:Nat) (vs:List AV) (acc:List Nat),∃t,reachF o d vs acc=acc++t
 |0,vs,acc=>⟨[],by cases vs<;>simp[reachF]⟩
 |d+1,[],acc=>⟨[],by simp[reachF]⟩
 |d+1,v::vs,acc=>by
  rw[reachF_cons]
  have hv:∀id,∃t,visitR o d id acc=acc++t:=by
   intro id
   unfold visitR
   split
   ·exact⟨[],by simp⟩
   ·split
    ·split
     ·exact⟨_,rfl⟩
     ·obtain⟨t,ht⟩:=reachF_prefix o d ‹_› (acc++[id]);exact⟨[id]++t,by rw[ht];simp⟩
    ·split
     ·exact⟨_,rfl⟩
     ·rename_i es _ _ _ _;obtain⟨t,ht⟩:=reachF_prefix o d (es.map (·.2)) (acc++[id]);exact⟨[id]++t,by rw[ht];simp⟩
    ·exact⟨_,rfl⟩
  have hs:∃t,stepR o d v acc=acc++t:=by
   cases v with
   |agg cs=>exact reachF_prefix o d cs acc
   |tup cs=>exact reachF_prefix o d cs acc
   |ptr id _ _=>exact hv id
   |os id _ _ _=>exact hv id
   |mp id=>exact hv id
   |fn f a b=>
    obtain⟨t1,h1⟩:=reachF_prefix o d a acc
    obtain⟨t2,h2⟩:=reachF_prefix o d b (acc++t1)
    exact⟨t1++t2,by simp only[stepR];rw[h1,h2];simp⟩
   |_=>exact⟨[],by simp[stepR]⟩
  obtain⟨t,ht⟩:=hs
  obtain⟨t2,ht2⟩:=reachF_prefix o d vs (acc++t)
  exact⟨t++t2,by rw[ht,ht2];simp⟩
theorem idxOf_spec:∀{ids:List Nat} {i k j:Nat},idxOf ids i k=some j→k≤j∧ids[j - k]?=some i
 |[],i,k,j,h=>by simp[idxOf] at h
 |a::r,i,k,j,h=>by
  simp only[idxOf] at h
  split at h
  ·rename_i hai
   injection h with h;subst h
   simp at hai;subst hai
   simp
  ·obtain⟨h1,h2⟩:=idxOf_spec h
   refine⟨by omega,?_⟩
   rw[show j - k=(j - (k+1))+1 from by omega]
   simpa using h2
theorem nodupN_spec:∀{l:List Nat},callOwn.nodupN l=true→l.Nodup
 |[],_=>List.nodup_nil
 |a::r,h=>by
  simp only[callOwn.nodupN,Bool.and_eq_true,Bool.not_eq_true',List.contains_eq_mem,decide_eq_false_iff_not] at h
  exact List.nodup_cons.2 ⟨h.1,nodupN_spec h.2⟩
theorem subStore_get {o:Store} {ids:List Nat}:∀{r:List Nat} {s:Store},subStore o ids r=some s→s.length=r.length∧∀(j i:Nat),r[j]?=some i→∃x y,o[i]?=some x∧x.ren (fun j=>idxOf ids j)=some y∧s[j]?=some y
 |[],s,h=>by simp only[subStore,Option.some.injEq] at h;subst h;simp
 |a::r,s,h=>by
  simp only[subStore] at h
  split at h
  ·rename_i x l hx hl
   obtain⟨y,hy,rfl⟩:=Option.map_eq_some_iff.1 h
   obtain⟨i1,i2⟩:=subStore_get hl
   refine⟨by simp[i1],fun j i hj=>?_⟩
   cases j with
   |zero=>simp at hj;subst hj;exact⟨x,y,hx,hy,by simp⟩
   |succ j=>obtain⟨x',y',k1,k2,k3⟩:=i2 j i (by simpa using hj);exact⟨x',y',k1,k2,by simpa using k3⟩
  ·cases h
theorem renS_get {m:Nat→Option Nat}:∀{o o':Store},renS m o=some o'→∀(i:Nat) (x:AObj),o[i]?=some x→∃y,x.ren m=some y∧o'[i]?=some y
 |[],o',h,i,x,hx=>by simp at hx
 |a::r,o',h,i,x,hx=>by
  simp only[renS] at h
  split at h
  ·rename_i y l h1 h2
   injection h with h;subst h
   cases i with
   |zero=>simp at hx;subst hx;exact⟨y,h1,by simp⟩
   |succ i=>obtain⟨z,k1,k2⟩:=renS_get h2 i x (by simpa using hx);exact⟨z,k1,by simpa using k2⟩
  ·cases h
theorem ren_cells {m:Nat→Option Nat} {cs:List AV} {e:TypeId} {sz:Nat} {pu:Bool} {y:AObj} (h:(AObj.cells cs e sz pu).ren m=some y):∃cs',y= .cells cs' e sz pu∧cs'.length=cs.length:=by
 simp only[AObj.ren] at h
 split at h
 ·injection h with h;exact⟨cs,h.symm,rfl⟩
 ·obtain⟨cs',hc,rfl⟩:=Option.map_eq_some_iff.1 h;exact⟨cs',rfl,(renL_get hc).1⟩
theorem ren_map {m:Nat→Option Nat} {es:List (Value×AV)} {kt:List Nat×Bool} {pu:Bool} {y:AObj} (h:(AObj.map es kt pu).ren m=some y):∃es',y= .map es' kt pu:=by
 simp only[AObj.ren] at h
 split at h
 ·injection h with h;exact⟨es,h.symm⟩
 ·obtain⟨es',hc,rfl⟩:=Option.map_eq_some_iff.1 h;exact⟨es',rfl⟩
def sigSub (σ:Sig) (ids:List Nat):Sig:=ids.map fun i=>(σ[i]?).getD none
section
variable {A A':Clr} {w:World} {σ:Sig} {o s:Store} {ids:List Nat}
theorem sigSub_some {j:Nat} {t:Nat×Nat} (h:(sigSub σ ids)[j]?=some (some t)):∃i,ids[j]?=some i∧σ[i]?=some (some t):=by
 unfold sigSub at h
 rw[List.getElem?_map] at h
 obtain⟨i,hi,h2⟩:=Option.map_eq_some_iff.1 h
 refine⟨i,hi,?_⟩
 cases hs:σ[i]? with
 |none=>rw[hs] at h2;cases h2
 |some t'=>rw[hs] at h2;simp at h2;rw[h2]
theorem sigSub_get (hlen:σ.length=o.length) (hs:subStore o ids ids=some s) {j i:Nat} (hj:ids[j]?=some i):(sigSub σ ids)[j]?=σ[i]?:=by
 obtain⟨_,h2⟩:=subStore_get hs
 obtain⟨x,y,hx,_,_⟩:=h2 j i hj
 have hi:i<σ.length:=by rw[hlen];exact(List.getElem?_eq_some_iff.1 hx).1
 unfold sigSub
 rw[List.getElem?_map,hj]
 simp[List.getElem?_eq_getElem hi]
theorem sub_tr (hlen:σ.length=o.length) (hs:subStore o ids ids=some s) {id id':Nat} (h:idxOf ids id=some id'):Tr o σ s (sigSub σ ids) id id':=by
 obtain⟨_,hj⟩:=idxOf_spec h
 simp only[Nat.sub_zero] at hj
 obtain⟨_,h2⟩:=subStore_get hs
 obtain⟨x,y,hx,hy,hsy⟩:=h2 id' id hj
 refine⟨fun cs e sz pu ho=>?_,fun⟨es,kt,pu,ho⟩=>?_,sigSub_get hlen hs hj⟩
 ·rw[hx] at ho;injection ho with ho;subst ho
  obtain⟨cs',rfl,hl⟩:=ren_cells hy
  exact⟨cs',e,pu,hsy,hl⟩
 ·rw[hx] at ho;injection ho with ho;subst ho
  obtain⟨es',rfl⟩:=ren_map hy
  exact⟨es',kt,pu,hsy⟩
theorem SimO.sub [SameL A A'] (hS:SimO A w σ o) (hn:ids.Nodup) (hs:subStore o ids ids=some s) (hA:∀b,b<w.heap.size→Fr A σ b→Fr A' (sigSub σ ids) b)
  (hav:∀i∈ids,∀b c,σ[i]?=some (some (b,c))→¬A' b) (havb:∀b,A' b→b<w.heap.size):SimO A' w (sigSub σ ids) s:=by
 obtain⟨h1,h2⟩:=subStore_get hs
 refine⟨by simp[sigSub,h1],fun i j b c d hi hj=>?_,fun i b c hi=>?_,fun j y hy=>?_,fun i b c hi=>?_,havb⟩
 ·obtain⟨x,hx,hx2⟩:=sigSub_some hi
  obtain⟨z,hz,hz2⟩:=sigSub_some hj
  have:=hS.dist x z b c d hx2 hz2
  subst this
  exact(List.getElem?_inj (List.getElem?_eq_some_iff.1 hx).1 hn).1 (hx.trans hz.symm)
 ·obtain⟨x,hx,hx2⟩:=sigSub_some hi
  exact hS.bnd x b c hx2
 ·have hjl:j<ids.length:=by have:=(List.getElem?_eq_some_iff.1 hy).1;omega
  have hj:=List.getElem?_eq_getElem hjl
  obtain⟨x,y',hx,hr,hy'⟩:=h2 j _ hj
  rw[hy] at hy'
  injection hy' with hy'
  subst hy'
  exact ObjOK.ren hA (fun id id' h=>sub_tr hS.len hs h) hr (sigSub_get hS.len hs hj) (hS.obj _ x hx)
 ·obtain⟨x,hx,hx2⟩:=sigSub_some hi
  exact hav x (List.mem_of_getElem? hx) b c hx2
theorem finishOwn_sound {o':Store} {w0:World} {σ0:Sig} {o0:Store} (hS:SimO A w σ o) (hE:Ext w0 σ0 o0 w σ o) {r0 r:AV} {u:Value} (hr:Rep A w σ o r0 u) (hf:finishOwn o0.length r0 o=some (r,o')):
  ∃σ',SimO A w σ' o'∧Rep A w σ' o' r u∧Ext w0 σ0 o0 w σ' o':=by
 unfold finishOwn at hf
 split at hf
 ·rename_i r1 o1 hr1 ho1
  have hF:=frz_of ho1
  have hS2:=hS.frz hF
  have hE2:=hE.frz hF (fun i hi=>by simp only[decide_eq_false_iff_not];omega)
  have hr2:=Rep.frz hS hF _ _ _ hr1 hr
  simp only at hf
  generalize dropPu (fun i=>decide (o0.length≤i)) 0 o1=o2 at hf hF hS2 hE2 hr2
  generalize sigF o (fun i=>decide (o0.length≤i)) σ=σ2 at hS2 hE2 hr2
  obtain⟨t,ht⟩:=reachF_prefix o2 reachD (r1::(o2.take o0.length).flatMap finishOwn.AObj.avs) (List.range o0.length)
  generalize reachF o2 reachD (r1::(o2.take o0.length).flatMap finishOwn.AObj.avs) (List.range o0.length)=ids at hf ht
  split at hf
  ·rename_i hnd
   split at hf
   ·rename_i r2 s2 hrr hss
    simp only[Option.some.injEq,Prod.mk.injEq] at hf
    obtain⟨rfl,rfl⟩:=hf
    have hfr:∀b,b<w.heap.size→Fr A σ2 b→Fr A (sigSub σ2 ids) b:=fun b _ hf=>⟨fun⟨i,c,hi⟩=>by
     obtain⟨x,hx,hx2⟩:=sigSub_some hi
     exact hf.1 ⟨x,c,hx2⟩,hf.2⟩
    have hid:∀i,i<o0.length→ids[i]?=some i:=by
     intro i hi
     rw[ht,List.getElem?_append_left (by simpa using hi)]
     simp[hi]
    have hidx:∀i,i<o0.length→idxOf ids i=some i:=by
     intro i hi
     have hmem:i∈ids:=List.mem_of_getElem? (hid i hi)
     have:∃j,idxOf ids i=some j:=by
      have gen:∀(l:List Nat) (k:Nat),i∈l→∃j,idxOf l i k=some j:=by
       intro l
       induction l with
       |nil=>intro k h;simp at h
       |cons a l ih=>
        intro k h
        simp only[idxOf]
        split
        ·exact⟨k,rfl⟩
        ·rename_i hne
         refine ih (k+1) ((List.mem_cons.1 h).resolve_left fun h2=>hne (by simp[h2]))
      exact gen ids 0 hmem
     obtain⟨j,hj⟩:=this
     obtain⟨_,h2⟩:=idxOf_spec hj
     simp only[Nat.sub_zero] at h2
     have:=(List.getElem?_inj (List.getElem?_eq_some_iff.1 h2).1 (nodupN_spec hnd)).1 (h2.trans (hid i hi).symm)
     rw[hj,this]
    refine⟨sigSub σ2 ids,hS2.sub (nodupN_spec hnd) hss hfr (fun i _ b c h=>hS2.av i b c h) hS2.avb,Rep.ren hfr (fun id id' h=>sub_tr hS2.len hss h) _ _ _ hrr hr2,hE2.size,fun b hb hn=>?_,?_,fun id tot ha=>?_,fun id ha=>?_,hE2.os,hE2.tape,hE2.output⟩
    ·obtain⟨h1,h2⟩:=hE2.blk b hb hn
     refine⟨h1,fun⟨i,c,hi⟩=>?_⟩
     obtain⟨x,hx,hx2⟩:=sigSub_some hi
     exact h2 ⟨x,c,hx2⟩
    ·rw[(subStore_get hss).1,ht];simp
    ·obtain⟨h1,h2⟩:=hE2.cur id tot ha
     have hlt:id<o0.length:=by obtain⟨cs,e,sz,pu,ho,_⟩:=ha;exact(List.getElem?_eq_some_iff.1 ho).1
     have htr:=sub_tr hS2.len hss (hidx id hlt)
     refine⟨htr.lenLe h1,fun sz hc=>?_⟩
     rw[htr.2.2]
     exact h2 sz (htr.cur h1 hc)
    ·obtain⟨h1,h2⟩:=hE2.isMap id ha
     have hlt:id<o0.length:=by obtain⟨es,kt,pu,ho⟩:=ha;exact(List.getElem?_eq_some_iff.1 ho).1
     have htr:=sub_tr hS2.len hss (hidx id hlt)
     exact⟨htr.2.1 h1,by rw[htr.2.2];exact h2⟩
   ·cases hf
  ·cases hf
 ·cases hf
end
theorem putBack_at:∀(ids:List Nat) (o X:Store) (j i:Nat) (x:AObj),ids.Nodup→ids[j]?=some i→i<o.length→X[j]?=some x→(putBack o ids X)[i]?=some x
 |[],o,X,j,i,x,_,hj,_,_=>by simp at hj
 |a::r,o,[],j,i,x,_,_,_,hx=>by simp at hx
 |a::r,o,y::l,j,i,x,hn,hj,hi,hx=>by
  rw[List.nodup_cons] at hn
  simp only[putBack]
  cases j with
  |zero=>
   simp at hj hx
   subst hj;subst hx
   rw[putBack_ne r _ l a hn.1,List.getElem?_set_self hi]
  |succ j=>
   simp only[List.getElem?_cons_succ] at hj hx
   exact putBack_at r _ l j i x hn.2 hj (by simpa using hi) hx
theorem idxOf_mem {i:Nat}:∀{l:List Nat} {k:Nat},i∈l→∃j,idxOf l i k=some j
 |[],k,h=>by simp at h
 |a::l,k,h=>by
  simp only[idxOf]
  split
  ·exact⟨k,rfl⟩
  ·rename_i hne
   exact idxOf_mem ((List.mem_cons.1 h).resolve_left fun h2=>hne (by simp[h2]))
def sigBack (σ σ':Sig) (ids:List Nat):Sig:=
 ((List.range σ.length).map fun i=>match idxOf ids i with|some j=>(σ'[j]?).getD none|none=>(σ[i]?).getD none)++σ'.drop ids.length
section
variable {A:Clr} {w:World} {σ:Sig} {o:Store}
theorem call_own {P:Program} {call:Oracle} (hcall:OracleOK P call) (hS:SimO A w σ o) {f:FuncId} {args:List AV} {vs:List Value} (hr:RepL A w σ o args vs)
  {r:AV} {o':Store} (hc:callOwn call f args o=some (r,o')):
  goodF P f=true∧Calls P f vs.toArray w fun e w'=>∃u σ',e= .returned u∧SimO A w' σ' o'∧Rep A w' σ' o' r u∧Ext w σ o w' σ' o':=by
 unfold callOwn at hc
 simp only at hc
 generalize reachF o reachD args []=ids at hc
 split at hc
 ·rename_i args' small ha hss
  split at hc
  ·rename_i r1 small' hcl
   split at hc
   ·cases hc
   ·rename_i hcond
    simp only[not_or,Bool.not_eq_false,Nat.not_lt] at hcond
    obtain⟨hnl,hnd⟩:=hcond
    have hnd:=nodupN_spec hnd
    split at hc
    ·rename_i r2 big hr2 hbig
     simp only[Option.some.injEq,Prod.mk.injEq] at hc
     obtain⟨rfl,ho'⟩:=hc
     obtain⟨hg,hco,_⟩:=hcall _ _ _ _ _ _ hcl
     refine⟨hg,?_⟩
     have hsub:=subStore_get hss
     have hidlt:∀(j i:Nat),ids[j]?=some i→i<o.length:=fun j i hj=>by
      obtain⟨x,y,hx,_,_⟩:=hsub.2 j i hj
      exact(List.getElem?_eq_some_iff.1 hx).1
     have hsg:=fun {j i:Nat} (hj:ids[j]?=some i)=>sigSub_get hS.len hss hj
     obtain⟨A',hA'b,hA'l⟩:∃A':Clr,(∀b,A' b↔(A b∨(Own σ b∧¬Own (sigSub σ ids) b)))∧A'.l=A.l:=⟨⟨fun b=>A b∨(Own σ b∧¬Own (sigSub σ ids) b),A.l⟩,fun b=>Iff.rfl,rfl⟩
     haveI:SameL A A':=⟨hA'l⟩
     haveI:SameL A' A:=⟨hA'l.symm⟩
     have hfr:∀b,b<w.heap.size→Fr A σ b→Fr A' (sigSub σ ids) b:=fun b _ hf=>⟨fun⟨i,c,hi⟩=>by
      obtain⟨x,hx,hx2⟩:=sigSub_some hi
      exact hf.1 ⟨x,c,hx2⟩,fun h=>((hA'b b).1 h).elim hf.2 fun h=>hf.1 h.1⟩
     have hSs:SimO A' w (sigSub σ ids) small:=hS.sub hnd hss hfr (fun i hi b c h hA=>by
      rcases(hA'b b).1 hA with h1|⟨_,h1⟩
      ·exact hS.av i b c h h1
      ·obtain⟨j,hj⟩:=List.getElem?_of_mem hi
       exact h1 ⟨j,c,by rw[hsg hj];exact h⟩) (fun b h=>((hA'b b).1 h).elim (hS.avb b) fun⟨⟨i,c,hi⟩,_⟩=>hS.bnd i b c hi)
     have hargs:RepL A' w (sigSub σ ids) small args' vs:=RepL.ren hfr (fun id id' h=>sub_tr hS.len hss h) args vs args' ha hr
     refine(hco A' w _ vs hSs hargs).mono ?_
     rintro e w' ⟨u,σ',rfl,hS',hr',hE⟩
     have hbl:=renS_length hbig
     have hN:=hS.len
     have hlenσ:(sigBack σ σ' ids).length=o.length+(small'.length - ids.length):=by simp[sigBack,hN,hS'.len]
     have hleno:o'.length=o.length+(small'.length - ids.length):=by rw[←ho'];simp[putBack_length,hbl]
     have low:∀i,i<o.length→idxOf ids i=none→(sigBack σ σ' ids)[i]?=σ[i]?∧o'[i]?=o[i]?∧i∉ids:=by
      intro i hi hn
      have hni:i∉ids:=fun h=>by obtain⟨j,hj⟩:=idxOf_mem (k:=0) h;rw[hn] at hj;cases hj
      refine⟨?_,?_,hni⟩
      ·unfold sigBack
       rw[List.getElem?_append_left (by simp;omega)]
       simp[hN,hi,hn]
      ·rw[←ho',List.getElem?_append_left (by rw[putBack_length];exact hi),putBack_ne _ _ _ _ hni]
     have tgt:∀j t,backN ids o.length j=some t→(sigBack σ σ' ids)[t]?=σ'[j]?∧o'[t]?=big[j]?:=by
      intro j t hj
      unfold backN at hj
      split at hj
      ·rename_i i hji
       injection hj with hj;subst hj
       have hi:=hidlt j i hji
       have hjn:j<ids.length:=(List.getElem?_eq_some_iff.1 hji).1
       obtain⟨j2,hj2⟩:=idxOf_mem (k:=0) (List.mem_of_getElem? hji)
       have hj3:=(idxOf_spec hj2).2
       simp only[Nat.sub_zero] at hj3
       have:=(List.getElem?_inj (List.getElem?_eq_some_iff.1 hj3).1 hnd).1 (hj3.trans hji.symm)
       subst this
       constructor
       ·unfold sigBack
        rw[List.getElem?_append_left (by simp;omega)]
        have:j2<σ'.length:=by rw[hS'.len];omega
        simp[hN,hi,hj2,List.getElem?_eq_getElem this]
       ·have hb:j2<big.length:=by omega
        rw[←ho',List.getElem?_append_left (by rw[putBack_length];exact hi),List.getElem?_eq_getElem hb]
        exact putBack_at ids o _ j2 i _ hnd hji hi (by rw[List.getElem?_take_of_lt hjn,List.getElem?_eq_getElem hb])
      ·rename_i hji
       injection hj with hj;subst hj
       have hjn:=List.getElem?_eq_none_iff.1 hji
       constructor
       ·unfold sigBack
        rw[List.getElem?_append_right (by simp;omega)]
        simp only[List.length_map,List.length_range,List.getElem?_drop,hN]
        congr 1;omega
       ·rw[←ho',List.getElem?_append_right (by rw[putBack_length];omega),putBack_length,List.getElem?_drop]
        congr 1;omega
     have inv:∀i,i<o'.length→(∃j,j<small'.length∧backN ids o.length j=some i)∨(i<o.length∧idxOf ids i=none):=by
      intro i hi
      rw[hleno] at hi
      rcases Nat.lt_or_ge i o.length with h1|h1
      ·cases hq:idxOf ids i with
       |none=>exact .inr ⟨h1,rfl⟩
       |some j=>
        left
        have hj3:=(idxOf_spec hq).2
        simp only[Nat.sub_zero] at hj3
        have:=(List.getElem?_eq_some_iff.1 hj3).1
        exact⟨j,by omega,by simp[backN,hj3]⟩
      ·left
       refine⟨ids.length+(i - o.length),by omega,?_⟩
       unfold backN
       rw[List.getElem?_eq_none (by omega)]
       simp only[Option.some.injEq]
       omega
     have clash:∀i b c,i<o.length→idxOf ids i=none→σ[i]?=some (some (b,c))→A' b:=by
      intro i b c hi hn hs
      refine(hA'b b).2 (.inr ⟨⟨i,c,hs⟩,?_⟩)
      rintro⟨j,d,hj⟩
      obtain⟨x,hx,hx2⟩:=sigSub_some hj
      have:=hS.dist i x b c d hs hx2
      subst this
      exact(low i hi hn).2.2 (List.mem_of_getElem? hx)
     have own:∀i b c,(sigBack σ σ' ids)[i]?=some (some (b,c))→(∃j,backN ids o.length j=some i∧σ'[j]?=some (some (b,c)))∨(i<o.length∧idxOf ids i=none∧σ[i]?=some (some (b,c))):=by
      intro i b c hi
      have hlt:=(List.getElem?_eq_some_iff.1 hi).1
      rw[hlenσ,←hleno] at hlt
      rcases inv i hlt with⟨j,hj,hb⟩|⟨h1,h2⟩
      ·exact .inl ⟨j,hb,by rw[←(tgt j i hb).1];exact hi⟩
      ·exact .inr ⟨h1,h2,by rw[←(low i h1 h2).1];exact hi⟩
     have htr:∀j t,backN ids o.length j=some t→Tr small' σ' o' (sigBack σ σ' ids) j t:=by
      intro j t hj
      obtain⟨t1,t2⟩:=tgt j t hj
      refine⟨fun cs e sz pu ho=>?_,fun⟨es,kt,pu,ho⟩=>?_,t1⟩
      ·obtain⟨y,hy,hy2⟩:=renS_get hbig j _ ho
       obtain⟨cs',rfl,hl⟩:=ren_cells hy
       exact⟨cs',e,pu,by rw[t2];exact hy2,hl⟩
      ·obtain⟨y,hy,hy2⟩:=renS_get hbig j _ ho
       obtain⟨es',rfl⟩:=ren_map hy
       exact⟨es',kt,pu,by rw[t2];exact hy2⟩
     have hfr':∀b,b<w'.heap.size→Fr A' σ' b→Fr A (sigBack σ σ' ids) b:=by
      intro b _ hf
      refine⟨?_,fun h=>hf.2 ((hA'b b).2 (.inl h))⟩
      rintro⟨i,c,hi⟩
      rcases own i b c hi with⟨j,_,hj⟩|⟨h1,h2,h3⟩
      ·exact hf.1 ⟨j,c,hj⟩
      ·exact hf.2 (clash i b c h1 h2 h3)
     have hnotin:∀i b c,i<o.length→idxOf ids i=none→σ[i]?=some (some (b,c))→¬Own (sigSub σ ids) b:=by
      rintro i b c hi hn hs ⟨j,d,hj⟩
      obtain⟨x,hx,hx2⟩:=sigSub_some hj
      have:=hS.dist i x b c d hs hx2
      subst this
      exact(low i hi hn).2.2 (List.mem_of_getElem? hx)
     have hsubown:∀b,Own (sigSub σ ids) b→Own σ b:=fun b ⟨i,c,hi⟩=>by
      obtain⟨x,hx,hx2⟩:=sigSub_some hi
      exact⟨x,c,hx2⟩
     have hback:∀id,id<o.length→∀j,idxOf ids id=some j→backN ids o.length j=some id:=by
      intro id _ j hj
      have hj3:=(idxOf_spec hj).2
      simp only[Nat.sub_zero] at hj3
      simp[backN,hj3]
     have hEx:Ext w σ o w' (sigBack σ σ' ids) o':=by
      refine⟨hE.size,fun b hb hn=>?_,by rw[hleno];omega,fun id tot hle=>?_,fun id hm=>?_,hE.os,hE.tape,hE.output⟩
      ·obtain⟨h1,h2⟩:=hE.blk b hb fun h=>hn (hsubown b h)
       refine⟨h1,?_⟩
       rintro⟨i,c,hi⟩
       rcases own i b c hi with⟨j,_,hj⟩|⟨_,_,h3⟩
       ·exact h2 ⟨j,c,hj⟩
       ·exact hn ⟨i,c,h3⟩
      ·have hid:id<o.length:=by obtain⟨cs,e,sz,pu,ho,_⟩:=hle;exact(List.getElem?_eq_some_iff.1 ho).1
       cases hq:idxOf ids id with
       |none=>
        obtain⟨l1,l2,_⟩:=low id hid hq
        refine⟨?_,fun sz hcu=>⟨?_,l1⟩⟩
        ·obtain⟨cs,e,sz,pu,ho,hl⟩:=hle
         exact⟨cs,e,sz,pu,by rw[l2];exact ho,hl⟩
        ·obtain⟨cs,e,pu,ho,hl⟩:=hcu
         exact⟨cs,e,pu,by rw[←l2];exact ho,hl⟩
       |some j=>
        have t1:=sub_tr hS.len hss hq
        have t2:=htr j id (hback id hid j hq)
        obtain⟨h1,h2⟩:=hE.cur j tot (t1.lenLe hle)
        refine⟨t2.lenLe h1,fun sz hcu=>?_⟩
        obtain⟨h3,h4⟩:=h2 sz (t2.cur h1 hcu)
        exact⟨t1.cur hle h3,by rw[t2.2.2,h4,t1.2.2]⟩
      ·have hid:id<o.length:=by obtain⟨es,kt,pu,ho⟩:=hm;exact(List.getElem?_eq_some_iff.1 ho).1
       cases hq:idxOf ids id with
       |none=>
        obtain⟨l1,l2,_⟩:=low id hid hq
        obtain⟨es,kt,pu,ho⟩:=hm
        exact⟨⟨es,kt,pu,by rw[l2];exact ho⟩,l1⟩
       |some j=>
        have t1:=sub_tr hS.len hss hq
        have t2:=htr j id (hback id hid j hq)
        obtain⟨h1,h2⟩:=hE.isMap j (t1.2.1 hm)
        exact⟨t2.2.1 h1,by rw[t2.2.2,h2,t1.2.2]⟩
     refine⟨u,sigBack σ σ' ids,rfl,⟨by rw[hlenσ,hleno],fun i k b c d hi hk=>?_,fun i b c hi=>?_,fun i y hy=>?_,fun i b c hi=>?_,fun b hb=>Nat.lt_of_lt_of_le (hS.avb b hb) hE.size⟩,Rep.ren hfr' htr _ _ _ hr2 hr',hEx⟩
     ·rcases own i b c hi with⟨j,hj,hj2⟩|⟨h1,h2,h3⟩<;>rcases own k b d hk with⟨l,hl,hl2⟩|⟨g1,g2,g3⟩
      ·have:=hS'.dist j l b c d hj2 hl2
       subst this
       rw[hj] at hl
       injection hl
      ·exact absurd (clash k b d g1 g2 g3) (hS'.av j b c hj2)
      ·exact absurd (clash i b c h1 h2 h3) (hS'.av l b d hl2)
      ·exact hS.dist i k b c d h3 g3
     ·rcases own i b c hi with⟨j,hj,hj2⟩|⟨h1,h2,h3⟩
      ·exact hS'.bnd j b c hj2
      ·exact Nat.lt_of_lt_of_le (hS.bnd i b c h3) hE.size
     ·rcases inv i (List.getElem?_eq_some_iff.1 hy).1 with⟨j,hjl,hj⟩|⟨h1,h2⟩
      ·have hx:=List.getElem?_eq_getElem hjl
       obtain⟨z,hz,hz2⟩:=renS_get hbig j _ hx
       obtain⟨t1,t2⟩:=tgt j i hj
       rw[←t2,hy] at hz2
       injection hz2 with hz2
       subst hz2
       exact ObjOK.ren hfr' htr hz t1 (hS'.obj j _ hx)
      ·obtain⟨l1,l2,_⟩:=low i h1 h2
       rw[l2] at hy
       exact(hS.obj i y hy).ext hEx l1 fun b c hb=>(hE.blk b (hS.bnd i b c hb) (hnotin i b c h1 h2 hb)).1
     ·rcases own i b c hi with⟨j,hj,hj2⟩|⟨h1,h2,h3⟩
      ·exact fun h=>hS'.av j b c hj2 ((hA'b b).2 (.inl h))
      ·exact hS.av i b c h3
    ·cases hc
  ·cases hc
 ·cases hc
end
section
variable {P:Program} {A:Clr} {w w':World} {σ σ':Sig} {o o':Store}
theorem call_any {call:Oracle} (hcall:OracleOK P call) (hS:SimO A w σ o) {f:FuncId} {args:List AV} {vs:List Value} (hr:RepL A w σ o args vs) {own:Bool} {r:AV} (hc:callA call f args o own=some (r,o')):
  goodF P f=true∧Calls P f vs.toArray w fun e w'=>∃u σ',e= .returned u∧SimO A w' σ' o'∧Rep A w' σ' o' r u∧Ext w σ o w' σ' o':=by
 unfold callA at hc
 split at hc
 ·exact call_own hcall hS hr hc
 ·split at hc
  ·cases hc
  ·rename_i args' ha
   split at hc
   ·rename_i r' hc'
    split at hc
    ·rename_i hcl
     simp only[Option.some.injEq,Prod.mk.injEq] at hc
     obtain⟨rfl,rfl⟩:=hc
     simp only[Bool.or_eq_true] at hcl
     exact call_pure hcall hS hr ha hc' hcl
    ·cases hc
   ·cases hc
theorem run_callFunc {f:FuncId} (hg:goodF P f=true) (args:Array Value) (w:World):(callFunc f args).run P w= .ok (.enter f args) w:=by
 unfold goodF at hg
 cases hf:P.funcs[f]? with
 |none=>simp[hf] at hg
 |some fn=>
  simp only[hf,Option.any_some,Bool.and_eq_true,Bool.not_eq_true'] at hg
  have h2:fn.body.isNone=false:=by cases hb:fn.body<;>simp_all
  have h3:¬fn.name= "runtime.NumGoroutine" :=by
   have:=hg.2
   simpa using this
  have h4:¬fn.body=none:=by intro hb;simp[hb] at h2
  simp[callFunc,program,Sem.run,hf,h3,h4]
theorem compOp_call {fl:Bool} {oper:Oper} {iop:IOp} (hc:compOp P fl oper=some iop) (h:iop.isCall=true):
  ∃c:Call,oper.op= .call c∧((∃f,c.callee= .value (.func f)∧iop= .call f c.args.toList fl)∨∃x,c.callee= .value x∧iop= .callv x c.args.toList fl):=by
 cases hop:oper.op
 case call c=>
  refine⟨c,rfl,?_⟩
  simp only[compOp,hop] at hc
  split at hc
  ·rename_i f hcal
   split at hc
   ·injection hc with hc;exact .inl ⟨f,hcal,hc.symm⟩
   ·cases hc
  ·rename_i x _ hcal
   injection hc with hc
   exact .inr ⟨x,hcal,hc.symm⟩
  all_goals
   exfalso
   (repeat' (split at hc))<;>first
    |(cases hc;done)
    |(injection hc with hc;subst hc;simp[IOp.isCall] at h;done)
 case buildSlice=>
  exfalso
  simp only[compOp,hop] at hc
  (repeat' (split at hc))<;>first
   |(cases hc;done)
   |(injection hc with hc;subst hc;simp[IOp.isCall] at h;done)
   |(injection hc with hc;subst hc;split at h<;>simp[IOp.isCall] at h;done)
 case slice t x lo hi mx=>
  exfalso
  cases mx<;>cases hi<;>simp only[compOp,hop,reduceCtorEq] at hc
  all_goals try (repeat' (split at hc))<;>first
   |(cases hc;done)
   |(injection hc with hc;subst hc;simp[IOp.isCall] at h;done)
 case makeMap t r=>
  exfalso
  cases r<;>simp only[compOp,hop,reduceCtorEq] at hc
  (repeat' (split at hc))<;>first
   |(cases hc;done)
   |(injection hc with hc;subst hc;simp[IOp.isCall] at h;done)
 all_goals
  exfalso
  simp only[compOp,hop,reduceCtorEq] at hc
  try (repeat' (split at hc))<;>first
   |(cases hc;done)
   |(injection hc with hc;subst hc;simp[IOp.isCall] at h;done)
   |(obtain⟨_,_,rfl⟩:=Option.map_eq_some_iff.1 hc;simp[IOp.isCall] at h;done)
def FR (rnd:Option Nat):Fence:={Fence.wide with round:=rnd}
theorem callsIn_FR {rnd:Option Nat} {n:Nat} {f:FuncId} {args:Array Value} {R:Ending→World→Prop} (h:Calls P f args w R):CallsIn (FR rnd) n P f args w R:=
 (callsIn_wide (n:=n)).2 h
theorem compOp_defer {fl:Bool} {oper:Oper} {iop:IOp} (hc:compOp P fl oper=some iop) (c:Call):oper.op≠ .defer c:=by
 intro h
 simp only[compOp,h] at hc
 cases hc
theorem op_wp {call:Oracle} (hcall:OracleOK P call) {fl:Bool} {oper:Oper} {iop:IOp} (hc:compOp P fl oper=some iop) (hS:SimO A w σ o) {ρA:Operand→AV} {a:Act} (hρ:∀x,Rep A w σ o (ρA x) (a.eval x)) {nid:Nat} {v:AV}
  (he:eff call iop ρA o nid=some (v,o')) {next:Act→World→Prop} {Q:Exit→Act→World→Prop}
  (hk:∀u w' σ',SimO A w' σ' o'→Rep A w' σ' o' v u→Ext w σ o w' σ' o'→next (a.put oper.dst u) w') {rnd:Option Nat}:oper.wpIn (FR rnd) 0 P a w next Q:=by
 have hsem:oper.semAt (FR rnd).round a.eval=execOp a.eval oper:=Oper.semAt_eq _ _ _ (compOp_defer hc)
 by_cases hcl:iop.isCall=false
 ·obtain⟨u,w1,σ1,hrun,h1,h2,h3⟩:=eff_gives hc hcl hS hρ he
  unfold Oper.wpIn
  rw[hsem]
  refine⟨fun _ _=>trivial,?_⟩
  rcases hrun with hrun|⟨hrun,rfl⟩
  ·rw[hrun]
   exact hk u w1 σ1 h1 h2 h3
  ·rw[hrun]
   exact hk undef w1 σ1 h1 h2 h3
 ·
  have fin:∀(f:FuncId) (args:List AV) (vs:List Value) (own:Bool),RepL A w σ o args vs→callA call f args o own=some (v,o')→
    (goodF P f=true→(execOp a.eval oper).run P w= .ok (.enter f vs.toArray) w)→oper.wpIn (FR rnd) 0 P a w next Q:=by
   intro f args vs own hr hca hex
   obtain⟨hg,hcs⟩:=call_any hcall hS hr hca
   unfold Oper.wpIn
   rw[hsem,hex hg]
   refine⟨fun _ _=>trivial,fun h=>by simp[FR,Fence.wide] at h,(callsIn_FR hcs).mono ?_⟩
   rintro e w' ⟨u,σ',rfl,q1,q2,q3⟩
   exact hk u w' σ' q1 q2 q3
  obtain⟨c,hop,hh⟩:=compOp_call hc (by simpa using hcl)
  rw[eff_eq] at he
  rcases hh with⟨f,hcal,rfl⟩|⟨x,hcal,rfl⟩
  ·simp only[effS] at he
   refine fin f (c.args.toList.map ρA) (c.args.toList.map a.eval) fl (repL_map hρ _) he fun hg=>?_
   simp only[execOp,hop,resolve,hcal]
   simp[Act.eval,Deferred.ofValue,invoke,run_callFunc hg]
   exact Array.ext' (by simp)
  ·simp only[effS] at he
   split at he
   ·rename_i g first captured hx
    have h1:=hρ x
    rw[hx] at h1
    simp only[Rep] at h1
    obtain⟨f',c',hv,hf,hcp⟩:=h1
    refine fin g (first++c.args.toList.map ρA++captured) (f'.toList++c.args.toList.map a.eval++c'.toList) fl (RepL.append (RepL.append hf (repL_map hρ _)) hcp) he fun hg=>?_
    simp only[execOp,hop,resolve,hcal]
    simp[hv,fnL,Deferred.ofValue,invoke,run_callFunc hg]
   ·cases he
def MkD (w0 w:World) (ds:List Deferred):Prop:=
 ds.Pairwise (fun d e=>d.target≠e.target)∧∀d∈ds,∃r,d={target:=.collected r,args:=#[]}∧w0.heap.size≤r∧w.heap[r]?=some (.deferred (some []))
theorem SimO.notOwn (hS:SimO A w σ o) {r:Nat} {x:Obj} (h:w.heap[r]?=some x) (h1:∀a b c,x≠ .cells a b c) (h2:∀a b,x≠ .map a b):¬Own σ r:=by
 rintro⟨i,c,hi⟩
 have hl:i<o.length:=by rw[←hS.len];exact(List.getElem?_eq_some_iff.1 hi).1
 have hob:=hS.obj i _ (List.getElem?_eq_getElem hl)
 cases hx:o[i] with
 |dead=>rw[hx] at hob;simp only[ObjOK] at hob;rw[hi] at hob;cases hob
 |cells cs e sz pu=>
  rw[hx] at hob
  simp only[ObjOK] at hob
  rcases hob.2.2 with⟨h0,_⟩|⟨b,cap,arr,r1,_,r3,_⟩
  ·rw[hi] at h0;cases h0
  ·rw[hi] at r1
   simp only[Option.some.injEq,Prod.mk.injEq] at r1
   obtain⟨rfl,rfl⟩:=r1
   rw[h] at r3
   exact h1 _ _ _ (Option.some.inj r3)
 |map es kt pu=>
  rw[hx] at hob
  simp only[ObjOK] at hob
  obtain⟨_,_,b,c',en,cl,r1,r3,_⟩:=hob
  rw[hi] at r1
  simp only[Option.some.injEq,Prod.mk.injEq] at r1
  obtain⟨rfl,rfl⟩:=r1
  rw[h] at r3
  exact h2 _ _ (Option.some.inj r3)
theorem MkD.ext {w0:World} {ds:List Deferred} (h:MkD w0 w ds) (hS:SimO A w σ o) (hE:Ext w σ o w' σ' o'):MkD w0 w' ds:=
 ⟨h.1,fun d hd=>by
  obtain⟨r,h1,h2,h3⟩:=h.2 d hd
  exact⟨r,h1,h2,by rw[(hE.blk r (Array.getElem?_eq_some_iff.1 h3).1 (hS.notOwn h3 (by simp) (by simp))).1];exact h3⟩⟩
structure Sim (A:Clr) (nt:Nat) (w0:World) (σ0:Sig) (o0:Store) (st:St) (a:Act) (w:World) (σ:Sig):Prop where
 sim:SimO A w σ st.o
 env:∀s,Rep A w σ st.o (getE st.env s) (a.tmps.getD s undef)
 size:a.tmps.size=nt
 defers:MkD w0 w a.defers
 ext:Ext w0 σ0 o0 w σ st.o
theorem rep_ofVal (v:Value):Rep A w σ o (.ofVal v) v:=by
 cases v<;>simp only[AV.ofVal]<;>try (simp[Rep,Value.oneCell'];done)
 rename_i cs
 split
 ·rename_i h
  simp only[Rep]
  refine⟨cs,rfl,repL_sc A w σ o cs.toList fun u hu=>?_⟩
  exact List.all_eq_true.1 h u hu
 ·simp[Rep]
theorem Sim.ev {nt:Nat} {w0:World} {σ0:Sig} {o0:Store} {st:St} {a:Act} (h:Sim A nt w0 σ0 o0 st a w σ) (x:Operand):Rep A w σ st.o (evA st.env x) (a.eval x):=by
 cases x with
 |tmp t=>exact h.env t
 |const v=>exact rep_ofVal v
 |global g=>simp[evA,Rep]
 |func f=>simp only[evA,Act.eval,Rep];exact⟨#[],#[],rfl,by simp[RepL],by simp[RepL]⟩
theorem put_getD {a:Act} {dst:Option Tmp} {u:Value} {nt:Nat} (hs:a.tmps.size=nt) (hd:dstOk nt dst=true) (s:Nat):
  (a.put dst u).tmps.getD s undef=if dst=some s then u else a.tmps.getD s undef:=by
 cases dst with
 |none=>simp[Act.put]
 |some d=>
  simp only[dstOk,decide_eq_true_eq] at hd
  simp only[Act.put,Option.some.injEq]
  by_cases h:d=s
  ·subst h
   rw[if_pos rfl]
   simp[Array.getD_eq_getD_getElem?,hs,hd]
  ·rw[if_neg h]
   simp[Array.getD_eq_getD_getElem?,Array.getElem?_setIfInBounds_ne h]
theorem put_size (a:Act) (dst:Option Tmp) (u:Value):(a.put dst u).tmps.size=a.tmps.size∧(a.put dst u).defers=a.defers:=by
 cases dst<;>simp[Act.put]
theorem getE_put (env:EnvA) (dst:Option Nat) (v:AV) (s:Nat):getE (putE env dst v) s=if dst=some s then v else getE env s:=by
 cases dst with
 |none=>simp[putE]
 |some d=>
  simp only[putE,getE,Option.some.injEq]
  by_cases h:d=s
  ·subst h;simp
  ·have:Nat.beq d s=false:=by
    cases hq:Nat.beq d s with
    |false=>rfl
    |true=>exact absurd (Nat.eq_of_beq_eq_true hq) h
   simp[this,h]
theorem Sim.put {nt:Nat} {w0:World} {σ0:Sig} {o0:Store} {st:St} {a:Act} (h:Sim A nt w0 σ0 o0 st a w σ) (hS:SimO A w' σ' o') (hE:Ext w σ st.o w' σ' o') {dst:Option Tmp} (hd:dstOk nt dst=true) {v:AV} {u:Value} (hr:Rep A w' σ' o' v u):
  Sim A nt w0 σ0 o0 ⟨putE st.env dst v,o'⟩ (a.put dst u) w' σ' where
 sim:=hS
 env:=fun s=>by
  simp only[getE_put,put_getD h.size hd]
  split
  ·exact hr
  ·exact(h.env s).ext hE
 size:=by rw[(put_size _ _ _).1];exact h.size
 defers:=by rw[(put_size _ _ _).2];exact h.defers.ext h.sim hE
 ext:=h.ext.trans hE
theorem wanted_of {nt:Nat} {w0:World} {σ0:Sig} {o0:Store} {st:St} {a:Act} (h:Sim A nt w0 σ0 o0 st a w σ) {ops:Array Oper} {oper:Oper} {b:Bool}
  (hw:wantA st.env (oper.guard.map fun g=>(((ops[g.1]?).bind (·.dst)),g.2))=some b):Region.wanted oper (yielded ops a.tmps)=b:=by
 unfold Region.wanted
 cases hg:oper.guard with
 |none=>simp[hg,wantA] at hw;simp[hw]
 |some g=>
  obtain⟨j,q⟩:=g
  simp only[hg,Option.map_some,wantA] at hw
  cases hd:(ops[j]?).bind (·.dst) with
  |none=>simp[hd] at hw
  |some s=>
   simp only[hd] at hw
   have hs:=h.env s
   simp only[yielded,hd,Option.bind_some]
   split at hw
   ·rename_i c hc
    injection hw with hw
    rw[hc] at hs
    have h2:=rep_sc hs
    have h3:a.tmps[s]?=some (.bool c):=by
     rw[Array.getD_eq_getD_getElem?] at h2
     cases hq:a.tmps[s]? with
     |none=>rw[hq] at h2;simp[undef] at h2
     |some x=>rw[hq] at h2;simp at h2;rw[h2]
    rw[h3]
    simp only
    rw[←hw]
    cases c<;>cases q<;>rfl
   ·rename_i hc
    injection hw with hw
    rw[hc] at hs
    simp only[Rep,RepL] at hs
    obtain⟨vs,h2,h3⟩:=hs
    have h4:vs=#[]:=Array.ext' (by simpa using h3)
    subst h4
    have h3:a.tmps[s]?=some (.tuple #[])∨a.tmps[s]?=none:=by
     rw[Array.getD_eq_getD_getElem?] at h2
     cases hq:a.tmps[s]? with
     |none=>exact .inr rfl
     |some x=>rw[hq] at h2;simp at h2;rw[h2];exact .inl rfl
    rw[←hw]
    rcases h3 with h3|h3<;>rw[h3]<;>cases q<;>rfl
   ·cases hw
theorem runOp_wp {call:Oracle} (hcall:OracleOK P call) {nt:Nat} {fl:List Nat} {ops:Array Oper} {nid k:Nat} {i:IOper} (hc:compOper P nt fl ops nid k=some i) {base:Nat} {st st':St} (hr:runOp call base i st=some st')
  {w0:World} {σ0:Sig} {o0:Store} {a:Act} (h:Sim A nt w0 σ0 o0 st a w σ) {K:Act→World→Prop} {Q:Exit→Act→World→Prop} (hk:∀a' w' σ',Sim A nt w0 σ0 o0 st' a' w' σ'→K a' w') {rnd:Option Nat}:wpOpIn (FR rnd) 0 P ops Q k K a w:=by
 unfold compOper at hc
 cases ho:ops[k]? with
 |none=>simp[ho] at hc
 |some oper=>
  simp only[ho] at hc
  split at hc
  ·rename_i hd
   obtain⟨op,hop,rfl⟩:=Option.map_eq_some_iff.1 hc
   unfold wpOpIn
   simp only[ho]
   simp only[runOp] at hr
   split at hr
   ·cases hr
   ·rename_i hw
    have:=wanted_of h hw
    rw[this]
    injection hr with hr
    subst hr
    simp only[Bool.false_eq_true,if_false]
    exact⟨fun _ _=>trivial,hk _ _ σ (h.put h.sim (Ext.refl _ _ _) hd (by simp only[Rep];exact⟨#[],rfl,by simp[RepL]⟩))⟩
   ·rename_i hw
    have:=wanted_of h hw
    rw[this]
    simp only[if_true]
    split at hr
    ·rename_i v o' he
     injection hr with hr
     subst hr
     exact op_wp hcall hop h.sim h.ev he fun u w' σ' q1 q2 q3=>hk _ _ σ' (h.put q1 q3 hd q2)
    ·cases hr
  ·cases hc
theorem runOps_wp {call:Oracle} (hcall:OracleOK P call) {nt:Nat} {fl:List Nat} {ops:Array Oper} {base:Nat} {w0:World} {σ0:Sig} {o0:Store} {Q:Exit→Act→World→Prop} {rnd:Option Nat}:
  ∀(l:List IOper) (idx:List Nat),l.length=idx.length→(∀(j:Nat) (i:IOper) (k:Nat),l[j]?=some i→idx[j]?=some k→∃nid,compOper P nt fl ops nid k=some i)→∀(st st':St) (a:Act) (w:World) (σ:Sig),
   runOps call base l st=some st'→Sim A nt w0 σ0 o0 st a w σ→(∀a' w' σ',Sim A nt w0 σ0 o0 st' a' w' σ'→Q .normal a' w')→wpOpsIn (FR rnd) 0 P ops Q idx a w
 |[],[],_,_,st,st',a,w,σ,hr,h,hQ=>by
  simp only[runOps,Option.some.injEq] at hr
  subst hr
  exact hQ a w σ h
 |[],_::_,hl,_,_,_,_,_,_,_,_,_=>by simp at hl
 |_::_,[],hl,_,_,_,_,_,_,_,_,_=>by simp at hl
 |i::l,k::idx,hl,hc,st,st',a,w,σ,hr,h,hQ=>by
  simp only[runOps] at hr
  split at hr
  ·rename_i st1 h1
   obtain⟨nid,hci⟩:=hc 0 i k (by simp) (by simp)
   rw[wpOpsIn_cons]
   exact runOp_wp hcall hci h1 h fun a' w' σ' h'=>runOps_wp hcall l idx (by simpa using hl) (fun j i' k' hi hk=>hc (j+1) i' k' (by simpa using hi) (by simpa using hk)) st1 st' a' w' σ' hr h' hQ
  ·cases hr
theorem compOpers_get {nt:Nat} {fl:List Nat} {ops:Array Oper}:∀{k:Nat} {idx:List Nat} {l:List IOper} {n:Nat},compOpers P nt fl ops k idx=some (l,n)→
  l.length=idx.length∧(∀(j:Nat) (i:IOper) (q:Nat),l[j]?=some i→idx[j]?=some q→∃nid,compOper P nt fl ops nid q=some i)
 |k,[],l,n,h=>by simp only[compOpers,Option.some.injEq,Prod.mk.injEq] at h;obtain⟨rfl,_⟩:=h;simp
 |k,i::r,l,n,h=>by
  simp only[compOpers] at h
  split at h
  ·cases h
  ·rename_i x hx
   split at h
   ·cases h
   ·rename_i l' n' hl'
    simp only[Option.some.injEq,Prod.mk.injEq] at h
    obtain⟨rfl,_⟩:=h
    obtain⟨h1,h2⟩:=compOpers_get hl'
    refine⟨by simp[h1],fun j y q hy hq=>?_⟩
    cases j with
    |zero=>simp at hy hq;subst hy hq;exact⟨k,hx⟩
    |succ j=>exact h2 j y q (by simpa using hy) (by simpa using hq)
end
section
variable {call:Oracle} {ρ ρ2:Operand→AV} {nid:Nat}
theorem eff_pure {iop:IOp} (hc:iop.cls=0) (o o2:Store):effS call iop ρ o2 nid=(effS call iop ρ o nid).map fun p=>(p.1,o2):=by
 cases iop<;>try (simp[IOp.cls] at hc;done)
 case call f args own=>cases own<;>simp[IOp.cls] at hc
 case callv f args own=>cases own<;>simp[IOp.cls] at hc
 all_goals simp only[effS]
 all_goals (repeat' split)<;>simp_all [Option.map_map,Function.comp_def]
theorem eff_pure_o {iop:IOp} (hc:iop.cls=0) {o o':Store} {v:AV} (h:effS call iop ρ o nid=some (v,o')):o'=o:=by
 have:=eff_pure (call:=call) (ρ:=ρ) (nid:=nid) hc o o
 rw[h] at this
 simp at this
 exact this
theorem behind_congr {o o2:Store} {a:AV} (h:∀j∈tchAV a,o2[j]?=o[j]?):behind o2 a=behind o a:=by
 cases a<;>simp only[behind]
 rename_i id off tot
 rw[h id (by simp[tchAV])]
theorem elemsA_congr {o o2:Store} {sz:Nat} {a:AV} (h:∀j∈tchAV a,o2[j]?=o[j]?):elemsA o2 sz a=elemsA o sz a:=by
 cases a with
 |os id off len tot=>simp only[elemsA];rw[h id (by simp[tchAV])]
 |sc v=>unfold elemsA;split<;>first|rfl|(simp_all;done)
 |_=>rfl
theorem idxSA_congr {o o2:Store} {sz:Nat} {a:AV} {i:Int} (h:∀j∈tchAV a,o2[j]?=o[j]?):idxSA o2 sz a i=idxSA o sz a i:=by
 cases a<;>simp only[idxSA]
 rename_i id off len tot
 rw[h id (by simp[tchAV])]
theorem sliceA_congr {o o2:Store} {sz:Nat} {a:AV} {lo hi:Option AV} (h:∀j∈tchAV a,o2[j]?=o[j]?):sliceA o2 sz a lo hi=sliceA o sz a lo hi:=by
 cases a with
 |os id off len tot=>simp only[sliceA];rw[h id (by simp[tchAV])]
 |sc v=>unfold sliceA;split<;>first|rfl|(simp_all;done)
 |_=>rfl
theorem sliceA3_congr {o o2:Store} {sz:Nat} {a:AV} {lo:Option AV} {hi mx:AV} (h:∀j∈tchAV a,o2[j]?=o[j]?):sliceA3 o2 sz a lo hi mx=sliceA3 o sz a lo hi mx:=by
 cases a with
 |os id off len tot=>simp only[sliceA3];rw[h id (by simp[tchAV])]
 |_=>rfl
theorem lenA_congr {o o2:Store} {k:Nat} {a:AV} (h:∀j∈tchAV a,o2[j]?=o[j]?):lenA o2 k a=lenA o k a:=by
 cases a with
 |mp id=>
  match k with
  |0=>rfl
  |1=>rfl
  |2=>simp only[lenA];rw[h id (by simp[tchAV])]
  |_+3=>rfl
 |_=>unfold lenA;split<;>first|rfl|(simp_all;done)
theorem flatMap_congr' {α β:Type} {f g:α→List β}:∀{l:List α},(∀a∈l,f a=g a)→l.flatMap f=l.flatMap g
 |[],_=>rfl
 |a::l,h=>by
  simp only[List.flatMap_cons]
  rw[h a (by simp),flatMap_congr' fun b hb=>h b (by simp[hb])]
theorem mapM_congr' {α β:Type} {f g:α→Option β}:∀{l:List α},(∀a∈l,f a=g a)→l.mapM f=l.mapM g
 |[],_=>rfl
 |a::l,h=>by
  rw[List.mapM_cons,List.mapM_cons,h a (by simp),mapM_congr' fun b hb=>h b (by simp[hb])]
theorem freeze_congr {o o2:Store}:∀(d:Nat) (a:AV),(∀j∈tchF o d a,o2[j]?=o[j]?)→freeze o2 d a=freeze o d a∧tchF o2 d a=tchF o d a
 |0,a,_=>by cases a<;>simp[freeze,tchF]
 |d+1,a,h=>by
  cases a with
  |agg cs=>
   simp only[tchF,List.mem_flatMap,forall_exists_index,and_imp] at h
   have ih:=fun c hc=>freeze_congr d c (fun j hj=>h j c hc hj)
   simp only[freeze,tchF]
   exact⟨by rw[mapM_congr' fun c hc=>(ih c hc).1],flatMap_congr' fun c hc=>(ih c hc).2⟩
  |tup cs=>
   simp only[tchF,List.mem_flatMap,forall_exists_index,and_imp] at h
   have ih:=fun c hc=>freeze_congr d c (fun j hj=>h j c hc hj)
   simp only[freeze,tchF]
   exact⟨by rw[mapM_congr' fun c hc=>(ih c hc).1],flatMap_congr' fun c hc=>(ih c hc).2⟩
  |fn f x y=>
   simp only[tchF,List.mem_append,List.mem_flatMap] at h
   have i1:=fun c hc=>freeze_congr d c (fun j hj=>h j (.inl ⟨c,hc,hj⟩))
   have i2:=fun c hc=>freeze_congr d c (fun j hj=>h j (.inr ⟨c,hc,hj⟩))
   simp only[freeze,tchF]
   exact⟨by rw[mapM_congr' fun c hc=>(i1 c hc).1,mapM_congr' fun c hc=>(i2 c hc).1],by rw[flatMap_congr' fun c hc=>(i1 c hc).2,flatMap_congr' fun c hc=>(i2 c hc).2]⟩
  |os id off len tot=>
   have h0:=h id (by simp[tchF])
   simp only[freeze,tchF]
   rw[h0]
   cases ho:o[id]? with
   |none=>exact⟨rfl,rfl⟩
   |some x=>
    cases x with
    |dead=>exact⟨rfl,rfl⟩
    |map es kt pu=>exact⟨rfl,rfl⟩
    |cells cs e sz pu=>
     cases pu with
     |true=>exact⟨rfl,rfl⟩
     |false=>
      simp only[tchF,ho,List.mem_cons,Bool.false_eq_true,if_false,List.mem_flatMap] at h
      have ih:=fun c hc=>freeze_congr d c (fun j hj=>h j (.inr ⟨c,hc,hj⟩))
      simp only[Bool.false_eq_true,if_false]
      exact⟨by rw[mapM_congr' fun c hc=>(ih c hc).1],by rw[flatMap_congr' fun c hc=>(ih c hc).2]⟩
  |_=>simp[freeze,tchF]
theorem callA_pure {f:FuncId} {args:List AV} {o o2:Store} (h:∀j∈args.flatMap (tchF o 6),o2[j]?=o[j]?):
  callA call f args o2 false=(callA call f args o false).map (fun p=>(p.1,o2))∧args.flatMap (tchF o2 6)=args.flatMap (tchF o 6):=by
 simp only[List.mem_flatMap,forall_exists_index,and_imp] at h
 have ih:=fun c hc=>freeze_congr 6 c (fun j hj=>h j c hc hj)
 have h1:args.flatMap (tchF o2 6)=args.flatMap (tchF o 6):=flatMap_congr' fun c hc=>(ih c hc).2
 refine⟨?_,h1⟩
 unfold callA
 rw[if_neg (by simp),if_neg (by simp),h1,mapM_congr' fun c hc=>(ih c hc).1]
 cases args.mapM (freeze o 6) with
 |none=>rfl
 |some bs=>
  simp only
  split
  ·split<;>simp
  ·simp
theorem callA_pure_o {f:FuncId} {args:List AV} {o o':Store} {v:AV} (h:callA call f args o false=some (v,o')):o'=o:=by
 have:=(callA_pure (call:=call) (f:=f) (args:=args) (o:=o) (o2:=o) fun _ _=>rfl).1
 rw[h] at this
 simp at this
 exact this
theorem eff_reads {iop:IOp} (hc:iop.cls=1) {o o2:Store} (h:∀j∈tch iop ρ o nid,o2[j]?=o[j]?):
  effS call iop ρ o2 nid=(effS call iop ρ o nid).map (fun p=>(p.1,o2))∧tch iop ρ o2 nid=tch iop ρ o nid:=by
 cases iop<;>try (simp[IOp.cls] at hc;done)
 case load n a=>
  simp only[effS,tch] at h ⊢
  rw[behind_congr h]
  refine⟨?_,trivial⟩
  split<;>simp[Option.map_map,Function.comp_def]
 case idxS sz x i=>
  simp only[effS,tch] at h ⊢
  refine⟨?_,trivial⟩
  split
  ·rw[idxSA_congr h];simp[Option.map_map,Function.comp_def]
  ·rfl
 case slice sz x lo hi=>
  simp only[effS,tch] at h ⊢
  refine⟨?_,trivial⟩
  rw[sliceA_congr h];simp[Option.map_map,Function.comp_def]
 case slice3 sz x lo hi mx=>
  simp only[effS,tch] at h ⊢
  refine⟨?_,trivial⟩
  rw[sliceA3_congr h];simp[Option.map_map,Function.comp_def]
 case len k x=>
  simp only[effS,tch] at h ⊢
  refine⟨?_,trivial⟩
  rw[lenA_congr h];simp[Option.map_map,Function.comp_def]
 case lookup z agg ks ka x k ok=>
  simp only[effS,tch] at h ⊢
  refine⟨?_,trivial⟩
  split
  ·rename_i id kv hx hk
   rw[hx] at h
   rw[h id (by simp[tchAV])]
   split
   ·split
    ·split<;>simp
    ·rfl
   ·rfl
  ·rfl
 case call f args own=>
  cases own
  ·simp only[effS,tch] at h ⊢
   exact callA_pure h
  ·simp[IOp.cls] at hc
 case callv f args own=>
  cases own
  ·simp only[effS,tch] at h ⊢
   split
   ·rename_i g first captured hf
    rw[hf] at h
    simp only[hf] at h ⊢
    exact⟨(callA_pure h).1,(callA_pure (call:=call) (f:=0) h).2⟩
   ·rename_i hne
    refine⟨rfl,?_⟩
    split
    ·rename_i f' first captured hf
     simp only[hf] at h ⊢
     exact(callA_pure (call:=call) (f:=0) h).2
    ·rfl
  ·simp[IOp.cls] at hc
theorem eff_reads_o {iop:IOp} (hc:iop.cls=1) {o o':Store} {v:AV} (h:effS call iop ρ o nid=some (v,o')):o'=o:=by
 have:=(eff_reads (call:=call) (ρ:=ρ) (nid:=nid) hc (o:=o) (o2:=o) fun _ _=>rfl).1
 rw[h] at this
 simp at this
 exact this
theorem set_same {o:Store} {id:Nat}:o.set id ((o[id]?).getD .dead)=o:=by
 apply List.ext_getElem?
 intro j
 rw[List.getElem?_set]
 split
 ·rename_i h
  subst h
  split
  ·rename_i h2;simp[h2]
  ·rename_i h2;simp at h2;simp[h2]
 ·rfl
theorem eff_writes {iop:IOp} (hc:iop.cls=2) {o o':Store} {v:AV} (he:effS call iop ρ o nid=some (v,o')):
  ∃id x,id∈wrt iop ρ o nid∧o'=o.set id x∧∀o2,(∀j∈tch iop ρ o nid,o2[j]?=o[j]?)→
   effS call iop ρ o2 nid=some (v,o2.set id x)∧tch iop ρ o2 nid=tch iop ρ o nid∧wrt iop ρ o2 nid=wrt iop ρ o nid:=by
 have hmk:∀{x:AObj} {g:AV} {v:AV} {o':Store},(mkO nid x o).map (fun o'=>(g,o'))=some (v,o')→v=g∧o'=o.set nid x∧∀o2:Store,o2[nid]?=o[nid]?→(mkO nid x o2).map (fun o'=>(g,o'))=some (v,o2.set nid x):=by
  intro x g v o' h
  obtain⟨y,hy,h2⟩:=pair_map h
  obtain⟨hd,rfl⟩:=mkO_some hy
  simp only[Prod.mk.injEq] at h2
  obtain⟨rfl,rfl⟩:=h2
  refine⟨rfl,rfl,fun o2 h=>?_⟩
  rw[hd] at h
  simp[mkO,h]
 cases iop<;>try (simp[IOp.cls] at hc;done)
 case alloc z e pu=>
  simp only[effS,tch,wrt] at he ⊢
  obtain⟨rfl,rfl,h3⟩:=hmk he
  exact⟨nid,_,by simp,rfl,fun o2 h=>⟨h3 o2 (h nid (by simp)),trivial,trivial⟩⟩
 case box e x=>
  simp only[effS,tch,wrt] at he ⊢
  split at he
  ·rename_i h1
   obtain⟨rfl,rfl,h3⟩:=hmk he
   exact⟨nid,_,by simp,rfl,fun o2 h=>⟨by rw[if_pos h1];exact h3 o2 (h nid (by simp)),trivial,trivial⟩⟩
  ·cases he
 case mkrow z len parts e sz=>
  simp only[effS,tch,wrt] at he ⊢
  split at he
  ·rename_i cs h1
   obtain⟨rfl,rfl,h3⟩:=hmk he
   exact⟨nid,_,by simp,rfl,fun o2 h=>⟨h3 o2 (h nid (by simp)),trivial,trivial⟩⟩
  ·cases he
 case mkslice z e sz bytes l c pu=>
  simp only[effS,tch,wrt] at he ⊢
  split at he
  ·split at he
   ·rename_i n m h1 h2 hcond
    obtain⟨rfl,rfl,h3⟩:=hmk he
    exact⟨nid,_,by simp,rfl,fun o2 h=>⟨by rw[if_pos hcond];exact h3 o2 (h nid (by simp)),trivial,trivial⟩⟩
   ·cases he
  ·cases he
 case mkmap kt pu=>
  simp only[effS,tch,wrt] at he ⊢
  obtain⟨rfl,rfl,h3⟩:=hmk he
  exact⟨nid,_,by simp,rfl,fun o2 h=>⟨h3 o2 (h nid (by simp)),trivial,trivial⟩⟩
 case store n a x=>
  simp only[effS,tch,wrt] at he ⊢
  split at he
  ·rename_i id off tot ha
   split at he
   ·rename_i cs e sz pu ho
    split at he
    ·rename_i hcond
     simp only[Option.some.injEq,Prod.mk.injEq] at he
     obtain⟨rfl,rfl⟩:=he
     refine⟨id,_,by simp[ha,tchAV],rfl,fun o2 h=>⟨?_,trivial,trivial⟩⟩
     have h2:=h id (by simp[ha,tchAV])
     rw[h2,ho]
     simp only
     rw[if_pos hcond]
    ·cases he
   ·cases he
  ·cases he
 case append e sz bytes s x pu=>
  simp only[effS,tch,wrt] at he ⊢
  unfold appendA at he
  split at he
  ·cases he
  ·rename_i m new hel
   split at he
   ·cases he
   ·rename_i hone
    have hel2:∀o2:Store,(∀j∈nid::(tchAV (ρ s)++tchAV (ρ x)),o2[j]?=o[j]?)→elemsA o2 sz (ρ x)=some (m,new):=fun o2 h=>by
     rw[elemsA_congr (fun j hj=>h j (by simp[hj])),hel]
    split at he
    ·rename_i hs
     split at he
     ·rename_i hm
      simp only[Option.some.injEq,Prod.mk.injEq] at he
      obtain⟨rfl,rfl⟩:=he
      refine⟨nid,(o[nid]?).getD .dead,by simp,set_same.symm,fun o2 h=>⟨?_,trivial,trivial⟩⟩
      rw[←h nid (by simp),set_same]
      unfold appendA
      rw[hel2 o2 h]
      simp only[hone,hs,hm,if_true]
      try rfl
     ·split at he
      ·rename_i hm hcond
       obtain⟨rfl,rfl,h3⟩:=hmk he
       refine⟨nid,_,by simp,rfl,fun o2 h=>⟨?_,trivial,trivial⟩⟩
       unfold appendA
       rw[hel2 o2 h]
       simp only[hone,hs,hm,if_pos hcond]
       exact h3 o2 (h nid (by simp))
      ·cases he
    ·rename_i id len tot hs
     split at he
     ·rename_i cs e' sz' pu' ho
      split at he
      ·rename_i hcond
       simp only[Option.some.injEq,Prod.mk.injEq] at he
       obtain⟨rfl,rfl⟩:=he
       refine⟨id,_,by simp[hs,tchAV],rfl,fun o2 h=>⟨?_,trivial,trivial⟩⟩
       unfold appendA
       rw[hel2 o2 h]
       have h2:=h id (by simp[hs,tchAV])
       simp only[hone,hs,h2,ho,if_pos hcond]
       try rfl
      ·cases he
     ·cases he
    ·rename_i n cs hs
     split at he
     ·rename_i hm
      simp only[Option.some.injEq,Prod.mk.injEq] at he
      obtain⟨rfl,rfl⟩:=he
      refine⟨nid,(o[nid]?).getD .dead,by simp,set_same.symm,fun o2 h=>⟨?_,trivial,trivial⟩⟩
      rw[←h nid (by simp),set_same]
      unfold appendA
      rw[hel2 o2 h]
      simp only[hone,hs,hm,if_true]
      try rfl
     ·cases he
    ·cases he
 case mapset ks ka x k v'=>
  simp only[effS,tch,wrt] at he ⊢
  split at he
  ·rename_i id kv hx hk
   split at he
   ·rename_i es kt pu ho
    split at he
    ·cases he
    ·rename_i hcond
     split at he
     ·rename_i i w hf
      simp only[Option.some.injEq,Prod.mk.injEq] at he
      obtain⟨rfl,rfl⟩:=he
      refine⟨id,_,by simp[hx,tchAV],rfl,fun o2 h=>⟨?_,trivial,trivial⟩⟩
      have h2:=h id (by simp[hx,tchAV])
      rw[h2,ho]
      simp only
      rw[if_neg hcond,hf]
     ·rename_i hf
      simp only[Option.some.injEq,Prod.mk.injEq] at he
      obtain⟨rfl,rfl⟩:=he
      refine⟨id,_,by simp[hx,tchAV],rfl,fun o2 h=>⟨?_,trivial,trivial⟩⟩
      have h2:=h id (by simp[hx,tchAV])
      rw[h2,ho]
      simp only
      rw[if_neg hcond,hf]
     ·cases he
   ·cases he
  ·cases he
 case call f args own=>cases own<;>simp[IOp.cls] at hc
 case callv f args own=>cases own<;>simp[IOp.cls] at hc
theorem reachF_mono (o:Store):∀(d:Nat) (vs:List AV) (acc:List Nat) (j:Nat),j∈acc→j∈reachF o d vs acc
 |0,vs,acc,j,h=>by cases vs<;>simpa[reachF] using h
 |d+1,[],acc,j,h=>by simpa[reachF] using h
 |d+1,v::vs,acc,j,h=>by
  rw[reachF_cons]
  apply reachF_mono o d
  have hv:∀id,j∈visitR o d id acc:=by
   intro id
   unfold visitR
   split
   ·exact h
   ·split
    ·split
     ·simp[h]
     ·exact reachF_mono o d _ _ j (by simp[h])
    ·split
     ·simp[h]
     ·exact reachF_mono o d _ _ j (by simp[h])
    ·simp[h]
  cases v with
  |agg cs=>exact reachF_mono o d _ _ j h
  |tup cs=>exact reachF_mono o d _ _ j h
  |ptr id _ _=>exact hv id
  |os id _ _ _=>exact hv id
  |mp id=>exact hv id
  |fn f a b=>exact reachF_mono o d _ _ j (reachF_mono o d _ _ j h)
  |_=>exact h
theorem visitR_mem (o:Store) (d id:Nat) (acc:List Nat):id∈visitR o d id acc:=by
 unfold visitR
 split
 ·rename_i h;simpa using h
 ·split
  ·split
   ·simp
   ·exact reachF_mono o d _ _ id (by simp)
  ·split
   ·simp
   ·exact reachF_mono o d _ _ id (by simp)
  ·simp
theorem reachF_congr {o o2:Store}:∀(d:Nat) (vs:List AV) (acc:List Nat),(∀j∈reachF o d vs acc,o2[j]?=o[j]?)→reachF o2 d vs acc=reachF o d vs acc
 |0,vs,acc,_=>by cases vs<;>simp[reachF]
 |d+1,[],acc,_=>by simp[reachF]
 |d+1,v::vs,acc,h=>by
  rw[reachF_cons] at h
  rw[reachF_cons,reachF_cons]
  have hv:∀id,(∀j∈visitR o d id acc,o2[j]?=o[j]?)→visitR o2 d id acc=visitR o d id acc:=by
   intro id hj
   have h0:=hj id (visitR_mem o d id acc)
   unfold visitR at hj ⊢
   split
   ·rfl
   ·rename_i hn
    rw[if_neg hn] at hj
    rw[h0]
    cases ho:o[id]? with
    |none=>rfl
    |some x=>
     rw[ho] at hj
     cases x with
     |dead=>rfl
     |cells cs e sz pu=>
      cases pu with
      |true=>rfl
      |false=>exact reachF_congr d _ _ hj
     |map es kt pu=>
      cases pu with
      |true=>rfl
      |false=>exact reachF_congr d _ _ hj
  have hacc:stepR o2 d v acc=stepR o d v acc:=by
   have hm:=fun j hj=>h j (reachF_mono o d vs _ j hj)
   cases v with
   |agg cs=>exact reachF_congr d cs acc hm
   |tup cs=>exact reachF_congr d cs acc hm
   |ptr id _ _=>exact hv id hm
   |os id _ _ _=>exact hv id hm
   |mp id=>exact hv id hm
   |fn f a b=>
    have h1:reachF o2 d a acc=reachF o d a acc:=reachF_congr d a acc fun j hj=>hm j (reachF_mono o d b _ j hj)
    have h2:reachF o2 d b (reachF o d a acc)=reachF o d b (reachF o d a acc):=reachF_congr d b _ hm
    simp only[stepR,h1,h2]
   |_=>rfl
  rw[hacc]
  exact reachF_congr d vs _ h
theorem subStore_congr {o o2:Store} {ids:List Nat}:∀{r:List Nat},(∀j∈r,o2[j]?=o[j]?)→subStore o2 ids r=subStore o ids r
 |[],_=>rfl
 |i::r,h=>by
  simp only[subStore]
  rw[h i (by simp),subStore_congr fun j hj=>h j (by simp[hj])]
theorem putBack_eq:∀(ids:List Nat) (o o2 X:Store) (j:Nat),o2.length=o.length→ids.length=X.length→(j∈ids∨o2[j]?=o[j]?)→(putBack o2 ids X)[j]?=(putBack o ids X)[j]?
 |[],o,o2,X,j,_,_,h=>by cases X<;>simpa[putBack] using h
 |i::r,o,o2,[],j,_,hl,_=>by simp at hl
 |i::r,o,o2,x::l,j,hlen,hl,h=>by
  simp only[putBack]
  refine putBack_eq r _ _ l j (by simp[hlen]) (by simpa using hl) ?_
  by_cases hji:j=i
  ·right;subst hji;simp[List.getElem?_set,hlen]
  ·rcases h with h|h
   ·exact .inl ((List.mem_cons.1 h).resolve_left hji)
   ·right;rw[List.getElem?_set_ne (Ne.symm hji),List.getElem?_set_ne (Ne.symm hji)];exact h
theorem callOwn_loc {f:FuncId} {args:List AV} {o o':Store} {r:AV} (h:callOwn call f args o=some (r,o')):
  o.length≤o'.length∧(∀j,j<o.length→j∉reachF o reachD args []→o'[j]?=o[j]?)∧
  ∀o2:Store,o2.length=o.length→(∀j∈reachF o reachD args [],o2[j]?=o[j]?)→∃o2',callOwn call f args o2=some (r,o2')∧
   reachF o2 reachD args []=reachF o reachD args []∧∀j,(j∈reachF o reachD args []∨o.length≤j)→o2'[j]?=o'[j]?:=by
 have hcong:∀o2:Store,(∀j∈reachF o reachD args [],o2[j]?=o[j]?)→reachF o2 reachD args []=reachF o reachD args []:=fun o2 h=>reachF_congr reachD args [] h
 have hsub:∀o2:Store,(∀j∈reachF o reachD args [],o2[j]?=o[j]?)→subStore o2 (reachF o reachD args []) (reachF o reachD args [])=subStore o (reachF o reachD args []) (reachF o reachD args []):=fun o2 h=>subStore_congr h
 unfold callOwn at h
 simp only at h
 generalize hids:reachF o reachD args []=ids at h hcong hsub
 split at h
 ·rename_i args' small ha hs
  split at h
  ·rename_i r0 small' hcall
   split at h
   ·cases h
   ·rename_i hcond
    split at h
    ·rename_i r' big hr hb
     simp only[Option.some.injEq,Prod.mk.injEq] at h
     obtain⟨rfl,rfl⟩:=h
     simp only[not_or] at hcond
     have hbl:=renS_length hb
     have hl:ids.length=(big.take ids.length).length:=by simp;omega
     refine⟨by simp[putBack_length],fun j hj hn=>?_,fun o2 hlen hag=>?_⟩
     ·rw[List.getElem?_append_left (by rw[putBack_length];exact hj),putBack_ne _ _ _ _ hn]
     ·refine⟨putBack o2 ids (big.take ids.length)++big.drop ids.length,?_,hcong o2 hag,fun j hj=>?_⟩
      ·unfold callOwn
       simp only
       rw[hcong o2 hag,ha,hsub o2 hag,hs]
       simp only
       rw[hcall]
       simp only
       rw[if_neg (by simp only[not_or];exact hcond),hlen,hr,hb]
      ·by_cases hjl:j<o.length
       ·rw[List.getElem?_append_left (by rw[putBack_length,hlen];exact hjl),List.getElem?_append_left (by rw[putBack_length];exact hjl)]
        exact putBack_eq ids o o2 _ j hlen hl (.inl (hj.resolve_right (by omega)))
       ·rw[List.getElem?_append_right (by rw[putBack_length,hlen];omega),List.getElem?_append_right (by rw[putBack_length];omega),putBack_length,putBack_length,hlen]
    ·cases h
  ·cases h
 ·cases h
end
section
variable {call:Oracle} {ρ ρ2:Operand→AV} {nid:Nat}
theorem wrt_tch {iop:IOp} {o:Store} {j:Nat} (h:j∈wrt iop ρ o nid):j∈tch iop ρ o nid:=by
 cases iop<;>simp only[wrt,tch,List.not_mem_nil] at h ⊢<;>try exact h
 case append=>simp only[List.mem_cons,List.mem_append] at h ⊢;rcases h with h|h<;>simp[h]
 case call f args own=>cases own<;>simp only[List.not_mem_nil] at h ⊢;exact h
 case callv f args own=>cases own<;>simp only[List.not_mem_nil] at h ⊢;exact h
theorem wrt_nil {iop:IOp} {o:Store} (h:iop.cls=0∨iop.cls=1):wrt iop ρ o nid=[]:=by
 cases iop<;>try (simp[IOp.cls] at h;done)
 case call f args own=>cases own<;>simp[IOp.cls] at h;rfl
 case callv f args own=>cases own<;>simp[IOp.cls] at h;rfl
 all_goals rfl
theorem tch_nil {iop:IOp} {o:Store} (h:iop.cls=0):tch iop ρ o nid=[]:=by
 cases iop<;>try (simp[IOp.cls] at h;done)
 case call f args own=>cases own<;>simp[IOp.cls] at h
 case callv f args own=>cases own<;>simp[IOp.cls] at h
 all_goals rfl
theorem cls_cases (iop:IOp):iop.cls=0∨iop.cls=1∨iop.cls=2∨iop.cls=3:=by
 cases iop<;>try (simp[IOp.cls];done)
 case call f args own=>cases own<;>simp[IOp.cls]
 case callv f args own=>cases own<;>simp[IOp.cls]
def ModO (iop:IOp) (W:List Nat) (n j:Nat):Prop:=j∈W∨(iop.cls=3∧n≤j)
theorem wrtC_sub {iop:IOp} {o:Store} {j:Nat} (h:j∈wrtC call iop ρ o nid):j∈wrt iop ρ o nid:=by
 unfold wrtC at h
 split at h
 ·split at h
  ·exact(List.mem_filter.1 h).1
  ·simp at h
 ·exact h
theorem wrtC_tch {iop:IOp} {o:Store} {j:Nat} (h:j∈wrtC call iop ρ o nid):j∈tch iop ρ o nid:=wrt_tch (wrtC_sub h)
theorem wrtC_nil {iop:IOp} {o:Store} (h:iop.cls=0∨iop.cls=1):wrtC call iop ρ o nid=[]:=by
 unfold wrtC
 split
 ·simp[IOp.cls] at h
 ·exact wrt_nil h
theorem wrtC_two {iop:IOp} {o:Store} (h:iop.cls=2):wrtC call iop ρ o nid=wrt iop ρ o nid:=by
 unfold wrtC
 split
 ·simp[IOp.cls] at h
 ·rfl
open Classical in
theorem eff_loc {iop:IOp} {o o':Store} {v:AV} (he:effS call iop ρ o nid=some (v,o')):
  o.length≤o'.length∧(iop.cls≠3→o'.length=o.length)∧(∀j,¬ModO iop (wrtC call iop ρ o nid) o.length j→o'[j]?=o[j]?)∧
  ∀o2:Store,(∀j∈tch iop ρ o nid,o2[j]?=o[j]?)→(iop.cls=3→o2.length=o.length)→
   ∃o2',effS call iop ρ o2 nid=some (v,o2')∧tch iop ρ o2 nid=tch iop ρ o nid∧wrtC call iop ρ o2 nid=wrtC call iop ρ o nid∧∀j,ModO iop (wrtC call iop ρ o nid) o.length j→o2'[j]?=o'[j]?:=by
 rcases cls_cases iop with hc|hc|hc|hc
 ·have:=eff_pure_o hc he
  subst this
  refine⟨Nat.le_refl _,fun _=>rfl,fun _ _=>rfl,fun o2 _ _=>⟨o2,?_,by rw[tch_nil hc,tch_nil hc],by rw[wrtC_nil (.inl hc),wrtC_nil (.inl hc)],fun j hj=>?_⟩⟩
  ·rw[eff_pure hc o' o2,he];rfl
  ·rw[ModO,wrtC_nil (.inl hc)] at hj;simp[hc] at hj
 ·have:=eff_reads_o hc he
  subst this
  refine⟨Nat.le_refl _,fun _=>rfl,fun _ _=>rfl,fun o2 h _=>⟨o2,?_,(eff_reads (call:=call) hc h).2,by rw[wrtC_nil (.inr hc),wrtC_nil (.inr hc)],fun j hj=>?_⟩⟩
  ·rw[(eff_reads hc h).1,he];rfl
  ·rw[ModO,wrtC_nil (.inr hc)] at hj;simp[hc] at hj
 ·simp only[wrtC_two hc]
  obtain⟨id,x,hid,rfl,hk⟩:=eff_writes hc he
  refine⟨by simp,fun _=>by simp,fun j hj=>?_,fun o2 h _=>?_⟩
  ·have:j≠id:=fun hji=>hj (.inl (hji▸hid))
   rw[List.getElem?_set_ne (Ne.symm this)]
  ·obtain⟨k1,k2,k3⟩:=hk o2 h
   refine⟨_,k1,k2,k3,fun j hj=>?_⟩
   have hj:j∈wrt iop ρ o nid:=hj.resolve_right (by simp[hc])
   have hjo:=h j (wrt_tch hj)
   by_cases hji:id=j
   ·subst hji
    have hlen:(id<o2.length)↔(id<o.length):=by
     rcases Nat.lt_or_ge id o2.length with g1|g1<;>rcases Nat.lt_or_ge id o.length with g2|g2
     ·simp[g1,g2]
     ·rw[List.getElem?_eq_getElem g1,List.getElem?_eq_none g2] at hjo;cases hjo
     ·rw[List.getElem?_eq_getElem g2,List.getElem?_eq_none g1] at hjo;cases hjo
     ·omega
    rw[List.getElem?_set,List.getElem?_set]
    simp only[if_true]
    by_cases h1:id<o.length
    ·rw[if_pos h1,if_pos (hlen.2 h1)]
    ·rw[if_neg h1,if_neg fun h2=>h1 (hlen.1 h2)]
   ·rw[List.getElem?_set_ne hji,List.getElem?_set_ne hji];exact hjo
 ·have key:∀(f:FuncId) (args:List AV),callOwn call f args o=some (v,o')→wrtC call iop ρ o nid=reachF o reachD args []→tch iop ρ o nid=reachF o reachD args []→
    (∀o2:Store,effS call iop ρ o2 nid=callOwn call f args o2∧tch iop ρ o2 nid=reachF o2 reachD args []∧wrtC call iop ρ o2 nid=reachF o2 reachD args [])→
    o.length≤o'.length∧(iop.cls≠3→o'.length=o.length)∧(∀j,¬ModO iop (wrtC call iop ρ o nid) o.length j→o'[j]?=o[j]?)∧
    ∀o2:Store,(∀j∈tch iop ρ o nid,o2[j]?=o[j]?)→(iop.cls=3→o2.length=o.length)→
    ∃o2',effS call iop ρ o2 nid=some (v,o2')∧tch iop ρ o2 nid=tch iop ρ o nid∧wrtC call iop ρ o2 nid=wrtC call iop ρ o nid∧∀j,ModO iop (wrtC call iop ρ o nid) o.length j→o2'[j]?=o'[j]?:=by
   intro f args hcall hw ht hg
   obtain⟨c1,c2,c3⟩:=callOwn_loc hcall
   refine⟨c1,fun h=>absurd hc h,fun j hj=>?_,fun o2 h hl=>?_⟩
   ·simp only[ModO,hc,true_and,not_or,Nat.not_le,hw] at hj
    exact c2 j hj.2 hj.1
   ·rw[ht] at h
    obtain⟨o2',d1,d2,d3⟩:=c3 o2 (hl hc) h
    obtain⟨g1,g2,g3⟩:=hg o2
    refine⟨o2',by rw[g1,d1],by rw[g2,d2,ht],by rw[g3,d2,hw],fun j hj=>d3 j ?_⟩
    simp only[ModO,hc,true_and,hw] at hj
    exact hj
  cases iop<;>try (simp[IOp.cls] at hc;done)
  case call f args own=>
   cases own
   ·simp[IOp.cls] at hc
   ·simp only[effS,callA,if_true] at he
    obtain⟨c1,c2,c3⟩:=callOwn_loc he
    have hw:wrtC call (.call f args true) ρ o nid=(reachF o reachD (args.map ρ) []).filter fun j=>decide (o'[j]?≠o[j]?):=by simp only[wrtC,he]
    refine⟨c1,fun h=>absurd hc h,fun j hj=>?_,fun o2 h hl=>?_⟩
    ·simp only[ModO,hc,true_and,not_or,Nat.not_le,hw,List.mem_filter,decide_eq_true_eq,not_and,Classical.not_not,ne_eq] at hj
     by_cases hm:j∈reachF o reachD (args.map ρ) []
     ·exact hj.1 hm
     ·exact c2 j hj.2 hm
    ·obtain⟨o2',d1,d2,d3⟩:=c3 o2 (hl hc) h
     refine⟨o2',by simp only[effS,callA,if_true,d1],d2,?_,fun j hj=>?_⟩
     ·rw[hw]
      simp only[wrtC,d1,d2]
      refine List.filter_congr fun j hj=>?_
      rw[d3 j (.inl hj),h j hj]
     ·rw[ModO,hw,List.mem_filter] at hj
      exact d3 j (hj.imp (fun h=>h.1) fun h=>h.2)
  case callv f args own=>
   cases own
   ·simp[IOp.cls] at hc
   ·simp only[effS,callA,if_true] at he
    split at he
    ·rename_i g first captured hf
     exact key g (first++args.map ρ++captured) he (by simp[wrtC,wrt,hf]) (by simp[tch,hf]) fun o2=>⟨by simp[effS,callA,hf],by simp[tch,hf],by simp[wrtC,wrt,hf]⟩
    ·cases he
theorem map_rho {l:List Operand} (h:∀x∈l,ρ2 x=ρ x):l.map ρ2=l.map ρ:=List.map_congr_left h
theorem eff_rho {iop:IOp} (h:∀x∈iop.opds,ρ2 x=ρ x) (o:Store):effS call iop ρ2 o nid=effS call iop ρ o nid∧tch iop ρ2 o nid=tch iop ρ o nid∧wrtC call iop ρ2 o nid=wrtC call iop ρ o nid:=by
 cases iop
 case build z ps=>
  have:(ps.map fun p=>(p.1,p.2.1,ρ2 p.2.2))=ps.map fun p=>(p.1,p.2.1,ρ p.2.2):=List.map_congr_left fun p hp=>by rw[h p.2.2 (by simp only[IOp.opds];exact List.mem_map_of_mem (f:=fun p:Nat×Nat×Operand=>p.2.2) hp)]
  simp only[effS,tch,wrtC,wrt,this,and_self]
 case mkrow z len ps e sz=>
  have:(ps.map fun p=>(p.1,sz,ρ2 p.2))=ps.map fun p=>(p.1,sz,ρ p.2):=List.map_congr_left fun p hp=>by rw[h p.2 (by simp only[IOp.opds];exact List.mem_map_of_mem (f:=fun p:Nat×Operand=>p.2) hp)]
  simp only[effS,tch,wrtC,wrt,this,and_self]
 case mkimm z len ps e sz=>
  have:(ps.map fun p=>(p.1,sz,ρ2 p.2))=ps.map fun p=>(p.1,sz,ρ p.2):=List.map_congr_left fun p hp=>by rw[h p.2 (by simp only[IOp.opds];exact List.mem_map_of_mem (f:=fun p:Nat×Operand=>p.2) hp)]
  simp only[effS,tch,wrtC,wrt,this,and_self]
 case call f args own=>
  have:=map_rho h
  simp only[IOp.opds] at this
  cases own<;>simp only[effS,tch,wrtC,wrt,this,and_self]
 case callv f args own=>
  have h1:args.map ρ2=args.map ρ:=map_rho fun x hx=>h x (by simp[IOp.opds,hx])
  have h2:=h f (by simp[IOp.opds])
  cases own<;>simp only[effS,tch,wrtC,wrt,h1,h2,and_self]
 case mkfn f a b=>
  have h1:a.map ρ2=a.map ρ:=map_rho fun x hx=>h x (by simp[IOp.opds,hx])
  have h2:b.map ρ2=b.map ρ:=map_rho fun x hx=>h x (by simp[IOp.opds,hx])
  simp only[effS,tch,wrtC,wrt,h1,h2,and_self]
 case slice sz x lo hi=>
  have h1:lo.map ρ2=lo.map ρ:=by cases lo<;>simp[IOp.opds] at h ⊢;exact h.2.1
  have h2:hi.map ρ2=hi.map ρ:=by cases hi<;>simp[IOp.opds] at h ⊢;first|exact h.2.2|(cases lo<;>simp at h<;>simp[h])
  have h3:=h x (by simp[IOp.opds])
  simp only[effS,tch,wrtC,wrt,h1,h2,h3,and_self]
 case sliceStr x lo hi=>
  have h1:lo.map ρ2=lo.map ρ:=by cases lo<;>simp[IOp.opds] at h ⊢;exact h.2.1
  have h2:hi.map ρ2=hi.map ρ:=by cases hi<;>simp[IOp.opds] at h ⊢;first|exact h.2.2|(cases lo<;>simp at h<;>simp[h])
  have h3:=h x (by simp[IOp.opds])
  simp only[effS,tch,wrtC,wrt,h1,h2,h3,and_self]
 case slice3 sz x lo hi mx=>
  have h1:lo.map ρ2=lo.map ρ:=by
   cases lo with
   |none=>rfl
   |some a=>exact congrArg some (h a (by simp[IOp.opds]))
  have h2:=h hi (by simp[IOp.opds])
  have h3:=h x (by simp[IOp.opds])
  have h4:=h mx (by simp[IOp.opds])
  simp only[effS,tch,wrtC,wrt,h1,h2,h3,h4,and_self]
 all_goals
  simp only[IOp.opds,List.mem_cons,List.not_mem_nil,or_false,forall_eq_or_imp,forall_eq] at h
  simp[effS,tch,wrtC,wrt,h]
end
section
variable {call:Oracle} {base:Nat}
noncomputable def entry (call:Oracle) (base:Nat) (i:IOper) (st:St):List Nat×List Nat:=
 match wantA st.env i.guard with
 |some true=>(tch i.op (evA st.env) st.o (base+i.nid),wrtC call i.op (evA st.env) st.o (base+i.nid))
 |_=>([],[])
theorem entry_sub {i:IOper} {st:St} {j:Nat} (h:j∈(entry call base i st).2):j∈(entry call base i st).1:=by
 unfold entry at h ⊢
 split at h
 ·rename_i hw;exact wrtC_tch h
 ·simp at h
theorem evA_reads {i:IOper} {e e2:EnvA} (h:∀s∈i.reads,getE e2 s=getE e s):(∀x∈i.op.opds,evA e2 x=evA e x)∧wantA e2 i.guard=wantA e i.guard:=by
 constructor
 ·intro x hx
  cases x with
  |tmp t=>
   refine h t ?_
   simp only[IOper.reads,List.mem_append]
   left
   exact List.mem_filterMap.2 ⟨.tmp t,hx,rfl⟩
  |_=>rfl
 ·unfold wantA
  cases hg:i.guard with
  |none=>rfl
  |some g=>
   obtain⟨a,b⟩:=g
   cases a with
   |none=>rfl
   |some s=>simp only;rw[h s (by simp[IOper.reads,hg])]
theorem step_loc {i:IOper} {st st':St} (hr:runOp call base i st=some st'):
  ∃v,(∀s,getE st'.env s=if i.dst=some s then v else getE st.env s)∧st.o.length≤st'.o.length∧(i.op.cls≠3→st'.o.length=st.o.length)∧
   (∀j,¬ModO i.op (entry call base i st).2 st.o.length j→st'.o[j]?=st.o[j]?)∧
   ∀st2:St,(∀s∈i.reads,getE st2.env s=getE st.env s)→(∀j∈(entry call base i st).1,st2.o[j]?=st.o[j]?)→(i.op.cls=3→st2.o.length=st.o.length)→
    ∃st2',runOp call base i st2=some st2'∧(∀s,getE st2'.env s=if i.dst=some s then v else getE st2.env s)∧entry call base i st2=entry call base i st∧
     ∀j,ModO i.op (entry call base i st).2 st.o.length j→st2'.o[j]?=st'.o[j]?:=by
 unfold runOp at hr
 split at hr
 ·cases hr
 ·rename_i hw
  injection hr with hr
  subst hr
  refine⟨.tup [],fun s=>getE_put _ _ _ _,Nat.le_refl _,fun _=>rfl,fun _ _=>rfl,fun st2 he _ hl=>?_⟩
  obtain⟨h1,h2⟩:=evA_reads he
  refine⟨⟨putE st2.env i.dst (.tup []),st2.o⟩,?_,fun s=>getE_put _ _ _ _,?_,fun j hj=>?_⟩
  ·unfold runOp;rw[h2,hw]
  ·unfold entry;rw[h2,hw]
  ·unfold entry at hj
   rw[hw] at hj
   simp only[ModO,List.not_mem_nil,false_or] at hj
   have hll:=hl hj.1
   simp only
   rw[List.getElem?_eq_none (by omega),List.getElem?_eq_none (by omega)]
 ·rename_i hw
  split at hr
  ·rename_i v o' he
   injection hr with hr
   subst hr
   rw[eff_eq] at he
   obtain⟨l1,l2,l3,l4⟩:=eff_loc he
   have hen:entry call base i st=(tch i.op (evA st.env) st.o (base+i.nid),wrtC call i.op (evA st.env) st.o (base+i.nid)):=by unfold entry;rw[hw]
   rw[hen]
   refine⟨v,fun s=>getE_put _ _ _ _,l1,l2,l3,fun st2 hee hag hl=>?_⟩
   obtain⟨h1,h2⟩:=evA_reads hee
   obtain⟨o2',m1,m2,m3,m4⟩:=l4 st2.o hag hl
   obtain⟨r1,r2,r3⟩:=eff_rho (call:=call) (nid:=base+i.nid) h1 st2.o
   refine⟨⟨putE st2.env i.dst v,o2'⟩,?_,fun s=>getE_put _ _ _ _,?_,m4⟩
   ·unfold runOp
    rw[h2,hw]
    simp only
    rw[eff_eq,r1,m1]
   ·unfold entry
    rw[h2,hw]
    simp only
    rw[r2,r3,m2,m3]
  ·cases hr
def StEq (a b:St):Prop:=(∀s,getE a.env s=getE b.env s)∧a.o=b.o
theorem StEq.refl (a:St):StEq a a:=⟨fun _=>rfl,rfl⟩
theorem StEq.trans {a b c:St} (h:StEq a b) (k:StEq b c):StEq a c:=⟨fun s=>(h.1 s).trans (k.1 s),h.2.trans k.2⟩
theorem StEq.symm {a b:St} (h:StEq a b):StEq b a:=⟨fun s=>(h.1 s).symm,h.2.symm⟩
theorem StEq.run {i:IOper} {a b a':St} (h:StEq a b) (hr:runOp call base i a=some a'):∃b',runOp call base i b=some b'∧StEq a' b'∧entry call base i b=entry call base i a:=by
 have h1:evA b.env=evA a.env:=by
  funext x
  cases x with
  |tmp t=>exact(h.1 t).symm
  |_=>rfl
 have h2:wantA b.env i.guard=wantA a.env i.guard:=by
  cases hg:i.guard with
  |none=>rfl
  |some g=>
   obtain⟨c,d⟩:=g
   cases c with
   |none=>rfl
   |some s=>simp only[wantA];rw[h.1]
 have hput:∀(v:AV) (s:Nat),getE (putE a.env i.dst v) s=getE (putE b.env i.dst v) s:=by
  intro v s
  simp only[getE_put]
  by_cases hd:i.dst=some s
  ·rw[if_pos hd,if_pos hd]
  ·rw[if_neg hd,if_neg hd];exact h.1 s
 have he:entry call base i b=entry call base i a:=by unfold entry;rw[h2,h1,h.2]
 unfold runOp at hr ⊢
 rw[h2,h1,←h.2]
 split at hr
 ·cases hr
 ·injection hr with hr;subst hr
  exact⟨_,rfl,⟨hput _,rfl⟩,he⟩
 ·split at hr
  ·injection hr with hr;subst hr
   exact⟨_,rfl,⟨hput _,rfl⟩,he⟩
  ·cases hr
def RelT (n0:Nat) (y:IOper) (ty:List Nat×List Nat) (x:IOper) (tx:List Nat×List Nat):Prop:=
 apartT y x=true∧(∀j∈ty.2,j∉tx.1)∧(∀j∈tx.2,j∉ty.1)∧(y.op.cls=3→x.op.cls≠3∧∀j∈tx.1,j<n0)∧(x.op.cls=3→∀j∈ty.1,j<n0)
theorem apartT_spec {y x:IOper} (h:apartT y x=true):(∀d,y.dst=some d→d∉x.reads)∧(∀d,x.dst=some d→d∉y.reads)∧∀d,y.dst=some d→x.dst≠some d:=by
 unfold apartT at h
 simp only[Bool.and_eq_true] at h
 obtain⟨⟨h1,h2⟩,h3⟩:=h
 refine⟨fun d hd=>?_,fun d hd=>?_,fun d hd hx=>?_⟩
 ·rw[hd] at h1;simpa[disj] using h1
 ·rw[hd] at h2;simpa[disj] using h2
 ·rw[hd,hx] at h3;simp at h3
theorem swap {n0:Nat} {y x:IOper} {st s1 s2:St} (hy:runOp call base y st=some s1) (hx:runOp call base x s1=some s2) (hn:n0≤st.o.length) (hR:RelT n0 y (entry call base y st) x (entry call base x s1)):
  ∃s1' s2',runOp call base x st=some s1'∧runOp call base y s1'=some s2'∧StEq s2 s2'∧entry call base x st=entry call base x s1∧entry call base y s1'=entry call base y st:=by
 obtain⟨hap,r1,r2,r3,r4⟩:=hR
 obtain⟨a1,a2,a3⟩:=apartT_spec hap
 obtain⟨vy,y1,y2,y3,y4,y5⟩:=step_loc hy
 obtain⟨vx,x1,x2,x3,x4,x5⟩:=step_loc hx
 obtain⟨s1',p1,p2,p3,p4⟩:=x5 st (fun s hs=>by
   rw[y1 s,if_neg fun hd=>a1 s hd hs]) (fun j hj=>by
   rw[y4 j]
   rintro(hw|⟨hc,hl⟩)
   ·exact r1 j hw hj
   ·have:=(r3 hc).2 j hj;omega) (fun hc=>by
   rw[y3 fun hc2=>(r3 hc2).1 hc])
 obtain⟨vx',q1,q2,q3,q4,_⟩:=step_loc p1
 obtain⟨s2',z1,z2,z3,z4⟩:=y5 s1' (fun s hs=>by
   rw[p2 s,if_neg fun hd=>a2 s hd hs]) (fun j hj=>by
   rw[q4 j]
   rw[p3]
   rintro(hw|⟨hc,hl⟩)
   ·exact r2 j hw hj
   ·have:=r4 hc j hj;omega) (fun hc=>by
   rw[q3 (r3 hc).1])
 obtain⟨vy',b1,b2,b3,b4,_⟩:=step_loc z1
 refine⟨s1',s2',p1,z1,⟨fun s=>?_,?_⟩,p3.symm▸rfl,z3⟩
 ·rw[x1 s,z2 s,p2 s,y1 s]
  by_cases h1:x.dst=some s
  ·rw[if_pos h1,if_neg fun h2=>a3 s h2 h1,if_pos h1]
  ·rw[if_neg h1,if_neg h1]
 ·apply List.ext_getElem?
  intro j
  by_cases hmx:ModO x.op (entry call base x s1).2 s1.o.length j
  ·
   have hny:¬ModO y.op (entry call base y s1').2 s1'.o.length j:=by
    rw[z3]
    rintro(hw|⟨hc,hl⟩)
    ·rcases hmx with hw2|⟨hc2,hl2⟩
     ·exact r1 j hw (entry_sub hw2)
     ·have:=r4 hc2 j (entry_sub hw);omega
    ·have hx3:=(r3 hc).1
     rcases hmx with hw2|⟨hc2,_⟩
     ·have:=(r3 hc).2 j (entry_sub hw2)
      omega
     ·exact hx3 hc2
   rw[b4 j hny,p4 j hmx]
  ·by_cases hmy:ModO y.op (entry call base y st).2 st.o.length j
   ·rw[x4 j hmx,z4 j hmy]
   ·
    rw[x4 j hmx,y4 j hmy]
    have hny:¬ModO y.op (entry call base y s1').2 s1'.o.length j:=by
     rw[z3]
     rintro(hw|⟨hc,hl⟩)
     ·exact hmy (.inl hw)
     ·exact hmy (.inr ⟨hc,by omega⟩)
    have hnx:¬ModO x.op (entry call base x st).2 st.o.length j:=by
     rw[p3]
     rintro(hw|⟨hc,hl⟩)
     ·exact hmx (.inl hw)
     ·have:s1.o.length=st.o.length:=y3 fun hc2=>(r3 hc2).1 hc
      exact hmx (.inr ⟨hc,by omega⟩)
    rw[b4 j hny,q4 j hnx]
noncomputable def ents (call:Oracle) (base:Nat):List IOper→St→List (List Nat×List Nat)
 |[],_=>[]
 |i::r,st=>entry call base i st::match runOp call base i st with
  |some st'=>ents call base r st'
  |none=>[]
theorem StEq.runs {l:List IOper}:∀{a b a':St},StEq a b→runOps call base l a=some a'→∃b',runOps call base l b=some b'∧StEq a' b'∧ents call base l b=ents call base l a:=by
 induction l with
 |nil=>intro a b a' h hr;simp only[runOps,Option.some.injEq] at hr;subst hr;exact⟨b,rfl,h,rfl⟩
 |cons i l ih=>
  intro a b a' h hr
  simp only[runOps] at hr
  split at hr
  ·rename_i a1 h1
   obtain⟨b1,k1,k2,k3⟩:=h.run h1
   obtain⟨b',m1,m2,m3⟩:=ih k2 hr
   refine⟨b',by simp only[runOps,k1,m1],m2,?_⟩
   simp only[ents,k1,h1,k3,m3]
  ·cases hr
theorem runOps_len {l:List IOper}:∀{st st':St},runOps call base l st=some st'→st.o.length≤st'.o.length∧(ents call base l st).length=l.length:=by
 induction l with
 |nil=>intro st st' h;simp only[runOps,Option.some.injEq] at h;subst h;simp[ents]
 |cons i l ih=>
  intro st st' h
  simp only[runOps] at h
  split at h
  ·rename_i s1 h1
   obtain⟨_,_,h2,_⟩:=step_loc h1
   obtain⟨i1,i2⟩:=ih h
   exact⟨Nat.le_trans h2 i1,by simp[ents,h1,i2]⟩
  ·cases h
theorem front {n0:Nat} {x:IOper} {post:List IOper}:∀(pre:List IOper) {st s:St},runOps call base (pre++x::post) st=some s→n0≤st.o.length→
  (∀(k:Nat) (y:IOper) (ty tx:List Nat×List Nat),pre[k]?=some y→(ents call base (pre++x::post) st)[k]?=some ty→(ents call base (pre++x::post) st)[pre.length]?=some tx→RelT n0 y ty x tx)→
  ∃s1 s',runOp call base x st=some s1∧runOps call base (pre++post) s1=some s'∧StEq s s'∧(ents call base (pre++x::post) st)[pre.length]?=some (entry call base x st)∧
   ents call base (pre++post) s1=(ents call base (pre++x::post) st).eraseIdx pre.length
 |[],st,s,hr,_,_=>by
  simp only[List.nil_append,runOps] at hr ⊢
  split at hr
  ·rename_i s1 h1
   exact⟨s1,s,h1,hr,StEq.refl s,by simp[ents],by simp[ents,h1]⟩
  ·cases hr
 |y::pre,st,s,hr,hn,hR=>by
  simp only[List.cons_append,runOps] at hr
  split at hr
  ·rename_i sy hy
   have hents:ents call base (y::(pre++x::post)) st=entry call base y st::ents call base (pre++x::post) sy:=by simp[ents,hy]
   obtain⟨_,_,hly,_⟩:=step_loc hy
   obtain⟨s1,s',i1,i2,i3,i4,i5⟩:=front pre hr (Nat.le_trans hn hly) fun k z tz tx hk h1 h2=>hR (k+1) z tz tx (by simpa using hk) (by simp only[List.cons_append,hents];simpa using h1) (by simp only[List.cons_append,hents];simpa using h2)
   have hrel:RelT n0 y (entry call base y st) x (entry call base x sy):=hR 0 y _ _ (by simp) (by simp[hents]) (by simp only[List.cons_append,hents];simpa using i4)
   obtain⟨t1,t2,j1,j2,j3,j4,j5⟩:=swap hy i1 hn hrel
   obtain⟨s'',k1,k2,k3⟩:=j3.runs i2
   refine⟨t1,s'',j1,?_,i3.trans k2,?_,?_⟩
   ·simp only[List.cons_append,runOps,j2];exact k1
   ·simp only[List.cons_append,hents,List.length_cons,List.getElem?_cons_succ];rw[i4,j4]
   ·simp only[List.cons_append,hents,List.length_cons,List.eraseIdx_cons_succ,ents,j2,j5,k3,i5]
  ·cases hr
end
end Go.Vi

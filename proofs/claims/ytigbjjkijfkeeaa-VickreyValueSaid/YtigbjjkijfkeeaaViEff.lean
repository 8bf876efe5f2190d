/-
  The abstract interpreter: every operation that is no call does what the model's does.
  Conditions: none.
-/
import Derived.Test.YtigbjjkijfkeeaaViEffH
namespace Go.Vi

def IOp.isCall : IOp → Bool
  | .call .. | .callv .. => true
  | _ => false

section
variable {P : Program} {A : Nat → Prop} {w w' : World} {σ σ' : Sig} {o o' : Store} {ρA : Operand → AV} {ρC : Operand → Value} {oper : Oper} {v : AV}

theorem pair_map {α : Type} {x : Option α} {f : α → AV × Store} {p : AV × Store} (h : x.map f = some p) : ∃ a, x = some a ∧ f a = p := by
  simpa [Option.map_eq_some_iff] using h

theorem eff_gives {call : Oracle} {fl : Bool} {iop : IOp} {nid : Nat} (hc : compOp P fl oper = some iop) (hnc : iop.isCall = false) (hS : SimO A w σ o) (hρ : ∀ x, Rep A w σ o (ρA x) (ρC x))
    (he : eff call iop ρA o nid = some (v, o')) : Gives A P ρC oper w σ o v o' := by
  rw [eff_eq] at he
  unfold compOp at hc
  split at hc
  · -- move
    rename_i x hop
    injection hc with hc; subst hc
    simp only [effS, Option.some.injEq, Prod.mk.injEq] at he
    obtain ⟨rfl, rfl⟩ := he
    exact g_mov hS hρ (.inl hop)
  · rename_i x hop
    injection hc with hc; subst hc
    simp only [effS, Option.some.injEq, Prod.mk.injEq] at he
    obtain ⟨rfl, rfl⟩ := he
    exact g_mov hS hρ (.inr hop)
  · rename_i c a b hop
    injection hc with hc; subst hc
    simp only [effS] at he
    split at he
    · rename_i hcc
      simp only [Option.some.injEq, Prod.mk.injEq] at he
      obtain ⟨rfl, rfl⟩ := he
      exact g_pick (t := true) hS hρ hop hcc
    · rename_i hcc
      simp only [Option.some.injEq, Prod.mk.injEq] at he
      obtain ⟨rfl, rfl⟩ := he
      exact g_pick (t := false) hS hρ hop hcc
    · cases he
  · rename_i e hop
    obtain ⟨z, hz, rfl⟩ := Option.map_eq_some_iff.1 hc
    simp only [effS] at he
    obtain ⟨o2, hm, h2⟩ := pair_map he
    obtain ⟨hd, rfl⟩ := mkO_some hm
    simp only [Prod.mk.injEq] at h2
    obtain ⟨rfl, rfl⟩ := h2
    exact g_alloc hS hop hz hd
  · rename_i e x hop
    injection hc with hc; subst hc
    simp only [effS] at he
    split at he
    · rename_i h1
      obtain ⟨o2, hm, h2⟩ := pair_map he
      obtain ⟨hd, rfl⟩ := mkO_some hm
      simp only [Prod.mk.injEq] at h2
      obtain ⟨rfl, rfl⟩ := h2
      exact g_box hS hρ hop h1 hd
    · cases he
  · -- build
    rename_i t parts hop
    split at hc
    · rename_i z fields hz ht
      split at hc
      · rename_i places hpl
        obtain ⟨ps, hps, rfl⟩ := Option.map_eq_some_iff.1 hc
        simp only [effS] at he
        obtain ⟨cs, hf, h2⟩ := pair_map he
        simp only [Prod.mk.injEq] at h2
        obtain ⟨rfl, rfl⟩ := h2
        obtain ⟨hl, hg⟩ := optAll_get hps
        refine g_build (place := fun i => places[i]?) hS hρ hop hz (fun zv hzv l => ?_) hl.symm (fun i p q hp hq => ?_) hf
        · cases hi : P.info? t with
          | none => simp [hi] at hzv
          | some i =>
            simp [hi] at hzv
            unfold placesT at hpl
            simp [Program.built, hi, ht, hzv, hpl]
        · have := hg i p q hp hq
          simp only [placeT, Option.map_eq_some_iff] at this
          obtain ⟨r, h1, rfl⟩ := this
          exact ⟨h1, rfl⟩
      · cases hc
    · rename_i z k e hz ht
      obtain ⟨n, hn, rfl⟩ := Option.map_eq_some_iff.1 hc
      simp only [effS] at he
      obtain ⟨cs, hf, h2⟩ := pair_map he
      simp only [Prod.mk.injEq] at h2
      obtain ⟨rfl, rfl⟩ := h2
      refine g_build (place := fun i => some (i * n, n)) hS hρ hop hz (fun zv hzv l => ?_) (by simp) (fun i p q hp hq => ?_) hf
      · cases hi : P.info? t with
        | none => simp [hi] at hzv
        | some i =>
          simp [hi] at hzv
          cases hie : P.info? e with
          | none => simp [sizeT, hie] at hn
          | some ie =>
            simp [sizeT, hie] at hn
            simp [Program.built, hi, ht, hzv, hie, hn]
      · rw [List.getElem?_map, hp] at hq
        simp at hq
        subst hq
        exact ⟨rfl, rfl⟩
    · cases hc
  · -- buildSlice
    rename_i t len parts hop
    split at hc
    · rename_i e ht
      split at hc
      · rename_i z hz
        split at hc
        · rename_i hcond
          injection hc with hc; subst hc
          split at he
          · simp only [effS] at he
            split at he
            · rename_i cs hf
              split at he
              · rename_i hp
                simp only [Option.some.injEq, Prod.mk.injEq] at he
                obtain ⟨rfl, rfl⟩ := he
                exact g_mkimm hS hρ hop ht hz hcond.2 hcond.1 hf hp
              · cases he
            · cases he
          · simp only [effS] at he
            split at he
            · rename_i cs hf
              obtain ⟨o2, hm, h2⟩ := pair_map he
              obtain ⟨hd, rfl⟩ := mkO_some hm
              simp only [Prod.mk.injEq] at h2
              obtain ⟨rfl, rfl⟩ := h2
              exact g_mkrow hS hρ hop ht hz hcond.2 hcond.1 hf hd
            · cases he
        · cases hc
      · cases hc
    · cases hc
  · -- load
    rename_i t a hop
    obtain ⟨n, hn, rfl⟩ := Option.map_eq_some_iff.1 hc
    simp only [effS] at he
    split at he
    · rename_i cs off hb
      obtain ⟨a', hp, h2⟩ := pair_map he
      simp only [Prod.mk.injEq] at h2
      obtain ⟨rfl, rfl⟩ := h2
      exact g_load hS hρ hop hn hb hp
    · cases he
  · -- store
    rename_i t a x hop
    obtain ⟨n, hn, rfl⟩ := Option.map_eq_some_iff.1 hc
    simp only [effS] at he
    split at he
    · rename_i id off tot ha
      split at he
      · rename_i cs e sz pu ho
        split at he
        · rename_i hcond
          simp only [Option.some.injEq, Prod.mk.injEq] at he
          obtain ⟨rfl, rfl⟩ := he
          obtain ⟨c1, c2, c3, c4, c5⟩ := hcond
          exact g_store hS hρ hop hn ha ho c1 c2 c3 c4 c5
        · cases he
      · cases he
    · cases he
  · -- nilCheck
    rename_i x hop
    injection hc with hc; subst hc
    simp only [effS] at he
    have hx := hρ x
    split at he
    · rename_i a b c hxa
      simp only [Option.some.injEq, Prod.mk.injEq] at he
      obtain ⟨rfl, rfl⟩ := he
      rw [hxa] at hx
      simp only [Rep] at hx
      obtain ⟨_, ⟨p, hp⟩, _⟩ := hx
      rw [← hxa]
      exact g_nilc hS hρ hop hp
    · rename_i a b hxa
      simp only [Option.some.injEq, Prod.mk.injEq] at he
      obtain ⟨rfl, rfl⟩ := he
      rw [hxa] at hx
      simp only [Rep] at hx
      obtain ⟨p, hp, _⟩ := hx
      rw [← hxa]
      exact g_nilc hS hρ hop hp
    · cases he
  · -- binOp
    rename_i op t x y t' hop
    have hbin : ∀ (h : iop = .bin op x y), Gives A P ρC oper w σ o v o' := by
      intro h
      subst h
      simp only [effS] at he
      split at he
      · rename_i a b ha hb
        obtain ⟨r, hr, h2⟩ := pair_map he
        simp only [Prod.mk.injEq] at h2
        obtain ⟨rfl, rfl⟩ := h2
        exact g_bin hS hρ hop ha hb hr
      · cases he
    have heq : ∀ (neg : Bool), (op = .eql ∧ neg = false) ∨ (op = .neq ∧ neg = true) →
        (match P.underlying t with
          | some (.struct _) | some (.array _ _) => if 20 ≤ P.depth then (kindsT P 20 t).map fun ks => IOp.eqf neg ks x y else none
          | some .bool => some (.beq neg x y)
          | some (.int _) | some .string => some (.bin op x y)
          | _ => none) = some iop → Gives A P ρC oper w σ o v o' := by
      intro neg hn hc
      have hagg : isAggT P t = some true → (if 20 ≤ P.depth then (kindsT P 20 t).map fun ks => IOp.eqf neg ks x y else none) = some iop → Gives A P ρC oper w σ o v o' := by
        intro hag hc
        split at hc
        · rename_i hD
          obtain ⟨ks, hk, rfl⟩ := Option.map_eq_some_iff.1 hc
          simp only [effS] at he
          split at he
          · rename_i a b ha hb
            obtain ⟨r, hr, h2⟩ := pair_map he
            simp only [Prod.mk.injEq] at h2
            obtain ⟨rfl, rfl⟩ := h2
            exact g_eqf hS hρ hop hn hag hk hD ha hb hr
          · cases he
        · cases hc
      split at hc
      · rename_i hu; exact hagg (by simp [isAggT, hu]) hc
      · rename_i hu; exact hagg (by simp [isAggT, hu]) hc
      · rename_i hu
        injection hc with hc; subst hc
        simp only [effS] at he
        split at he
        · rename_i a b ha hb
          simp only [Option.some.injEq, Prod.mk.injEq] at he
          obtain ⟨rfl, rfl⟩ := he
          exact g_beq hS hρ hop hn hu ha hb
        · cases he
      · injection hc with hc; exact hbin hc.symm
      · injection hc with hc; exact hbin hc.symm
      · cases hc
    split at hc
    · exact heq false (.inl ⟨rfl, rfl⟩) hc
    · exact heq true (.inr ⟨rfl, rfl⟩) hc
    · injection hc with hc; exact hbin hc.symm
  · -- unOp
    rename_i op t x hop
    injection hc with hc; subst hc
    simp only [effS] at he
    obtain ⟨r, hr, h2⟩ := pair_map he
    simp only [Prod.mk.injEq] at h2
    obtain ⟨rfl, rfl⟩ := h2
    exact g_un hS hρ hop hr
  · -- convert
    rename_i s d x hop
    split at hc
    · rename_i ds k hs hd
      injection hc with hc; subst hc
      simp only [effS] at he
      split at he
      · rename_i k' n hx
        simp only [Option.some.injEq, Prod.mk.injEq] at he
        obtain ⟨rfl, rfl⟩ := he
        exact g_conv hS hρ hop hs hd hx
      · cases he
    · cases hc
  · -- fieldAddr
    rename_i s x f hop
    split at hc
    · rename_i fs hs
      split at hc
      · rename_i g hg
        split at hc
        · rename_i n hn
          split at hc
          · cases hc
          · rename_i hn0
            injection hc with hc; subst hc
            simp only [effS] at he
            obtain ⟨r, hr, h2⟩ := pair_map he
            simp only [Prod.mk.injEq] at h2
            obtain ⟨rfl, rfl⟩ := h2
            exact g_fieldA hS hρ hop hs hg hn hn0 hr
        · cases hc
      · cases hc
    · cases hc
  · -- field
    rename_i t x f hop
    split at hc
    · rename_i fs hs
      split at hc
      · rename_i g hg
        obtain ⟨n, hn, rfl⟩ := Option.map_eq_some_iff.1 hc
        simp only [effS] at he
        split at he
        · rename_i cs hx
          obtain ⟨r, hr, h2⟩ := pair_map he
          simp only [Prod.mk.injEq] at h2
          obtain ⟨rfl, rfl⟩ := h2
          exact g_field hS hρ hop hs hg hn hx hr
        · cases he
      · cases hc
    · cases hc
  · -- indexAddr
    rename_i t x i hop
    split at hc
    · rename_i len e ht
      obtain ⟨n, hn, rfl⟩ := Option.map_eq_some_iff.1 hc
      simp only [effS] at he
      split at he
      · rename_i k hi
        split at he
        · rename_i hcond
          obtain ⟨r, hr, h2⟩ := pair_map he
          simp only [Prod.mk.injEq] at h2
          obtain ⟨rfl, rfl⟩ := h2
          exact g_idxA hS hρ hop ht hn hi hcond.1 hcond.2 hr
        · cases he
      · cases he
    · rename_i e ht
      split at hc
      · rename_i n hn
        split at hc
        · cases hc
        · rename_i hn0
          injection hc with hc; subst hc
          simp only [effS] at he
          split at he
          · rename_i k hi
            obtain ⟨r, hr, h2⟩ := pair_map he
            simp only [Prod.mk.injEq] at h2
            obtain ⟨rfl, rfl⟩ := h2
            exact g_idxS hS hρ hop ht hn hn0 hi hr
          · cases he
      · cases hc
    · cases hc
  · -- index
    rename_i t x i hop
    split at hc
    · rename_i len e ht
      split at hc
      · rename_i s n hs hn
        injection hc with hc; subst hc
        simp only [effS] at he
        split at he
        · rename_i k cs hi hx
          split at he
          · rename_i hcond
            obtain ⟨r, hr, h2⟩ := pair_map he
            simp only [Prod.mk.injEq] at h2
            obtain ⟨rfl, rfl⟩ := h2
            exact g_idx hS hρ hop ht hs hn hi hcond.1 hcond.2 hx hr
          · cases he
        · cases he
      · cases hc
    · rename_i ht
      injection hc with hc; subst hc
      simp only [effS] at he
      split at he
      · rename_i k s hi hx
        split at he
        · rename_i hcond
          obtain ⟨r, hr, h2⟩ := pair_map he
          simp only [Prod.mk.injEq] at h2
          obtain ⟨rfl, rfl⟩ := h2
          exact g_idxStr hS hρ hop ht hi hcond hx hr
        · cases he
      · cases he
    · cases hc
  · -- makeSlice
    rename_i t l c hop
    split at hc
    · rename_i e ht
      split at hc
      · rename_i z b hz hb
        split at hc
        · rename_i hpos
          injection hc with hc; subst hc
          simp only [effS] at he
          split at he
          · rename_i n m hl hm
            split at he
            · rename_i hcond
              obtain ⟨c1, c2, c3, c4⟩ := hcond
              obtain ⟨o2, hmk, h2⟩ := pair_map he
              obtain ⟨hd, rfl⟩ := mkO_some hmk
              simp only [Prod.mk.injEq] at h2
              obtain ⟨rfl, rfl⟩ := h2
              exact g_mkslice hS hρ hop ht hz hb hl hm c1 c2 c3 c4 hd
            · cases he
          · cases he
        · cases hc
      · cases hc
    · cases hc
  · -- slice
    rename_i t x lo hi hop
    split at hc
    · rename_i e ht
      split at hc
      · rename_i n hn
        split at hc
        · cases hc
        · rename_i hn0
          injection hc with hc; subst hc
          simp only [effS] at he
          obtain ⟨r, hr, h2⟩ := pair_map he
          simp only [Prod.mk.injEq] at h2
          obtain ⟨rfl, rfl⟩ := h2
          exact g_slice hS hρ hop ht hn hn0 hr
      · cases hc
    · rename_i ht
      injection hc with hc; subst hc
      simp only [effS] at he
      split at he
      · rename_i s hx
        split at he
        · rename_i l k hl hk
          split at he
          · rename_i hcond
            simp only [Option.some.injEq, Prod.mk.injEq] at he
            obtain ⟨rfl, rfl⟩ := he
            exact g_sliceStr hS hρ hop ht hx hl hk hcond.1 hcond.2
          · cases he
        · cases he
      · cases he
    · cases hc
  · -- call
    rename_i c hop
    split at hc
    · split at hc
      · injection hc with hc; subst hc; simp [IOp.isCall] at hnc
      · cases hc
    · injection hc with hc; subst hc; simp [IOp.isCall] at hnc
    · rename_i hcal
      split at hc
      · rename_i s x t t' ha hty
        split at hc
        · rename_i htt
          subst htt
          split at hc
          · rename_i e ht
            split at hc
            · rename_i z b hz hb
              split at hc
              · rename_i hpos
                injection hc with hc; subst hc
                simp only [effS] at he
                exact g_append hS hρ hop hcal (Array.ext' ha) (Array.ext' hty) ht hz hb rfl hpos he
              · cases hc
            · cases hc
          · cases hc
        · cases hc
      · cases hc
    · rename_i hcal
      split at hc
      · rename_i x t ha hty
        have ha' : c.args = #[x] := Array.ext' ha
        have hty' : c.argTypes = #[t] := Array.ext' hty
        have hlen : ∀ k, (k = 0 ∧ ∃ e, P.underlying t = some (.slice e)) ∨ (k = 1 ∧ P.underlying t = some .string) ∨ (k = 2 ∧ ∃ a b, P.underlying t = some (.map a b)) → iop = .len k x → Gives A P ρC oper w σ o v o' := by
          intro k ht hh
          subst hh
          simp only [effS] at he
          obtain ⟨n, hn, h2⟩ := pair_map he
          simp only [Prod.mk.injEq] at h2
          obtain ⟨rfl, rfl⟩ := h2
          exact g_len hS hρ hop hcal ha' hty' ht hn
        split at hc
        · rename_i e ht; injection hc with hc; exact hlen 0 (.inl ⟨rfl, e, ht⟩) hc.symm
        · rename_i ht; injection hc with hc; exact hlen 1 (.inr (.inl ⟨rfl, ht⟩)) hc.symm
        · rename_i k e ht; injection hc with hc; exact hlen 2 (.inr (.inr ⟨rfl, k, e, ht⟩)) hc.symm
        · rename_i n e ht
          injection hc with hc; subst hc
          simp only [effS, Option.some.injEq, Prod.mk.injEq] at he
          obtain ⟨rfl, rfl⟩ := he
          exact g_lenArr hS hop hcal ha' hty' ht
        · cases hc
      · cases hc
    · rename_i hcal
      split at hc
      · rename_i x y ha
        injection hc with hc; subst hc
        simp only [effS] at he
        split at he
        · rename_i k a k' b hx hy
          split at he
          · rename_i hkk
            subst hkk
            simp only [Option.some.injEq, Prod.mk.injEq] at he
            obtain ⟨rfl, rfl⟩ := he
            exact g_mm (mx := false) hS hρ hop hcal (Array.ext' ha) hx hy
          · cases he
        · cases he
      · cases hc
    · rename_i hcal
      split at hc
      · rename_i x y ha
        injection hc with hc; subst hc
        simp only [effS] at he
        split at he
        · rename_i k a k' b hx hy
          split at he
          · rename_i hkk
            subst hkk
            simp only [Option.some.injEq, Prod.mk.injEq] at he
            obtain ⟨rfl, rfl⟩ := he
            exact g_mm (mx := true) hS hρ hop hcal (Array.ext' ha) hx hy
          · cases he
        · cases he
      · cases hc
    · cases hc
  · -- extract
    rename_i x i hop
    injection hc with hc; subst hc
    simp only [effS] at he
    split at he
    · rename_i vs hx
      obtain ⟨r, hr, h2⟩ := pair_map he
      simp only [Prod.mk.injEq] at h2
      obtain ⟨rfl, rfl⟩ := h2
      exact g_extract hS hρ hop hx hr
    · cases he
  · rename_i f a b hop
    injection hc with hc; subst hc
    simp only [effS, Option.some.injEq, Prod.mk.injEq] at he
    obtain ⟨rfl, rfl⟩ := he
    exact g_mkfn hS hρ hop
  · rename_i t hop
    split at hc
    · split at hc
      · injection hc with hc; subst hc
        simp only [effS] at he
        obtain ⟨o2, hmk, h2⟩ := pair_map he
        obtain ⟨hd, rfl⟩ := mkO_some hmk
        simp only [Prod.mk.injEq] at h2
        obtain ⟨rfl, rfl⟩ := h2
        exact g_mkmap hS hop hd
      · cases hc
    · cases hc
  · -- lookup
    rename_i t x k ok hop
    split at hc
    · rename_i kt et ht
      split at hc
      · rename_i ks ka z g hk hag hz hg
        split at hc
        · rename_i hzo
          injection hc with hc; subst hc
          simp only [effS] at he
          split at he
          · rename_i id kv hx hkv
            split at he
            · rename_i es kt' pu ho
              split at he
              · rename_i hkt
                subst hkt
                split at he
                · rename_i i a q hf
                  simp only [Option.some.injEq, Prod.mk.injEq] at he
                  obtain ⟨rfl, rfl⟩ := he
                  obtain ⟨zv, hzv⟩ := zeroA_some hz hzo
                  obtain ⟨u, hu1, hu2⟩ := zeroA_rep (w := w) (σ := σ) (o := o) hz hzo hzv
                  have := g_lookup (ok := ok) hS hρ hop ht hk hag ⟨zv, u, hzv, hu1, hu2⟩ hx hkv ho hf hzv
                  simpa using this
                · rename_i zv hf hzv
                  simp only [Option.some.injEq, Prod.mk.injEq] at he
                  obtain ⟨rfl, rfl⟩ := he
                  obtain ⟨u, hu1, hu2⟩ := zeroA_rep (w := w) (σ := σ) (o := o) hz hzo hzv
                  have := g_lookup (ok := ok) hS hρ hop ht hk hag ⟨zv, u, hzv, hu1, hu2⟩ hx hkv ho hf hzv
                  simpa using this
                · cases he
              · cases he
            · cases he
          · cases he
        · cases hc
      · cases hc
    · cases hc
  · rename_i t m k v' hop
    split at hc
    · rename_i kt et ht
      split at hc
      · rename_i ks ka hk hag
        injection hc with hc; subst hc
        simp only [effS] at he
        split at he
        · rename_i id kv hx hkv
          split at he
          · rename_i es kt' pu ho
            split at he
            · cases he
            · rename_i hcond
              simp only [not_or, Decidable.not_not] at hcond
              obtain ⟨hpu, hkt⟩ := hcond
              subst hkt
              have hpu' : pu = true → (ρA v').pure = true := fun hp => by
                cases hq : (ρA v').pure with
                | true => rfl
                | false => exact absurd ⟨hp, hq⟩ hpu
              split at he
              · rename_i i a hf
                simp only [Option.some.injEq, Prod.mk.injEq] at he
                obtain ⟨rfl, rfl⟩ := he
                exact g_mapset hS hρ (.inl hop) ht hk hag hx hkv ho hpu' hf
              · rename_i hf
                simp only [Option.some.injEq, Prod.mk.injEq] at he
                obtain ⟨rfl, rfl⟩ := he
                exact g_mapset hS hρ (.inl hop) ht hk hag hx hkv ho hpu' hf
              · cases he
          · cases he
        · cases he
      · cases hc
    · cases hc
  · rename_i t m k v' hop
    split at hc
    · rename_i kt et ht
      split at hc
      · rename_i ks ka hk hag
        injection hc with hc; subst hc
        simp only [effS] at he
        split at he
        · rename_i id kv hx hkv
          split at he
          · rename_i es kt' pu ho
            split at he
            · cases he
            · rename_i hcond
              simp only [not_or, Decidable.not_not] at hcond
              obtain ⟨hpu, hkt⟩ := hcond
              subst hkt
              have hpu' : pu = true → (ρA v').pure = true := fun hp => by
                cases hq : (ρA v').pure with
                | true => rfl
                | false => exact absurd ⟨hp, hq⟩ hpu
              split at he
              · rename_i i a hf
                simp only [Option.some.injEq, Prod.mk.injEq] at he
                obtain ⟨rfl, rfl⟩ := he
                exact g_mapset hS hρ (.inr hop) ht hk hag hx hkv ho hpu' hf
              · rename_i hf
                simp only [Option.some.injEq, Prod.mk.injEq] at he
                obtain ⟨rfl, rfl⟩ := he
                exact g_mapset hS hρ (.inr hop) ht hk hag hx hkv ho hpu' hf
              · cases he
          · cases he
        · cases he
      · cases hc
    · cases hc
  · cases hc
end

end Go.Vi

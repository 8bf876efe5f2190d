/-
  The abstract interpreter: hints, and the end of a call.
  Conditions: none.
-/
import Derived.Test.YtigbjjkijfkeeaaViOp
import Derived.Test.YtigbjjkijfkeeaaViSub
namespace Go.Vi
section
variable {P : Program} {A : Nat → Prop} {w w' : World} {σ σ' : Sig} {o o' : Store}

/-- A new empty row. -/
theorem SimO.fresh (hS : SimO A w σ o) (e : TypeId) (sz : Nat) (pu : Bool) : ∃ σ', SimO A w σ' (o ++ [.cells [] e sz pu]) ∧ Ext w σ o w σ' (o ++ [.cells [] e sz pu]) ∧ σ'[o.length]? = some none := by
  obtain ⟨h1, h2⟩ := hS.deads 1
  have hget : (o ++ Go.Vi.deads 1)[o.length]? = some .dead := by simp [Go.Vi.deads]
  have hset : (o ++ Go.Vi.deads 1).set o.length (.cells [] e sz pu) = o ++ [.cells [] e sz pu] := by
    rw [List.set_append_right _ _ (Nat.le_refl _)]
    simp [Go.Vi.deads]
  have hlen : o.length < (σ ++ List.replicate 1 none).length := by simp [hS.len]
  obtain ⟨k1, k2⟩ := h1.upd (w' := w) (x' := .cells [] e sz pu) (s' := none) hget (Nat.le_refl _) rfl rfl rfl (fun _ _ _ => rfl) (fun _ _ h => by cases h) trivial (fun hE => by
    simp only [ObjOK]
    exact ⟨fun _ => rfl, rfl, .inl ⟨by rw [List.getElem?_set_self hlen], trivial⟩⟩)
  rw [hset] at k1 k2
  exact ⟨_, k1, h2.trans k2, by rw [List.getElem?_set_self hlen]⟩

theorem rep_fresh {n : Nat} {e : TypeId} {sz : Nat} {pu : Bool} (ho : o[n]? = some (.cells [] e sz pu)) (hσ : σ[n]? = some none) : Rep A w σ o (.os n 0 0 0) (.slice none 0 0) := by
  simp only [Rep]
  refine ⟨⟨[], e, sz, pu, ho, Nat.le_refl _⟩, none, 0, rfl, Nat.le_refl _, fun sz' _ => ?_⟩
  unfold OsOk
  rw [hσ]
  exact ⟨rfl, rfl, rfl, rfl⟩

theorem Sim.own1 {nt : Nat} {w0 : World} {σ0 : Sig} {o0 : Store} {st : St} {a : Act} (h : Sim A nt w0 σ0 o0 st a w σ) (x : OwnH) : ∃ σ', Sim A nt w0 σ0 o0 (ownH1 x st) a w σ' := by
  obtain ⟨σ1, k1, k2, k3⟩ := h.sim.fresh x.e x.sz x.pu
  have hnew : (st.o ++ [AObj.cells [] x.e x.sz x.pu])[st.o.length]? = some (.cells [] x.e x.sz x.pu) := by simp
  unfold ownH1
  split
  · split
    · rename_i hs
      refine ⟨σ1, k1, fun s => ?_, h.size, h.defers, h.ext.trans k2⟩
      simp only [getE]
      cases hq : Nat.beq x.slot s with
      | true =>
        have := Nat.eq_of_beq_eq_true hq
        subst this
        have := h.env x.slot
        rw [hs] at this
        rw [rep_sc this]
        exact rep_fresh hnew k3
      | false => exact (h.env s).ext k2
    · exact ⟨σ, h⟩
  · rename_i k _
    split
    · rename_i id off tot hs
      split
      · rename_i cs e sz pu ho
        split
        · rename_i hc
          split
          · rename_i hcond
            obtain ⟨htot, rfl⟩ := hcond
            have hid : id < st.o.length := (List.getElem?_eq_some_iff.1 ho).1
            have hidσ : id < σ1.length := by rw [k1.len]; simp; omega
            have ho1 : (st.o ++ [AObj.cells [] x.e x.sz x.pu])[id]? = some (.cells cs e sz false) := by rw [List.getElem?_append_left hid]; exact ho
            have hkl : off + k < cs.length := (List.getElem?_eq_some_iff.1 hc).1
            obtain ⟨m1, m2⟩ := k1.upd (w' := w) (x' := .cells (cs.set (off + k) (.os st.o.length 0 0 0)) e sz false) (s' := σ1[id]) ho1 (Nat.le_refl _) rfl rfl rfl (fun _ _ _ => rfl)
              (fun b c hs => .inl ⟨c, by rw [List.getElem?_eq_getElem hidσ, hs]⟩) ⟨_, e, false, rfl, by simp, fun _ => List.getElem?_eq_getElem hidσ⟩ (fun hE => by
                have hob := k1.obj id _ ho1
                simp only [ObjOK] at hob ⊢
                obtain ⟨q1, q2, q3⟩ := hob
                refine ⟨fun h => (by cases h), ?_, ?_⟩
                · refine oneL_of.2 fun c hc2 => ?_
                  rcases List.mem_or_eq_of_mem_set hc2 with h1 | h1
                  · exact oneL_of.1 q2 c h1
                  · subst h1; rfl
                · rcases q3 with ⟨_, h0⟩ | ⟨b, cap, arr, r1, r2, r3, r4, r5, r6⟩
                  · subst h0; simp at hkl
                  · refine .inr ⟨b, cap, arr, ?_, r2, r3, r4, by simpa using r5, fun j c hj => ?_⟩
                    · rw [List.getElem?_set_self hidσ, ← List.getElem?_eq_getElem hidσ]; exact r1
                    · rw [List.getElem?_set] at hj
                      split at hj
                      · rename_i hjk
                        subst hjk
                        injection hj with hj; subst hj
                        obtain ⟨v, hv, hr⟩ := r6 _ _ hc
                        refine ⟨v, hv, ?_⟩
                        rw [rep_sc hr]
                        exact (rep_fresh hnew k3).ext hE
                      · obtain ⟨v, hv, hr⟩ := r6 j c hj
                        exact ⟨v, hv, hr.ext hE⟩)
            have hset : (st.o ++ [AObj.cells [] x.e x.sz x.pu]).set id (.cells (cs.set (off + k) (.os st.o.length 0 0 0)) e sz false) = (st.o.set id (.cells (cs.set (off + k) (.os st.o.length 0 0 0)) e sz false)) ++ [AObj.cells [] x.e x.sz x.pu] := by
              rw [List.set_append_left _ _ hid]
            rw [hset] at m1 m2
            exact ⟨_, m1, fun s => ((h.env s).ext k2).ext m2, h.size, h.defers, (h.ext.trans k2).trans m2⟩
          · exact ⟨σ, h⟩
        · exact ⟨σ, h⟩
      · exact ⟨σ, h⟩
    · exact ⟨σ, h⟩

theorem Sim.hint {nt : Nat} {w0 : World} {σ0 : Sig} {o0 : Store} {st : St} {a : Act} {lo : Nat} (hlo : o0.length ≤ lo) (h : Sim A nt w0 σ0 o0 st a w σ) (x : OwnH) : ∃ σ', Sim A nt w0 σ0 o0 (ownH lo x st) a w σ' := by
  unfold ownH
  split
  · exact h.own1 x
  · split
    · rename_i id _ _ _ _
      split
      · rename_i hb
        have hid := Nat.le_of_ble_eq_true hb
        unfold frzH
        simp only
        split
        · rename_i env o1 he ho
          have hF := frz_of ho
          exact ⟨_, h.sim.frz hF, fun s => Rep.frz h.sim hF _ _ _ (frzE_get he s) (h.env s), h.size, h.defers, h.ext.frz hF fun i hi => by
            simp only [beq_eq_false_iff_ne]; omega⟩
        · exact ⟨σ, h⟩
      · exact ⟨σ, h⟩
    · exact ⟨σ, h⟩

theorem finish_sound {w0 : World} {σ0 : Sig} {o0 : Store} (hS : SimO A w σ o) (hE : Ext w0 σ0 o0 w σ o) {r0 r : AV} {u : Value} (hr : Rep A w σ o r0 u) {own : Bool} (hf : finish own o0.length r0 o = some (r, o')) :
    ∃ σ', SimO A w σ' o' ∧ Rep A w σ' o' r u ∧ Ext w0 σ0 o0 w σ' o' := by
  unfold finish at hf
  cases own with
  | true => exact finishOwn_sound hS hE hr hf
  | false =>
    simp only [Bool.false_eq_true, if_false] at hf
    split at hf
    · rename_i hk
      split at hf
      · rename_i r' hfr
        simp only [Option.some.injEq, Prod.mk.injEq] at hf
        obtain ⟨rfl, rfl⟩ := hf
        have h0 : o0 = [] := List.eq_nil_of_length_eq_zero hk
        subst h0
        refine ⟨[], simO_nil w hS.avb, freeze_rep hS (fun b _ hf => hf.2) 6 r0 r' u hfr (fun id _ b c hσ => hS.av id b c hσ) hr, hE.size, fun b hb hn => ⟨(hE.blk b hb hn).1, fun ⟨i, c, hi⟩ => by simp at hi⟩, Nat.le_refl _, fun id tot ha => ?_, fun id ha => ?_, hE.os, hE.tape, hE.output⟩
        · obtain ⟨cs, e, sz, pu, ho, _⟩ := ha; simp at ho
        · obtain ⟨es, kt, pu, ho⟩ := ha; simp at ho
      · cases hf
    · cases hf
end
end Go.Vi

/-
  The abstract interpreter: frozen copies, calls that only read.
  Conditions: none.
-/
import Derived.Test.YtigbjjkijfkeeaaViStore
namespace Go.Vi

/-- A call of a Go function does what is said. -/
def CallO (P : Program) (f : FuncId) (args : List AV) (o : Store) (r : AV) (o' : Store) : Prop :=
  ∀ (A : Nat → Prop) (w : World) (σ : Sig) (vs : List Value), SimO A w σ o → RepL A w σ o args vs →
    Calls P f vs.toArray w fun e w' => ∃ u σ', e = .returned u ∧ SimO A w' σ' o' ∧ Rep A w' σ' o' r u ∧ Ext w σ o w' σ' o'

def OracleOK (P : Program) (call : Oracle) : Prop :=
  ∀ f args o own r o', call f args o own = some (r, o') → goodF P f = true ∧ CallO P f args o r o' ∧ (own = false → o' = [])

section
variable {P : Program} {A B : Nat → Prop} {w w' : World} {σ σ' : Sig} {o o' : Store}

theorem mapM_get {α β : Type} {f : α → Option β} : ∀ {l : List α} {l' : List β}, l.mapM f = some l' → l'.length = l.length ∧ ∀ (j : Nat) (a : α), l[j]? = some a → ∃ b, l'[j]? = some b ∧ f a = some b
  | [], l', h => by simp at h; subst h; simp
  | a :: l, l', h => by
    rw [List.mapM_cons] at h
    cases hf : f a with
    | none => simp [hf] at h
    | some b =>
      cases hl : l.mapM f with
      | none => simp [hf, hl] at h
      | some r =>
        simp [hf, hl] at h
        subst h
        obtain ⟨i1, i2⟩ := mapM_get hl
        refine ⟨by simp [i1], fun j c hc => ?_⟩
        cases j with
        | zero => simp at hc; subst hc; exact ⟨b, by simp, hf⟩
        | succ j => simp at hc; obtain ⟨d, h1, h2⟩ := i2 j c hc; exact ⟨d, by simpa using h1, h2⟩

theorem repL_mapM {f : AV → Option AV} {cs cs' : List AV} {vs : List Value} (h : cs.mapM f = some cs') (hr : RepL A w σ o cs vs) (hf : ∀ c ∈ cs, ∀ c' v, f c = some c' → Rep A w σ o c v → Rep B w σ' o' c' v) : RepL B w σ' o' cs' vs := by
  obtain ⟨h1, h2⟩ := mapM_get h
  have hl := RepL.length _ _ hr
  refine RepL.of_get _ _ (by omega) fun j c' hc' => ?_
  have hj : j < cs.length := by have := (List.getElem?_eq_some_iff.1 hc').1; omega
  obtain ⟨v, hv, hrep⟩ := RepL.get _ _ hr j _ (List.getElem?_eq_getElem hj)
  obtain ⟨b, hb, hfb⟩ := h2 j _ (List.getElem?_eq_getElem hj)
  rw [hc'] at hb
  injection hb with hb
  subst hb
  exact ⟨v, hv, hf _ (List.getElem_mem hj) _ _ hfb hrep⟩

/-- A frozen copy stands for the same value, whatever becomes of the objects. -/
theorem freeze_rep (hS : SimO A w σ o) (hB : ∀ b, b < w.heap.size → Fr A σ b → ¬ B b) : ∀ (d : Nat) (a a' : AV) (u : Value), freeze o d a = some a' → (∀ id ∈ tchF o d a, ∀ b c, σ[id]? = some (some (b, c)) → ¬ B b) →
    Rep A w σ o a u → Rep B w [] [] a' u := by
  have hA : ∀ b, b < w.heap.size → Fr A σ b → Fr B [] b := fun b hb hf => ⟨fun ⟨i, c, hi⟩ => by simp at hi, hB b hb hf⟩
  have hm : ∀ id id', (fun _ : Nat => (none : Option Nat)) id = some id' → Tr o σ [] [] id id' := fun _ _ h => by cases h
  intro d
  induction d with
  | zero =>
    intro a a' u hf _ hr
    cases a <;> simp only [freeze, reduceCtorEq, Option.some.injEq] at hf
    · subst hf; simp [Rep]
    · rename_i v
      split at hf
      · injection hf with hf; subst hf
        have := rep_sc hr
        subst this
        simp only [Rep, RepM]
        exact ⟨none, 0, rfl, Nat.le_refl _, rfl, trivial⟩
      · injection hf with hf; subst hf
        simpa [Rep] using hr
    · subst hf; exact Rep.ren hA hm _ _ _ rfl hr
  | succ d ih =>
    intro a a' u hf ht hr
    cases a <;> simp only [freeze, reduceCtorEq, Option.some.injEq] at hf
    · subst hf; simp [Rep]
    · rename_i v
      split at hf
      · injection hf with hf; subst hf
        have := rep_sc hr
        subst this
        simp only [Rep, RepM]
        exact ⟨none, 0, rfl, Nat.le_refl _, rfl, trivial⟩
      · injection hf with hf; subst hf
        simpa [Rep] using hr
    · rename_i cs
      obtain ⟨cs', h1, rfl⟩ := Option.map_eq_some_iff.1 hf
      simp only [Rep] at hr ⊢
      obtain ⟨vs, rfl, hl⟩ := hr
      refine ⟨vs, rfl, repL_mapM h1 hl fun c hc c' v hfc hrc => ih c c' v hfc (fun id hid => ht id ?_) hrc⟩
      simp only [tchF, List.mem_flatMap]
      exact ⟨c, hc, hid⟩
    · rename_i cs
      obtain ⟨cs', h1, rfl⟩ := Option.map_eq_some_iff.1 hf
      simp only [Rep] at hr ⊢
      obtain ⟨vs, rfl, hl⟩ := hr
      refine ⟨vs, rfl, repL_mapM h1 hl fun c hc c' v hfc hrc => ih c c' v hfc (fun id hid => ht id ?_) hrc⟩
      simp only [tchF, List.mem_flatMap]
      exact ⟨c, hc, hid⟩
    · subst hf; exact Rep.ren hA hm _ _ _ rfl hr
    · -- a row of the call's own
      rename_i id off len tot
      split at hf
      · rename_i cs e sz pu ho
        split at hf
        · rename_i hcond
          obtain ⟨htot, hrange⟩ := hcond
          simp only [Rep] at hr
          obtain ⟨hle, X, cap, rfl, hlc, hcur⟩ := hr
          have hk := hcur sz ⟨cs, e, pu, ho, htot⟩
          have hob := hS.obj id _ ho
          simp only [ObjOK] at hob
          obtain ⟨q1, q2, q3⟩ := hob
          -- the cells in memory
          have cellsOf : ∀ (j : Nat) (c : AV), ((cs.drop off).take (len * sz))[j]? = some c → ∃ (p : Addr) (v : Value), X = some p ∧ ¬ B p.block ∧ w.cell? (p.add j) = some v ∧ Rep A w σ o c v := by
            intro j c hc
            rw [List.getElem?_take] at hc
            split at hc
            · rename_i hj
              rw [List.getElem?_drop] at hc
              have hpos : 0 < len := by
                rcases Nat.eq_zero_or_pos len with h0 | h0
                · subst h0; simp at hj
                · exact h0
              unfold OsOk at hk
              split at hk
              · omega
              · rename_i b c2 hσ
                rcases q3 with ⟨h0, _⟩ | ⟨b', cap', arr, r1, _, r3, _, _, r6⟩
                · rw [hσ] at h0; cases h0
                · rw [hσ] at r1
                  simp only [Option.some.injEq, Prod.mk.injEq] at r1
                  obtain ⟨rfl, rfl⟩ := r1
                  obtain ⟨v, hv, hrv⟩ := r6 _ c hc
                  refine ⟨⟨b, off, none⟩, v, hk.1 hpos, ht id (by simp [tchF]) b c2 hσ, ?_, hrv⟩
                  rw [add_own]
                  simp [World.cell?, r3, hv]
              · exact hk.elim
            · cases hc
          split at hf
          · rename_i hpu
            injection hf with hf; subst hf
            have hpure : pureL ((cs.drop off).take (len * sz)) = true := pureL_of fun c hc => pureL_get (q1 hpu) c (List.mem_of_mem_drop (List.mem_of_mem_take hc))
            simp only [Rep]
            refine ⟨X, cap, rfl, hlc, hpure, RepM.of_get _ _ _ fun j c hc => ?_⟩
            obtain ⟨p, v, hp, hnb, hcell, hrv⟩ := cellsOf j c hc
            exact ⟨p, v, hp, ⟨fun ⟨i, c, hi⟩ => by simp at hi, hnb⟩, by simpa using hcell, Rep.ren hA hm c v c (AV.pure_ren _ c (pureL_get hpure c (List.mem_of_getElem? hc))) hrv⟩
          · rename_i hpu
            split at hf
            · rename_i cs' hcs'
              split at hf
              · rename_i hpure
                injection hf with hf; subst hf
                obtain ⟨m1, m2⟩ := mapM_get hcs'
                simp only [Rep]
                refine ⟨X, cap, rfl, hlc, hpure, RepM.of_get _ _ _ fun j c' hc' => ?_⟩
                have hj : j < ((cs.drop off).take (len * sz)).length := by have := (List.getElem?_eq_some_iff.1 hc').1; omega
                obtain ⟨p, v, hp, hnb, hcell, hrv⟩ := cellsOf j _ (List.getElem?_eq_getElem hj)
                obtain ⟨b, hb, hfb⟩ := m2 j _ (List.getElem?_eq_getElem hj)
                rw [hc'] at hb
                injection hb with hb
                subst hb
                refine ⟨p, v, hp, ⟨fun ⟨i, c, hi⟩ => by simp at hi, hnb⟩, by simpa using hcell, ih _ _ v hfb (fun id' hid' => ht id' ?_) hrv⟩
                simp only [tchF, ho, List.mem_cons]
                right
                rw [if_neg hpu]
                exact List.mem_flatMap.2 ⟨_, List.getElem_mem hj, hid'⟩
              · cases hf
            · cases hf
        · cases hf
      · cases hf
    · rename_i f a b
      split at hf
      · rename_i a' b' h1 h2
        injection hf with hf; subst hf
        simp only [Rep] at hr ⊢
        obtain ⟨x, y, rfl, hx, hy⟩ := hr
        refine ⟨x, y, rfl, repL_mapM h1 hx fun c hc c' v hfc hrc => ih c c' v hfc (fun id hid => ht id ?_) hrc, repL_mapM h2 hy fun c hc c' v hfc hrc => ih c c' v hfc (fun id hid => ht id ?_) hrc⟩
        · simp only [tchF, List.mem_append, List.mem_flatMap]; exact .inl ⟨c, hc, hid⟩
        · simp only [tchF, List.mem_append, List.mem_flatMap]; exact .inr ⟨c, hc, hid⟩
      · cases hf

/-- A call that has written nothing of what was there. -/
theorem SimO.far (hS : SimO A w σ o) (hE : Ext w [] [] w' σ' o') : SimO A w' σ o ∧ Ext w σ o w' σ o := by
  have hblk : ∀ b, b < w.heap.size → w'.heap[b]? = w.heap[b]? := fun b hb => (hE.blk b hb fun ⟨i, c, hi⟩ => by simp at hi).1
  have hE' : Ext w σ o w' σ o := ⟨hE.size, fun b hb hn => ⟨hblk b hb, hn⟩, Nat.le_refl _, fun _ _ h => ⟨h, fun _ h => ⟨h, rfl⟩⟩, fun _ h => ⟨h, rfl⟩, hE.os, hE.tape, hE.output⟩
  exact ⟨⟨hS.len, hS.dist, fun i b c h => Nat.lt_of_lt_of_le (hS.bnd i b c h) hE.size, fun i x hx => (hS.obj i x hx).ext hE' rfl fun b c hb => hblk b (hS.bnd i b c hb), hS.av, fun b hb => Nat.lt_of_lt_of_le (hS.avb b hb) hE.size⟩, hE'⟩

mutual
theorem noSl_rep : ∀ (r : AV) (u : Value), r.noSl = true → Rep A w σ o r u → Rep B w' σ' o' r u
  | .ud, _, _, _ => by simp [Rep]
  | .sc v, u, _, h => by simpa [Rep] using h
  | .agg cs, u, hn, h => by
    simp only [AV.noSl] at hn
    simp only [Rep] at h ⊢
    obtain ⟨vs, rfl, hl⟩ := h
    exact ⟨vs, rfl, noSlL_rep cs _ hn hl⟩
  | .tup cs, u, hn, h => by
    simp only [AV.noSl] at hn
    simp only [Rep] at h ⊢
    obtain ⟨vs, rfl, hl⟩ := h
    exact ⟨vs, rfl, noSlL_rep cs _ hn hl⟩
  | .sl n cs, u, hn, h => by
    simp only [AV.noSl, List.isEmpty_iff] at hn
    subst hn
    simp only [Rep, RepM] at h ⊢
    exact h
  | .ep _ _, _, hn, _ | .ptr _ _ _, _, hn, _ | .os _ _ _ _, _, hn, _ | .mp _, _, hn, _ | .fn _ _ _, _, hn, _ => by simp [AV.noSl] at hn
theorem noSlL_rep : ∀ (cs : List AV) (vs : List Value), noSlL cs = true → RepL A w σ o cs vs → RepL B w' σ' o' cs vs
  | [], vs, _, h => by simpa [RepL] using h
  | c :: cs, vs, hn, h => by
    simp only [noSlL, Bool.and_eq_true] at hn
    simp only [RepL] at h ⊢
    obtain ⟨v, r, rfl, hv, hl⟩ := h
    exact ⟨v, r, rfl, noSl_rep c v hn.1 hv, noSlL_rep cs r hn.2 hl⟩
end

theorem simO_nil (w : World) (hA : ∀ b, A b → b < w.heap.size) : SimO A w [] [] := ⟨rfl, by simp, by simp, by simp, by simp, hA⟩

/-- A call by frozen copies. -/
theorem call_pure {call : Oracle} (hcall : OracleOK P call) (hS : SimO A w σ o) {f : FuncId} {args args' : List AV} {vs : List Value} (hr : RepL A w σ o args vs) (hf : args.mapM (freeze o 6) = some args') {r : AV}
    (hc : call f args' [] false = some (r, [])) (hcl : (args.flatMap (tchF o 6)).isEmpty = true ∨ r.noSl = true) :
    goodF P f = true ∧ Calls P f vs.toArray w fun e w' => ∃ u σ', e = .returned u ∧ SimO A w' σ' o ∧ Rep A w' σ' o r u ∧ Ext w σ o w' σ' o := by
  obtain ⟨hg, hco, _⟩ := hcall _ _ _ _ _ _ hc
  refine ⟨hg, ?_⟩
  rcases hcl with hcl | hcl
  · -- the arguments lie clear of the objects
    let B : Nat → Prop := fun b => A b ∨ Own σ b
    have hB : ∀ b, B b → b < w.heap.size := fun b hb => hb.elim (hS.avb b) fun ⟨i, c, hi⟩ => hS.bnd i b c hi
    have harg : RepL B w [] [] args' vs := repL_mapM hf hr fun c hc' c' v hfc hrc => freeze_rep hS (fun b _ hfr hb => hb.elim hfr.2 hfr.1) 6 c c' v hfc (fun id hid => by
      have : id ∈ args.flatMap (tchF o 6) := List.mem_flatMap.2 ⟨c, hc', hid⟩
      rw [List.isEmpty_iff.1 hcl] at this
      simp at this) hrc
    refine (hco B w [] vs (simO_nil w hB) harg).mono ?_
    rintro e w' ⟨u, σ', rfl, hS', hr', hE⟩
    obtain ⟨h1, h2⟩ := hS.far hE
    refine ⟨u, σ, rfl, h1, ?_, h2⟩
    have hbel : r.bel 0 = true := Rep.bel (k := 0) (fun i x _ hx => by simp at hx) r u hr'
    refine Rep.ren (m := cutM 0) (fun b hb hfr => ⟨fun ho => hfr.2 (.inr ho), fun ha => hfr.2 (.inl ha)⟩) (fun id id' h => by simp [cutM] at h) r u r (bel_ren 0 r hbel) hr'
  · have harg : RepL A w [] [] args' vs := repL_mapM hf hr fun c hc' c' v hfc hrc => freeze_rep hS (fun b _ hfr hb => hfr.2 hb) 6 c c' v hfc (fun id _ b c2 hσ => hS.av id b c2 hσ) hrc
    refine (hco A w [] vs (simO_nil w hS.avb) harg).mono ?_
    rintro e w' ⟨u, σ', rfl, hS', hr', hE⟩
    obtain ⟨h1, h2⟩ := hS.far hE
    exact ⟨u, σ, rfl, h1, noSl_rep r u hcl hr', h2⟩
end

end Go.Vi

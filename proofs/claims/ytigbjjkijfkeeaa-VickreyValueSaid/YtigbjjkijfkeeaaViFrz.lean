/-
  The abstract interpreter: rows are let go as plain slices.
  Conditions: none.
-/
import Derived.Test.YtigbjjkijfkeeaaViCall
namespace Go.Vi

section
variable {A : Nat → Prop} {w : World} {σ : Sig} {o : Store}

/-- The object is let go. -/
def drF (o : Store) (p : Nat → Bool) (i : Nat) : Bool := p i && (match o[i]? with | some (.cells _ _ _ true) => true | _ => false)

def sigF (o : Store) (p : Nat → Bool) (σ : Sig) : Sig := (List.range σ.length).map fun i => if drF o p i then none else (σ[i]?).getD none

theorem sigF_len (o : Store) (p : Nat → Bool) (σ : Sig) : (sigF o p σ).length = σ.length := by simp [sigF]

theorem sigF_get {o : Store} {p : Nat → Bool} {σ : Sig} {i : Nat} (hi : i < σ.length) : (sigF o p σ)[i]? = some (if drF o p i then none else (σ[i]?).getD none) := by
  simp [sigF, hi]

theorem sigF_some {o : Store} {p : Nat → Bool} {σ : Sig} {i : Nat} {s : Nat × Nat} (h : (sigF o p σ)[i]? = some (some s)) : σ[i]? = some (some s) ∧ drF o p i = false := by
  have hi : i < σ.length := by have := (List.getElem?_eq_some_iff.1 h).1; simpa [sigF_len] using this
  rw [sigF_get hi] at h
  cases hd : drF o p i with
  | true => simp [hd] at h
  | false =>
    simp only [hd, Bool.false_eq_true, if_false, Option.some.injEq] at h
    rw [List.getElem?_eq_getElem hi] at h ⊢
    simp at h
    exact ⟨by rw [h], rfl⟩

theorem sigF_keep {o : Store} {p : Nat → Bool} {σ : Sig} {i : Nat} (h : drF o p i = false) : (sigF o p σ)[i]? = σ[i]? := by
  rcases Nat.lt_or_ge i σ.length with hi | hi
  · rw [sigF_get hi, h, List.getElem?_eq_getElem hi]; simp
  · rw [List.getElem?_eq_none hi, List.getElem?_eq_none (by rw [sigF_len]; exact hi)]

def dropO (p : Nat → Bool) (i : Nat) : AObj → AObj
  | .cells cs e sz true => if p i then .dead else .cells cs e sz true
  | x => x

theorem dropPu_get (p : Nat → Bool) : ∀ (o : Store) (k i : Nat), (dropPu p k o)[i]? = (o[i]?).map (dropO p (k + i))
  | [], k, i => by simp [dropPu]
  | x :: r, k, i => by
    simp only [dropPu]
    cases i with
    | zero => simp only [List.getElem?_cons_zero, Option.map_some, Nat.add_zero]; congr 1
    | succ i => simp only [List.getElem?_cons_succ]; rw [dropPu_get p r (k + 1) i, show k + 1 + i = k + (i + 1) from by omega]

theorem frzS_get {p : Nat → Bool} {o0 : Store} : ∀ {o o' : Store}, frzS o0 p o = some o' → o'.length = o.length ∧ ∀ (i : Nat) (x : AObj), o[i]? = some x → ∃ y, x.frz o0 p = some y ∧ o'[i]? = some y
  | [], o', h => by simp only [frzS, Option.some.injEq] at h; subst h; simp
  | x :: r, o', h => by
    simp only [frzS] at h
    split at h
    · rename_i y l h1 h2
      injection h with h; subst h
      obtain ⟨i1, i2⟩ := frzS_get h2
      refine ⟨by simp [i1], fun i z hz => ?_⟩
      cases i with
      | zero => simp at hz; subst hz; exact ⟨y, h1, by simp⟩
      | succ i => obtain ⟨y', k1, k2⟩ := i2 i z (by simpa using hz); exact ⟨y', k1, by simpa using k2⟩
    · cases h

theorem frzL_get {o : Store} {p : Nat → Bool} : ∀ {cs cs' : List AV}, frzL o p cs = some cs' → cs'.length = cs.length ∧ ∀ (j : Nat) (c' : AV), cs'[j]? = some c' → ∃ c, cs[j]? = some c ∧ c.frz o p = some c'
  | [], cs', h => by simp only [frzL, Option.some.injEq] at h; subst h; simp
  | c :: cs, cs', h => by
    simp only [frzL] at h
    split at h
    · rename_i c1 cs1 h1 h2
      injection h with h; subst h
      obtain ⟨i1, i2⟩ := frzL_get h2
      refine ⟨by simp [i1], fun j d hd => ?_⟩
      cases j with
      | zero => simp at hd; subst hd; exact ⟨c, by simp, h1⟩
      | succ j => simp at hd; obtain ⟨c2, h3, h4⟩ := i2 j d hd; exact ⟨c2, by simpa using h3, h4⟩
    · cases h

theorem frzM_get {o : Store} {p : Nat → Bool} : ∀ {es es' : List (Value × AV)}, frzM o p es = some es' → es'.length = es.length ∧ ∀ (j : Nat) (e' : Value × AV), es'[j]? = some e' → ∃ e, es[j]? = some e ∧ e.1 = e'.1 ∧ e.2.frz o p = some e'.2
  | [], es', h => by simp only [frzM, Option.some.injEq] at h; subst h; simp
  | e :: es, es', h => by
    simp only [frzM] at h
    split at h
    · rename_i v es1 h1 h2
      injection h with h; subst h
      obtain ⟨i1, i2⟩ := frzM_get h2
      refine ⟨by simp [i1], fun j d hd => ?_⟩
      cases j with
      | zero => simp at hd; subst hd; exact ⟨e, by simp, rfl, h1⟩
      | succ j => simp at hd; obtain ⟨c2, h3, h4⟩ := i2 j d hd; exact ⟨c2, by simpa using h3, h4⟩
    · cases h

theorem frzE_get {o : Store} {p : Nat → Bool} : ∀ {env env' : EnvA}, frzE o p env = some env' → ∀ s, (getE env s).frz o p = some (getE env' s)
  | [], env', h, s => by simp only [frzE, Option.some.injEq] at h; subst h; rfl
  | (k, v) :: r, env', h, s => by
    simp only [frzE] at h
    split at h
    · rename_i v' r' h1 h2
      injection h with h; subst h
      simp only [getE]
      cases hq : Nat.beq k s with
      | true => exact h1
      | false => exact frzE_get h2 s
    · cases h

mutual
theorem AV.pure_frz (o : Store) (p : Nat → Bool) : ∀ (c : AV), c.pure = true → c.frz o p = some c
  | .sc _, _ => rfl
  | .sl _ _, _ => rfl
  | .ud, h | .agg _, h | .tup _, h | .ep _ _, h | .ptr _ _ _, h | .os _ _ _ _, h | .mp _, h | .fn _ _ _, h => by simp [AV.pure] at h
end

theorem frz_one {o : Store} {p : Nat → Bool} {c c' : AV} (h : c.frz o p = some c') (h1 : c.one = true) : c'.one = true := by
  cases c <;> simp only [AV.one, Bool.false_eq_true] at h1 <;> simp only [AV.frz] at h
  all_goals first
    | (injection h with h; subst h; first | exact h1 | rfl)
    | ((repeat' split at h) <;> first
        | (cases h; done)
        | (injection h with h; subst h; rfl))

/-- How the store stands after the rows are let go. -/
structure Frz (o : Store) (p : Nat → Bool) (o2 : Store) : Prop where
  len : o2.length = o.length
  get : ∀ i x, o[i]? = some x → (drF o p i = true ∧ o2[i]? = some .dead) ∨ (drF o p i = false ∧ ∃ y, x.frz o p = some y ∧ o2[i]? = some y)

theorem frz_of {o o1 : Store} {p : Nat → Bool} (h : frzS o p o = some o1) : Frz o p (dropPu p 0 o1) := by
  obtain ⟨h1, h2⟩ := frzS_get h
  have hl : (dropPu p 0 o1).length = o.length := by
    rw [← h1]
    apply Nat.le_antisymm
    · rcases Nat.lt_or_ge o1.length (dropPu p 0 o1).length with h | h
      · exfalso
        have := dropPu_get p o1 0 o1.length
        rw [List.getElem?_eq_getElem h] at this
        simp at this
      · exact h
    · rcases Nat.lt_or_ge (dropPu p 0 o1).length o1.length with h | h
      · exfalso
        have := dropPu_get p o1 0 (dropPu p 0 o1).length
        rw [List.getElem?_eq_getElem h] at this
        simp at this
      · exact h
  refine ⟨hl, fun i x hx => ?_⟩
  obtain ⟨y, hy, hy2⟩ := h2 i x hx
  have hg := dropPu_get p o1 0 i
  rw [hy2, Nat.zero_add] at hg
  simp only [Option.map_some] at hg
  unfold drF
  rw [hx]
  cases x with
  | cells cs e sz pu =>
    cases pu with
    | true =>
      simp only [AObj.frz, if_true, Option.some.injEq] at hy
      subst hy
      simp only [dropO] at hg
      cases hp : p i with
      | true => left; simp [hp] at hg ⊢; exact hg
      | false => right; simp [hp] at hg ⊢; exact ⟨_, by simp [AObj.frz], hg⟩
    | false =>
      right
      simp only [AObj.frz, Bool.false_eq_true, if_false, Option.map_eq_some_iff] at hy
      obtain ⟨cs', hc, rfl⟩ := hy
      simp only [dropO] at hg
      exact ⟨by simp, _, by simp [AObj.frz, hc], hg⟩
  | dead =>
    simp only [AObj.frz, Option.some.injEq] at hy
    subst hy
    right
    exact ⟨by simp, _, rfl, hg⟩
  | map es kt pu =>
    right
    have : ∃ es', y = .map es' kt pu := by
      simp only [AObj.frz] at hy
      split at hy
      · injection hy with hy; exact ⟨es, hy.symm⟩
      · obtain ⟨es', _, rfl⟩ := Option.map_eq_some_iff.1 hy; exact ⟨es', rfl⟩
    obtain ⟨es', rfl⟩ := this
    exact ⟨by simp, _, hy, hg⟩

theorem Frz.tr {o2 : Store} {p : Nat → Bool} (h : Frz o p o2) {id : Nat} (hd : drF o p id = false) : Tr o σ o2 (sigF o p σ) id id := by
  refine ⟨fun cs e sz pu ho => ?_, fun ⟨es, kt, pu, ho⟩ => ?_, sigF_keep hd⟩
  · rcases h.get id _ ho with ⟨h1, _⟩ | ⟨_, y, hy, h2⟩
    · rw [hd] at h1; cases h1
    · simp only [AObj.frz] at hy
      split at hy
      · injection hy with hy; subst hy; exact ⟨cs, e, pu, h2, rfl⟩
      · obtain ⟨cs', hc, rfl⟩ := Option.map_eq_some_iff.1 hy
        exact ⟨cs', e, pu, h2, (frzL_get hc).1⟩
  · rcases h.get id _ ho with ⟨h1, _⟩ | ⟨_, y, hy, h2⟩
    · rw [hd] at h1; cases h1
    · simp only [AObj.frz] at hy
      split at hy
      · injection hy with hy; subst hy; exact ⟨es, kt, pu, h2⟩
      · obtain ⟨es', hc, rfl⟩ := Option.map_eq_some_iff.1 hy
        exact ⟨es', kt, pu, h2⟩

theorem fr_sigF {p : Nat → Bool} {b : Nat} (h : Fr A σ b) : Fr A (sigF o p σ) b := ⟨fun ⟨i, c, hi⟩ => h.1 ⟨i, c, (sigF_some hi).1⟩, h.2⟩

mutual
theorem Rep.frz (hS : SimO A w σ o) {p : Nat → Bool} {o2 : Store} (hF : Frz o p o2) : ∀ (c : AV) (v : Value) (c' : AV), c.frz o p = some c' → Rep A w σ o c v → Rep A w (sigF o p σ) o2 c' v
  | .ud, v, c', hc, _ => by simp only [AV.frz, Option.some.injEq] at hc; subst hc; simp [Rep]
  | .sc u, v, c', hc, h => by simp only [AV.frz, Option.some.injEq] at hc; subst hc; simpa [Rep] using h
  | .sl n cs, v, c', hc, h => by
    simp only [AV.frz, Option.some.injEq] at hc; subst hc
    exact Rep.ren (m := fun _ => none) (fun b _ hf => fr_sigF hf) (fun _ _ h => by cases h) _ _ _ rfl h
  | .ep cs off, v, c', hc, h => by
    simp only [AV.frz, Option.some.injEq] at hc; subst hc
    exact Rep.ren (m := fun _ => none) (fun b _ hf => fr_sigF hf) (fun _ _ h => by cases h) _ _ _ rfl h
  | .agg cs, v, c', hc, h => by
    simp only [AV.frz, Option.map_eq_some_iff] at hc
    obtain ⟨cs', h1, rfl⟩ := hc
    simp only [Rep] at h ⊢
    obtain ⟨vs, rfl, hl⟩ := h
    exact ⟨vs, rfl, RepL.frz hS hF cs _ cs' h1 hl⟩
  | .tup cs, v, c', hc, h => by
    simp only [AV.frz, Option.map_eq_some_iff] at hc
    obtain ⟨cs', h1, rfl⟩ := hc
    simp only [Rep] at h ⊢
    obtain ⟨vs, rfl, hl⟩ := h
    exact ⟨vs, rfl, RepL.frz hS hF cs _ cs' h1 hl⟩
  | .ptr id off tot, v, c', hc, h => by
    have hd : drF o p id = false ∧ c' = .ptr id off tot := by
      unfold drF
      simp only [AV.frz] at hc
      split at hc
      · rename_i hp
        split at hc
        · rename_i pu ho
          split at hc
          · cases hc
          · rename_i hpu
            injection hc with hc
            refine ⟨?_, hc.symm⟩
            cases pu with
            | true => exact absurd rfl hpu
            | false => simp [ho]
        · rename_i hne
          injection hc with hc
          refine ⟨?_, hc.symm⟩
          have : (match o[id]? with | some (.cells _ _ _ true) => true | _ => false) = false := by
            split
            · rename_i a b c ho; exact absurd ho (hne _ _ _ _)
            · rfl
          rw [this, Bool.and_false]
      · rename_i hp
        injection hc with hc
        exact ⟨by simp [hp], hc.symm⟩
    obtain ⟨hd, rfl⟩ := hd
    exact Rep.ren (m := fun i => if i = id then some id else none) (fun b _ hf => fr_sigF hf) (fun i j hij => by
      split at hij
      · rename_i h0; injection hij with hij; subst h0; subst hij; exact hF.tr hd
      · cases hij) _ _ _ (by simp [AV.ren]) h
  | .mp id, v, c', hc, h => by
    simp only [AV.frz, Option.some.injEq] at hc; subst hc
    have hd : drF o p id = false := by
      simp only [Rep] at h
      obtain ⟨⟨es, kt, pu, ho⟩, _⟩ := h
      simp [drF, ho]
    exact Rep.ren (m := fun i => if i = id then some id else none) (fun b _ hf => fr_sigF hf) (fun i j hij => by
      split at hij
      · rename_i h0; injection hij with hij; subst h0; subst hij; exact hF.tr hd
      · cases hij) _ _ _ (by simp [AV.ren]) h
  | .fn f a b, v, c', hc, h => by
    simp only [AV.frz] at hc
    split at hc
    · rename_i a' b' h1 h2
      injection hc with hc; subst hc
      simp only [Rep] at h ⊢
      obtain ⟨x, y, rfl, hx, hy⟩ := h
      exact ⟨x, y, rfl, RepL.frz hS hF a _ a' h1 hx, RepL.frz hS hF b _ b' h2 hy⟩
    · cases hc
  | .os id off len tot, v, c', hc, h => by
    have keep : drF o p id = false → c' = .os id off len tot → Rep A w (sigF o p σ) o2 c' v := by
      rintro hd rfl
      exact Rep.ren (m := fun i => if i = id then some id else none) (fun b _ hf => fr_sigF hf) (fun i j hij => by
        split at hij
        · rename_i h0; injection hij with hij; subst h0; subst hij; exact hF.tr hd
        · cases hij) _ _ _ (by simp [AV.ren]) h
    simp only [AV.frz] at hc
    split at hc
    · rename_i hp
      split at hc
      · rename_i cs e sz pu ho
        split at hc
        · rename_i hpu
          subst hpu
          split at hc
          · rename_i hcond
            injection hc with hc; subst hc
            obtain ⟨htot, hrange⟩ := hcond
            have hdr : drF o p id = true := by simp [drF, hp, ho]
            simp only [Rep] at h
            obtain ⟨hle, X, cap, rfl, hlc, hcur⟩ := h
            have hk := hcur sz ⟨cs, e, true, ho, htot⟩
            have hob := hS.obj id _ ho
            simp only [ObjOK] at hob
            obtain ⟨q1, q2, q3⟩ := hob
            have hpure : pureL ((cs.drop off).take (len * sz)) = true := pureL_of fun c hc => pureL_get (q1 trivial) c (List.mem_of_mem_drop (List.mem_of_mem_take hc))
            simp only [Rep]
            refine ⟨X, cap, rfl, hlc, hpure, RepM.of_get _ _ _ fun j c hc => ?_⟩
            have hcp := pureL_get hpure c (List.mem_of_getElem? hc)
            rw [List.getElem?_take] at hc
            split at hc
            · rename_i hj
              rw [List.getElem?_drop] at hc
              have hpos : 0 < len := by
                rcases Nat.eq_zero_or_pos len with h0 | h0
                · subst h0; simp at hj
                · exact h0
              unfold OsOk at hk
              split at hk
              · omega
              · rename_i b c2 hσ
                rcases q3 with ⟨h0, _⟩ | ⟨b', cap', arr, r1, _, r3, _, _, r6⟩
                · rw [hσ] at h0; cases h0
                · rw [hσ] at r1
                  simp only [Option.some.injEq, Prod.mk.injEq] at r1
                  obtain ⟨rfl, rfl⟩ := r1
                  obtain ⟨u, hu, hru⟩ := r6 _ c hc
                  refine ⟨⟨b, off, none⟩, u, hk.1 hpos, ⟨?_, hS.av id b c2 hσ⟩, ?_, ?_⟩
                  · rintro ⟨i, c3, hi⟩
                    obtain ⟨k1, k2⟩ := sigF_some hi
                    have := hS.dist id i b c2 c3 hσ k1
                    subst this
                    rw [hdr] at k2; cases k2
                  · rw [Nat.zero_add, add_own]
                    simp [World.cell?, r3, hu]
                  · exact Rep.ren (m := fun _ => none) (fun b _ hf => fr_sigF hf) (fun _ _ h => by cases h) c u c (AV.pure_ren _ c hcp) hru
              · exact hk.elim
            · cases hc
          · cases hc
        · rename_i hpu
          injection hc with hc
          refine keep ?_ hc.symm
          cases pu with
          | true => exact absurd rfl hpu
          | false => simp [drF, ho]
      · rename_i hne
        injection hc with hc
        refine keep ?_ hc.symm
        unfold drF
        have : (match o[id]? with | some (.cells _ _ _ true) => true | _ => false) = false := by
          split
          · rename_i a b c ho; exact absurd ho (hne _ _ _ _)
          · rfl
        rw [this, Bool.and_false]
    · rename_i hp
      injection hc with hc
      exact keep (by simp [drF, hp]) hc.symm
theorem RepL.frz (hS : SimO A w σ o) {p : Nat → Bool} {o2 : Store} (hF : Frz o p o2) : ∀ (cs : List AV) (vs : List Value) (cs' : List AV), frzL o p cs = some cs' → RepL A w σ o cs vs → RepL A w (sigF o p σ) o2 cs' vs
  | [], vs, cs', hc, h => by simp only [frzL, Option.some.injEq] at hc; subst hc; simpa [RepL] using h
  | c :: cs, vs, cs', hc, h => by
    simp only [frzL] at hc
    split at hc
    · rename_i c1 cs1 h1 h2
      injection hc with hc; subst hc
      simp only [RepL] at h ⊢
      obtain ⟨v, r, rfl, hv, hl⟩ := h
      exact ⟨v, r, rfl, Rep.frz hS hF c v c1 h1 hv, RepL.frz hS hF cs r cs1 h2 hl⟩
    · cases hc
end
end

section
variable {A : Nat → Prop} {w : World} {σ : Sig} {o : Store}

theorem ObjOK.frz (hS : SimO A w σ o) {p : Nat → Bool} {o2 : Store} (hF : Frz o p o2) {i : Nat} {x y : AObj} (hx : o[i]? = some x) (hd : drF o p i = false) (hy : x.frz o p = some y) : ObjOK A w (sigF o p σ) o2 i y := by
  have h := hS.obj i x hx
  have hσ := sigF_keep (σ := σ) hd
  cases x with
  | dead => simp only [AObj.frz, Option.some.injEq] at hy; subst hy; simp only [ObjOK] at h ⊢; rw [hσ]; exact h
  | cells cs e sz pu =>
    simp only [ObjOK] at h
    obtain ⟨h1, h2, h3⟩ := h
    have key : ∀ cs', cs'.length = cs.length → (pu = true → pureL cs' = true) → oneL cs' = true → (∀ (j : Nat) (c' : AV) (v : Value), cs'[j]? = some c' → (∀ c, cs[j]? = some c → Rep A w σ o c v → Rep A w (sigF o p σ) o2 c' v)) → ObjOK A w (sigF o p σ) o2 i (.cells cs' e sz pu) := by
      intro cs' k1 k2 k3 k4
      simp only [ObjOK]
      refine ⟨k2, k3, ?_⟩
      rcases h3 with ⟨h0, h0'⟩ | ⟨b, cap, arr, r1, r2, r3, r4, r5, r6⟩
      · left; rw [hσ]; exact ⟨h0, List.eq_nil_of_length_eq_zero (by rw [k1, h0']; rfl)⟩
      · refine .inr ⟨b, cap, arr, by rw [hσ]; exact r1, r2, r3, r4, by omega, fun j c' hj => ?_⟩
        have hjl : j < cs.length := by have := (List.getElem?_eq_some_iff.1 hj).1; omega
        obtain ⟨v, hv, hr⟩ := r6 j _ (List.getElem?_eq_getElem hjl)
        exact ⟨v, hv, k4 j c' v hj _ (List.getElem?_eq_getElem hjl) hr⟩
    simp only [AObj.frz] at hy
    split at hy
    · rename_i hpu
      injection hy with hy; subst hy
      refine key cs rfl h1 h2 fun j c' v hj c hc hr => ?_
      rw [hj] at hc
      injection hc with hc
      subst hc
      exact Rep.frz hS hF c' v c' (AV.pure_frz o p c' (pureL_get (h1 hpu) c' (List.mem_of_getElem? hj))) hr
    · rename_i hpu
      obtain ⟨cs', hc', rfl⟩ := Option.map_eq_some_iff.1 hy
      obtain ⟨g1, g2⟩ := frzL_get hc'
      refine key cs' g1 (fun hp => absurd hp hpu) (oneL_of.2 fun c hc => ?_) fun j c' v hj c hc hr => ?_
      · obtain ⟨j, hj⟩ := List.getElem?_of_mem hc
        obtain ⟨c0, q1, q2⟩ := g2 j c hj
        exact frz_one q2 (oneL_of.1 h2 c0 (List.mem_of_getElem? q1))
      · obtain ⟨c0, q1, q2⟩ := g2 j c' hj
        rw [hc] at q1
        injection q1 with q1
        subst q1
        exact Rep.frz hS hF c v c' q2 hr
  | map es kt pu =>
    simp only [ObjOK] at h
    obtain ⟨h1, h2, b, c, en, cl, h3, h4, h5, h6⟩ := h
    simp only [AObj.frz] at hy
    split at hy
    · rename_i hpu
      injection hy with hy; subst hy
      simp only [ObjOK]
      refine ⟨h1, h2, b, c, en, cl, by rw [hσ]; exact h3, h4, h5, fun j e he => ?_⟩
      obtain ⟨m', q1, q2, q3⟩ := h6 j e he
      exact ⟨m', q1, q2, Rep.frz hS hF e.2 _ e.2 (AV.pure_frz o p e.2 (h1 hpu e (List.mem_of_getElem? he))) q3⟩
    · rename_i hpu
      obtain ⟨es', hc', rfl⟩ := Option.map_eq_some_iff.1 hy
      obtain ⟨g1, g2⟩ := frzM_get hc'
      simp only [ObjOK]
      refine ⟨fun hp => absurd hp hpu, fun e he => ?_, b, c, en, cl, by rw [hσ]; exact h3, h4, by omega, fun j e' he => ?_⟩
      · obtain ⟨j, hj⟩ := List.getElem?_of_mem he
        obtain ⟨e0, q1, q2, _⟩ := g2 j e hj
        rw [← q2]
        exact h2 e0 (List.mem_of_getElem? q1)
      · obtain ⟨e0, q1, q2, q3⟩ := g2 j e' he
        obtain ⟨m', r1, r2, r3⟩ := h6 j e0 q1
        exact ⟨m', r1, by rw [r2, q2], Rep.frz hS hF e0.2 _ e'.2 q3 r3⟩

theorem SimO.frz (hS : SimO A w σ o) {p : Nat → Bool} {o2 : Store} (hF : Frz o p o2) : SimO A w (sigF o p σ) o2 := by
  refine ⟨by rw [sigF_len, hF.len, hS.len], fun i j b c d hi hj => hS.dist i j b c d (sigF_some hi).1 (sigF_some hj).1, fun i b c hi => hS.bnd i b c (sigF_some hi).1, fun i y hy => ?_, fun i b c hi => hS.av i b c (sigF_some hi).1, hS.avb⟩
  have hi : i < o.length := by have := (List.getElem?_eq_some_iff.1 hy).1; rw [hF.len] at this; exact this
  have hx := List.getElem?_eq_getElem hi
  rcases hF.get i _ hx with ⟨h1, h2⟩ | ⟨h1, z, h2, h3⟩
  · rw [hy] at h2
    injection h2 with h2
    subst h2
    simp only [ObjOK]
    rw [sigF_get (by rw [hS.len]; exact hi), h1]
    rfl
  · rw [hy] at h3
    injection h3 with h3
    subst h3
    exact ObjOK.frz hS hF hx h1 h2

theorem Ext.frz {w0 : World} {σ0 : Sig} {o0 : Store} (hE : Ext w0 σ0 o0 w σ o) {p : Nat → Bool} {o2 : Store} (hF : Frz o p o2) (hp : ∀ i, i < o0.length → p i = false) : Ext w0 σ0 o0 w (sigF o p σ) o2 where
  size := hE.size
  blk := fun b hb hn => by
    obtain ⟨h1, h2⟩ := hE.blk b hb hn
    exact ⟨h1, fun ⟨i, c, hi⟩ => h2 ⟨i, c, (sigF_some hi).1⟩⟩
  len := by rw [hF.len]; exact hE.len
  cur := fun id tot ha => by
    obtain ⟨h1, h2⟩ := hE.cur id tot ha
    have hid : id < o0.length := by obtain ⟨cs, e, sz, pu, ho, _⟩ := ha; exact (List.getElem?_eq_some_iff.1 ho).1
    have hd : drF o p id = false := by simp [drF, hp id hid]
    have ht := hF.tr (σ := σ) hd
    refine ⟨ht.lenLe h1, fun sz hc => ?_⟩
    rw [ht.2.2]
    exact h2 sz (ht.cur h1 hc)
  isMap := fun id ha => by
    obtain ⟨h1, h2⟩ := hE.isMap id ha
    have hid : id < o0.length := by obtain ⟨es, kt, pu, ho⟩ := ha; exact (List.getElem?_eq_some_iff.1 ho).1
    have hd : drF o p id = false := by simp [drF, hp id hid]
    have ht := hF.tr (σ := σ) hd
    exact ⟨ht.2.1 h1, by rw [ht.2.2]; exact h2⟩
  os := hE.os
  tape := hE.tape
  output := hE.output
end

end Go.Vi

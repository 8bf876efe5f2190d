/-
  The symbolic run is sound: operations of numbers, rows of elements, maps.
  Conditions: none.
-/
import Derived.Test.YtigbjjkijfkeeaaSxA
namespace Go.Vi

theorem wrapI_in {k : IntKind} {n : Int} (h : inR k n) : wrapI k n = n := by
  cases k <;> simp only [inR, wrapI] at h ⊢
  · exact h
  · exact h
  · exact h
  · simp [h.1, h.2]
  · exact h
  · exact h
  · split <;> first | rfl | exact h
  · split <;> first | rfl | exact h

theorem if_false' {c : Prop} [Decidable c] {A : Prop} (h : if c then A else False) : c ∧ A := by
  split at h
  · exact ⟨‹_›, h⟩
  · exact h.elim

theorem min_bits {b : Int} {k : Nat} (h : b ≤ k) : min b.toNat k = b.toNat := by omega

theorem eq_dec (a b : Int) : (a == b) = decide (a = b) := rfl
theorem ne_dec (a b : Int) : (a != b) = decide (a ≠ b) := by
  rw [Bool.eq_iff_iff]
  simp

theorem go_sound {op : BinOp} {k k' : IntKind} {a b : Int} {K : SV → Prop} (h : binK.go op K k a k' b) : ∃ v v' : _, scBin op (.int k a) (.int k' b) = some v ∧ v'.g = .sc v ∧ K v' := by
  cases op <;> simp only [binK.go] at h
  case shl =>
    obtain ⟨h1, h2, h3, h4⟩ := h
    refine ⟨.int k (a * 2 ^ b.toNat), _, ?_, rfl, h4⟩
    simp only [scBin, if_neg (Int.not_lt.2 h1), min_bits h2, powI_eq, wrapI_in h3]
  case shr =>
    obtain ⟨h1, h2, h4⟩ := h
    refine ⟨.int k (a / 2 ^ b.toNat), _, ?_, rfl, h4⟩
    have : a.fdiv (2 ^ b.toNat) = a / 2 ^ b.toNat := Int.fdiv_eq_ediv_of_nonneg _ (by exact Int.le_of_lt (Int.pow_pos (by decide)))
    simp only [scBin, if_neg (Int.not_lt.2 h1), min_bits h2, powI_eq, this]
  case add =>
    obtain ⟨hk, hh⟩ := if_false' h
    subst hk
    exact ⟨.int k (a + b), _, by simp only [scBin, if_true, intBin, wrapI_in hh.1], rfl, hh.2⟩
  case sub =>
    obtain ⟨hk, hh⟩ := if_false' h
    subst hk
    exact ⟨.int k (a - b), _, by simp only [scBin, if_true, intBin, wrapI_in hh.1], rfl, hh.2⟩
  case mul =>
    obtain ⟨hk, hh⟩ := if_false' h
    subst hk
    exact ⟨.int k (a * b), _, by simp only [scBin, if_true, intBin, wrapI_in hh.1], rfl, hh.2⟩
  case quo =>
    obtain ⟨hk, hh⟩ := if_false' h
    subst hk
    exact ⟨.int k (a.tdiv b), _, by simp only [scBin, if_true, intBin, if_neg hh.1, wrapI_in hh.2.1], rfl, hh.2.2⟩
  case rem =>
    obtain ⟨hk, hh⟩ := if_false' h
    subst hk
    exact ⟨.int k (a.tmod b), _, by simp only [scBin, if_true, intBin, if_neg hh.1], rfl, hh.2⟩
  case and =>
    obtain ⟨hk, hh⟩ := if_false' h
    subst hk
    exact ⟨.int k (binK.andI k a b), _, by simp only [scBin, if_true, intBin, binK.andI], rfl, hh⟩
  case or =>
    obtain ⟨hk, hh⟩ := if_false' h
    subst hk
    exact ⟨.int k (binK.orI k a b), _, by simp only [scBin, if_true, intBin, binK.orI], rfl, hh⟩
  case xor =>
    obtain ⟨hk, hh⟩ := if_false' h
    subst hk
    exact ⟨.int k (binK.xorI k a b), _, by simp only [scBin, if_true, intBin, binK.xorI], rfl, hh⟩
  case andNot =>
    obtain ⟨hk, hh⟩ := if_false' h
    subst hk
    exact ⟨.int k (binK.andNotI k a b), _, by simp only [scBin, if_true, intBin, binK.andNotI], rfl, hh⟩
  case eql =>
    obtain ⟨hk, hh⟩ := if_false' h
    subst hk
    exact ⟨.bool (decide (a = b)), _, by simp only [scBin, if_true, intBin, Option.some.injEq, Value.bool.injEq]; exact eq_dec a b, rfl, hh⟩
  case neq =>
    obtain ⟨hk, hh⟩ := if_false' h
    subst hk
    exact ⟨.bool (decide (a ≠ b)), _, by simp only [scBin, if_true, intBin, Option.some.injEq, Value.bool.injEq]; exact ne_dec a b, rfl, hh⟩
  case lss =>
    obtain ⟨hk, hh⟩ := if_false' h
    subst hk
    exact ⟨.bool (decide (a < b)), _, by simp only [scBin, if_true, intBin], rfl, hh⟩
  case leq =>
    obtain ⟨hk, hh⟩ := if_false' h
    subst hk
    exact ⟨.bool (decide (a ≤ b)), _, by simp only [scBin, if_true, intBin], rfl, hh⟩
  case gtr =>
    obtain ⟨hk, hh⟩ := if_false' h
    subst hk
    exact ⟨.bool (decide (b < a)), _, by simp only [scBin, if_true, intBin], rfl, hh⟩
  case geq =>
    obtain ⟨hk, hh⟩ := if_false' h
    subst hk
    exact ⟨.bool (decide (b ≤ a)), _, by simp only [scBin, if_true, intBin], rfl, hh⟩

theorem binK_sound {op : BinOp} {x y : SV} {K : SV → Prop} (h : binK op x y K) : ∃ a b v v', x.g = .sc a ∧ y.g = .sc b ∧ scBin op a b = some v ∧ v'.g = .sc v ∧ K v' := by
  unfold binK at h
  split at h
  · split at h
    · rename_i hs; exact ⟨_, _, _, _, rfl, rfl, hs, rfl, h⟩
    · rename_i hs; exact ⟨_, _, _, _, rfl, rfl, hs, rfl, h⟩
    · exact h.elim
  · obtain ⟨v, v', h1, h2, h3⟩ := go_sound h
    exact ⟨_, _, v, v', rfl, rfl, h1, h2, h3⟩
  · obtain ⟨v, v', h1, h2, h3⟩ := go_sound h
    exact ⟨_, _, v, v', rfl, rfl, h1, h2, h3⟩
  · obtain ⟨v, v', h1, h2, h3⟩ := go_sound h
    exact ⟨_, _, v, v', rfl, rfl, h1, h2, h3⟩
  · split at h
    · exact ⟨_, _, _, _, rfl, rfl, by simp only [scBin], rfl, h⟩
    · exact ⟨_, _, _, _, rfl, rfl, by simp only [scBin], rfl, h⟩
    · exact h.elim
  · exact h.elim

/-! ### equality of cells -/

theorem seq1_int {k : IntKind} {a b : Int} : seq1 (.int k a) (.int k b) = some (decide (a = b)) := by
  simp only [seq1, if_true, Option.some.injEq]; rfl

theorem seq1S_sound {x y : SV} {r : Bool} (h : seq1S x y = some r) : ∃ a b, x.g = .sc a ∧ y.g = .sc b ∧ seq1 a b = some r := by
  cases x <;> simp only [seq1S, reduceCtorEq] at h
  all_goals
    obtain ⟨b, hb, rfl⟩ := Option.map_eq_some_iff.1 h
    first
      | exact ⟨_, _, rfl, int_g hb, seq1_int⟩
      | exact ⟨_, _, rfl, boo_g hb, by simp [seq1]⟩

theorem seqLS_sound : ∀ {x y : List SV} {r : Bool}, seqLS x y = some r → ∃ a b, gL x = a.map .sc ∧ gL y = b.map .sc ∧ seqL a b = some r
  | [], [], r, h => by simp [seqLS] at h; subst h; exact ⟨[], [], rfl, rfl, rfl⟩
  | [], _ :: _, r, h => by simp [seqLS] at h
  | _ :: _, [], r, h => by simp [seqLS] at h
  | x :: xs, y :: ys, r, h => by
    simp only [seqLS] at h
    split at h
    · rename_i a b h1 h2
      simp only [Option.some.injEq] at h; subst h
      obtain ⟨u, v, e1, e2, e3⟩ := seq1S_sound h1
      obtain ⟨us, vs, f1, f2, f3⟩ := seqLS_sound h2
      exact ⟨u :: us, v :: vs, by simp [gL, e1, f1], by simp [gL, e2, f2], by simp [seqL, e3, f3]⟩
    · cases h

theorem scs_map : ∀ (l : List Value), scs (l.map .sc) = some l
  | [] => rfl
  | v :: l => by simp [scs, scs_map l]

theorem map_sc_inj : ∀ {a b : List Value}, a.map AV.sc = b.map AV.sc → a = b
  | [], [], _ => rfl
  | [], _ :: _, h => by simp at h
  | _ :: _, [], h => by simp at h
  | x :: a, y :: b, h => by
    simp only [List.map_cons, List.cons.injEq, AV.sc.injEq] at h
    rw [h.1, map_sc_inj h.2]

theorem kOkS_sound : ∀ {ks : List Nat} {x : List SV} {a : List Value}, kOkS ks x = true → gL x = a.map .sc → kOk ks a = true
  | [], [], a, _, h => by
    cases a with
    | nil => rfl
    | cons a as => simp [gL] at h
  | [], _ :: _, a, h, _ => by simp [kOkS] at h
  | _ :: _, [], a, h, _ => by simp [kOkS] at h
  | k :: ks, x :: xs, a, h, hg => by
    cases a with
    | nil => simp [gL] at hg
    | cons a as =>
      simp only [gL, List.map_cons, List.cons.injEq] at hg
      obtain ⟨h1, h2⟩ := hg
      match k, x, h with
      | 0, .si k n, h => simp only [kOkS] at h; simp only [SV.g, AV.sc.injEq] at h1; subst h1; simpa [kOk] using kOkS_sound h h2
      | 0, .il k n, h => simp only [kOkS] at h; simp only [SV.g, AV.sc.injEq] at h1; subst h1; simpa [kOk] using kOkS_sound h h2
      | 1, .sb b, h => simp only [kOkS] at h; simp only [SV.g, AV.sc.injEq] at h1; subst h1; simpa [kOk] using kOkS_sound h h2
      | 1, .bl b, h => simp only [kOkS] at h; simp only [SV.g, AV.sc.injEq] at h1; subst h1; simpa [kOk] using kOkS_sound h h2

theorem feq_sound {ks : List Nat} {a b : List SV} {r : Bool} (hk : (kOkS ks a && kOkS ks b) = true) (h : seqLS a b = some r) : feq ks (gL a) (gL b) = some r := by
  obtain ⟨u, v, h1, h2, h3⟩ := seqLS_sound h
  simp only [Bool.and_eq_true] at hk
  rw [h1, h2]
  simp only [feq, scs_map, kOkS_sound hk.1 h1, kOkS_sound hk.2 h2, Bool.and_self, if_true, h3]

/-! ### rows -/

theorem castL_some {s s' : SId} {l : List s.T} {l' : List s'.T} (h : castL s s' l = some l') : s = s' ∧ HEq l l' := by
  unfold castL at h
  split at h
  · rename_i hs
    subst hs
    simp only [Option.some.injEq] at h
    exact ⟨rfl, heq_of_eq h⟩
  · cases h

theorem castL_flat {s s' : SId} {l : List s.T} {l' : List s'.T} (h : castL s s' l = some l') : s' = s ∧ flatA s' l' = flatA s l ∧ l'.length = l.length := by
  obtain ⟨rfl, h⟩ := castL_some h
  cases h
  exact ⟨rfl, rfl, rfl⟩

theorem fillS_g : ∀ {parts : List (Nat × Nat × SV)} {cs cs' : List SV}, fillS parts cs = some cs' → fillA (parts.map fun q => (q.1, q.2.1, q.2.2.g)) (gL cs) = some (gL cs')
  | [], cs, cs', h => by simp [fillS] at h; subst h; rfl
  | (off, n, v) :: r, cs, cs', h => by
    simp only [fillS] at h
    split at h
    · rename_i hh
      obtain ⟨h1, h2, h3⟩ := hh
      have := fillS_g h
      simp only [List.map_cons, fillA, cellsOf_g, gL_len, oneS_g]
      rw [if_pos ⟨h1, h2, h3⟩, ← writeS_g]
      exact this
    · cases h

theorem decL_g {s : SId} : ∀ {n : Nat} {cs : List SV} {l : List s.T}, decL s n cs = some l → gL cs = flatA s l ∧ l.length = n
  | 0, [], l, h => by simp [decL] at h; subst h; simp [gL, flatA]
  | 0, _ :: _, l, h => by simp [decL] at h
  | n + 1, cs, l, h => by
    simp only [decL] at h
    split at h
    · rename_i x l' h1 h2
      simp only [Option.some.injEq] at h; subst h
      obtain ⟨h3, h4⟩ := decL_g h2
      have h5 := decS_g h1
      refine ⟨?_, by simp [h4]⟩
      rw [gL_map] at h3 ⊢
      conv => lhs; rw [← List.take_append_drop s.sz cs]
      rw [List.map_append, h5, h3]
      simp [flatA]
    · cases h

theorem elemsK_sound {o : SStore} {s : SId} {x : SV} {K : List s.T → Prop} (h : elemsK o s x K) : ∃ l, elemsA (gO o) s.sz x.g = some (l.length, flatA s l) ∧ K l := by
  cases x with
  | row s' l =>
    simp only [elemsK] at h
    obtain ⟨l', h1, h2⟩ := optK_some h
    obtain ⟨rfl, h4, h5⟩ := castL_flat h1
    exact ⟨l', by simp only [SV.g, elemsA, flatA_len, if_true, h4, h5], h2⟩
  | ow id n sz =>
    simp only [elemsK] at h
    split at h
    · rename_i s' l e pu ho
      split at h
      · rename_i hsz
        subst hsz
        obtain ⟨rfl, h3⟩ := h
        obtain ⟨l', h1, h6⟩ := optK_some h3
        obtain ⟨rfl, h4, h5⟩ := castL_flat h1
        refine ⟨l', ?_, h6⟩
        have htk : List.take (l.length * s.sz) (flatA s l) = flatA s l := List.take_of_length_le (by rw [flatA_len]; omega)
        simp only [SV.g, elemsA, getI ho, SObj.g, flatA_len, Nat.zero_add, Nat.le_refl, and_self, if_true, List.drop_zero, htk, h4, h5]
      · exact h.elim
    · exact h.elim
  | os id off len n sz =>
    simp only [elemsK] at h
    split at h
    · rename_i s' l e pu ho
      split at h
      · rename_i hsz
        subst hsz
        obtain ⟨rfl, hle, h3⟩ := h
        obtain ⟨l', h1, h6⟩ := optK_some h3
        obtain ⟨rfl, h4, h5⟩ := castL_flat h1
        refine ⟨l', ?_, h6⟩
        have hm : (off + len) * s.sz ≤ l.length * s.sz := Nat.mul_le_mul_right _ hle
        rw [Nat.add_mul] at hm
        have hll : ((l.drop off).take len).length = len := by simp; omega
        simp only [SV.g, elemsA, getI ho, SObj.g, flatA_len, hm, and_self, if_true, flatA_sub, h4, h5, hll]
      · exact h.elim
    · exact h.elim
  | sc v =>
    cases v <;> simp only [elemsK] at h
    rename_i q a b
    cases q <;> try exact h.elim
    cases a <;> try exact h.elim
    cases b <;> try exact h.elim
    exact ⟨[], by simp [SV.g, elemsA, flatA], h⟩
  | _ => simp only [elemsK] at h

theorem intS_g {v : SV} {n : Int} (h : intS v = some n) : intA v.g = some n := by
  cases v <;> simp [intS] at h <;> simp [SV.g, intA, h]

theorem boundK_sound {d : Nat} {x : Option SV} {K : Nat → Prop} (h : boundK d x K) : ∃ n, boundA d (x.map SV.g) = some n ∧ K n := by
  unfold boundK at h
  split at h
  · exact ⟨_, rfl, h⟩
  · split at h
    · rename_i hn; exact ⟨_, by simp [SV.g, boundA, hn], h⟩
    · exact h.elim
  · exact ⟨_, by simp [SV.g, boundA, h.1], h.2⟩
  · exact h.elim

theorem mkK_sound {nid : Nat} {x : SObj} {o : SStore} {K : SStore → Prop} (h : mkK nid x o K) : ∃ o', mkO nid x.g (gO o) = some (gO o') ∧ K o' := by
  unfold mkK at h
  split at h
  · rename_i ho
    exact ⟨_, by simp [mkO, getI ho, SObj.g, gO_set], h⟩
  · exact h.elim

/-! ### maps -/

theorem encV_eq {s : SId} (hk : s.keyed = true) (x y : s.T) : seqL (encV s x) (encV s y) = some (decide (x = y)) := by
  cases s <;> simp only [SId.keyed, reduceCtorEq] at hk
  · simp only [encV, seqL, seq1_int, Bool.and_true]
  · obtain ⟨b, ⟨a0, a1, a2, a3, a4, a5⟩⟩ := x
    obtain ⟨b', ⟨c0, c1, c2, c3, c4, c5⟩⟩ := y
    simp only [encV, iv, seqL, seq1_int, Option.some.injEq, Bool.and_true]
    rw [Bool.eq_iff_iff]
    simp [BKey.mk.injEq, Bun.mk.injEq]
  · obtain ⟨b, ⟨a0, a1, a2, a3, a4, a5⟩, ⟨d0, d1, d2, d3, d4, d5⟩⟩ := x
    obtain ⟨b', ⟨c0, c1, c2, c3, c4, c5⟩, ⟨e0, e1, e2, e3, e4, e5⟩⟩ := y
    simp only [encV, iv, seqL, seq1_int, Option.some.injEq, Bool.and_true]
    rw [Bool.eq_iff_iff]
    simp only [Bool.and_eq_true, decide_eq_true_eq, Sit.mk.injEq, Bun.mk.injEq]
    constructor <;> intro h <;> simp_all

theorem keq_keyV {s : SId} {ka : Bool} (hk : s.keyed = true) (h1 : ka = false → s.sz = 1) (x y : s.T) : keq (keyV s ka x) (keyV s ka y) = some (decide (x = y)) := by
  cases ka with
  | true => simp [keyV, keq, encV_eq hk]
  | false =>
    have h2 := h1 rfl
    cases s <;> simp only [SId.keyed, reduceCtorEq] at hk <;> simp only [SId.sz, reduceCtorEq, Nat.reduceEqDiff] at h2
    simp only [keyV, encV, List.headD_cons]
    simp only [keq, Bool.false_eq_true, if_false, seq1_int]

theorem findM_sound {sk sv : SId} {ka : Bool} (hk : sk.keyed = true) (h1 : ka = false → sk.sz = 1) (x : sk.T) : ∀ (es : List (sk.T × sv.T)) (i : Nat),
    ∃ r, findM (keyV sk ka x) (es.map fun p => (keyV sk ka p.1, valA sv p.2)) i = some r ∧ (match findT sk sv x es with | some v => ∃ j, r = some (i + j, valA sv v) ∧ (∃ p, es[j]? = some p ∧ p.1 = x) ∧ (∀ j' < j, ∀ p, es[j']? = some p → p.1 ≠ x) | none => r = none ∧ ∀ p ∈ es, p.1 ≠ x)
  | [], i => ⟨none, by simp [findM], by simp [findT]⟩
  | p :: es, i => by
    simp only [List.map_cons, findM, keq_keyV hk h1]
    by_cases hp : p.1 = x
    · refine ⟨some (i, valA sv p.2), by simp [hp], ?_⟩
      simp only [findT, List.find?_cons, hp, decide_true, Option.map_some]
      exact ⟨0, by simp, ⟨p, by simp, hp⟩, by simp⟩
    · obtain ⟨r, hr, hm⟩ := findM_sound hk h1 x es (i + 1)
      have hp' : ¬ x = p.1 := fun h => hp h.symm
      refine ⟨r, by simp [hp', hr], ?_⟩
      have hf : findT sk sv x (p :: es) = findT sk sv x es := by simp [findT, List.find?_cons, hp]
      rw [hf]
      split at hm
      · obtain ⟨j, h2, ⟨q, h3, h4⟩, h5⟩ := hm
        refine ⟨j + 1, by rw [h2]; congr 2; omega, ⟨q, by simpa using h3, h4⟩, fun j' hj q' hq => ?_⟩
        cases j' with
        | zero => simp at hq; subst hq; exact hp
        | succ j' => exact h5 j' (by omega) q' (by simpa using hq)
      · refine ⟨hm.1, fun q hq => ?_⟩
        rcases List.mem_cons.1 hq with rfl | hq
        · exact hp
        · exact hm.2 q hq

theorem setT_none {sk sv : SId} {x : sk.T} {v : sv.T} : ∀ {es : List (sk.T × sv.T)}, (∀ p ∈ es, p.1 ≠ x) → setT sk sv x v es = es ++ [(x, v)]
  | [], _ => rfl
  | p :: es, h => by
    simp only [setT, if_neg (h p (by simp)), List.cons_append]
    rw [setT_none fun q hq => h q (by simp [hq])]

theorem setT_some {sk sv : SId} {x : sk.T} {v : sv.T} : ∀ {es : List (sk.T × sv.T)} {j : Nat}, (∃ p, es[j]? = some p ∧ p.1 = x) → (∀ j' < j, ∀ p, es[j']? = some p → p.1 ≠ x) → setT sk sv x v es = es.modify j fun _ => (x, v)
  | [], j, ⟨p, h, _⟩, _ => by simp at h
  | p :: es, 0, ⟨q, h, hq⟩, _ => by
    simp at h; subst h
    simp [setT, hq, List.modify]
  | p :: es, j + 1, ⟨q, h, hq⟩, h2 => by
    have hp := h2 0 (by omega) p (by simp)
    simp only [setT, if_neg hp, List.modify_succ_cons]
    rw [setT_some (j := j) ⟨q, by simpa using h, hq⟩ fun j' hj q' hq' => h2 (j' + 1) (by omega) q' (by simpa using hq')]

theorem keyA_sound {ks : List Nat} {ka : Bool} {s : SId} {v : SV} {x : s.T} (hko : kOkS ks v.cellsOf = true) (hag : aggIs ka v = true) (hd : decS s v.cellsOf = some x) : keyA ks ka v.g = some (keyV s ka x) := by
  have hd2 := decS_g hd
  have hg : gL v.cellsOf = (encV s x).map .sc := by rw [gL_map, hd2]; rfl
  have hk := kOkS_sound hko hg
  by_cases hv : ∃ cs, v = .agg cs
  · obtain ⟨cs, rfl⟩ := hv
    simp only [SV.cellsOf] at hg hk
    simp only [aggIs] at hag
    subst hag
    simp only [SV.g, keyA, hg, scs_map, hk, Bool.and_self, if_true, keyV]
  · have hag2 : ka = false := by
      cases v <;> simp [aggIs] at hag <;> first | exact hag | exact absurd ⟨_, rfl⟩ hv
    subst hag2
    have hc : v.cellsOf = [v] := by
      cases v <;> first | rfl | exact absurd ⟨_, rfl⟩ hv
    rw [hc] at hg
    simp only [gL] at hg
    cases hx : encV s x with
    | nil => rw [hx] at hg; simp at hg
    | cons a r =>
      rw [hx] at hg hk
      simp only [List.map_cons, List.cons.injEq] at hg
      cases r with
      | cons => simp at hg
      | nil => rw [hg.1]; simp [keyA, hk, keyV, hx]

theorem valA_head {s : SId} (h : s.sz = 1) (x : s.T) : ((encS s x).headD .ud).g = valA s x := by
  cases s <;> simp [SId.sz] at h <;> simp [encS, valA, encV, SV.g]

theorem valA_enc {s : SId} (h : s.sz = 1) (x : s.T) : encA s x = [valA s x] := by
  cases s <;> simp [SId.sz] at h <;> simp [encA, valA, encV]

end Go.Vi

/-
  The abstract interpreter: '==' of aggregates of scalars, maps.
  Conditions: none.
-/
import Derived.Test.YtigbjjkijfkeeaaViEffF
import Derived.Laws.StructEq
import Derived.ChangeKeysEq
namespace Go.Vi

section
variable {P : Program} {A : Nat → Prop} {w w' : World} {σ σ' : Sig} {o o' : Store} {ρA : Operand → AV} {ρC : Operand → Value} {oper : Oper} {v : AV}

/-- Cells as the value of a type. -/
def wrapV (P : Program) (t : TypeId) (l : List Value) : Value :=
  match isAggT P t with
  | some true => .agg l.toArray
  | _ => l.headD undef

theorem kOk_length : ∀ {ks : List Nat} {vs : List Value}, kOk ks vs = true → vs.length = ks.length
  | [], [], _ => rfl
  | [], _ :: _, h => by simp [kOk] at h
  | k :: ks, [], h => by match k with
    | 0 | 1 | 2 | _ + 3 => simp [kOk] at h
  | 0 :: ks, v :: vs, h => by cases v <;> simp only [kOk, Bool.false_eq_true] at h <;> simp [kOk_length h]
  | 1 :: ks, v :: vs, h => by cases v <;> simp only [kOk, Bool.false_eq_true] at h <;> simp [kOk_length h]
  | 2 :: ks, v :: vs, h => by cases v <;> simp only [kOk, Bool.false_eq_true] at h <;> simp [kOk_length h]
  | (k + 3) :: ks, v :: vs, h => by simp [kOk] at h

theorem kOk_append : ∀ {ks ls : List Nat} {vs : List Value}, kOk (ks ++ ls) vs = true → kOk ks (vs.take ks.length) = true ∧ kOk ls (vs.drop ks.length) = true
  | [], ls, vs, h => by simpa [kOk] using h
  | k :: ks, ls, [], h => by match k with
    | 0 | 1 | 2 | _ + 3 => simp [kOk] at h
  | 0 :: ks, ls, v :: vs, h => by cases v <;> simp only [List.cons_append, kOk, Bool.false_eq_true] at h <;> simpa [kOk] using kOk_append h
  | 1 :: ks, ls, v :: vs, h => by cases v <;> simp only [List.cons_append, kOk, Bool.false_eq_true] at h <;> simpa [kOk] using kOk_append h
  | 2 :: ks, ls, v :: vs, h => by cases v <;> simp only [List.cons_append, kOk, Bool.false_eq_true] at h <;> simpa [kOk] using kOk_append h
  | (k + 3) :: ks, ls, v :: vs, h => by simp [kOk] at h

theorem seqL_split : ∀ (n : Nat) {xs ys : List Value} {r : Bool}, seqL xs ys = some r →
    ∃ a b, seqL (xs.take n) (ys.take n) = some a ∧ seqL (xs.drop n) (ys.drop n) = some b ∧ r = (a && b)
  | 0, xs, ys, r, h => ⟨true, r, by simp [seqL], by simpa using h, by simp⟩
  | n + 1, [], [], r, h => by simp only [seqL, Option.some.injEq] at h; exact ⟨true, true, by simp [seqL], by simp [seqL], by simp [← h]⟩
  | n + 1, [], _ :: _, r, h => by simp [seqL] at h
  | n + 1, _ :: _, [], r, h => by simp [seqL] at h
  | n + 1, x :: xs, y :: ys, r, h => by
    simp only [seqL] at h
    split at h
    · rename_i a b ha hb
      injection h with h
      obtain ⟨c, d, h1, h2, h3⟩ := seqL_split n hb
      exact ⟨a && c, d, by simp [seqL, ha, h1], by simpa using h2, by rw [← h, h3, Bool.and_assoc]⟩
    · cases h

theorem kindsT_inv {m : Nat} {t : TypeId} {ks : List Nat} (h : kindsT P (m + 1) t = some ks) :
    (P.underlying t = some .bool ∧ sizeT P t = some 1 ∧ ks = [1]) ∨ (∃ k, P.underlying t = some (.int k) ∧ sizeT P t = some 1 ∧ ks = [0]) ∨ (P.underlying t = some .string ∧ sizeT P t = some 1 ∧ ks = [2]) ∨
    (∃ fs, P.underlying t = some (.struct fs) ∧ P.stoodInHeld t = false ∧ kindsFs (kindsT P m) 0 fs.toList = some ks ∧ sizeT P t = some ks.length) ∨
    ∃ k e ks', P.underlying t = some (.array k e) ∧ kindsT P m e = some ks' ∧ ks = (List.replicate k ks').flatten ∧ sizeT P t = some (k * ks'.length) := by
  simp only [kindsT] at h
  split at h
  · rename_i k hu hs; injection h with h; exact .inr (.inl ⟨k, hu, hs, h.symm⟩)
  · rename_i hu hs; injection h with h; exact .inl ⟨hu, hs, h.symm⟩
  · rename_i hu hs; injection h with h; exact .inr (.inr (.inl ⟨hu, hs, h.symm⟩))
  · rename_i fs n hu hs
    split at h
    · cases h
    · rename_i hst
      split at h
      · rename_i ks' hk
        split at h
        · rename_i hn
          injection h with h; subst h
          exact .inr (.inr (.inr (.inl ⟨fs, hu, by simpa using hst, hk, by rw [hn]; exact hs⟩)))
        · cases h
      · cases h
  · rename_i k e n hu hs
    split at h
    · rename_i ks' hk
      split at h
      · rename_i hn
        injection h with h; subst h
        exact .inr (.inr (.inr (.inr ⟨k, e, ks', hu, hk, rfl, by rw [← hn]; exact hs⟩)))
      · cases h
    · cases h
  · cases h

theorem kindsT_size {m : Nat} {t : TypeId} {ks : List Nat} (h : kindsT P m t = some ks) : sizeT P t = some ks.length ∧ (∃ b, isAggT P t = some b) := by
  cases m with
  | zero => simp [kindsT] at h
  | succ m =>
    rcases kindsT_inv h with ⟨hu, hs, rfl⟩ | ⟨k, hu, hs, rfl⟩ | ⟨hu, hs, rfl⟩ | ⟨fs, hu, _, _, hs⟩ | ⟨k, e, ks', hu, _, rfl, hs⟩
    · exact ⟨hs, false, by simp [isAggT, hu]⟩
    · exact ⟨hs, false, by simp [isAggT, hu]⟩
    · exact ⟨hs, false, by simp [isAggT, hu]⟩
    · exact ⟨hs, true, by simp [isAggT, hu]⟩
    · exact ⟨by rw [hs]; simp, true, by simp [isAggT, hu]⟩

/-- A part of flat cells. -/
theorem run_part_flat {t : TypeId} {ks : List Nat} (hs : sizeT P t = some ks.length) (ha : ∃ b, isAggT P t = some b) (hlen1 : isAggT P t = some false → ks.length = 1) (xs : Array Value) (off : Nat) (hle : off + ks.length ≤ xs.size) (w : World) :
    (part t xs off).run P w = .ok (wrapV P t ((xs.toList.drop off).take ks.length)) w := by
  obtain ⟨b, hb⟩ := ha
  cases b with
  | true =>
    simp only [part, Sem.run_bind, run_isAgg' hb, Result.andThen_ok, if_true, run_sizeOf' hs, Sem.run_pure, wrapV, hb]
    congr 2
    apply Array.ext'
    simp [List.extract_eq_take_drop]
  | false =>
    have h1 := hlen1 hb
    have hlt : off < xs.size := by omega
    simp only [part, Sem.run_bind, run_isAgg' hb, Result.andThen_ok, Bool.false_eq_true, if_false, wrapV, hb, h1]
    rw [Array.getElem?_eq_getElem hlt]
    have h2 : xs.toList.drop off = xs[off] :: xs.toList.drop (off + 1) := by
      rw [List.drop_eq_getElem_cons (by simpa using hlt)]
      simp
    rw [h2]
    simp

theorem kindsT_one {m : Nat} {t : TypeId} {ks : List Nat} (h : kindsT P m t = some ks) (hb : isAggT P t = some false) : ks.length = 1 := by
  cases m with
  | zero => simp [kindsT] at h
  | succ m =>
    rcases kindsT_inv h with ⟨hu, hs, rfl⟩ | ⟨k, hu, hs, rfl⟩ | ⟨hu, hs, rfl⟩ | ⟨fs, hu, _, _, hs⟩ | ⟨k, e, ks', hu, _, rfl, hs⟩
    · rfl
    · rfl
    · rfl
    · simp [isAggT, hu] at hb
    · simp [isAggT, hu] at hb

theorem run_eq_flat (d : Nat) : ∀ (m : Nat) (t : TypeId) (ks : List Nat), kindsT P m t = some ks → ∀ (xs ys : List Value) (r : Bool), kOk ks xs = true → kOk ks ys = true → seqL xs ys = some r → ∀ w : World,
    (Op.equalIn (d + m) t (wrapV P t xs) (wrapV P t ys)).run P w = .ok r w
  | 0, t, ks, hk, _, _, _, _, _, _, _ => by simp [kindsT] at hk
  | m + 1, t, ks, hk, xs, ys, r, hx, hy, hr, w => by
    rw [show d + (m + 1) = (d + m) + 1 from rfl]
    rcases kindsT_inv hk with ⟨hu, hs, rfl⟩ | ⟨k, hu, hs, rfl⟩ | ⟨hu, hs, rfl⟩ | ⟨fs, hu, hst, hk', hs⟩ | ⟨k, e, ks', hu, hk', rfl, hs⟩
    · match xs, ys, hx, hy with
      | [.bool a], [.bool b], _, _ =>
        simp [seqL, seq1] at hr
        subst hr
        simp [wrapV, isAggT, hu, Op.equalIn, run_underlying hu]
    · match xs, ys, hx, hy with
      | [.int k1 a], [.int k2 b], _, _ =>
        simp only [seqL, seq1] at hr
        by_cases he : k1 = k2
        · subst he
          simp at hr
          subst hr
          simp [wrapV, isAggT, hu, Op.equalIn, run_underlying hu]
        · simp [he] at hr
    · match xs, ys, hx, hy with
      | [.string a], [.string b], _, _ =>
        simp [seqL, seq1] at hr
        subst hr
        simp [wrapV, isAggT, hu, Op.equalIn, run_underlying hu, beq_toListBytes]
    · have hag : isAggT P t = some true := by simp [isAggT, hu]
      simp only [wrapV, hag]
      have hfs : P.fieldsOf t = fs := by simp [Program.fieldsOf, hu]
      rw [run_equalIn_struct w (d + m) t xs.toArray ys.toArray (by rw [hfs]; exact hu) hst, hfs]
      have hlx := kOk_length hx
      have hly := kOk_length hy
      have key : ∀ (fl : List Field) (off : Nat) (ks2 : List Nat), kindsFs (kindsT P m) off fl = some ks2 → off + ks2.length = ks.length → ∀ r, kOk ks2 (xs.drop off) = true → kOk ks2 (ys.drop off) = true →
          seqL (xs.drop off) (ys.drop off) = some r → (Op.eqFields (d + m) xs.toArray ys.toArray fl).run P w = .ok r w := by
        intro fl
        induction fl with
        | nil =>
          intro off ks2 h0 hl r h1 h2 h3
          simp only [kindsFs, Option.some.injEq] at h0
          subst h0
          have e1 := kOk_length h1
          have e2 := kOk_length h2
          have g1 : xs.drop off = [] := List.eq_nil_of_length_eq_zero (by simpa using e1)
          have g2 : ys.drop off = [] := List.eq_nil_of_length_eq_zero (by simpa using e2)
          rw [g1, g2] at h3
          simp [seqL] at h3
          simp [Op.eqFields, h3]
        | cons f fl ih =>
          intro off ks2 h0 hl r h1 h2 h3
          simp only [kindsFs] at h0
          split at h0
          · cases h0
          · rename_i hnm
            split at h0
            · rename_i a2 ha2
              split at h0
              · rename_i r2 hr2
                injection h0 with h0; subst h0
                obtain ⟨hse, hae⟩ := kindsT_size ha2
                obtain ⟨h1a, h1b⟩ := kOk_append h1
                obtain ⟨h2a, h2b⟩ := kOk_append h2
                obtain ⟨a, b, h4, h5, h6⟩ := seqL_split a2.length h3
                rw [List.drop_drop] at h1b h2b h5
                rw [List.drop_drop] at h5
                have hnm' : f.name ≠ "_" ∧ f.offset = off := by
                  simp only [not_or, Decidable.not_not] at hnm; exact hnm
                rw [List.length_append] at hl
                have p1 := run_part_flat hse hae (fun hb => kindsT_one ha2 hb) xs.toArray f.offset (by rw [hnm'.2]; simp; omega) w
                have p2 := run_part_flat hse hae (fun hb => kindsT_one ha2 hb) ys.toArray f.offset (by rw [hnm'.2]; simp; omega) w
                rw [hnm'.2] at p1 p2
                have p3 := run_eq_flat d m f.type a2 ha2 _ _ a h1a h2a h4 w
                have p4 := ih (off + a2.length) r2 hr2 (by omega) b h1b h2b h5
                simp only [Op.eqFields, hnm'.1, ne_eq, not_false_eq_true, if_true, hnm'.2, Sem.run_bind, p1, p2, Result.andThen_ok, p3]
                cases a
                · simp [h6]
                · simp [h6, p4]
              · cases h0
            · cases h0
      exact key fs.toList 0 ks hk' (by omega) r (by simpa using hx) (by simpa using hy) (by simpa using hr)
    · obtain ⟨hse, hae⟩ := kindsT_size hk'
      obtain ⟨i, hi⟩ : ∃ i, P.info? e = some i := by
        cases hi : P.info? e with
        | none => simp [sizeT, hi] at hse
        | some i => exact ⟨i, rfl⟩
      have hce : P.cellsOf e = ks'.length := by
        unfold sizeT at hse
        simp [Program.cellsOf, hse]
      have hag : isAggT P t = some true := by simp [isAggT, hu]
      simp only [wrapV, hag]
      rw [run_equalIn_array w (d + m) xs.toArray ys.toArray hu hi, hce]
      have hlx := kOk_length hx
      have hly := kOk_length hy
      have hfl : ((List.replicate k ks').flatten).length = k * ks'.length := by simp
      rw [hfl] at hlx hly
      have key : ∀ (q j : Nat), j + q = k → ∀ r, kOk ((List.replicate q ks').flatten) (xs.drop (j * ks'.length)) = true → kOk ((List.replicate q ks').flatten) (ys.drop (j * ks'.length)) = true →
          seqL (xs.drop (j * ks'.length)) (ys.drop (j * ks'.length)) = some r → (Op.eqItems (d + m) e ks'.length xs.toArray ys.toArray (List.range' j q)).run P w = .ok r w := by
        intro q
        induction q with
        | zero =>
          intro j hj r h1 h2 h3
          have e1 := kOk_length h1
          have e2 := kOk_length h2
          simp only [List.replicate_zero, List.flatten_nil, List.length_nil] at e1 e2
          have g1 : xs.drop (j * ks'.length) = [] := List.eq_nil_of_length_eq_zero e1
          have g2 : ys.drop (j * ks'.length) = [] := List.eq_nil_of_length_eq_zero e2
          rw [g1, g2] at h3
          simp [seqL] at h3
          simp [Op.eqItems, h3]
        | succ q ih =>
          intro j hj r h1 h2 h3
          rw [List.replicate_succ, List.flatten_cons] at h1 h2
          obtain ⟨h1a, h1b⟩ := kOk_append h1
          obtain ⟨h2a, h2b⟩ := kOk_append h2
          obtain ⟨a, b, h4, h5, h6⟩ := seqL_split ks'.length h3
          rw [List.drop_drop] at h1b h2b h5
          rw [List.drop_drop] at h5
          have hj1 : j * ks'.length + ks'.length = (j + 1) * ks'.length := by rw [Nat.add_mul]; omega
          rw [hj1] at h1b h2b h5
          have hle : j * ks'.length + ks'.length ≤ k * ks'.length := by rw [hj1]; exact Nat.mul_le_mul_right _ (by omega)
          have p1 := run_part_flat hse hae (fun hb => kindsT_one hk' hb) xs.toArray (j * ks'.length) (by simp; omega) w
          have p2 := run_part_flat hse hae (fun hb => kindsT_one hk' hb) ys.toArray (j * ks'.length) (by simp; omega) w
          have p3 := run_eq_flat d m e ks' hk' _ _ a h1a h2a h4 w
          have p4 := ih (j + 1) (by omega) b h1b h2b h5
          rw [List.range'_succ]
          simp only [Op.eqItems, Sem.run_bind, p1, p2, Result.andThen_ok, p3]
          cases a
          · simp [h6]
          · simp [h6, p4]
      have := key k 0 (by omega) r (by simpa using hx) (by simpa using hy) (by simpa using hr)
      rw [List.range_eq_range']
      exact this
end

end Go.Vi

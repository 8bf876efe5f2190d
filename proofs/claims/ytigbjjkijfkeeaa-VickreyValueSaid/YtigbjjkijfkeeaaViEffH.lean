/-
  The abstract interpreter: '==' of aggregates as an operation; maps.
  Conditions: none.
-/
import Derived.Test.YtigbjjkijfkeeaaViEffG
namespace Go.Vi

section
variable {P : Program} {A : Nat → Prop} {w w' : World} {σ σ' : Sig} {o o' : Store} {ρA : Operand → AV} {ρC : Operand → Value} {oper : Oper} {v : AV}

theorem eqGuardType_flat : ∀ (m : Nat) (t : TypeId) (ks : List Nat), kindsT P m t = some ks → ∀ D, m ≤ D → P.eqGuardType D t = false
  | 0, _, _, h, _, _ => by simp [kindsT] at h
  | m + 1, t, ks, h, 0, hD => by omega
  | m + 1, t, ks, h, D + 1, hD => by
    rcases kindsT_inv h with ⟨hu, hs, rfl⟩ | ⟨k, hu, hs, rfl⟩ | ⟨hu, hs, rfl⟩ | ⟨fs, hu, hst, hk', hs⟩ | ⟨k, e, ks', hu, hk', rfl, hs⟩
    · simp [Program.eqGuardType, hu]
    · simp [Program.eqGuardType, hu]
    · simp [Program.eqGuardType, hu]
    · simp only [Program.eqGuardType, hu]
      rw [← Bool.not_eq_true, Array.any_eq_true']
      rintro ⟨f, hf, hp⟩
      have key : ∀ (fl : List Field) (off : Nat) (ks2 : List Nat), kindsFs (kindsT P m) off fl = some ks2 → ∀ f ∈ fl, ∃ ks3, kindsT P m f.type = some ks3 := by
        intro fl
        induction fl with
        | nil => intro off ks2 _ f hf; simp at hf
        | cons g fl ih =>
          intro off ks2 h0 f hf
          simp only [kindsFs] at h0
          split at h0
          · cases h0
          · split at h0
            · rename_i a2 ha2
              split at h0
              · rename_i r2 hr2
                rcases List.mem_cons.1 hf with rfl | hf
                · exact ⟨a2, ha2⟩
                · exact ih _ _ hr2 f hf
              · cases h0
            · cases h0
      obtain ⟨ks3, hk3⟩ := key _ _ _ hk' f (by simpa using hf)
      rw [eqGuardType_flat m f.type ks3 hk3 D (by omega)] at hp
      simp at hp
    · simp only [Program.eqGuardType, hu]
      exact eqGuardType_flat m e ks' hk' D (by omega)

theorem scs_rep : ∀ {cs : List AV} {vs us : List Value}, scs cs = some vs → RepL A w σ o cs us → us = vs
  | [], vs, us, h, hr => by simp only [scs, Option.some.injEq] at h; simp only [RepL] at hr; rw [hr, h]
  | c :: cs, vs, us, h, hr => by
    cases c <;> simp only [scs, reduceCtorEq, Option.map_eq_some_iff] at h
    obtain ⟨r, h1, rfl⟩ := h
    simp only [RepL] at hr
    obtain ⟨u, us', rfl, hu, hl⟩ := hr
    rw [rep_sc hu, scs_rep h1 hl]

theorem g_eqf (hS : SimO A w σ o) (hρ : ∀ x, Rep A w σ o (ρA x) (ρC x)) {op : BinOp} {neg : Bool} {t t' : TypeId} {ks : List Nat} {x y : Operand} (hop : oper.op = .binOp op t x y t') (hn : (op = .eql ∧ neg = false) ∨ (op = .neq ∧ neg = true))
    (hag : isAggT P t = some true) (hk : kindsT P 20 t = some ks) (hD : 20 ≤ P.depth) {a b : List AV} {r : Bool} (ha : ρA x = .agg a) (hb : ρA y = .agg b) (hf : feq ks a b = some r) :
    Gives A P ρC oper w σ o (.sc (.bool (if neg then !r else r))) o := by
  have h1 := hρ x
  have h2 := hρ y
  rw [ha] at h1
  rw [hb] at h2
  simp only [Rep] at h1 h2
  obtain ⟨xs, hx, hxl⟩ := h1
  obtain ⟨ys, hy, hyl⟩ := h2
  unfold feq at hf
  split at hf
  · rename_i va vb hsa hsb
    split at hf
    · rename_i hko
      simp only [Bool.and_eq_true] at hko
      have e1 := scs_rep hsa hxl
      have e2 := scs_rep hsb hyl
      have hrun := run_eq_flat (P := P) 9980 20 t ks hk va vb r hko.1 hko.2 hf w
      simp only [wrapV, hag] at hrun
      have e3 : va.toArray = xs := by rw [← e1]
      have e4 : vb.toArray = ys := by rw [← e2]
      rw [e3, e4] at hrun
      refine Gives.same hS (u := .bool (if neg then !r else r)) ?_ (by simp [Rep, Value.oneCell'])
      have hg := eqGuardType_flat 20 t ks hk P.depth hD
      simp only [execOp, hop, hx, hy]
      rcases hn with ⟨rfl, rfl⟩ | ⟨rfl, rfl⟩ <;> simp [eqGuard, hg, binOp, Op.equal, Op.maxDepth, hrun]
    · cases hf
  · cases hf

/-! ### keys -/

theorem run_checkKey_flat (em : Bool) (d : Nat) : ∀ (m : Nat) (t : TypeId) (ks : List Nat), kindsT P m t = some ks → ∀ (xs : List Value), kOk ks xs = true → ∀ w : World, (Instr.checkKey em (d + m) t (wrapV P t xs)).run P w = .ok () w
  | 0, t, ks, hk, _, _, _ => by simp [kindsT] at hk
  | m + 1, t, ks, hk, xs, hx, w => by
    rw [show d + (m + 1) = (d + m) + 1 from rfl]
    rcases kindsT_inv hk with ⟨hu, hs, rfl⟩ | ⟨k, hu, hs, rfl⟩ | ⟨hu, hs, rfl⟩ | ⟨fs, hu, hst, hk', hs⟩ | ⟨k, e, ks', hu, hk', rfl, hs⟩
    · match xs, hx with
      | [.bool a], _ => simp [wrapV, isAggT, hu, Instr.checkKey, run_underlying hu]
    · match xs, hx with
      | [.int k a], _ => simp [wrapV, isAggT, hu, Instr.checkKey, run_underlying hu]
    · match xs, hx with
      | [.string a], _ => simp [wrapV, isAggT, hu, Instr.checkKey, run_underlying hu]
    · have hag : isAggT P t = some true := by simp [isAggT, hu]
      simp only [wrapV, hag, Instr.checkKey, Sem.run_bind, run_underlying hu, Result.andThen_ok]
      have hlx := kOk_length hx
      have key : ∀ (fl : List Field) (off : Nat) (ks2 : List Nat), kindsFs (kindsT P m) off fl = some ks2 → off + ks2.length = ks.length → kOk ks2 (xs.drop off) = true →
          (forIn fl PUnit.unit fun (f : Field) (_ : PUnit) => (do
            if f.name ≠ "_" then
              Instr.checkKey em (d + m) f.type (← part f.type xs.toArray f.offset)
            pure (ForInStep.yield PUnit.unit) : Sem (ForInStep PUnit))).run P w = .ok PUnit.unit w := by
        intro fl
        induction fl with
        | nil => intro off ks2 _ _ _; simp
        | cons f fl ih =>
          intro off ks2 h0 hl h1
          simp only [kindsFs] at h0
          split at h0
          · cases h0
          · rename_i hnm
            split at h0
            · rename_i a2 ha2
              split at h0
              · rename_i r2 hr2
                injection h0 with h0; subst h0
                obtain ⟨hse, hae⟩ := kindsT_size ha2
                obtain ⟨h1a, h1b⟩ := kOk_append h1
                rw [List.drop_drop] at h1b
                have hnm' : f.name ≠ "_" ∧ f.offset = off := by
                  simp only [not_or, Decidable.not_not] at hnm; exact hnm
                rw [List.length_append] at hl
                have p1 := run_part_flat hse hae (fun hb => kindsT_one ha2 hb) xs.toArray f.offset (by rw [hnm'.2]; simp; omega) w
                rw [hnm'.2] at p1
                have p3 := run_checkKey_flat em d m f.type a2 ha2 _ h1a w
                have p4 := ih (off + a2.length) r2 hr2 (by omega) h1b
                simp only [List.forIn_cons, Sem.run_bind, hnm'.1, ne_eq, not_false_eq_true, if_true, hnm'.2, p1, Result.andThen_ok, p3, Sem.run_pure]
                exact p4
              · cases h0
            · cases h0
      have := key fs.toList 0 ks hk' (by omega) (by simpa using hx)
      rw [← Array.forIn_toList]
      simp only [this, Result.andThen_ok, Sem.run_pure]
    · obtain ⟨hse, hae⟩ := kindsT_size hk'
      have hag : isAggT P t = some true := by simp [isAggT, hu]
      simp only [wrapV, hag, Instr.checkKey, Sem.run_bind, run_underlying hu, Result.andThen_ok]
      simp only [Std.Legacy.Range.forIn_eq_forIn_range', Std.Legacy.Range.size, Nat.sub_zero, Nat.add_one_sub_one, Nat.div_one]
      have hlx := kOk_length hx
      have hfl : ((List.replicate k ks').flatten).length = k * ks'.length := by simp
      rw [hfl] at hlx
      have key : ∀ (q j : Nat), j + q = k → kOk ((List.replicate q ks').flatten) (xs.drop (j * ks'.length)) = true →
          (forIn (List.range' j q) PUnit.unit fun (i : Nat) (_ : PUnit) => (do
            Instr.checkKey em (d + m) e (← part e xs.toArray (i * (← sizeOf e)))
            pure (ForInStep.yield PUnit.unit) : Sem (ForInStep PUnit))).run P w = .ok PUnit.unit w := by
        intro q
        induction q with
        | zero => intro j _ _; simp
        | succ q ih =>
          intro j hj h1
          rw [List.replicate_succ, List.flatten_cons] at h1
          obtain ⟨h1a, h1b⟩ := kOk_append h1
          rw [List.drop_drop] at h1b
          have hj1 : j * ks'.length + ks'.length = (j + 1) * ks'.length := by rw [Nat.add_mul]; omega
          rw [hj1] at h1b
          have hle : j * ks'.length + ks'.length ≤ k * ks'.length := by rw [hj1]; exact Nat.mul_le_mul_right _ (by omega)
          have p1 := run_part_flat hse hae (fun hb => kindsT_one hk' hb) xs.toArray (j * ks'.length) (by simp; omega) w
          have p3 := run_checkKey_flat em d m e ks' hk' _ h1a w
          have p4 := ih (j + 1) (by omega) h1b
          rw [List.range'_succ]
          simp only [List.forIn_cons, Sem.run_bind, run_sizeOf' hse, Result.andThen_ok, p1, p3, Sem.run_pure]
          exact p4
      have := key k 0 (by omega) (by simpa using hx)
      simp only [this, Result.andThen_ok, Sem.run_pure]

theorem bytes_ext {a b : ByteArray} (h : a.toList = b.toList) : a = b := by
  have h2 : (a == b) = true := by rw [beq_toListBytes]; simp [h]
  obtain ⟨x⟩ := a
  obtain ⟨y⟩ := b
  have h3 : (x == y) = true := h2
  have h4 : x = y := by simpa using h3
  rw [h4]

theorem seq1_eq {a b : Value} (h : seq1 a b = some true) : a = b ∧ (∀ n, Instr.sameBits n b a = true) := by
  unfold seq1 at h
  split at h
  · split at h
    · rename_i hk
      subst hk
      simp at h
      subst h
      exact ⟨rfl, fun n => by simp [Instr.sameBits]⟩
    · cases h
  · simp at h; subst h; exact ⟨rfl, fun n => by simp [Instr.sameBits]⟩
  · simp at h
    have := bytes_ext h
    subst this
    exact ⟨rfl, fun n => by simp [Instr.sameBits, beq_toListBytes]⟩
  · cases h

theorem seqL_eq : ∀ {xs ys : List Value}, seqL xs ys = some true → xs = ys ∧ ∀ n, (ys.zip xs).all (fun p => Instr.sameBits n p.1 p.2) = true
  | [], [], _ => ⟨rfl, fun _ => rfl⟩
  | [], _ :: _, h => by simp [seqL] at h
  | _ :: _, [], h => by simp [seqL] at h
  | x :: xs, y :: ys, h => by
    simp only [seqL] at h
    split at h
    · rename_i a b ha hb
      simp only [Option.some.injEq, Bool.and_eq_true] at h
      obtain ⟨rfl, rfl⟩ := h
      obtain ⟨h1, h2⟩ := seq1_eq ha
      obtain ⟨h3, h4⟩ := seqL_eq hb
      exact ⟨by rw [h1, h3], fun n => by simp [h2 n, h4 n]⟩
    · cases h

theorem keq_eq {a b : Value} (h : keq a b = some true) : a = b ∧ ∀ n, Instr.sameBits (n + 1) b a = true := by
  unfold keq at h
  split at h
  · rename_i x y
    obtain ⟨h1, h2⟩ := seqL_eq h
    have h3 : x = y := Array.ext' h1
    subst h3
    exact ⟨rfl, fun n => by simp only [Instr.sameBits, beq_self_eq_true, Bool.true_and]; exact h2 n⟩
  · cases h
  · cases h
  · obtain ⟨h1, h2⟩ := seq1_eq h
    exact ⟨h1, fun n => h2 (n + 1)⟩

/-- A key that fits a type. -/
def KeyFits (P : Program) (t : TypeId) (ks : List Nat) (k : Value) : Prop := ∃ l, kOk ks l = true ∧ k = wrapV P t l

theorem KeyForm.fits {t : TypeId} {ks : List Nat} {ka : Bool} {k : Value} (hag : isAggT P t = some ka) (h : KeyForm (ks, ka) k) : KeyFits P t ks k := by
  obtain ⟨l, h1, h2⟩ := h
  refine ⟨l, h1, ?_⟩
  cases ka
  · simp only [Bool.false_eq_true, if_false] at h2
    subst h2
    simp [wrapV, hag]
  · simp only [if_true] at h2
    simp [wrapV, hag, h2]

theorem keyA_rep {ks : List Nat} {ka : Bool} {a : AV} {u k : Value} (h : Rep A w σ o a u) (hh : keyA ks ka a = some k) : u = k ∧ KeyForm (ks, ka) k := by
  cases a <;> simp only [keyA, reduceCtorEq] at hh
  · rename_i v
    split at hh
    · rename_i hc
      simp only [Bool.and_eq_true, Bool.not_eq_true'] at hc
      injection hh with hh; subst hh
      exact ⟨rep_sc h, [v], hc.2, by simp [hc.1]⟩
    · cases hh
  · rename_i cs
    split at hh
    · rename_i vs hvs
      split at hh
      · rename_i hc
        simp only [Bool.and_eq_true] at hc
        injection hh with hh; subst hh
        simp only [Rep] at h
        obtain ⟨us, rfl, hl⟩ := h
        have := scs_rep hvs hl
        exact ⟨by rw [← this], vs, hc.2, by simp [hc.1]⟩
      · cases hh
    · cases hh

theorem run_equal_key {t : TypeId} {ks : List Nat} (hk : kindsT P 20 t = some ks) {a b : Value} (ha : KeyFits P t ks a) (hb : KeyFits P t ks b) {r : Bool} (h : keq a b = some r) (w : World) : (Op.equal t a b).run P w = .ok r w := by
  obtain ⟨la, h1, rfl⟩ := ha
  obtain ⟨lb, h2, rfl⟩ := hb
  have hs : seqL la lb = some r := by
    unfold wrapV at h
    obtain ⟨_, ba, hba⟩ := kindsT_size hk
    cases ba with
    | true => simp only [hba, keq] at h; exact h
    | false =>
      have h3 := kindsT_one hk hba
      have h4 := kOk_length h1
      have h5 := kOk_length h2
      rw [h3] at h4 h5
      match la, lb, h4, h5 with
      | [x], [y], _, _ =>
        simp only [hba, List.headD_cons] at h
        have hx : seq1 x y = some r := by
          match ks, h3 with
          | [q], _ => cases x <;> cases y <;> simp_all [kOk, keq] <;> (match q with | 0 | 1 | 2 | _ + 3 => simp_all [kOk])
        simp [seqL, hx]
  exact run_eq_flat 9980 20 t ks hk la lb r h1 h2 hs w

theorem sameNow_key {d : TypeDesc} {a b : Value} {r : Bool} (h : keq a b = some r) :
    Instr.sameNow d a b = some r ∨ Instr.sameNow d a b = none := by
  cases hq : Instr.sameNow d a b with
  | none => exact .inr rfl
  | some r' =>
    left
    unfold Instr.sameNow at hq
    split at hq
    · split at hq
      · rename_i hkk
        subst hkk
        simp [keq, seq1] at h
        simp at hq
        rw [← hq, h]
      · cases hq
    · simp [keq, seq1] at h
      simp only [Option.some.injEq] at hq
      rw [← hq, beq_toListBytes, ← h]
    · simp [keq, seq1] at h
      simp at hq
      rw [← hq, h]
    · cases hq

theorem run_findKey_flat {t : TypeId} {ks : List Nat} (hk : kindsT P 20 t = some ks) {k : Value} (hkf : KeyFits P t ks k) (w : World) (es : List (Value × AV)) (en : List MapEntry) (hlen : en.length = es.length)
    (hen : ∀ (j : Nat) (e : Value × AV), es[j]? = some e → ∃ m, en[j]? = some m ∧ m.key = e.1 ∧ KeyFits P t ks m.key) {r : Option (Nat × AV)} (hf : findM k es 0 = some r) :
    match r with
    | none => (Instr.findKey t k en).run P w = .ok none w
    | some (i, a) => ∃ e m, es[i]? = some e ∧ e.2 = a ∧ en[i]? = some m ∧ keq k e.1 = some true ∧ (Instr.findKey t k en).run P w = .ok (some (i, m.val)) w := by
  obtain ⟨d, hu⟩ : ∃ d, P.underlying t = some d := by
    have := (kindsT_size hk).2
    obtain ⟨b, hb⟩ := this
    cases hu : P.underlying t with
    | none => simp [isAggT, hu] at hb
    | some d => exact ⟨d, rfl⟩
  -- both ways of looking
  have key : ∀ (es : List (Value × AV)) (en : List MapEntry) (i : Nat), en.length = es.length → (∀ (j : Nat) (e : Value × AV), es[j]? = some e → ∃ m, en[j]? = some m ∧ m.key = e.1 ∧ KeyFits P t ks m.key) → ∀ r, findM k es i = some r →
      (match r with
       | none => (Instr.findAsking t k en i).run P w = .ok none w ∧ (∀ q, Instr.findNow d k en i = some q → q = none)
       | some (n, a) => ∃ e m, i ≤ n ∧ es[n - i]? = some e ∧ e.2 = a ∧ en[n - i]? = some m ∧ keq k e.1 = some true ∧ (Instr.findAsking t k en i).run P w = .ok (some (n, m.val)) w ∧ (∀ q, Instr.findNow d k en i = some q → q = some (n, m.val))) := by
    intro es
    induction es with
    | nil =>
      intro en i hl _ r hr
      have : en = [] := List.eq_nil_of_length_eq_zero (by simpa using hl)
      subst this
      simp only [findM, Option.some.injEq] at hr
      subst hr
      exact ⟨by simp [Instr.findAsking], by simp [Instr.findNow]⟩
    | cons e es ih =>
      intro en i hl hg r hr
      match en, hl with
      | m :: en, hl =>
        obtain ⟨m', hm', hmk, hmf⟩ := hg 0 e (by simp)
        simp at hm'
        subst hm'
        simp only [findM] at hr
        cases hq : keq k e.1 with
        | none => simp [hq] at hr
        | some b =>
          have hrun := run_equal_key hk hkf hmf (r := b) (by rw [hmk]; exact hq) w
          have hsn := sameNow_key (d := d) (a := k) (b := m.key) (r := b) (by rw [hmk]; exact hq)
          cases b with
          | true =>
            simp only [hq, Option.some.injEq] at hr
            subst hr
            refine ⟨e, m, Nat.le_refl _, by simp, rfl, by simp, hq, ?_, ?_⟩
            · simp [Instr.findAsking, hrun]
            · intro q hqq
              simp only [Instr.findNow] at hqq
              rcases hsn with h | h <;> simp [h] at hqq
              exact hqq.symm
          | false =>
            simp only [hq] at hr
            have := ih en (i + 1) (by simpa using hl) (fun j e' he => by simpa using hg (j + 1) e' (by simpa using he)) r hr
            have e1 : (Instr.findAsking t k (m :: en) i).run P w = (Instr.findAsking t k en (i + 1)).run P w := by
              simp [Instr.findAsking, hrun]
            have e2 : ∀ q, Instr.findNow d k (m :: en) i = some q → Instr.findNow d k en (i + 1) = some q := by
              intro q hqq
              simp only [Instr.findNow] at hqq
              rcases hsn with h | h <;> simp [h] at hqq
              exact hqq
            match r, this with
            | none, ⟨h1, h2⟩ => exact ⟨by rw [e1]; exact h1, fun q hq => h2 q (e2 q hq)⟩
            | some (n, a), ⟨e', m', h1, h2, h3, h4, h5, h6, h7⟩ =>
              refine ⟨e', m', by omega, ?_, h3, ?_, h5, by rw [e1]; exact h6, fun q hq => h7 q (e2 q hq)⟩
              · rw [show n - i = (n - (i + 1)) + 1 from by omega]; simpa using h2
              · rw [show n - i = (n - (i + 1)) + 1 from by omega]; simpa using h4
  have := key es en 0 hlen hen r hf
  match r, this with
  | none, ⟨h1, h2⟩ =>
    simp only [Instr.findKey, Sem.run_bind, run_underlying hu, Result.andThen_ok]
    cases hq : Instr.findNow d k en 0 with
    | none => simpa [hq] using h1
    | some q => simp [h2 q hq]
  | some (n, a), ⟨e, m, h1, h2, h3, h4, h5, h6, h7⟩ =>
    refine ⟨e, m, by simpa using h2, h3, by simpa using h4, h5, ?_⟩
    simp only [Instr.findKey, Sem.run_bind, run_underlying hu, Result.andThen_ok]
    cases hq : Instr.findNow d k en 0 with
    | none => simpa [hq] using h6
    | some q => simp [h7 q hq]

theorem g_mkmap (hS : SimO A w σ o) {t : TypeId} {kt : List Nat × Bool} {pu : Bool} {nid : Nat} (hop : oper.op = .makeMap t none) (hd : o[nid]? = some .dead) : Gives A P ρC oper w σ o (.mp nid) (o.set nid (.map [] kt pu)) := by
  have hid : nid < o.length := (List.getElem?_eq_some_iff.1 hd).1
  have hidσ : nid < σ.length := by rw [hS.len]; exact hid
  obtain ⟨hS', hE⟩ := SimO.upd (w' := w.alloc (.map #[] 0)) (x := .dead) (x' := .map [] kt pu) (s' := some (w.heap.size, 1)) hS hd (by simp) rfl rfl rfl (fun b hb _ => heap_alloc_old w _ b hb)
    (fun b c h => .inr (by
      simp only [Option.some.injEq, Prod.mk.injEq] at h
      obtain ⟨rfl, _⟩ := h
      exact ⟨Nat.le_refl _, by simp⟩)) trivial (fun hE => by
      simp only [ObjOK]
      exact ⟨by simp, by simp, w.heap.size, 1, #[], 0, by rw [List.getElem?_set_self hidσ], heap_alloc_new w _, rfl, by simp⟩)
  refine ⟨.map (some w.heap.size), _, _, .inl ?_, hS', ?_, hE⟩
  · simp [execOp, hop, Instr.makeMap, newObj, Sem.run]
  · simp only [Rep]
    exact ⟨⟨[], kt, pu, by rw [List.getElem?_set_self hid]⟩, w.heap.size, 1, by rw [List.getElem?_set_self hidσ], rfl⟩

/-- The entries behind a map's object. -/
theorem map_obj (hS : SimO A w σ o) {id : Nat} {es : List (Value × AV)} {kt : List Nat × Bool} {pu : Bool} (ho : o[id]? = some (.map es kt pu)) {u : Value} (h : Rep A w σ o (.mp id) u) :
    ∃ (b c : Nat) (entries : Array MapEntry) (clock : Nat), σ[id]? = some (some (b, c)) ∧ u = .map (some b) ∧ w.heap[b]? = some (.map entries clock) ∧ entries.size = es.length ∧ (pu = true → ∀ e ∈ es, e.2.pure = true) ∧ (∀ e ∈ es, KeyForm kt e.1) ∧
      ∀ (j : Nat) (e : Value × AV), es[j]? = some e → ∃ m, entries[j]? = some m ∧ m.key = e.1 ∧ Rep A w σ o e.2 m.val := by
  simp only [Rep] at h
  obtain ⟨_, b, c, hσ, rfl⟩ := h
  have hx := hS.obj id _ ho
  simp only [ObjOK] at hx
  obtain ⟨h1, h2, b', c', en, cl, h3, h4, h5, h6⟩ := hx
  rw [hσ] at h3
  simp only [Option.some.injEq, Prod.mk.injEq] at h3
  obtain ⟨rfl, rfl⟩ := h3
  exact ⟨b, c, en, cl, hσ, rfl, h4, h5, h1, h2, h6⟩

theorem zeroA_rep {t : TypeId} {z : List Value} {g : Bool} {a : AV} (hz : zeroT P t = some z) (hg : zeroOk P t g = true) (ha : zeroA z g = some a) : ∃ u, (∀ w : World, (zeroValue t).run P w = .ok u w) ∧ Rep A w σ o a u := by
  obtain ⟨i, zv, hi, hzv, hcells, hsize, hone⟩ := zeroT_some hz
  refine ⟨zv, fun w => by simp [zeroValue, typeInfo, hi, hzv], ?_⟩
  simp only [zeroOk, hi, hzv, Option.bind_some] at hg
  unfold zeroA at ha
  cases zv with
  | agg cs =>
    simp only at hg
    subst hg
    simp only [if_true, Option.some.injEq] at ha
    subst ha
    simp only [Rep]
    simp only [Value.cells] at hcells
    exact ⟨cs, rfl, by rw [hcells]; exact repL_sc A w σ o z hone⟩
  | _ =>
    simp only [Bool.not_eq_true'] at hg
    subst hg
    simp only [Value.cells] at hcells
    subst hcells
    simp only [Bool.false_eq_true, if_false, Option.some.injEq] at ha
    subst ha
    exact by simp [Rep, hone]

theorem zeroA_some {t : TypeId} {z : List Value} {g : Bool} (hz : zeroT P t = some z) (hg : zeroOk P t g = true) : ∃ a, zeroA z g = some a := by
  obtain ⟨i, zv, hi, hzv, hcells, hsize, hone⟩ := zeroT_some hz
  simp only [zeroOk, hi, hzv, Option.bind_some] at hg
  unfold zeroA
  cases zv with
  | agg cs => simp only at hg; subst hg; exact ⟨_, rfl⟩
  | _ =>
    simp only [Bool.not_eq_true'] at hg
    subst hg
    simp only [Value.cells] at hcells
    subst hcells
    exact ⟨_, rfl⟩

theorem g_lookup (hS : SimO A w σ o) (hρ : ∀ x, Rep A w σ o (ρA x) (ρC x)) {t kt et : TypeId} {ks : List Nat} {ka g ok : Bool} {z : List Value} {x k : Operand} (hop : oper.op = .lookup t x k ok) (ht : P.underlying t = some (.map kt et))
    (hk : kindsT P 20 kt = some ks) (hag : isAggT P kt = some ka) (hz : ∃ a u, zeroA z g = some a ∧ (∀ w : World, (zeroValue et).run P w = .ok u w) ∧ Rep A w σ o a u)
    {id : Nat} (hx : ρA x = .mp id) {kv : Value} (hkv : keyA ks ka (ρA k) = some kv) {es : List (Value × AV)} {pu : Bool} (ho : o[id]? = some (.map es (ks, ka) pu))
    {r : Option (Nat × AV)} (hf : findM kv es 0 = some r) {zv : AV} (hzv : zeroA z g = some zv) :
    Gives A P ρC oper w σ o (if ok then .tup [(r.map (·.2)).getD zv, .sc (.bool r.isSome)] else (r.map (·.2)).getD zv) o := by
  have h1 := hρ x
  rw [hx] at h1
  obtain ⟨b, c, en, cl, hσ, hu, hh, hlen, _, hkf, hen⟩ := map_obj hS ho h1
  obtain ⟨hk1, hk2⟩ := keyA_rep (hρ k) hkv
  obtain ⟨a0, z0, hz1, hz2, hz3⟩ := hz
  rw [hz1] at hzv
  injection hzv with hzv
  subst hzv
  have hkfit := hk2.fits hag
  have hfind := run_findKey_flat hk hkfit w es en.toList (by simpa using hlen) (fun j e he => by
    obtain ⟨m, hm, hmk, _⟩ := hen j e he
    exact ⟨m, by simpa using hm, hmk, by rw [hmk]; exact (hkf e (List.mem_of_getElem? he)).fits hag⟩) hf
  obtain ⟨lk, hlk1, hlk2⟩ := hkfit
  have hck := run_checkKey_flat (P := P) en.isEmpty 9980 20 kt ks hk lk hlk1 w
  rw [← hlk2] at hck
  have hget : (getObj b).run P w = .ok (.map en cl) w := by simp [getObj, Sem.run, hh]
  have main : ∃ u, Rep A w σ o ((r.map (·.2)).getD a0) u ∧ (execOp ρC oper).run P w = .ok (.value (if ok then .tuple #[u, .bool r.isSome] else u)) w := by
    cases r with
    | none =>
      refine ⟨z0, hz3, ?_⟩
      simp only [execOp, hop, Instr.lookup, hu, hk1]
      simp [run_underlying ht, hget, hck, hfind, hz2]
    | some p =>
      obtain ⟨i, a⟩ := p
      obtain ⟨e, m, q1, q2, q3, q4, q5⟩ := hfind
      obtain ⟨m', hm', _, hr⟩ := hen i e q1
      have : m' = m := by
        rw [Array.getElem?_toList] at q3
        rw [hm'] at q3
        injection q3
      subst this
      refine ⟨m'.val, by rw [← q2]; exact hr, ?_⟩
      simp only [execOp, hop, Instr.lookup, hu, hk1]
      simp [run_underlying ht, hget, hck, q5]
  obtain ⟨u, hr, hexec⟩ := main
  refine Gives.same hS hexec ?_
  cases ok
  · simpa using hr
  · simp only [if_true, Rep]
    exact ⟨_, rfl, by simp only [RepL]; exact ⟨u, [.bool r.isSome], rfl, hr, .bool r.isSome, [], rfl, by simp [Rep, Value.oneCell'], rfl⟩⟩

theorem run_keyThatStays_flat {k : Value} (h : ∀ n, Instr.sameBits (n + 1) k k = true) (w : World) : (Instr.keyThatStays k k).run P w = .ok k w := by
  simp [Instr.keyThatStays, h 9999]

theorem g_mapset (hS : SimO A w σ o) (hρ : ∀ x, Rep A w σ o (ρA x) (ρC x)) {t kt et : TypeId} {ks : List Nat} {ka : Bool} {x k y : Operand} (hop : oper.op = .mapUpdate t x k y ∨ oper.op = .insert t x k y) (ht : P.underlying t = some (.map kt et))
    (hk : kindsT P 20 kt = some ks) (hag : isAggT P kt = some ka)
    {id : Nat} (hx : ρA x = .mp id) {kv : Value} (hkv : keyA ks ka (ρA k) = some kv) {es : List (Value × AV)} {pu : Bool} (ho : o[id]? = some (.map es (ks, ka) pu)) (hpu : pu = true → (ρA y).pure = true)
    {r : Option (Nat × AV)} (hf : findM kv es 0 = some r) :
    Gives A P ρC oper w σ o .ud (o.set id (.map (match r with | some (i, _) => es.modify i fun _ => (kv, ρA y) | none => es ++ [(kv, ρA y)]) (ks, ka) pu)) := by
  have h1 := hρ x
  rw [hx] at h1
  obtain ⟨b, c, en, cl, hσ, hu, hh, hlen, hpu0, hkf, hen⟩ := map_obj hS ho h1
  obtain ⟨hk1, hk2⟩ := keyA_rep (hρ k) hkv
  have hkfit := hk2.fits hag
  have hfind := run_findKey_flat hk hkfit w es en.toList (by simpa using hlen) (fun j e he => by
    obtain ⟨m, hm, hmk, _⟩ := hen j e he
    exact ⟨m, by simpa using hm, hmk, by rw [hmk]; exact (hkf e (List.mem_of_getElem? he)).fits hag⟩) hf
  obtain ⟨lk, hlk1, hlk2⟩ := hkfit
  have hck := run_checkKey_flat (P := P) false 9980 20 kt ks hk lk hlk1 w
  rw [← hlk2] at hck
  have hget : (getObj b).run P w = .ok (.map en cl) w := by simp [getObj, Sem.run, hh]
  have hset : ∀ X : Obj, (setObj b X).run P w = .ok () { w with heap := w.heap.setIfInBounds b X } := by
    intro X; simp [setObj, Sem.run, hh]
  have hblt : b < w.heap.size := hS.bnd id b c hσ
  have hid : id < o.length := (List.getElem?_eq_some_iff.1 ho).1
  have hidσ : id < σ.length := by rw [hS.len]; exact hid
  have hσset : σ.set id (some (b, c)) = σ := by
    apply List.ext_getElem?
    intro i
    by_cases hi : id = i
    · subst hi; rw [List.getElem?_set_self hidσ, hσ]
    · rw [List.getElem?_set_ne hi]
  have fin : ∀ (en' : Array MapEntry) (cl' : Nat) (es' : List (Value × AV)), (execOp ρC oper).run P w = .ok .skip { w with heap := w.heap.setIfInBounds b (.map en' cl') } → en'.size = es'.length →
      (pu = true → ∀ e ∈ es', e.2.pure = true) → (∀ e ∈ es', KeyForm (ks, ka) e.1) → (∀ (j : Nat) (e : Value × AV), es'[j]? = some e → ∃ m, en'[j]? = some m ∧ m.key = e.1 ∧ Rep A w σ o e.2 m.val) →
      Gives A P ρC oper w σ o .ud (o.set id (.map es' (ks, ka) pu)) := by
    intro en' cl' es' hexec f1 f2 f3 f4
    have hat : ({ w with heap := w.heap.setIfInBounds b (.map en' cl') } : World).heap[b]? = some (.map en' cl') := by simp [hblt]
    obtain ⟨hS', hE⟩ := SimO.upd (w' := { w with heap := w.heap.setIfInBounds b (.map en' cl') }) (x' := .map es' (ks, ka) pu) (s' := some (b, c)) hS ho (by simp) rfl rfl rfl
      (fun q _ hq => by
        have : b ≠ q := fun he => hq c (he ▸ hσ)
        simp [Array.getElem?_setIfInBounds_ne this])
      (fun b2 c2 h2 => .inl ⟨c, by injection h2 with h2; injection h2 with h3 h4; rw [hσ, h3]⟩) ⟨⟨_, _, _, rfl⟩, hσ⟩ (fun hE => by
        simp only [ObjOK]
        refine ⟨f2, f3, b, c, en', cl', by rw [List.getElem?_set_self hidσ], hat, f1, fun j e he => ?_⟩
        obtain ⟨m, q1, q2, q3⟩ := f4 j e he
        exact ⟨m, q1, q2, q3.ext hE⟩)
    rw [hσset] at hS' hE
    exact ⟨undef, _, σ, .inr ⟨hexec, rfl⟩, hS', by simp [Rep], hE⟩
  cases r with
  | none =>
    refine fin (en.push { key := kv, val := ρC y, born := cl }) (cl + 1) (es ++ [(kv, ρA y)]) ?_ (by simp [hlen]) ?_ ?_ ?_
    · rcases hop with hop | hop <;> simp only [execOp, hop, Instr.mapUpdate, hu, hk1] <;> simp [run_underlying ht, hget, hck, hfind, hset]
    · intro hp e he
      rcases List.mem_append.1 he with he | he
      · exact hpu0 hp e he
      · simp at he; subst he; exact hpu hp
    · intro e he
      rcases List.mem_append.1 he with he | he
      · exact hkf e he
      · simp at he; subst he; exact hk2
    · intro j e he
      rw [List.getElem?_append] at he
      split at he
      · rename_i hj
        obtain ⟨m, q1, q2, q3⟩ := hen j e he
        exact ⟨m, by rw [Array.getElem?_push_lt (by omega)]; rw [← q1]; simp [hlen, hj], q2, q3⟩
      · rename_i hj
        have : j = es.length := by
          have := (List.getElem?_eq_some_iff.1 he).1
          simp at this; omega
        subst this
        simp at he
        subst he
        exact ⟨{ key := kv, val := ρC y, born := cl }, by rw [← hlen]; simp, rfl, hρ y⟩
  | some p =>
    obtain ⟨i, a⟩ := p
    obtain ⟨e, m, q1, q2, q3, q4, q5⟩ := hfind
    obtain ⟨q6, q7⟩ := keq_eq q4
    have hmk : m.key = kv := by
      obtain ⟨m', hm', hmk', _⟩ := hen i e q1
      rw [Array.getElem?_toList] at q3
      rw [hm'] at q3
      injection q3 with q3
      rw [← q3, hmk', q6]
    rw [Array.getElem?_toList] at q3
    refine fin (en.modify i fun e => { e with key := kv, val := ρC y }) cl (es.modify i fun _ => (kv, ρA y)) ?_ (by simp [hlen]) ?_ ?_ ?_
    · have hst : (Instr.keyThatStays (((en[i]?).map (·.key)).getD kv) kv).run P w = .ok kv w := by
        rw [q3]
        simp only [Option.map_some, Option.getD_some, hmk]
        exact run_keyThatStays_flat (by rw [q6] at q7 ⊢; exact q7) w
      rcases hop with hop | hop <;> simp only [execOp, hop, Instr.mapUpdate, hu, hk1] <;> simp [run_underlying ht, hget, hck, q5, hst, hset]
    · intro hp e' he
      obtain ⟨j, hj⟩ := List.getElem?_of_mem he
      rw [List.getElem?_modify] at hj
      split at hj
      · simp at hj; obtain ⟨_, _, rfl⟩ := hj; exact hpu hp
      · simp at hj; exact hpu0 hp e' (List.mem_of_getElem? hj)
    · intro e' he
      obtain ⟨j, hj⟩ := List.getElem?_of_mem he
      rw [List.getElem?_modify] at hj
      split at hj
      · simp at hj; obtain ⟨_, _, rfl⟩ := hj; exact hk2
      · simp at hj; exact hkf e' (List.mem_of_getElem? hj)
    · intro j e' he
      rw [List.getElem?_modify] at he
      split at he
      · rename_i hij
        subst hij
        simp at he
        obtain ⟨_, _, rfl⟩ := he
        exact ⟨{ m with key := kv, val := ρC y }, by simp [Array.getElem?_modify, q3], rfl, hρ y⟩
      · rename_i hij
        simp at he
        obtain ⟨m', r1, r2, r3⟩ := hen j e' he
        exact ⟨m', by simp [Array.getElem?_modify, hij, r1], r2, r3⟩
end

end Go.Vi

/-
  The abstract interpreter: an operation hangs on the objects that it touches, and on no others.
  Conditions: none.
-/
import Derived.Test.YtigbjjkijfkeeaaViOp
namespace Go.Vi

section
variable {call : Oracle} {ρ ρ2 : Operand → AV} {nid : Nat}

/-- Operations that do not look at the objects. -/
theorem eff_pure {iop : IOp} (hc : iop.cls = 0) (o o2 : Store) : effS call iop ρ o2 nid = (effS call iop ρ o nid).map fun p => (p.1, o2) := by
  cases iop <;> try (simp [IOp.cls] at hc; done)
  case call f args own => cases own <;> simp [IOp.cls] at hc
  case callv f args own => cases own <;> simp [IOp.cls] at hc
  all_goals simp only [effS]
  all_goals (repeat' split) <;> simp_all [Option.map_map, Function.comp_def]

theorem eff_pure_o {iop : IOp} (hc : iop.cls = 0) {o o' : Store} {v : AV} (h : effS call iop ρ o nid = some (v, o')) : o' = o := by
  have := eff_pure (call := call) (ρ := ρ) (nid := nid) hc o o
  rw [h] at this
  simp at this
  exact this

theorem behind_congr {o o2 : Store} {a : AV} (h : ∀ j ∈ tchAV a, o2[j]? = o[j]?) : behind o2 a = behind o a := by
  cases a <;> simp only [behind]
  rename_i id off tot
  rw [h id (by simp [tchAV])]

theorem elemsA_congr {o o2 : Store} {sz : Nat} {a : AV} (h : ∀ j ∈ tchAV a, o2[j]? = o[j]?) : elemsA o2 sz a = elemsA o sz a := by
  cases a with
  | os id off len tot => simp only [elemsA]; rw [h id (by simp [tchAV])]
  | sc v => unfold elemsA; split <;> first | rfl | (simp_all; done)
  | _ => rfl

theorem idxSA_congr {o o2 : Store} {sz : Nat} {a : AV} {i : Int} (h : ∀ j ∈ tchAV a, o2[j]? = o[j]?) : idxSA o2 sz a i = idxSA o sz a i := by
  cases a <;> simp only [idxSA]
  rename_i id off len tot
  rw [h id (by simp [tchAV])]

theorem sliceA_congr {o o2 : Store} {sz : Nat} {a : AV} {lo hi : Option AV} (h : ∀ j ∈ tchAV a, o2[j]? = o[j]?) : sliceA o2 sz a lo hi = sliceA o sz a lo hi := by
  cases a with
  | os id off len tot => simp only [sliceA]; rw [h id (by simp [tchAV])]
  | sc v => unfold sliceA; split <;> first | rfl | (simp_all; done)
  | _ => rfl

theorem lenA_congr {o o2 : Store} {k : Nat} {a : AV} (h : ∀ j ∈ tchAV a, o2[j]? = o[j]?) : lenA o2 k a = lenA o k a := by
  cases a with
  | mp id =>
    match k with
    | 0 => rfl
    | 1 => rfl
    | 2 => simp only [lenA]; rw [h id (by simp [tchAV])]
    | _ + 3 => rfl
  | _ => unfold lenA; split <;> first | rfl | (simp_all; done)

theorem flatMap_congr' {α β : Type} {f g : α → List β} : ∀ {l : List α}, (∀ a ∈ l, f a = g a) → l.flatMap f = l.flatMap g
  | [], _ => rfl
  | a :: l, h => by
    simp only [List.flatMap_cons]
    rw [h a (by simp), flatMap_congr' fun b hb => h b (by simp [hb])]

theorem mapM_congr' {α β : Type} {f g : α → Option β} : ∀ {l : List α}, (∀ a ∈ l, f a = g a) → l.mapM f = l.mapM g
  | [], _ => rfl
  | a :: l, h => by
    rw [List.mapM_cons, List.mapM_cons, h a (by simp), mapM_congr' fun b hb => h b (by simp [hb])]

/-- What is frozen, and what is looked at for it, hang on what is looked at. -/
theorem freeze_congr {o o2 : Store} : ∀ (d : Nat) (a : AV), (∀ j ∈ tchF o d a, o2[j]? = o[j]?) → freeze o2 d a = freeze o d a ∧ tchF o2 d a = tchF o d a
  | 0, a, _ => by cases a <;> simp [freeze, tchF]
  | d + 1, a, h => by
    cases a with
    | agg cs =>
      simp only [tchF, List.mem_flatMap, forall_exists_index, and_imp] at h
      have ih := fun c hc => freeze_congr d c (fun j hj => h j c hc hj)
      simp only [freeze, tchF]
      exact ⟨by rw [mapM_congr' fun c hc => (ih c hc).1], flatMap_congr' fun c hc => (ih c hc).2⟩
    | tup cs =>
      simp only [tchF, List.mem_flatMap, forall_exists_index, and_imp] at h
      have ih := fun c hc => freeze_congr d c (fun j hj => h j c hc hj)
      simp only [freeze, tchF]
      exact ⟨by rw [mapM_congr' fun c hc => (ih c hc).1], flatMap_congr' fun c hc => (ih c hc).2⟩
    | fn f x y =>
      simp only [tchF, List.mem_append, List.mem_flatMap] at h
      have i1 := fun c hc => freeze_congr d c (fun j hj => h j (.inl ⟨c, hc, hj⟩))
      have i2 := fun c hc => freeze_congr d c (fun j hj => h j (.inr ⟨c, hc, hj⟩))
      simp only [freeze, tchF]
      exact ⟨by rw [mapM_congr' fun c hc => (i1 c hc).1, mapM_congr' fun c hc => (i2 c hc).1], by rw [flatMap_congr' fun c hc => (i1 c hc).2, flatMap_congr' fun c hc => (i2 c hc).2]⟩
    | os id off len tot =>
      have h0 := h id (by simp [tchF])
      simp only [freeze, tchF]
      rw [h0]
      cases ho : o[id]? with
      | none => exact ⟨rfl, rfl⟩
      | some x =>
        cases x with
        | dead => exact ⟨rfl, rfl⟩
        | map es kt pu => exact ⟨rfl, rfl⟩
        | cells cs e sz pu =>
          cases pu with
          | true => exact ⟨rfl, rfl⟩
          | false =>
            simp only [tchF, ho, List.mem_cons, Bool.false_eq_true, if_false, List.mem_flatMap] at h
            have ih := fun c hc => freeze_congr d c (fun j hj => h j (.inr ⟨c, hc, hj⟩))
            simp only [Bool.false_eq_true, if_false]
            exact ⟨by rw [mapM_congr' fun c hc => (ih c hc).1], by rw [flatMap_congr' fun c hc => (ih c hc).2]⟩
    | _ => simp [freeze, tchF]

theorem callA_pure {f : FuncId} {args : List AV} {o o2 : Store} (h : ∀ j ∈ args.flatMap (tchF o 6), o2[j]? = o[j]?) :
    callA call f args o2 false = (callA call f args o false).map (fun p => (p.1, o2)) ∧ args.flatMap (tchF o2 6) = args.flatMap (tchF o 6) := by
  simp only [List.mem_flatMap, forall_exists_index, and_imp] at h
  have ih := fun c hc => freeze_congr 6 c (fun j hj => h j c hc hj)
  have h1 : args.flatMap (tchF o2 6) = args.flatMap (tchF o 6) := flatMap_congr' fun c hc => (ih c hc).2
  refine ⟨?_, h1⟩
  unfold callA
  rw [if_neg (by simp), if_neg (by simp), h1, mapM_congr' fun c hc => (ih c hc).1]
  cases args.mapM (freeze o 6) with
  | none => rfl
  | some as =>
    simp only
    split
    · split <;> simp
    · simp

theorem callA_pure_o {f : FuncId} {args : List AV} {o o' : Store} {v : AV} (h : callA call f args o false = some (v, o')) : o' = o := by
  have := (callA_pure (call := call) (f := f) (args := args) (o := o) (o2 := o) fun _ _ => rfl).1
  rw [h] at this
  simp at this
  exact this

/-- Operations that only look. -/
theorem eff_reads {iop : IOp} (hc : iop.cls = 1) {o o2 : Store} (h : ∀ j ∈ tch iop ρ o nid, o2[j]? = o[j]?) :
    effS call iop ρ o2 nid = (effS call iop ρ o nid).map (fun p => (p.1, o2)) ∧ tch iop ρ o2 nid = tch iop ρ o nid := by
  cases iop <;> try (simp [IOp.cls] at hc; done)
  case load n a =>
    simp only [effS, tch] at h ⊢
    rw [behind_congr h]
    refine ⟨?_, trivial⟩
    split <;> simp [Option.map_map, Function.comp_def]
  case idxS sz x i =>
    simp only [effS, tch] at h ⊢
    refine ⟨?_, trivial⟩
    split
    · rw [idxSA_congr h]; simp [Option.map_map, Function.comp_def]
    · rfl
  case slice sz x lo hi =>
    simp only [effS, tch] at h ⊢
    refine ⟨?_, trivial⟩
    rw [sliceA_congr h]; simp [Option.map_map, Function.comp_def]
  case len k x =>
    simp only [effS, tch] at h ⊢
    refine ⟨?_, trivial⟩
    rw [lenA_congr h]; simp [Option.map_map, Function.comp_def]
  case lookup z agg ks ka x k ok =>
    simp only [effS, tch] at h ⊢
    refine ⟨?_, trivial⟩
    split
    · rename_i id kv hx hk
      rw [hx] at h
      rw [h id (by simp [tchAV])]
      split
      · split
        · split <;> simp
        · rfl
      · rfl
    · rfl
  case call f args own =>
    cases own
    · simp only [effS, tch] at h ⊢
      exact callA_pure h
    · simp [IOp.cls] at hc
  case callv f args own =>
    cases own
    · simp only [effS, tch] at h ⊢
      split
      · rename_i g first captured hf
        rw [hf] at h
        simp only [hf] at h ⊢
        exact ⟨(callA_pure h).1, (callA_pure (call := call) (f := 0) h).2⟩
      · rename_i hne
        refine ⟨rfl, ?_⟩
        split
        · rename_i f' first captured hf
          simp only [hf] at h ⊢
          exact (callA_pure (call := call) (f := 0) h).2
        · rfl
    · simp [IOp.cls] at hc

theorem eff_reads_o {iop : IOp} (hc : iop.cls = 1) {o o' : Store} {v : AV} (h : effS call iop ρ o nid = some (v, o')) : o' = o := by
  have := (eff_reads (call := call) (ρ := ρ) (nid := nid) hc (o := o) (o2 := o) fun _ _ => rfl).1
  rw [h] at this
  simp at this
  exact this

theorem set_same {o : Store} {id : Nat} : o.set id ((o[id]?).getD .dead) = o := by
  apply List.ext_getElem?
  intro j
  rw [List.getElem?_set]
  split
  · rename_i h
    subst h
    split
    · rename_i h2; simp [h2]
    · rename_i h2; simp at h2; simp [h2]
  · rfl

/-- Operations that write. -/
theorem eff_writes {iop : IOp} (hc : iop.cls = 2) {o o' : Store} {v : AV} (he : effS call iop ρ o nid = some (v, o')) :
    ∃ id x, id ∈ wrt iop ρ o nid ∧ o' = o.set id x ∧ ∀ o2, (∀ j ∈ tch iop ρ o nid, o2[j]? = o[j]?) →
      effS call iop ρ o2 nid = some (v, o2.set id x) ∧ tch iop ρ o2 nid = tch iop ρ o nid ∧ wrt iop ρ o2 nid = wrt iop ρ o nid := by
  have hmk : ∀ {x : AObj} {g : AV} {v : AV} {o' : Store}, (mkO nid x o).map (fun o' => (g, o')) = some (v, o') → v = g ∧ o' = o.set nid x ∧ ∀ o2 : Store, o2[nid]? = o[nid]? → (mkO nid x o2).map (fun o' => (g, o')) = some (v, o2.set nid x) := by
    intro x g v o' h
    obtain ⟨y, hy, h2⟩ := pair_map h
    obtain ⟨hd, rfl⟩ := mkO_some hy
    simp only [Prod.mk.injEq] at h2
    obtain ⟨rfl, rfl⟩ := h2
    refine ⟨rfl, rfl, fun o2 h => ?_⟩
    rw [hd] at h
    simp [mkO, h]
  cases iop <;> try (simp [IOp.cls] at hc; done)
  case alloc z e pu =>
    simp only [effS, tch, wrt] at he ⊢
    obtain ⟨rfl, rfl, h3⟩ := hmk he
    exact ⟨nid, _, by simp, rfl, fun o2 h => ⟨h3 o2 (h nid (by simp)), trivial, trivial⟩⟩
  case box e x =>
    simp only [effS, tch, wrt] at he ⊢
    split at he
    · rename_i h1
      obtain ⟨rfl, rfl, h3⟩ := hmk he
      exact ⟨nid, _, by simp, rfl, fun o2 h => ⟨by rw [if_pos h1]; exact h3 o2 (h nid (by simp)), trivial, trivial⟩⟩
    · cases he
  case mkrow z len parts e sz =>
    simp only [effS, tch, wrt] at he ⊢
    split at he
    · rename_i cs h1
      obtain ⟨rfl, rfl, h3⟩ := hmk he
      exact ⟨nid, _, by simp, rfl, fun o2 h => ⟨h3 o2 (h nid (by simp)), trivial, trivial⟩⟩
    · cases he
  case mkslice z e sz bytes l c pu =>
    simp only [effS, tch, wrt] at he ⊢
    split at he
    · split at he
      · rename_i n m h1 h2 hcond
        obtain ⟨rfl, rfl, h3⟩ := hmk he
        exact ⟨nid, _, by simp, rfl, fun o2 h => ⟨by rw [if_pos hcond]; exact h3 o2 (h nid (by simp)), trivial, trivial⟩⟩
      · cases he
    · cases he
  case mkmap kt pu =>
    simp only [effS, tch, wrt] at he ⊢
    obtain ⟨rfl, rfl, h3⟩ := hmk he
    exact ⟨nid, _, by simp, rfl, fun o2 h => ⟨h3 o2 (h nid (by simp)), trivial, trivial⟩⟩
  case store n a x =>
    simp only [effS, tch, wrt] at he ⊢
    split at he
    · rename_i id off tot ha
      split at he
      · rename_i cs e sz pu ho
        split at he
        · rename_i hcond
          simp only [Option.some.injEq, Prod.mk.injEq] at he
          obtain ⟨rfl, rfl⟩ := he
          refine ⟨id, _, by simp [ha, tchAV], rfl, fun o2 h => ⟨?_, trivial, trivial⟩⟩
          have h2 := h id (by simp [ha, tchAV])
          rw [h2, ho]
          simp only
          rw [if_pos hcond]
        · cases he
      · cases he
    · cases he
  case append e sz bytes s x pu =>
    simp only [effS, tch, wrt] at he ⊢
    unfold appendA at he
    split at he
    · cases he
    · rename_i m new hel
      split at he
      · cases he
      · rename_i hone
        have hel2 : ∀ o2 : Store, (∀ j ∈ nid :: (tchAV (ρ s) ++ tchAV (ρ x)), o2[j]? = o[j]?) → elemsA o2 sz (ρ x) = some (m, new) := fun o2 h => by
          rw [elemsA_congr (fun j hj => h j (by simp [hj])), hel]
        split at he
        · rename_i hs
          split at he
          · rename_i hm
            simp only [Option.some.injEq, Prod.mk.injEq] at he
            obtain ⟨rfl, rfl⟩ := he
            refine ⟨nid, (o[nid]?).getD .dead, by simp, set_same.symm, fun o2 h => ⟨?_, trivial, trivial⟩⟩
            rw [← h nid (by simp), set_same]
            unfold appendA
            rw [hel2 o2 h]
            simp only [hone, hs, hm, if_true]
            try rfl
          · split at he
            · rename_i hm hcond
              obtain ⟨rfl, rfl, h3⟩ := hmk he
              refine ⟨nid, _, by simp, rfl, fun o2 h => ⟨?_, trivial, trivial⟩⟩
              unfold appendA
              rw [hel2 o2 h]
              simp only [hone, hs, hm, if_pos hcond]
              exact h3 o2 (h nid (by simp))
            · cases he
        · rename_i id len tot hs
          split at he
          · rename_i cs e' sz' pu' ho
            split at he
            · rename_i hcond
              simp only [Option.some.injEq, Prod.mk.injEq] at he
              obtain ⟨rfl, rfl⟩ := he
              refine ⟨id, _, by simp [hs, tchAV], rfl, fun o2 h => ⟨?_, trivial, trivial⟩⟩
              unfold appendA
              rw [hel2 o2 h]
              have h2 := h id (by simp [hs, tchAV])
              simp only [hone, hs, h2, ho, if_pos hcond]
              try rfl
            · cases he
          · cases he
        · rename_i n cs hs
          split at he
          · rename_i hm
            simp only [Option.some.injEq, Prod.mk.injEq] at he
            obtain ⟨rfl, rfl⟩ := he
            refine ⟨nid, (o[nid]?).getD .dead, by simp, set_same.symm, fun o2 h => ⟨?_, trivial, trivial⟩⟩
            rw [← h nid (by simp), set_same]
            unfold appendA
            rw [hel2 o2 h]
            simp only [hone, hs, hm, if_true]
            try rfl
          · cases he
        · cases he
  case mapset ks ka x k v' =>
    simp only [effS, tch, wrt] at he ⊢
    split at he
    · rename_i id kv hx hk
      split at he
      · rename_i es kt pu ho
        split at he
        · cases he
        · rename_i hcond
          split at he
          · rename_i i w hf
            simp only [Option.some.injEq, Prod.mk.injEq] at he
            obtain ⟨rfl, rfl⟩ := he
            refine ⟨id, _, by simp [hx, tchAV], rfl, fun o2 h => ⟨?_, trivial, trivial⟩⟩
            have h2 := h id (by simp [hx, tchAV])
            rw [h2, ho]
            simp only
            rw [if_neg hcond, hf]
          · rename_i hf
            simp only [Option.some.injEq, Prod.mk.injEq] at he
            obtain ⟨rfl, rfl⟩ := he
            refine ⟨id, _, by simp [hx, tchAV], rfl, fun o2 h => ⟨?_, trivial, trivial⟩⟩
            have h2 := h id (by simp [hx, tchAV])
            rw [h2, ho]
            simp only
            rw [if_neg hcond, hf]
          · cases he
      · cases he
    · cases he
  case call f args own => cases own <;> simp [IOp.cls] at hc
  case callv f args own => cases own <;> simp [IOp.cls] at hc

/-! ### own calls -/

theorem reachF_mono (o : Store) : ∀ (d : Nat) (vs : List AV) (acc : List Nat) (j : Nat), j ∈ acc → j ∈ reachF o d vs acc
  | 0, vs, acc, j, h => by cases vs <;> simpa [reachF] using h
  | d + 1, [], acc, j, h => by simpa [reachF] using h
  | d + 1, v :: vs, acc, j, h => by
    rw [reachF_cons]
    apply reachF_mono o d
    have hv : ∀ id, j ∈ visitR o d id acc := by
      intro id
      unfold visitR
      split
      · exact h
      · split
        · split
          · simp [h]
          · exact reachF_mono o d _ _ j (by simp [h])
        · split
          · simp [h]
          · exact reachF_mono o d _ _ j (by simp [h])
        · simp [h]
    cases v with
    | agg cs => exact reachF_mono o d _ _ j h
    | tup cs => exact reachF_mono o d _ _ j h
    | ptr id _ _ => exact hv id
    | os id _ _ _ => exact hv id
    | mp id => exact hv id
    | fn f a b => exact reachF_mono o d _ _ j (reachF_mono o d _ _ j h)
    | _ => exact h

theorem visitR_mem (o : Store) (d id : Nat) (acc : List Nat) : id ∈ visitR o d id acc := by
  unfold visitR
  split
  · rename_i h; simpa using h
  · split
    · split
      · simp
      · exact reachF_mono o d _ _ id (by simp)
    · split
      · simp
      · exact reachF_mono o d _ _ id (by simp)
    · simp

theorem reachF_congr {o o2 : Store} : ∀ (d : Nat) (vs : List AV) (acc : List Nat), (∀ j ∈ reachF o d vs acc, o2[j]? = o[j]?) → reachF o2 d vs acc = reachF o d vs acc
  | 0, vs, acc, _ => by cases vs <;> simp [reachF]
  | d + 1, [], acc, _ => by simp [reachF]
  | d + 1, v :: vs, acc, h => by
    rw [reachF_cons] at h
    rw [reachF_cons, reachF_cons]
    have hv : ∀ id, (∀ j ∈ visitR o d id acc, o2[j]? = o[j]?) → visitR o2 d id acc = visitR o d id acc := by
      intro id hj
      have h0 := hj id (visitR_mem o d id acc)
      unfold visitR at hj ⊢
      split
      · rfl
      · rename_i hn
        rw [if_neg hn] at hj
        rw [h0]
        cases ho : o[id]? with
        | none => rfl
        | some x =>
          rw [ho] at hj
          cases x with
          | dead => rfl
          | cells cs e sz pu =>
            cases pu with
            | true => rfl
            | false => exact reachF_congr d _ _ hj
          | map es kt pu =>
            cases pu with
            | true => rfl
            | false => exact reachF_congr d _ _ hj
    have hacc : stepR o2 d v acc = stepR o d v acc := by
      have hm := fun j hj => h j (reachF_mono o d vs _ j hj)
      cases v with
      | agg cs => exact reachF_congr d cs acc hm
      | tup cs => exact reachF_congr d cs acc hm
      | ptr id _ _ => exact hv id hm
      | os id _ _ _ => exact hv id hm
      | mp id => exact hv id hm
      | fn f a b =>
        have h1 : reachF o2 d a acc = reachF o d a acc := reachF_congr d a acc fun j hj => hm j (reachF_mono o d b _ j hj)
        have h2 : reachF o2 d b (reachF o d a acc) = reachF o d b (reachF o d a acc) := reachF_congr d b _ hm
        simp only [stepR, h1, h2]
      | _ => rfl
    rw [hacc]
    exact reachF_congr d vs _ h

theorem subStore_congr {o o2 : Store} {ids : List Nat} : ∀ {r : List Nat}, (∀ j ∈ r, o2[j]? = o[j]?) → subStore o2 ids r = subStore o ids r
  | [], _ => rfl
  | i :: r, h => by
    simp only [subStore]
    rw [h i (by simp), subStore_congr fun j hj => h j (by simp [hj])]

theorem putBack_eq : ∀ (ids : List Nat) (o o2 X : Store) (j : Nat), o2.length = o.length → ids.length = X.length → (j ∈ ids ∨ o2[j]? = o[j]?) → (putBack o2 ids X)[j]? = (putBack o ids X)[j]?
  | [], o, o2, X, j, _, _, h => by cases X <;> simpa [putBack] using h
  | i :: r, o, o2, [], j, _, hl, _ => by simp at hl
  | i :: r, o, o2, x :: l, j, hlen, hl, h => by
    simp only [putBack]
    refine putBack_eq r _ _ l j (by simp [hlen]) (by simpa using hl) ?_
    by_cases hji : j = i
    · right; subst hji; simp [List.getElem?_set, hlen]
    · rcases h with h | h
      · exact .inl ((List.mem_cons.1 h).resolve_left hji)
      · right; rw [List.getElem?_set_ne (Ne.symm hji), List.getElem?_set_ne (Ne.symm hji)]; exact h

theorem callOwn_loc {f : FuncId} {args : List AV} {o o' : Store} {r : AV} (h : callOwn call f args o = some (r, o')) :
    o.length ≤ o'.length ∧ (∀ j, j < o.length → j ∉ reachF o reachD args [] → o'[j]? = o[j]?) ∧
    ∀ o2 : Store, o2.length = o.length → (∀ j ∈ reachF o reachD args [], o2[j]? = o[j]?) → ∃ o2', callOwn call f args o2 = some (r, o2') ∧
      reachF o2 reachD args [] = reachF o reachD args [] ∧ ∀ j, (j ∈ reachF o reachD args [] ∨ o.length ≤ j) → o2'[j]? = o'[j]? := by
  have hcong : ∀ o2 : Store, (∀ j ∈ reachF o reachD args [], o2[j]? = o[j]?) → reachF o2 reachD args [] = reachF o reachD args [] := fun o2 h => reachF_congr reachD args [] h
  have hsub : ∀ o2 : Store, (∀ j ∈ reachF o reachD args [], o2[j]? = o[j]?) → subStore o2 (reachF o reachD args []) (reachF o reachD args []) = subStore o (reachF o reachD args []) (reachF o reachD args []) := fun o2 h => subStore_congr h
  unfold callOwn at h
  simp only at h
  generalize hids : reachF o reachD args [] = ids at h hcong hsub
  split at h
  · rename_i args' small ha hs
    split at h
    · rename_i r0 small' hcall
      split at h
      · cases h
      · rename_i hcond
        split at h
        · rename_i r' big hr hb
          simp only [Option.some.injEq, Prod.mk.injEq] at h
          obtain ⟨rfl, rfl⟩ := h
          simp only [not_or] at hcond
          have hbl := renS_length hb
          have hl : ids.length = (big.take ids.length).length := by simp; omega
          refine ⟨by simp [putBack_length], fun j hj hn => ?_, fun o2 hlen hag => ?_⟩
          · rw [List.getElem?_append_left (by rw [putBack_length]; exact hj), putBack_ne _ _ _ _ hn]
          · refine ⟨putBack o2 ids (big.take ids.length) ++ big.drop ids.length, ?_, hcong o2 hag, fun j hj => ?_⟩
            · unfold callOwn
              simp only
              rw [hcong o2 hag, ha, hsub o2 hag, hs]
              simp only
              rw [hcall]
              simp only
              rw [if_neg (by simp only [not_or]; exact hcond), hlen, hr, hb]
            · by_cases hjl : j < o.length
              · rw [List.getElem?_append_left (by rw [putBack_length, hlen]; exact hjl), List.getElem?_append_left (by rw [putBack_length]; exact hjl)]
                exact putBack_eq ids o o2 _ j hlen hl (.inl (hj.resolve_right (by omega)))
              · rw [List.getElem?_append_right (by rw [putBack_length, hlen]; omega), List.getElem?_append_right (by rw [putBack_length]; omega), putBack_length, putBack_length, hlen]
        · cases h
    · cases h
  · cases h

end

end Go.Vi

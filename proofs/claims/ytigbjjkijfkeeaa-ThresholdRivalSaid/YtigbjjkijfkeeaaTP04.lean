/-
  The abstract interpreter: a region whose order is open.
  Conditions: none.
-/
import Derived.Test.YtigbjjkijfkeeaaTP03
import Derived.LoopN
import Derived.Tactics
set_option linter.unusedVariables false
set_option linter.unusedSimpArgs false
namespace Go.Vi

section
variable {call : Oracle} {ρ ρ2 : Operand → AV} {nid : Nat}

theorem wrt_tch {iop : IOp} {o : Store} {j : Nat} (h : j ∈ wrt iop ρ o nid) : j ∈ tch iop ρ o nid := by
  cases iop <;> simp only [wrt, tch, List.not_mem_nil] at h ⊢ <;> try exact h
  case append => simp only [List.mem_cons, List.mem_append] at h ⊢; rcases h with h | h <;> simp [h]
  case call f args own => cases own <;> simp only [List.not_mem_nil] at h ⊢; exact h
  case callv f args own => cases own <;> simp only [List.not_mem_nil] at h ⊢; exact h

theorem wrt_nil {iop : IOp} {o : Store} (h : iop.cls = 0 ∨ iop.cls = 1) : wrt iop ρ o nid = [] := by
  cases iop <;> try (simp [IOp.cls] at h; done)
  case call f args own => cases own <;> simp [IOp.cls] at h; rfl
  case callv f args own => cases own <;> simp [IOp.cls] at h; rfl
  all_goals rfl

theorem tch_nil {iop : IOp} {o : Store} (h : iop.cls = 0) : tch iop ρ o nid = [] := by
  cases iop <;> try (simp [IOp.cls] at h; done)
  case call f args own => cases own <;> simp [IOp.cls] at h
  case callv f args own => cases own <;> simp [IOp.cls] at h
  all_goals rfl

theorem cls_cases (iop : IOp) : iop.cls = 0 ∨ iop.cls = 1 ∨ iop.cls = 2 ∨ iop.cls = 3 := by
  cases iop <;> try (simp [IOp.cls]; done)
  case call f args own => cases own <;> simp [IOp.cls]
  case callv f args own => cases own <;> simp [IOp.cls]

/-- What an operation may change. -/
def ModO (iop : IOp) (W : List Nat) (n j : Nat) : Prop := j ∈ W ∨ (iop.cls = 3 ∧ n ≤ j)

theorem eff_loc {iop : IOp} {o o' : Store} {v : AV} (he : effS call iop ρ o nid = some (v, o')) :
    o.length ≤ o'.length ∧ (iop.cls ≠ 3 → o'.length = o.length) ∧ (∀ j, ¬ ModO iop (wrt iop ρ o nid) o.length j → o'[j]? = o[j]?) ∧
    ∀ o2 : Store, (∀ j ∈ tch iop ρ o nid, o2[j]? = o[j]?) → (iop.cls = 3 → o2.length = o.length) →
      ∃ o2', effS call iop ρ o2 nid = some (v, o2') ∧ tch iop ρ o2 nid = tch iop ρ o nid ∧ wrt iop ρ o2 nid = wrt iop ρ o nid ∧ ∀ j, ModO iop (wrt iop ρ o nid) o.length j → o2'[j]? = o'[j]? := by
  rcases cls_cases iop with hc | hc | hc | hc
  · have := eff_pure_o hc he
    subst this
    refine ⟨Nat.le_refl _, fun _ => rfl, fun _ _ => rfl, fun o2 _ _ => ⟨o2, ?_, by rw [tch_nil hc, tch_nil hc], by rw [wrt_nil (.inl hc), wrt_nil (.inl hc)], fun j hj => ?_⟩⟩
    · rw [eff_pure hc o' o2, he]; rfl
    · rw [ModO, wrt_nil (.inl hc)] at hj; simp [hc] at hj
  · have := eff_reads_o hc he
    subst this
    refine ⟨Nat.le_refl _, fun _ => rfl, fun _ _ => rfl, fun o2 h _ => ⟨o2, ?_, (eff_reads (call := call) hc h).2, by rw [wrt_nil (.inr hc), wrt_nil (.inr hc)], fun j hj => ?_⟩⟩
    · rw [(eff_reads hc h).1, he]; rfl
    · rw [ModO, wrt_nil (.inr hc)] at hj; simp [hc] at hj
  · obtain ⟨id, x, hid, rfl, hk⟩ := eff_writes hc he
    refine ⟨by simp, fun _ => by simp, fun j hj => ?_, fun o2 h _ => ?_⟩
    · have : j ≠ id := fun hji => hj (.inl (hji ▸ hid))
      rw [List.getElem?_set_ne (Ne.symm this)]
    · obtain ⟨k1, k2, k3⟩ := hk o2 h
      refine ⟨_, k1, k2, k3, fun j hj => ?_⟩
      have hj : j ∈ wrt iop ρ o nid := hj.resolve_right (by simp [hc])
      have hjo := h j (wrt_tch hj)
      by_cases hji : id = j
      · subst hji
        have hlen : (id < o2.length) ↔ (id < o.length) := by
          rcases Nat.lt_or_ge id o2.length with g1 | g1 <;> rcases Nat.lt_or_ge id o.length with g2 | g2
          · simp [g1, g2]
          · rw [List.getElem?_eq_getElem g1, List.getElem?_eq_none g2] at hjo; cases hjo
          · rw [List.getElem?_eq_getElem g2, List.getElem?_eq_none g1] at hjo; cases hjo
          · omega
        rw [List.getElem?_set, List.getElem?_set]
        simp only [if_true]
        by_cases h1 : id < o.length
        · rw [if_pos h1, if_pos (hlen.2 h1)]
        · rw [if_neg h1, if_neg fun h2 => h1 (hlen.1 h2)]
      · rw [List.getElem?_set_ne hji, List.getElem?_set_ne hji]; exact hjo
  · have key : ∀ (f : FuncId) (args : List AV), callOwn call f args o = some (v, o') → wrt iop ρ o nid = reachF o reachD args [] → tch iop ρ o nid = reachF o reachD args [] →
        (∀ o2 : Store, effS call iop ρ o2 nid = callOwn call f args o2 ∧ tch iop ρ o2 nid = reachF o2 reachD args [] ∧ wrt iop ρ o2 nid = reachF o2 reachD args []) →
        o.length ≤ o'.length ∧ (iop.cls ≠ 3 → o'.length = o.length) ∧ (∀ j, ¬ ModO iop (wrt iop ρ o nid) o.length j → o'[j]? = o[j]?) ∧
        ∀ o2 : Store, (∀ j ∈ tch iop ρ o nid, o2[j]? = o[j]?) → (iop.cls = 3 → o2.length = o.length) →
        ∃ o2', effS call iop ρ o2 nid = some (v, o2') ∧ tch iop ρ o2 nid = tch iop ρ o nid ∧ wrt iop ρ o2 nid = wrt iop ρ o nid ∧ ∀ j, ModO iop (wrt iop ρ o nid) o.length j → o2'[j]? = o'[j]? := by
      intro f args hcall hw ht hg
      obtain ⟨c1, c2, c3⟩ := callOwn_loc hcall
      refine ⟨c1, fun h => absurd hc h, fun j hj => ?_, fun o2 h hl => ?_⟩
      · simp only [ModO, hc, true_and, not_or, Nat.not_le, hw] at hj
        exact c2 j hj.2 hj.1
      · rw [ht] at h
        obtain ⟨o2', d1, d2, d3⟩ := c3 o2 (hl hc) h
        obtain ⟨g1, g2, g3⟩ := hg o2
        refine ⟨o2', by rw [g1, d1], by rw [g2, d2, ht], by rw [g3, d2, hw], fun j hj => d3 j ?_⟩
        simp only [ModO, hc, true_and, hw] at hj
        exact hj
    cases iop <;> try (simp [IOp.cls] at hc; done)
    case call f args own =>
      cases own
      · simp [IOp.cls] at hc
      · simp only [effS, callA, if_true] at he
        exact key f (args.map ρ) he rfl rfl fun o2 => ⟨by simp [effS, callA], rfl, rfl⟩
    case callv f args own =>
      cases own
      · simp [IOp.cls] at hc
      · simp only [effS, callA, if_true] at he
        split at he
        · rename_i g first captured hf
          exact key g (first ++ args.map ρ ++ captured) he (by simp [wrt, hf]) (by simp [tch, hf]) fun o2 => ⟨by simp [effS, callA, hf], by simp [tch, hf], by simp [wrt, hf]⟩
        · cases he

theorem map_rho {l : List Operand} (h : ∀ x ∈ l, ρ2 x = ρ x) : l.map ρ2 = l.map ρ := List.map_congr_left h

theorem eff_rho {iop : IOp} (h : ∀ x ∈ iop.opds, ρ2 x = ρ x) (o : Store) : effS call iop ρ2 o nid = effS call iop ρ o nid ∧ tch iop ρ2 o nid = tch iop ρ o nid ∧ wrt iop ρ2 o nid = wrt iop ρ o nid := by
  cases iop
  case build z ps =>
    have : (ps.map fun p => (p.1, p.2.1, ρ2 p.2.2)) = ps.map fun p => (p.1, p.2.1, ρ p.2.2) := List.map_congr_left fun p hp => by rw [h p.2.2 (by simp only [IOp.opds]; exact List.mem_map_of_mem (f := fun p : Nat × Nat × Operand => p.2.2) hp)]
    simp only [effS, tch, wrt, this, and_self]
  case mkrow z len ps e sz =>
    have : (ps.map fun p => (p.1, sz, ρ2 p.2)) = ps.map fun p => (p.1, sz, ρ p.2) := List.map_congr_left fun p hp => by rw [h p.2 (by simp only [IOp.opds]; exact List.mem_map_of_mem (f := fun p : Nat × Operand => p.2) hp)]
    simp only [effS, tch, wrt, this, and_self]
  case mkimm z len ps e sz =>
    have : (ps.map fun p => (p.1, sz, ρ2 p.2)) = ps.map fun p => (p.1, sz, ρ p.2) := List.map_congr_left fun p hp => by rw [h p.2 (by simp only [IOp.opds]; exact List.mem_map_of_mem (f := fun p : Nat × Operand => p.2) hp)]
    simp only [effS, tch, wrt, this, and_self]
  case call f args own =>
    have := map_rho h
    simp only [IOp.opds] at this
    cases own <;> simp only [effS, tch, wrt, this, and_self]
  case callv f args own =>
    have h1 : args.map ρ2 = args.map ρ := map_rho fun x hx => h x (by simp [IOp.opds, hx])
    have h2 := h f (by simp [IOp.opds])
    cases own <;> simp only [effS, tch, wrt, h1, h2, and_self]
  case mkfn f a b =>
    have h1 : a.map ρ2 = a.map ρ := map_rho fun x hx => h x (by simp [IOp.opds, hx])
    have h2 : b.map ρ2 = b.map ρ := map_rho fun x hx => h x (by simp [IOp.opds, hx])
    simp only [effS, tch, wrt, h1, h2, and_self]
  case slice sz x lo hi =>
    have h1 : lo.map ρ2 = lo.map ρ := by cases lo <;> simp [IOp.opds] at h ⊢; exact h.2.1
    have h2 : hi.map ρ2 = hi.map ρ := by cases hi <;> simp [IOp.opds] at h ⊢; first | exact h.2.2 | (cases lo <;> simp at h <;> simp [h])
    have h3 := h x (by simp [IOp.opds])
    simp only [effS, tch, wrt, h1, h2, h3, and_self]
  case sliceStr x lo hi =>
    have h1 : lo.map ρ2 = lo.map ρ := by cases lo <;> simp [IOp.opds] at h ⊢; exact h.2.1
    have h2 : hi.map ρ2 = hi.map ρ := by cases hi <;> simp [IOp.opds] at h ⊢; first | exact h.2.2 | (cases lo <;> simp at h <;> simp [h])
    have h3 := h x (by simp [IOp.opds])
    simp only [effS, tch, wrt, h1, h2, h3, and_self]
  all_goals
    simp only [IOp.opds, List.mem_cons, List.not_mem_nil, or_false, forall_eq_or_imp, forall_eq] at h
    simp [effS, tch, wrt, h]
end

/-! ### one operation of a region -/

section
variable {call : Oracle} {base : Nat}

/-- What the operation touches and may write, where it stands. -/
def entry (base : Nat) (i : IOper) (st : St) : List Nat × List Nat :=
  match wantA st.env i.guard with
  | some true => (tch i.op (evA st.env) st.o (base + i.nid), wrt i.op (evA st.env) st.o (base + i.nid))
  | _ => ([], [])

theorem entry_sub {i : IOper} {st : St} {j : Nat} (h : j ∈ (entry base i st).2) : j ∈ (entry base i st).1 := by
  unfold entry at h ⊢
  split at h
  · rename_i hw; exact wrt_tch h
  · simp at h

theorem evA_reads {i : IOper} {e e2 : EnvA} (h : ∀ s ∈ i.reads, getE e2 s = getE e s) : (∀ x ∈ i.op.opds, evA e2 x = evA e x) ∧ wantA e2 i.guard = wantA e i.guard := by
  constructor
  · intro x hx
    cases x with
    | tmp t =>
      refine h t ?_
      simp only [IOper.reads, List.mem_append]
      left
      exact List.mem_filterMap.2 ⟨.tmp t, hx, rfl⟩
    | _ => rfl
  · unfold wantA
    cases hg : i.guard with
    | none => rfl
    | some g =>
      obtain ⟨a, b⟩ := g
      cases a with
      | none => rfl
      | some s => simp only; rw [h s (by simp [IOper.reads, hg])]

theorem step_loc {i : IOper} {st st' : St} (hr : runOp call base i st = some st') :
    ∃ v, (∀ s, getE st'.env s = if i.dst = some s then v else getE st.env s) ∧ st.o.length ≤ st'.o.length ∧ (i.op.cls ≠ 3 → st'.o.length = st.o.length) ∧
      (∀ j, ¬ ModO i.op (entry base i st).2 st.o.length j → st'.o[j]? = st.o[j]?) ∧
      ∀ st2 : St, (∀ s ∈ i.reads, getE st2.env s = getE st.env s) → (∀ j ∈ (entry base i st).1, st2.o[j]? = st.o[j]?) → (i.op.cls = 3 → st2.o.length = st.o.length) →
        ∃ st2', runOp call base i st2 = some st2' ∧ (∀ s, getE st2'.env s = if i.dst = some s then v else getE st2.env s) ∧ entry base i st2 = entry base i st ∧
          ∀ j, ModO i.op (entry base i st).2 st.o.length j → st2'.o[j]? = st'.o[j]? := by
  unfold runOp at hr
  split at hr
  · cases hr
  · rename_i hw
    injection hr with hr
    subst hr
    refine ⟨.tup [], fun s => getE_put _ _ _ _, Nat.le_refl _, fun _ => rfl, fun _ _ => rfl, fun st2 he _ hl => ?_⟩
    obtain ⟨h1, h2⟩ := evA_reads he
    refine ⟨⟨putE st2.env i.dst (.tup []), st2.o⟩, ?_, fun s => getE_put _ _ _ _, ?_, fun j hj => ?_⟩
    · unfold runOp; rw [h2, hw]
    · unfold entry; rw [h2, hw]
    · unfold entry at hj
      rw [hw] at hj
      simp only [ModO, List.not_mem_nil, false_or] at hj
      have hll := hl hj.1
      simp only
      rw [List.getElem?_eq_none (by omega), List.getElem?_eq_none (by omega)]
  · rename_i hw
    split at hr
    · rename_i v o' he
      injection hr with hr
      subst hr
      rw [eff_eq] at he
      obtain ⟨l1, l2, l3, l4⟩ := eff_loc he
      have hen : entry base i st = (tch i.op (evA st.env) st.o (base + i.nid), wrt i.op (evA st.env) st.o (base + i.nid)) := by unfold entry; rw [hw]
      rw [hen]
      refine ⟨v, fun s => getE_put _ _ _ _, l1, l2, l3, fun st2 hee hag hl => ?_⟩
      obtain ⟨h1, h2⟩ := evA_reads hee
      obtain ⟨o2', m1, m2, m3, m4⟩ := l4 st2.o hag hl
      obtain ⟨r1, r2, r3⟩ := eff_rho (call := call) (nid := base + i.nid) h1 st2.o
      refine ⟨⟨putE st2.env i.dst v, o2'⟩, ?_, fun s => getE_put _ _ _ _, ?_, m4⟩
      · unfold runOp
        rw [h2, hw]
        simp only
        rw [eff_eq, r1, m1]
      · unfold entry
        rw [h2, hw]
        simp only
        rw [r2, r3, m2, m3]
    · cases hr

/-- Two states that cannot be told apart. -/
def StEq (a b : St) : Prop := (∀ s, getE a.env s = getE b.env s) ∧ a.o = b.o

theorem StEq.refl (a : St) : StEq a a := ⟨fun _ => rfl, rfl⟩
theorem StEq.trans {a b c : St} (h : StEq a b) (k : StEq b c) : StEq a c := ⟨fun s => (h.1 s).trans (k.1 s), h.2.trans k.2⟩
theorem StEq.symm {a b : St} (h : StEq a b) : StEq b a := ⟨fun s => (h.1 s).symm, h.2.symm⟩

theorem StEq.run {i : IOper} {a b a' : St} (h : StEq a b) (hr : runOp call base i a = some a') : ∃ b', runOp call base i b = some b' ∧ StEq a' b' ∧ entry base i b = entry base i a := by
  have h1 : evA b.env = evA a.env := by
    funext x
    cases x with
    | tmp t => exact (h.1 t).symm
    | _ => rfl
  have h2 : wantA b.env i.guard = wantA a.env i.guard := by
    cases hg : i.guard with
    | none => rfl
    | some g =>
      obtain ⟨c, d⟩ := g
      cases c with
      | none => rfl
      | some s => simp only [wantA]; rw [h.1]
  have hput : ∀ (v : AV) (s : Nat), getE (putE a.env i.dst v) s = getE (putE b.env i.dst v) s := by
    intro v s
    simp only [getE_put]
    by_cases hd : i.dst = some s
    · rw [if_pos hd, if_pos hd]
    · rw [if_neg hd, if_neg hd]; exact h.1 s
  have he : entry base i b = entry base i a := by unfold entry; rw [h2, h1, h.2]
  unfold runOp at hr ⊢
  rw [h2, h1, ← h.2]
  split at hr
  · cases hr
  · injection hr with hr; subst hr
    exact ⟨_, rfl, ⟨hput _, rfl⟩, he⟩
  · split at hr
    · injection hr with hr; subst hr
      exact ⟨_, rfl, ⟨hput _, rfl⟩, he⟩
    · cases hr

/-- What two operations touched does not meet. -/
def RelT (n0 : Nat) (y : IOper) (ty : List Nat × List Nat) (x : IOper) (tx : List Nat × List Nat) : Prop :=
  apartT y x = true ∧ (∀ j ∈ ty.2, j ∉ tx.1) ∧ (∀ j ∈ tx.2, j ∉ ty.1) ∧ (y.op.cls = 3 → x.op.cls ≠ 3 ∧ ∀ j ∈ tx.1, j < n0) ∧ (x.op.cls = 3 → ∀ j ∈ ty.1, j < n0)

theorem apartT_spec {y x : IOper} (h : apartT y x = true) : (∀ d, y.dst = some d → d ∉ x.reads) ∧ (∀ d, x.dst = some d → d ∉ y.reads) ∧ ∀ d, y.dst = some d → x.dst ≠ some d := by
  unfold apartT at h
  simp only [Bool.and_eq_true] at h
  obtain ⟨⟨h1, h2⟩, h3⟩ := h
  refine ⟨fun d hd => ?_, fun d hd => ?_, fun d hd hx => ?_⟩
  · rw [hd] at h1; simpa [disj] using h1
  · rw [hd] at h2; simpa [disj] using h2
  · rw [hd, hx] at h3; simp at h3

theorem swap {n0 : Nat} {y x : IOper} {st s1 s2 : St} (hy : runOp call base y st = some s1) (hx : runOp call base x s1 = some s2) (hn : n0 ≤ st.o.length) (hR : RelT n0 y (entry base y st) x (entry base x s1)) :
    ∃ s1' s2', runOp call base x st = some s1' ∧ runOp call base y s1' = some s2' ∧ StEq s2 s2' ∧ entry base x st = entry base x s1 ∧ entry base y s1' = entry base y st := by
  obtain ⟨hap, r1, r2, r3, r4⟩ := hR
  obtain ⟨a1, a2, a3⟩ := apartT_spec hap
  obtain ⟨vy, y1, y2, y3, y4, y5⟩ := step_loc hy
  obtain ⟨vx, x1, x2, x3, x4, x5⟩ := step_loc hx
  -- the second one first
  obtain ⟨s1', p1, p2, p3, p4⟩ := x5 st (fun s hs => by
      rw [y1 s, if_neg fun hd => a1 s hd hs]) (fun j hj => by
      rw [y4 j]
      rintro (hw | ⟨hc, hl⟩)
      · exact r1 j hw hj
      · have := (r3 hc).2 j hj; omega) (fun hc => by
      rw [y3 fun hc2 => (r3 hc2).1 hc])
  obtain ⟨vx', q1, q2, q3, q4, _⟩ := step_loc p1
  obtain ⟨s2', z1, z2, z3, z4⟩ := y5 s1' (fun s hs => by
      rw [p2 s, if_neg fun hd => a2 s hd hs]) (fun j hj => by
      rw [q4 j]
      rw [p3]
      rintro (hw | ⟨hc, hl⟩)
      · exact r2 j hw hj
      · have := r4 hc j hj; omega) (fun hc => by
      rw [q3 (r3 hc).1])
  obtain ⟨vy', b1, b2, b3, b4, _⟩ := step_loc z1
  refine ⟨s1', s2', p1, z1, ⟨fun s => ?_, ?_⟩, p3.symm ▸ rfl, z3⟩
  · rw [x1 s, z2 s, p2 s, y1 s]
    by_cases h1 : x.dst = some s
    · rw [if_pos h1, if_neg fun h2 => a3 s h2 h1, if_pos h1]
    · rw [if_neg h1, if_neg h1]
  · apply List.ext_getElem?
    intro j
    -- lengths
    by_cases hmx : ModO x.op (entry base x s1).2 s1.o.length j
    · -- changed by the second
      have hny : ¬ ModO y.op (entry base y s1').2 s1'.o.length j := by
        rw [z3]
        rintro (hw | ⟨hc, hl⟩)
        · rcases hmx with hw2 | ⟨hc2, hl2⟩
          · exact r1 j hw (entry_sub hw2)
          · have := r4 hc2 j (entry_sub hw); omega
        · have hx3 := (r3 hc).1
          rcases hmx with hw2 | ⟨hc2, _⟩
          · have := (r3 hc).2 j (entry_sub hw2)
            omega
          · exact hx3 hc2
      rw [b4 j hny, p4 j hmx]
    · by_cases hmy : ModO y.op (entry base y st).2 st.o.length j
      · rw [x4 j hmx, z4 j hmy]
      · -- changed by none
        rw [x4 j hmx, y4 j hmy]
        have hny : ¬ ModO y.op (entry base y s1').2 s1'.o.length j := by
          rw [z3]
          rintro (hw | ⟨hc, hl⟩)
          · exact hmy (.inl hw)
          · exact hmy (.inr ⟨hc, by omega⟩)
        have hnx : ¬ ModO x.op (entry base x st).2 st.o.length j := by
          rw [p3]
          rintro (hw | ⟨hc, hl⟩)
          · exact hmx (.inl hw)
          · have : s1.o.length = st.o.length := y3 fun hc2 => (r3 hc2).1 hc
            exact hmx (.inr ⟨hc, by omega⟩)
        rw [b4 j hny, q4 j hnx]

/-- What the operations of a run touched. -/
def ents (call : Oracle) (base : Nat) : List IOper → St → List (List Nat × List Nat)
  | [], _ => []
  | i :: r, st => entry base i st :: match runOp call base i st with
    | some st' => ents call base r st'
    | none => []

theorem StEq.runs {l : List IOper} : ∀ {a b a' : St}, StEq a b → runOps call base l a = some a' → ∃ b', runOps call base l b = some b' ∧ StEq a' b' ∧ ents call base l b = ents call base l a := by
  induction l with
  | nil => intro a b a' h hr; simp only [runOps, Option.some.injEq] at hr; subst hr; exact ⟨b, rfl, h, rfl⟩
  | cons i l ih =>
    intro a b a' h hr
    simp only [runOps] at hr
    split at hr
    · rename_i a1 h1
      obtain ⟨b1, k1, k2, k3⟩ := h.run h1
      obtain ⟨b', m1, m2, m3⟩ := ih k2 hr
      refine ⟨b', by simp only [runOps, k1, m1], m2, ?_⟩
      simp only [ents, k1, h1, k3, m3]
    · cases hr

theorem runOps_len {l : List IOper} : ∀ {st st' : St}, runOps call base l st = some st' → st.o.length ≤ st'.o.length ∧ (ents call base l st).length = l.length := by
  induction l with
  | nil => intro st st' h; simp only [runOps, Option.some.injEq] at h; subst h; simp [ents]
  | cons i l ih =>
    intro st st' h
    simp only [runOps] at h
    split at h
    · rename_i s1 h1
      obtain ⟨_, _, h2, _⟩ := step_loc h1
      obtain ⟨i1, i2⟩ := ih h
      exact ⟨Nat.le_trans h2 i1, by simp [ents, h1, i2]⟩
    · cases h

/-- An operation is run ahead of those that it stands apart from. -/
theorem front {n0 : Nat} {x : IOper} {post : List IOper} : ∀ (pre : List IOper) {st s : St}, runOps call base (pre ++ x :: post) st = some s → n0 ≤ st.o.length →
    (∀ (k : Nat) (y : IOper) (ty tx : List Nat × List Nat), pre[k]? = some y → (ents call base (pre ++ x :: post) st)[k]? = some ty → (ents call base (pre ++ x :: post) st)[pre.length]? = some tx → RelT n0 y ty x tx) →
    ∃ s1 s', runOp call base x st = some s1 ∧ runOps call base (pre ++ post) s1 = some s' ∧ StEq s s' ∧ (ents call base (pre ++ x :: post) st)[pre.length]? = some (entry base x st) ∧
      ents call base (pre ++ post) s1 = (ents call base (pre ++ x :: post) st).eraseIdx pre.length
  | [], st, s, hr, _, _ => by
    simp only [List.nil_append, runOps] at hr ⊢
    split at hr
    · rename_i s1 h1
      exact ⟨s1, s, h1, hr, StEq.refl s, by simp [ents], by simp [ents, h1]⟩
    · cases hr
  | y :: pre, st, s, hr, hn, hR => by
    simp only [List.cons_append, runOps] at hr
    split at hr
    · rename_i sy hy
      have hents : ents call base (y :: (pre ++ x :: post)) st = entry base y st :: ents call base (pre ++ x :: post) sy := by simp [ents, hy]
      obtain ⟨_, _, hly, _⟩ := step_loc hy
      obtain ⟨s1, s', i1, i2, i3, i4, i5⟩ := front pre hr (Nat.le_trans hn hly) fun k z tz tx hk h1 h2 => hR (k + 1) z tz tx (by simpa using hk) (by simp only [List.cons_append, hents]; simpa using h1) (by simp only [List.cons_append, hents]; simpa using h2)
      have hrel : RelT n0 y (entry base y st) x (entry base x sy) := hR 0 y _ _ (by simp) (by simp [hents]) (by simp only [List.cons_append, hents]; simpa using i4)
      obtain ⟨t1, t2, j1, j2, j3, j4, j5⟩ := swap hy i1 hn hrel
      obtain ⟨s'', k1, k2, k3⟩ := j3.runs i2
      refine ⟨t1, s'', j1, ?_, i3.trans k2, ?_, ?_⟩
      · simp only [List.cons_append, runOps, j2]; exact k1
      · simp only [List.cons_append, hents, List.length_cons, List.getElem?_cons_succ]; rw [i4, j4]
      · simp only [List.cons_append, hents, List.length_cons, List.eraseIdx_cons_succ, ents, j2, j5, k3, i5]
    · cases hr

end
end Go.Vi
/-
  The abstract interpreter: a region whose order is open.
  Conditions: none.
-/
namespace Go.Vi

/-! ### who runs ahead of whom -/

theorem ancStep_bits {acc : List Nat} {l : List Edge} {m : Nat} : ∀ {s : Nat}, (l.foldl (ancStep acc) s).testBit m = true → s.testBit m = true ∨ ∃ e ∈ l, Region.binds .any e = true ∧ (m = e.on ∨ (acc.getD e.on 0).testBit m = true) := by
  induction l with
  | nil => intro s h; exact .inl h
  | cons e l ih =>
    intro s h
    simp only [List.foldl_cons] at h
    rcases ih h with h1 | ⟨e', he, h1, h2⟩
    · unfold ancStep at h1
      split at h1
      · rename_i hb
        simp only [Nat.testBit_or, Bool.or_eq_true, Nat.testBit_two_pow, decide_eq_true_eq] at h1
        rcases h1 with h1 | h1 | h1
        · exact .inl h1
        · exact .inr ⟨e, by simp, hb, .inl h1.symm⟩
        · exact .inr ⟨e, by simp, hb, .inr h1⟩
      · exact .inl h1
    · exact .inr ⟨e', by simp [he], h1, h2⟩

def ancF (acc : List Nat) (o : Oper) : Nat := o.after.toList.foldl (ancStep acc) 0

theorem ancGo_spec : ∀ (L : List Oper) (acc : List Nat), ∃ r, L.foldl (fun acc o => acc ++ [ancF acc o]) acc = acc ++ r ∧ r.length = L.length ∧
    ∀ (k : Nat) (o : Oper), L[k]? = some o → r[k]? = some (ancF (acc ++ r.take k) o)
  | [], acc => ⟨[], by simp, rfl, by simp⟩
  | o :: L, acc => by
    obtain ⟨r, h1, h2, h3⟩ := ancGo_spec L (acc ++ [ancF acc o])
    refine ⟨ancF acc o :: r, by simp [h1], by simp [h2], fun k o' hk => ?_⟩
    cases k with
    | zero => simp at hk; subst hk; simp
    | succ k =>
      simp only [List.getElem?_cons_succ] at hk ⊢
      rw [h3 k o' hk]
      simp

theorem ancs_bits {ops : Array Oper} {k m : Nat} {o : Oper} (ho : ops[k]? = some o) (h : ((ancs ops).getD k 0).testBit m = true) :
    ∃ e ∈ o.after, Region.binds .any e = true ∧ (m = e.on ∨ ((ancs ops).getD e.on 0).testBit m = true) := by
  obtain ⟨r, h1, h2, h3⟩ := ancGo_spec ops.toList []
  have han : ancs ops = r := by
    unfold ancs
    have := h1
    simp only [ancF, List.nil_append] at this
    exact this
  rw [han] at h ⊢
  have hk := h3 k o (by simpa using ho)
  rw [List.getD_eq_getElem?_getD, hk] at h
  simp only [Option.getD_some, List.nil_append] at h
  rcases ancStep_bits h with h0 | ⟨e, he, hb, hm⟩
  · simp at h0
  · refine ⟨e, by simpa using he, hb, hm.imp_right fun hm => ?_⟩
    rw [List.getD_eq_getElem?_getD] at hm ⊢
    rw [List.getElem?_take] at hm
    split at hm
    · exact hm
    · simp at hm

theorem edgesB_spec : ∀ (L : List Oper) (i : Nat), edgesB i L = true → ∀ (k : Nat) (o : Oper), L[k]? = some o → ∀ e ∈ o.after, Region.binds .any e = true → e.on < i + k
  | [], i, _, k, o, hk, _, _, _ => by simp at hk
  | o :: L, i, h, k, o', hk, e, he, hb => by
    simp only [edgesB, Bool.and_eq_true, List.all_eq_true] at h
    cases k with
    | zero =>
      simp at hk; subst hk
      have := h.1 e (by simpa using he)
      simpa [hb] using this
    | succ k =>
      have := edgesB_spec L (i + 1) h.2 k o' (by simpa using hk) e he hb
      omega

theorem swaps_spec {an : List Nat} : ∀ {l : List IOper}, swapsOk an l = true → ∀ (p q : Nat) (y x : IOper), p < q → l[p]? = some y → l[q]? = some x →
    (an.getD x.idx 0).testBit y.idx = true ∨ (apartT y x = true ∧ (freeM y x = true ∨ mayM y x = true))
  | [], _, p, q, y, x, _, hy, _ => by simp at hy
  | a :: r, h, p, q, y, x, hpq, hy, hx => by
    simp only [swapsOk, Bool.and_eq_true, List.all_eq_true] at h
    match q, hpq with
    | q + 1, hpq =>
      simp only [List.getElem?_cons_succ] at hx
      cases p with
      | zero =>
        simp at hy; subst hy
        have := h.1 x (List.mem_of_getElem? hx)
        simpa using this
      | succ p => exact swaps_spec h.2 p q y x (by omega) (by simpa using hy) hx

theorem pairs_spec {an : List Nat} : ∀ {l : List IOper} (p q : Nat) (y x : IOper), p < q → l[p]? = some y → l[q]? = some x → ¬ (an.getD x.idx 0).testBit y.idx = true → freeM y x = false → (y.idx, x.idx) ∈ pairsOf an l
  | [], p, q, y, x, _, hy, _, _, _ => by simp at hy
  | a :: r, p, q, y, x, hpq, hy, hx, hb, hf => by
    simp only [pairsOf, List.mem_append]
    match q, hpq with
    | q + 1, hpq =>
      simp only [List.getElem?_cons_succ] at hx
      cases p with
      | zero =>
        simp at hy; subst hy
        left
        refine List.mem_filterMap.2 ⟨x, List.mem_of_getElem? hx, ?_⟩
        rw [if_neg]
        simp only [Bool.or_eq_true, not_or]
        exact ⟨hb, by simp [hf]⟩
      | succ p => exact .inr (pairs_spec p q y x (by omega) (by simpa using hy) hx hb hf)

section
variable {P : Program} {A : Nat → Prop} {call : Oracle} {base : Nat}

theorem ents_entry : ∀ {l : List IOper} {st : St} {p : Nat} {x : IOper} {t : List Nat × List Nat}, l[p]? = some x → (ents call base l st)[p]? = some t → ∃ st', t = entry base x st'
  | [], st, p, x, t, hx, _ => by simp at hx
  | i :: l, st, p, x, t, hx, ht => by
    simp only [ents] at ht
    cases p with
    | zero => simp at hx ht; subst hx; exact ⟨st, ht.symm⟩
    | succ p =>
      simp only [List.getElem?_cons_succ] at hx ht
      split at ht
      · exact ents_entry hx ht
      · simp at ht

theorem trace_look : ∀ {l : List IOper} {st s : St} {p : Nat} {x : IOper} {t : List Nat × List Nat}, runOps call base l st = some s → (l.map (·.idx)).Nodup → l[p]? = some x → (ents call base l st)[p]? = some t → lookT (traceOps call base l st) x.idx = t
  | [], st, s, p, x, t, _, _, hx, _ => by simp at hx
  | i :: l, st, s, p, x, t, hr, hn, hx, ht => by
    simp only [runOps] at hr
    split at hr
    · rename_i s1 h1
      simp only [List.map_cons, List.nodup_cons] at hn
      have htr : traceOps call base (i :: l) st = (i.idx, entry base i st) :: traceOps call base l s1 := by
        simp only [traceOps, h1, entry]
        congr 1
        cases hw : wantA st.env i.guard with
        | none => rfl
        | some b => cases b <;> rfl
      rw [htr]
      simp only [ents, h1] at ht
      cases p with
      | zero => simp at hx ht; subst hx; simp [lookT, ht]
      | succ p =>
        simp only [List.getElem?_cons_succ] at hx ht
        have hne : i.idx ≠ x.idx := fun h => hn.1 (h ▸ List.mem_map_of_mem (f := fun i : IOper => i.idx) (List.mem_of_getElem? hx))
        simp only [lookT, beq_iff_eq, hne, if_false]
        exact trace_look hr hn.2 hx ht
    · cases hr

theorem entry_c0 {i : IOper} {st : St} (h : i.op.cls = 0) : entry base i st = ([], []) := by
  unfold entry
  split
  · rw [tch_nil h, wrt_nil (.inl h)]
  · rfl

theorem entry_c1 {i : IOper} {st : St} (h : i.op.cls = 1) : (entry base i st).2 = [] := by
  unfold entry
  split
  · simp only; rw [wrt_nil (.inr h)]
  · rfl

theorem apartL_spec {a b : List Nat} (h : apartL a b = true) : ∀ j ∈ a, j ∉ b := by
  intro j hj hb
  have := List.all_eq_true.1 h j hj
  simp at this
  exact this hb

theorem rel_of {n0 : Nat} {an : List Nat} {l : List IOper} {st s : St} (hr : runOps call base l st = some s) (hn : (l.map (·.idx)).Nodup) (hsw : swapsOk an l = true)
    (hchk : ((pairsOf an l).isEmpty || chkOk n0 (traceOps call base l st) (pairsOf an l)) = true) {p q : Nat} {y x : IOper} {ty tx : List Nat × List Nat} (hpq : p < q) (hy : l[p]? = some y) (hx : l[q]? = some x)
    (hty : (ents call base l st)[p]? = some ty) (htx : (ents call base l st)[q]? = some tx) : (an.getD x.idx 0).testBit y.idx = true ∨ RelT n0 y ty x tx := by
  rcases swaps_spec hsw p q y x hpq hy hx with h | ⟨h1, h2⟩
  · exact .inl h
  by_cases hb : (an.getD x.idx 0).testBit y.idx = true
  · exact .inl hb
  right
  obtain ⟨sy, ey⟩ := ents_entry hy hty
  obtain ⟨sx, ex⟩ := ents_entry hx htx
  cases hf : freeM y x with
  | true =>
    unfold freeM at hf
    simp only [Bool.or_eq_true, Bool.and_eq_true, beq_iff_eq] at hf
    rcases hf with (hf | hf) | ⟨hf, hf2⟩
    · have := entry_c0 (base := base) (st := sy) hf
      rw [this] at ey
      subst ey
      exact ⟨h1, by simp, by simp, fun h => (by rw [hf] at h; cases h), by simp⟩
    · have := entry_c0 (base := base) (st := sx) hf
      rw [this] at ex
      subst ex
      exact ⟨h1, by simp, by simp, fun _ => ⟨by rw [hf]; decide, by simp⟩, fun h => (by rw [hf] at h; cases h)⟩
    · have e1 := entry_c1 (base := base) (st := sy) hf
      have e2 := entry_c1 (base := base) (st := sx) hf2
      rw [← ey] at e1
      rw [← ex] at e2
      exact ⟨h1, by simp [e1], by simp [e2], fun h => (by rw [hf] at h; cases h), fun h => (by rw [hf2] at h; cases h)⟩
  | false =>
    have hm : mayM y x = true := h2.resolve_left (by simp [hf])
    have hp := pairs_spec p q y x hpq hy hx hb hf
    have hne : (pairsOf an l).isEmpty = false := by
      cases hq : pairsOf an l with
      | nil => rw [hq] at hp; simp at hp
      | cons _ _ => rfl
    rw [hne, Bool.false_or] at hchk
    have hc := List.all_eq_true.1 hchk _ hp
    simp only [trace_look hr hn hy hty, trace_look hr hn hx htx, Bool.and_eq_true, List.all_eq_true, decide_eq_true_eq] at hc
    obtain ⟨⟨⟨c1, c2⟩, c3⟩, c4⟩ := hc
    refine ⟨h1, apartL_spec c1, apartL_spec c2, fun h3 => ⟨fun h4 => ?_, c4⟩, fun _ => c3⟩
    unfold mayM at hm
    simp [h3, h4] at hm

/-! ### the region -/

theorem Sim.eq {nt : Nat} {w0 : World} {σ0 : Sig} {o0 : Store} {st st' : St} {a : Act} {w : World} {σ : Sig} (h : Sim A nt w0 σ0 o0 st a w σ) (he : StEq st st') : Sim A nt w0 σ0 o0 st' a w σ where
  sim := he.2 ▸ h.sim
  env := fun s => by rw [← he.1 s, ← he.2]; exact h.env s
  size := h.size
  defers := h.defers
  ext := he.2 ▸ h.ext

theorem Sim.drew {nt : Nat} {w0 : World} {σ0 : Sig} {o0 : Store} {st : St} {a : Act} {w : World} {σ : Sig} (h : Sim A nt w0 σ0 o0 st a w σ) : Sim A nt w0 σ0 o0 st a { w with drawn := w.drawn + 1 } σ := by
  have hE : Ext w σ st.o { w with drawn := w.drawn + 1 } σ st.o := ⟨Nat.le_refl _, fun _ _ h => ⟨rfl, h⟩, Nat.le_refl _, fun _ _ h => ⟨h, fun _ h => ⟨h, rfl⟩⟩, fun _ h => ⟨h, rfl⟩, rfl, rfl, rfl⟩
  exact ⟨⟨h.sim.len, h.sim.dist, h.sim.bnd, fun i x hx => (h.sim.obj i x hx).ext hE rfl fun _ _ _ => rfl, h.sim.av, h.sim.avb⟩, fun s => (h.env s).ext hE, h.size, h.defers, h.ext.trans hE⟩

theorem eraseIdx_mid {α : Type} (pre post : List α) (x : α) : pre ++ post = (pre ++ x :: post).eraseIdx pre.length := by
  rw [List.eraseIdx_append_of_length_le (Nat.le_refl _)]
  simp

/-- How the run stands when some of the operations are done. -/
structure OInv (P : Program) (nt : Nat) (fl : List Nat) (ops : Array Oper) (call : Oracle) (base n0 : Nat) (st2 : St) (l : List IOper) (listed : Array Bool) (st : St) : Prop where
  run : ∃ s, runOps call base l st = some s ∧ StEq st2 s
  len : n0 ≤ st.o.length
  rel : ∀ (p q : Nat) (y x : IOper) (ty tx : List Nat × List Nat), p < q → l[p]? = some y → l[q]? = some x → (ents call base l st)[p]? = some ty → (ents call base l st)[q]? = some tx → ((ancs ops).getD x.idx 0).testBit y.idx = true ∨ RelT n0 y ty x tx
  comp : ∀ x ∈ l, ∃ nid, compOper P nt fl ops nid x.idx = some x
  nodup : (l.map (·.idx)).Nodup
  sz : listed.size = ops.size
  lst : ∀ k, k < ops.size → (listed.getD k true = false ↔ ∃ x ∈ l, x.idx = k)
  closed : ∀ k m, listed.getD k false = true → ((ancs ops).getD k 0).testBit m = true → listed.getD m false = true

theorem getD_lt {listed : Array Bool} {k : Nat} (h : k < listed.size) (a b : Bool) : listed.getD k a = listed.getD k b := by
  simp [Array.getD_eq_getD_getElem?, h]

theorem draw_any {nt : Nat} {fl : List Nat} {ops : Array Oper} (hcall : OracleOK P call) (hed : edgesB 0 ops.toList = true) {n0 : Nat} {st2 : St} {w0 : World} {σ0 : Sig} {o0 : Store} {Q : Exit → Act → World → Prop}
    (hQ : ∀ a' w' σ', Sim A nt w0 σ0 o0 st2 a' w' σ' → Q .normal a' w') : ∀ (fuel : Nat) (l : List IOper) (listed : Array Bool) (st : St) (a : Act) (w : World) (σ : Sig), l.length ≤ fuel →
      OInv P nt fl ops call base n0 st2 l listed st → Sim A nt w0 σ0 o0 st a w σ → wpAny P .any ops Q fuel listed a w := by
  have hdone : ∀ (listed : Array Bool) (st : St) (a : Act) (w : World) (σ : Sig), OInv P nt fl ops call base n0 st2 [] listed st → Sim A nt w0 σ0 o0 st a w σ → Q .normal a w := by
    intro listed st a w σ hI hs
    obtain ⟨s, h1, h2⟩ := hI.run
    simp only [runOps, Option.some.injEq] at h1
    subst h1
    exact hQ _ _ _ (hs.eq h2.symm)
  have hprog : ∀ (l : List IOper) (listed : Array Bool) (st : St), OInv P nt fl ops call base n0 st2 l listed st → ∀ (k : Nat), (∃ x ∈ l, x.idx = k) → Region.ready .any ops listed ≠ [] := by
    intro l listed st hI k
    induction k using Nat.strongRecOn with
    | _ k ih =>
      rintro ⟨x, hx, rfl⟩
      obtain ⟨nid, hc⟩ := hI.comp x hx
      cases ho : ops[x.idx]? with
      | none => simp [compOper, ho] at hc
      | some o =>
        have hk : x.idx < ops.size := (Array.getElem?_eq_some_iff.1 ho).1
        by_cases hall : ∀ e ∈ o.after, Region.binds .any e = true → listed.getD e.on false = true
        · intro hnil
          have : x.idx ∈ Region.ready .any ops listed := mem_ready.2 ⟨(hI.lst _ hk).2 ⟨x, hx, rfl⟩, o, ho, hall⟩
          rw [hnil] at this
          simp at this
        · simp only [Classical.not_forall] at hall
          obtain ⟨e, he, hb, hn⟩ := hall
          have hlt := edgesB_spec ops.toList 0 hed x.idx o (by simpa using ho) e he hb
          simp only [Nat.zero_add] at hlt
          refine ih e.on hlt ((hI.lst e.on (by omega)).1 ?_)
          rw [getD_lt (by rw [hI.sz]; omega) true false]
          simpa using hn
  intro fuel
  induction fuel with
  | zero =>
    intro l listed st a w σ hl hI hs
    have : l = [] := List.eq_nil_of_length_eq_zero (by omega)
    subst this
    refine ⟨?_, hdone listed st a w σ hI hs⟩
    rw [List.eq_nil_iff_forall_not_mem]
    intro k hk
    obtain ⟨h0, o, ho, _⟩ := mem_ready.1 hk
    obtain ⟨x, hx, _⟩ := (hI.lst k (Array.getElem?_eq_some_iff.1 ho).1).1 h0
    simp at hx
  | succ fuel ih =>
    intro l listed st a w σ hl hI hs
    refine ⟨fun hnil => ?_, fun k hk => ?_⟩
    · cases l with
      | nil => exact hdone listed st a w σ hI hs
      | cons x l => exact absurd hnil (hprog _ listed st hI x.idx ⟨x, by simp, rfl⟩)
    · obtain ⟨h0, o, ho, hall⟩ := mem_ready.1 hk
      have hks : k < ops.size := (Array.getElem?_eq_some_iff.1 ho).1
      obtain ⟨x, hx, rfl⟩ := (hI.lst k hks).1 h0
      obtain ⟨pre, post, rfl⟩ := List.append_of_mem hx
      obtain ⟨s, hrun, hseq⟩ := hI.run
      have hanc : ∀ m, ((ancs ops).getD x.idx 0).testBit m = true → listed.getD m false = true := by
        intro m hm
        obtain ⟨e, he, hb, h1⟩ := ancs_bits ho hm
        rcases h1 with rfl | h1
        · exact hall e he hb
        · exact hI.closed _ _ (hall e he hb) h1
      obtain ⟨s1, s', f1, f2, f3, f4, f5⟩ := front (n0 := n0) pre hrun hI.len fun p y ty tx hp h1 h2 => by
        have hpl : p < pre.length := (List.getElem?_eq_some_iff.1 hp).1
        have hyl : (pre ++ x :: post)[p]? = some y := by rw [List.getElem?_append_left hpl]; exact hp
        rcases hI.rel p pre.length y x ty tx hpl hyl (by simp) h1 h2 with h3 | h3
        · exfalso
          have h4 := hanc _ h3
          obtain ⟨nid, hc⟩ := hI.comp y (List.mem_of_getElem? hyl)
          cases hoy : ops[y.idx]? with
          | none => simp [compOper, hoy] at hc
          | some oy =>
            have hys : y.idx < ops.size := (Array.getElem?_eq_some_iff.1 hoy).1
            have h5 := (hI.lst _ hys).2 ⟨y, List.mem_of_getElem? hyl, rfl⟩
            rw [getD_lt (by rw [hI.sz]; exact hys) true false, h4] at h5
            cases h5
        · exact h3
      obtain ⟨nid, hc⟩ := hI.comp x hx
      refine runOp_wp hcall hc f1 hs fun a' w' σ' hs' => ?_
      have hnd := hI.nodup
      have hmid := eraseIdx_mid pre post x
      have hget : ∀ (p : Nat) (y : IOper), (pre ++ post)[p]? = some y → (pre ++ x :: post)[if p < pre.length then p else p + 1]? = some y := by
        intro p y hp
        rw [hmid, List.getElem?_eraseIdx] at hp
        split <;> rename_i h <;> simpa [h] using hp
      have hent : ∀ (p : Nat) (t : List Nat × List Nat), (ents call base (pre ++ post) s1)[p]? = some t → (ents call base (pre ++ x :: post) st)[if p < pre.length then p else p + 1]? = some t := by
        intro p t hp
        rw [f5, List.getElem?_eraseIdx] at hp
        split <;> rename_i h <;> simpa [h] using hp
      obtain ⟨_, _, hlen1, _⟩ := step_loc f1
      refine ih (pre ++ post) _ s1 a' w' σ' (by simp at hl ⊢; omega) ⟨⟨s', f2, hseq.trans f3⟩, Nat.le_trans hI.len hlen1, fun p q y z ty tz hpq hy hz hty htz => ?_, fun y hy => hI.comp y ?_, ?_, by simp [hI.sz], fun k hk => ?_, fun k m hk hm => ?_⟩ hs'
      · refine hI.rel _ _ y z ty tz ?_ (hget p y hy) (hget q z hz) (hent p ty hty) (hent q tz htz)
        split <;> split <;> omega
      · rw [List.mem_append] at hy ⊢
        rcases hy with hy | hy <;> simp [hy]
      · rw [List.map_append, List.map_cons] at hnd
        rw [List.map_append]
        exact hnd.sublist (List.Sublist.append (List.Sublist.refl _) (List.sublist_cons_self _ _))
      · by_cases hkx : k = x.idx
        · subst hkx
          have h1 : (listed.setIfInBounds x.idx true).getD x.idx true = true := by simp
          rw [h1]
          constructor
          · intro h; cases h
          · rintro ⟨y, hy, hyx⟩
            exfalso
            rw [List.map_append, List.map_cons, List.nodup_append] at hnd
            obtain ⟨_, h2, h3⟩ := hnd
            rw [List.nodup_cons] at h2
            rcases List.mem_append.1 hy with hy | hy
            · exact h3 y.idx (List.mem_map_of_mem (f := fun i : IOper => i.idx) hy) x.idx (by simp) hyx
            · exact h2.1 (hyx ▸ List.mem_map_of_mem (f := fun i : IOper => i.idx) hy)
        · rw [getD_set_ne true (Ne.symm hkx), hI.lst k hk]
          constructor
          · rintro ⟨y, hy, rfl⟩
            refine ⟨y, ?_, rfl⟩
            rw [List.mem_append] at hy ⊢
            rcases hy with hy | hy
            · exact .inl hy
            · rcases List.mem_cons.1 hy with rfl | hy
              · exact absurd rfl hkx
              · exact .inr hy
          · rintro ⟨y, hy, rfl⟩
            refine ⟨y, ?_, rfl⟩
            rw [List.mem_append] at hy ⊢
            rcases hy with hy | hy <;> simp [hy]
      · by_cases hkx : k = x.idx
        · subst hkx
          exact getD_set_true (hanc m hm)
        · rw [getD_set_ne false (Ne.symm hkx)] at hk
          exact getD_set_true (hI.closed k m hk hm)

theorem nodupB_spec : ∀ {l : List Nat}, nodupB l = true → l.Nodup
  | [], _ => List.nodup_nil
  | a :: r, h => by
    simp only [nodupB, Bool.and_eq_true, Bool.not_eq_true', List.contains_eq_mem, decide_eq_false_iff_not] at h
    exact List.nodup_cons.2 ⟨h.1, nodupB_spec h.2⟩

theorem compOper_idx {nt : Nat} {fl : List Nat} {ops : Array Oper} {nid k : Nat} {x : IOper} (h : compOper P nt fl ops nid k = some x) : x.idx = k ∧ k < ops.size := by
  unfold compOper at h
  split at h
  · cases h
  · rename_i o ho
    split at h
    · obtain ⟨op, _, rfl⟩ := Option.map_eq_some_iff.1 h
      exact ⟨rfl, (Array.getElem?_eq_some_iff.1 ho).1⟩
    · cases h

theorem draw_wp (hcall : OracleOK P call) {nt : Nat} {fl : List Nat} {ops : Array Oper} {id k : Nat} {perm : List Nat} {l : List IOper} (hl : compOpers P nt fl ops 0 perm = some (l, k)) (hmix : P.follows .mixedOrders = true)
    (hlen : perm.length = ops.size) (hnd : nodupB perm = true) (hsw : swapsOk (ancs ops) l = true) (hed : edgesB 0 ops.toList = true) (hall : (List.range ops.size).all perm.contains = true)
    {st1 st2 : St} (hr : runOps call st1.o.length l ⟨st1.env, st1.o ++ deads k⟩ = some st2)
    (hchk : ((pairsOf (ancs ops) l).isEmpty || chkOk (st1.o ++ deads k).length (traceOps call st1.o.length l ⟨st1.env, st1.o ++ deads k⟩) (pairsOf (ancs ops) l)) = true)
    {w0 : World} {σ0 : Sig} {o0 : Store} {a : Act} {w : World} {σ : Sig} {Q : Exit → Act → World → Prop} (hs : Sim A nt w0 σ0 o0 ⟨st1.env, st1.o ++ deads k⟩ a w σ) (hQ : ∀ a' w' σ', Sim A nt w0 σ0 o0 st2 a' w' σ' → Q .normal a' w') : (Code.region id ops true).wp P Q a w := by
  obtain ⟨g1, g2⟩ := compOpers_get hl
  have hidx : l.map (·.idx) = perm := by
    apply List.ext_getElem?
    intro j
    rw [List.getElem?_map]
    cases hj : l[j]? with
    | none =>
      have := List.getElem?_eq_none_iff.1 hj
      rw [List.getElem?_eq_none (by omega)]; rfl
    | some x =>
      have hjl := (List.getElem?_eq_some_iff.1 hj).1
      have hp := List.getElem?_eq_getElem (l := perm) (i := j) (by omega)
      obtain ⟨nid, hc⟩ := g2 j x _ hj hp
      rw [hp]
      simp [(compOper_idx hc).1]
  have hnodup : (l.map (·.idx)).Nodup := by rw [hidx]; exact nodupB_spec hnd
  refine wp_region_any hmix (draw_any (fl := fl) (base := st1.o.length) (n0 := (st1.o ++ deads k).length) hcall hed hQ ops.size l _ ⟨st1.env, st1.o ++ deads k⟩ a _ σ (by omega) ⟨⟨st2, hr, StEq.refl _⟩, Nat.le_refl _, fun p q y x ty tx hpq hy hx hty htx => ?_, fun x hx => ?_, hnodup, by simp, fun j hj => ?_, fun j m hj => ?_⟩ hs.drew)
  · exact rel_of hr hnodup hsw hchk hpq hy hx hty htx
  · obtain ⟨j, hj⟩ := List.getElem?_of_mem hx
    have hjl := (List.getElem?_eq_some_iff.1 hj).1
    have hp := List.getElem?_eq_getElem (l := perm) (i := j) (by omega)
    obtain ⟨nid, hc⟩ := g2 j x _ hj hp
    exact ⟨nid, by rw [(compOper_idx hc).1]; exact hc⟩
  · have h1 : (Array.replicate ops.size false).getD j true = false := by simp [hj]
    rw [h1]
    refine ⟨fun _ => ?_, fun _ => rfl⟩
    have := List.all_eq_true.1 hall j (List.mem_range.2 hj)
    rw [List.contains_iff_mem, ← hidx] at this
    obtain ⟨x, hx, h2⟩ := List.mem_map.1 this
    exact ⟨x, hx, h2⟩
  · exfalso
    rw [Array.getD_eq_getD_getElem?, Array.getElem?_replicate] at hj
    split at hj <;> simp at hj
end
end Go.Vi
/-
  The abstract interpreter: hints, and the end of a call.
  Conditions: none.
-/
namespace Go.Vi
section
variable {P : Program} {A : Nat → Prop} {w w' : World} {σ σ' : Sig} {o o' : Store}

/-- A new empty row. -/
theorem SimO.fresh (hS : SimO A w σ o) (e : TypeId) (sz : Nat) (pu : Bool) : ∃ σ', SimO A w σ' (o ++ [.cells [] e sz pu]) ∧ Ext w σ o w σ' (o ++ [.cells [] e sz pu]) ∧ σ'[o.length]? = some none := by
  obtain ⟨h1, h2⟩ := hS.deads 1
  have hget : (o ++ Go.Vi.deads 1)[o.length]? = some .dead := by simp [Go.Vi.deads]
  have hset : (o ++ Go.Vi.deads 1).set o.length (.cells [] e sz pu) = o ++ [.cells [] e sz pu] := by
    rw [List.set_append_right _ _ (Nat.le_refl _)]
    simp [Go.Vi.deads]
  have hlen : o.length < (σ ++ List.replicate 1 none).length := by simp [hS.len]
  obtain ⟨k1, k2⟩ := h1.upd (w' := w) (x' := .cells [] e sz pu) (s' := none) hget (Nat.le_refl _) rfl rfl rfl (fun _ _ _ => rfl) (fun _ _ h => by cases h) trivial (fun hE => by
    simp only [ObjOK]
    exact ⟨fun _ => rfl, rfl, .inl ⟨by rw [List.getElem?_set_self hlen], trivial⟩⟩)
  rw [hset] at k1 k2
  exact ⟨_, k1, h2.trans k2, by rw [List.getElem?_set_self hlen]⟩

theorem rep_fresh {n : Nat} {e : TypeId} {sz : Nat} {pu : Bool} (ho : o[n]? = some (.cells [] e sz pu)) (hσ : σ[n]? = some none) : Rep A w σ o (.os n 0 0 0) (.slice none 0 0) := by
  simp only [Rep]
  refine ⟨⟨[], e, sz, pu, ho, Nat.le_refl _⟩, none, 0, rfl, Nat.le_refl _, fun sz' _ => ?_⟩
  unfold OsOk
  rw [hσ]
  exact ⟨rfl, rfl, rfl, rfl⟩

theorem Sim.own1 {nt : Nat} {w0 : World} {σ0 : Sig} {o0 : Store} {st : St} {a : Act} (h : Sim A nt w0 σ0 o0 st a w σ) (x : OwnH) : ∃ σ', Sim A nt w0 σ0 o0 (ownH1 x st) a w σ' := by
  obtain ⟨σ1, k1, k2, k3⟩ := h.sim.fresh x.e x.sz x.pu
  have hnew : (st.o ++ [AObj.cells [] x.e x.sz x.pu])[st.o.length]? = some (.cells [] x.e x.sz x.pu) := by simp
  unfold ownH1
  split
  · split
    · rename_i hs
      refine ⟨σ1, k1, fun s => ?_, h.size, h.defers, h.ext.trans k2⟩
      simp only [getE]
      cases hq : Nat.beq x.slot s with
      | true =>
        have := Nat.eq_of_beq_eq_true hq
        subst this
        have := h.env x.slot
        rw [hs] at this
        rw [rep_sc this]
        exact rep_fresh hnew k3
      | false => exact (h.env s).ext k2
    · exact ⟨σ, h⟩
  · rename_i k _
    split
    · rename_i id off tot hs
      split
      · rename_i cs e sz pu ho
        split
        · rename_i hc
          split
          · rename_i hcond
            obtain ⟨htot, rfl⟩ := hcond
            have hid : id < st.o.length := (List.getElem?_eq_some_iff.1 ho).1
            have hidσ : id < σ1.length := by rw [k1.len]; simp; omega
            have ho1 : (st.o ++ [AObj.cells [] x.e x.sz x.pu])[id]? = some (.cells cs e sz false) := by rw [List.getElem?_append_left hid]; exact ho
            have hkl : off + k < cs.length := (List.getElem?_eq_some_iff.1 hc).1
            obtain ⟨m1, m2⟩ := k1.upd (w' := w) (x' := .cells (cs.set (off + k) (.os st.o.length 0 0 0)) e sz false) (s' := σ1[id]) ho1 (Nat.le_refl _) rfl rfl rfl (fun _ _ _ => rfl)
              (fun b c hs => .inl ⟨c, by rw [List.getElem?_eq_getElem hidσ, hs]⟩) ⟨_, e, false, rfl, by simp, fun _ => List.getElem?_eq_getElem hidσ⟩ (fun hE => by
                have hob := k1.obj id _ ho1
                simp only [ObjOK] at hob ⊢
                obtain ⟨q1, q2, q3⟩ := hob
                refine ⟨fun h => (by cases h), ?_, ?_⟩
                · refine oneL_of.2 fun c hc2 => ?_
                  rcases List.mem_or_eq_of_mem_set hc2 with h1 | h1
                  · exact oneL_of.1 q2 c h1
                  · subst h1; rfl
                · rcases q3 with ⟨_, h0⟩ | ⟨b, cap, arr, r1, r2, r3, r4, r5, r6⟩
                  · subst h0; simp at hkl
                  · refine .inr ⟨b, cap, arr, ?_, r2, r3, r4, by simpa using r5, fun j c hj => ?_⟩
                    · rw [List.getElem?_set_self hidσ, ← List.getElem?_eq_getElem hidσ]; exact r1
                    · rw [List.getElem?_set] at hj
                      split at hj
                      · rename_i hjk
                        subst hjk
                        injection hj with hj; subst hj
                        obtain ⟨v, hv, hr⟩ := r6 _ _ hc
                        refine ⟨v, hv, ?_⟩
                        rw [rep_sc hr]
                        exact (rep_fresh hnew k3).ext hE
                      · obtain ⟨v, hv, hr⟩ := r6 j c hj
                        exact ⟨v, hv, hr.ext hE⟩)
            have hset : (st.o ++ [AObj.cells [] x.e x.sz x.pu]).set id (.cells (cs.set (off + k) (.os st.o.length 0 0 0)) e sz false) = (st.o.set id (.cells (cs.set (off + k) (.os st.o.length 0 0 0)) e sz false)) ++ [AObj.cells [] x.e x.sz x.pu] := by
              rw [List.set_append_left _ _ hid]
            rw [hset] at m1 m2
            exact ⟨_, m1, fun s => ((h.env s).ext k2).ext m2, h.size, h.defers, (h.ext.trans k2).trans m2⟩
          · exact ⟨σ, h⟩
        · exact ⟨σ, h⟩
      · exact ⟨σ, h⟩
    · exact ⟨σ, h⟩

theorem Sim.hint {nt : Nat} {w0 : World} {σ0 : Sig} {o0 : Store} {st : St} {a : Act} {lo : Nat} (hlo : o0.length ≤ lo) (h : Sim A nt w0 σ0 o0 st a w σ) (x : OwnH) : ∃ σ', Sim A nt w0 σ0 o0 (ownH lo x st) a w σ' := by
  unfold ownH
  split
  · exact h.own1 x
  · split
    · rename_i id _ _ _ _
      split
      · rename_i hb
        have hid := Nat.le_of_ble_eq_true hb
        unfold frzH
        simp only
        split
        · rename_i env o1 he ho
          have hF := frz_of ho
          exact ⟨_, h.sim.frz hF, fun s => Rep.frz h.sim hF _ _ _ (frzE_get he s) (h.env s), h.size, h.defers, h.ext.frz hF fun i hi => by
            simp only [beq_eq_false_iff_ne]; omega⟩
        · exact ⟨σ, h⟩
      · exact ⟨σ, h⟩
    · exact ⟨σ, h⟩

theorem finish_sound {w0 : World} {σ0 : Sig} {o0 : Store} (hS : SimO A w σ o) (hE : Ext w0 σ0 o0 w σ o) {r0 r : AV} {u : Value} (hr : Rep A w σ o r0 u) {own : Bool} (hf : finish own o0.length r0 o = some (r, o')) :
    ∃ σ', SimO A w σ' o' ∧ Rep A w σ' o' r u ∧ Ext w0 σ0 o0 w σ' o' := by
  unfold finish at hf
  cases own with
  | true => exact finishOwn_sound hS hE hr hf
  | false =>
    simp only [Bool.false_eq_true, if_false] at hf
    split at hf
    · rename_i hk
      split at hf
      · rename_i r' hfr
        simp only [Option.some.injEq, Prod.mk.injEq] at hf
        obtain ⟨rfl, rfl⟩ := hf
        have h0 : o0 = [] := List.eq_nil_of_length_eq_zero hk
        subst h0
        refine ⟨[], simO_nil w hS.avb, freeze_rep hS (fun b _ hf => hf.2) 6 r0 r' u hfr (fun id _ b c hσ => hS.av id b c hσ) hr, hE.size, fun b hb hn => ⟨(hE.blk b hb hn).1, fun ⟨i, c, hi⟩ => by simp at hi⟩, Nat.le_refl _, fun id tot ha => ?_, fun id ha => ?_, hE.os, hE.tape, hE.output⟩
        · obtain ⟨cs, e, sz, pu, ho, _⟩ := ha; simp at ho
        · obtain ⟨es, kt, pu, ho⟩ := ha; simp at ho
      · cases hf
    · cases hf
end
end Go.Vi
/-
  The abstract interpreter: what 'exec' gives, the model's run gives.
  Conditions: none.
-/
namespace Go.Vi

def Out.toExit : Out → Exit
  | .norm => .normal
  | .exit id => .exit id
  | .ret => .ret

section
variable {P : Program} {A : Nat → Prop} {w w' : World} {σ σ' : Sig} {o o' : Store}

theorem getE_prune (live : List Nat) (env : EnvA) (s : Nat) : getE (prune live env) s = getE env s ∨ getE (prune live env) s = .ud := by
  unfold prune
  induction live with
  | nil => right; rfl
  | cons x live ih =>
    simp only [List.map_cons, getE]
    cases hq : Nat.beq x s with
    | true => left; have := Nat.eq_of_beq_eq_true hq; subst this; rfl
    | false => exact ih

theorem Sim.prune {nt : Nat} {w0 : World} {σ0 : Sig} {o0 : Store} {st : St} {a : Act} (h : Sim A nt w0 σ0 o0 st a w σ) (live : List Nat) : Sim A nt w0 σ0 o0 ⟨Go.Vi.prune live st.env, st.o⟩ a w σ where
  sim := h.sim
  env := fun s => by
    rcases getE_prune live st.env s with h1 | h1
    · simp only [h1]; exact h.env s
    · simp only [h1]; simp [Rep]
  size := h.size
  defers := h.defers
  ext := h.ext

theorem getE_mem {env : EnvA} {s : Nat} : getE env s = .ud ∨ ∃ p ∈ env, p.2 = getE env s := by
  induction env with
  | nil => left; rfl
  | cons p env ih =>
    obtain ⟨k, v⟩ := p
    simp only [getE]
    cases hq : Nat.beq k s with
    | true => right; exact ⟨(k, v), by simp, by simp⟩
    | false =>
      rcases ih with ih | ⟨p, hp, h2⟩
      · exact .inl ih
      · exact .inr ⟨p, by simp [hp], h2⟩

theorem trim_le (k : Nat) (st : St) (h : k ≤ st.o.length) : k ≤ (trim k st).o.length := by
  unfold trim
  split
  · exact h
  · split
    · simp; omega
    · exact h

theorem Sim.trim {nt : Nat} {w0 : World} {σ0 : Sig} {o0 : Store} {st : St} {a : Act} (h : Sim A nt w0 σ0 o0 st a w σ) {k : Nat} (hk : o0.length ≤ k) : ∃ σ', Sim A nt w0 σ0 o0 (Go.Vi.trim k st) a w σ' := by
  unfold Go.Vi.trim
  split
  · exact ⟨σ, h⟩
  · split
    · rename_i hc
      simp only [Bool.and_eq_true, List.all_eq_true] at hc
      refine ⟨σ.take k, ⟨h.sim.take hc.2, fun s => ?_, h.size, h.defers, h.ext.take hk⟩⟩
      have hr := h.env s
      simp only
      rcases getE_mem (env := st.env) (s := s) with h1 | ⟨p, hp, h1⟩
      · rw [h1]; simp [Rep]
      · refine Rep.take hr ?_
        rw [← h1]; exact hc.1 p hp
    · exact ⟨σ, h⟩

theorem Sim.deads {nt : Nat} {w0 : World} {σ0 : Sig} {o0 : Store} {st : St} {a : Act} (h : Sim A nt w0 σ0 o0 st a w σ) (n : Nat) : ∃ σ', Sim A nt w0 σ0 o0 ⟨st.env, st.o ++ Go.Vi.deads n⟩ a w σ' := by
  obtain ⟨h1, h2⟩ := h.sim.deads n
  exact ⟨_, h1, fun s => (h.env s).ext h2, h.size, h.defers, h.ext.trans h2⟩

theorem Sim.sweep {nt : Nat} {w0 : World} {σ0 : Sig} {o0 : Store} {st : St} {a : Act} (h : Sim A nt w0 σ0 o0 st a w σ) {k : Nat} (hk : o0.length ≤ k) : ∃ σ', Sim A nt w0 σ0 o0 ⟨st.env, Go.Vi.sweep k st.o⟩ a w σ' := by
  obtain ⟨σ', h1, h2, h3⟩ := sweep_sim h.sim k
  exact ⟨σ', h1, fun s => h2 _ _ (h.env s), h.size, h.defers, h3 _ _ _ hk h.ext⟩

theorem Sim.len {nt : Nat} {w0 : World} {σ0 : Sig} {o0 : Store} {st : St} {a : Act} (h : Sim A nt w0 σ0 o0 st a w σ) : o0.length ≤ st.o.length := h.ext.len

theorem Sim.hints {nt : Nat} {w0 : World} {σ0 : Sig} {o0 : Store} {lo : Nat} (hlo : o0.length ≤ lo) (l : List OwnH) : ∀ {st : St} {a : Act} {σ : Sig}, Sim A nt w0 σ0 o0 st a w σ → ∃ σ', Sim A nt w0 σ0 o0 (l.foldl (fun s h => ownH lo h s) st) a w σ' := by
  induction l with
  | nil => intro st a σ h; exact ⟨σ, h⟩
  | cons x l ih =>
    intro st a σ h
    obtain ⟨σ1, h1⟩ := Sim.hint hlo h x
    exact ih h1

/-- A region. -/
theorem region_wp {call : Oracle} (hcall : OracleOK P call) {lo nt : Nat} {H : List RH} {id : Nat} {ops : Array Oper} {draw : Bool} {c : IR} (hc : compReg P nt H id ops draw = some c) :
    ∃ k l chk live pre post, c = .region id draw k l chk live pre post ∧ ∀ {st st' : St}, runReg call k l chk (pre.foldl (fun s h => ownH lo h s) st) = some st' → ∀ {w0 : World} {σ0 : Sig} {o0 : Store} {a : Act} {w : World} {σ : Sig}, o0.length ≤ lo → Sim A nt w0 σ0 o0 st a w σ →
      (Code.region id ops draw).wp P (fun e a' w' => e = .normal ∧ ∃ σ', Sim A nt w0 σ0 o0 (post.foldl (fun s h => ownH lo h s) ⟨Go.Vi.prune live st'.env, st'.o⟩) a' w' σ') a w := by
  unfold compReg at hc
  split at hc
  · cases hc
  · rename_i h hh
    have fin : ∀ (k : Nat) (l : List IOper) (chk : List (Nat × Nat)), (∀ {st1 st2 : St}, runOps call st1.o.length l ⟨st1.env, st1.o ++ deads k⟩ = some st2 → (chk.isEmpty || chkOk (st1.o ++ deads k).length (traceOps call st1.o.length l ⟨st1.env, st1.o ++ deads k⟩) chk) = true →
          ∀ {w0 : World} {σ0 : Sig} {o0 : Store} {a : Act} {w : World} {σ : Sig} {Q : Exit → Act → World → Prop}, Sim A nt w0 σ0 o0 ⟨st1.env, st1.o ++ deads k⟩ a w σ → (∀ a' w' σ', Sim A nt w0 σ0 o0 st2 a' w' σ' → Q .normal a' w') → (Code.region id ops draw).wp P Q a w) →
        ∀ {st st' : St}, runReg call k l chk (h.pre.foldl (fun s h => ownH lo h s) st) = some st' → ∀ {w0 : World} {σ0 : Sig} {o0 : Store} {a : Act} {w : World} {σ : Sig}, o0.length ≤ lo → Sim A nt w0 σ0 o0 st a w σ →
          (Code.region id ops draw).wp P (fun e a' w' => e = .normal ∧ ∃ σ', Sim A nt w0 σ0 o0 (h.post.foldl (fun s h => ownH lo h s) ⟨Go.Vi.prune h.live st'.env, st'.o⟩) a' w' σ') a w := by
      intro k l chk hrun st st' hr w0 σ0 o0 a w σ hlo hs
      obtain ⟨σ1, hs1⟩ := Sim.hints hlo h.pre hs
      generalize hst1 : h.pre.foldl (fun s h => ownH lo h s) st = st1 at hr hs1
      unfold runReg at hr
      simp only at hr
      split at hr
      · rename_i st2 h2
        split at hr
        · rename_i hchk
          injection hr with hr
          obtain ⟨σ2, hs2⟩ := hs1.deads k
          refine hrun h2 hchk hs2 fun a' w' σ' h3 => ⟨rfl, ?_⟩
          have h4 : ∃ σ4, Sim A nt w0 σ0 o0 st' a' w' σ4 := by
            subst hr
            by_cases hk : k = 0
            · simp only [hk, if_true]; exact ⟨σ', h3⟩
            · simp only [hk, if_false]; exact h3.sweep hs1.len
          obtain ⟨σ4, h4⟩ := h4
          exact Sim.hints hlo h.post (h4.prune h.live)
        · cases hr
      · cases hr
    cases draw with
    | false =>
      simp only [Bool.false_eq_true, if_false] at hc
      obtain ⟨⟨l, k⟩, hl, rfl⟩ := Option.map_eq_some_iff.1 hc
      refine ⟨k, l, [], h.live, h.pre, h.post, rfl, fin k l [] fun {st1 st2} h2 _ w0 σ0 o0 a w σ Q hs hQ => ?_⟩
      obtain ⟨g1, g2⟩ := compOpers_get hl
      exact wp_region (runOps_wp hcall l (List.range ops.size) g1 g2 _ _ a w σ h2 hs hQ)
    | true =>
      simp only [if_true] at hc
      generalize (if h.perm.isEmpty = true then List.range ops.size else h.perm) = perm at hc
      split at hc
      · rename_i l k hl
        split at hc
        · rename_i hcond
          injection hc with hc
          refine ⟨k, l, pairsOf (ancs ops) l, h.live, h.pre, h.post, hc.symm, fin k l _ fun {st1 st2} h2 hchk w0 σ0 o0 a w σ Q hs hQ => ?_⟩
          simp only [Bool.and_eq_true, beq_iff_eq] at hcond
          exact draw_wp hcall hl hcond.1.1.1.1.1 hcond.1.1.1.1.2 hcond.1.1.1.2 hcond.1.1.2 hcond.1.2 hcond.2 h2 hchk hs hQ
        · cases hc
      · cases hc

/-- The functions' code is the program's, and the known results are right. -/
structure TabOK (P : Program) (T : Tab) : Prop where
  fn : ∀ f F, T.fn f = some F → ∃ fn H, P.funcs[f]? = some fn ∧ compFn P H fn = some F ∧ goodF P f = true
  K : ∀ f args o own r o', T.K f args o own = some (r, o') → goodF P f = true ∧ CallO P f args o r o' ∧ (own = false → o' = [])

/-- What is claimed of the runs with less fuel than 'n'. -/
def ExecOK (P : Program) (T : Tab) (n : Nat) : Prop :=
  ∀ (lo : Nat) (c : IR) (st : St) (out : Out) (st' : St), exec T n lo c st = some (out, st') → ∀ (nt : Nat) (H : List RH) (code : Code), comp P nt H code = some c → ∀ (A : Nat → Prop) (w0 : World) (σ0 : Sig) (o0 : Store) (a : Act) (w : World) (σ : Sig), o0.length ≤ lo → Sim A nt w0 σ0 o0 st a w σ →
    code.wp P (fun e a' w' => e = out.toExit ∧ ∃ σ', Sim A nt w0 σ0 o0 st' a' w' σ') a w

theorem getE_bind : ∀ (k : Nat) (args : List AV) (s : Nat), getE (bindArgs k args) s = if k ≤ s then (args[s - k]?).getD .ud else .ud
  | k, [], s => by simp [bindArgs, getE]
  | k, v :: vs, s => by
    simp only [bindArgs, getE]
    by_cases h : k = s
    · subst h; simp
    · have hq : Nat.beq k s = false := by
        cases hq : Nat.beq k s with
        | false => rfl
        | true => exact absurd (Nat.eq_of_beq_eq_true hq) h
      simp only [hq, cond_false]
      rw [getE_bind (k + 1) vs s]
      by_cases h2 : k ≤ s
      · rw [if_pos h2, if_pos (by omega), show s - k = (s - (k + 1)) + 1 from by omega]; simp
      · rw [if_neg h2, if_neg (by omega)]

def resF (tmps : Array Value) : ResultVar → Sem Value
  | .tmp t => pure (tmps.getD t undef)
  | .cell x t => do loadVar t (← asAddr (tmps.getD x undef))

theorem results_eq (fn : Func) (tmps : Array Value) : results fn tmps = (do let vs ← fn.results.mapM (resF tmps); pure (if h : vs.size = 1 then vs[0] else .tuple vs)) := by
  unfold results
  congr 1

theorem resA_rep {nt : Nat} {w0 : World} {σ0 : Sig} {o0 : Store} {st : St} {a : Act} (h : Sim A nt w0 σ0 o0 st a w σ) {rv : ResultVar} {ir : IRes} (hc : compRes P rv = some ir) {r : AV} (hr : resA st ir = some r) :
    ∃ u, (resF a.tmps rv).run P w = .ok u w ∧ Rep A w σ st.o r u := by
  cases rv with
  | tmp t =>
    simp only [compRes, Option.some.injEq] at hc
    subst hc
    simp only [resA, Option.some.injEq] at hr
    subst hr
    exact ⟨_, rfl, h.env t⟩
  | cell x t =>
    simp only [compRes, Option.map_eq_some_iff] at hc
    obtain ⟨n, hn, rfl⟩ := hc
    simp only [resA] at hr
    split at hr
    · rename_i cs off hb
      obtain ⟨p, hp, hcells⟩ := (h.env x).behindA h.sim hb
      obtain ⟨u, hu, hru⟩ := run_loadVar' (P := P) hn hcells hr
      exact ⟨u, by simp only [resF, hp]; simp [asAddr, hu], hru⟩
    · cases hr

theorem results_rep {nt : Nat} {w0 : World} {σ0 : Sig} {o0 : Store} {st : St} {a : Act} (h : Sim A nt w0 σ0 o0 st a w σ) {fn : Func} {rs : List IRes} (hc : optAll (compRes P) fn.results.toList = some rs) {r : AV} (hr : resultsA st rs = some r) :
    ∃ u, (results fn a.tmps).run P w = .ok u w ∧ Rep A w σ st.o r u := by
  obtain ⟨h1, h2⟩ := optAll_get hc
  unfold resultsA at hr
  have key : ∀ (rvs : List ResultVar) (irs : List IRes) (vs : List AV), rvs.length = irs.length → (∀ (i : Nat) (x : ResultVar) (y : IRes), rvs[i]? = some x → irs[i]? = some y → compRes P x = some y) → irs.mapM (resA st) = some vs →
      ∃ us : List Value, (rvs.mapM (resF a.tmps)).run P w = .ok us w ∧ RepL A w σ st.o vs us := by
    intro rvs
    induction rvs with
    | nil =>
      intro irs vs hl _ hm
      have : irs = [] := List.eq_nil_of_length_eq_zero (by simpa using hl.symm)
      subst this
      simp at hm
      subst hm
      exact ⟨[], by simp, by simp [RepL]⟩
    | cons x rvs ih =>
      intro irs vs hl hg hm
      match irs, hl with
      | y :: irs, hl =>
        rw [List.mapM_cons] at hm
        cases hy : resA st y with
        | none => simp [hy] at hm
        | some v =>
          cases hrest : irs.mapM (resA st) with
          | none => simp [hy, hrest] at hm
          | some vs' =>
            simp [hy, hrest] at hm
            subst hm
            obtain ⟨u, hu, hru⟩ := resA_rep h (hg 0 x y (by simp) (by simp)) hy
            obtain ⟨us, hus, hrus⟩ := ih irs vs' (by simpa using hl) (fun i p q hp hq => hg (i + 1) p q (by simpa using hp) (by simpa using hq)) hrest
            refine ⟨u :: us, ?_, by simp only [RepL]; exact ⟨u, us, rfl, hru, hrus⟩⟩
            rw [List.mapM_cons]
            simp only [Sem.run_bind]
            rw [hu]
            simp only [Result.andThen_ok, hus, Sem.run_pure]
  have conv : ∀ us : List Value, (fn.results.toList.mapM (resF a.tmps)).run P w = .ok us w →
      (results fn a.tmps).run P w = .ok (if h : us.length = 1 then us[0]'(by omega) else .tuple us.toArray) w := by
    intro us hus
    rw [results_eq, Array.mapM_eq_mapM_toList]
    simp only [Sem.run_bind, Sem.run_map, hus, Result.andThen_ok, Sem.run_pure]
    by_cases h1 : us.length = 1
    · simp [h1]
    · simp [h1]
  split at hr
  · rename_i v hm
    injection hr with hr; subst hr
    obtain ⟨us, hus, hl⟩ := key _ _ _ h1 h2 hm
    simp only [RepL] at hl
    obtain ⟨u, rest, rfl, hu, rfl⟩ := hl
    exact ⟨u, by rw [conv _ hus]; simp, hu⟩
  · rename_i vs hne hm
    injection hr with hr; subst hr
    obtain ⟨us, hus, hl⟩ := key _ _ _ h1 h2 hm
    have hlen := RepL.length _ _ hl
    have h1' : ¬ us.length = 1 := by
      intro h1
      match vs, hlen.trans h1 with
      | [v], _ => exact hne v rfl
    refine ⟨.tuple us.toArray, by rw [conv _ hus]; simp [h1'], ?_⟩
    simp only [Rep]
    exact ⟨_, rfl, by simpa using hl⟩
  · cases hr

/-- A function's call, from the run of its code. -/
theorem callF_ok {T : Tab} (hT : TabOK P T) {n : Nat} (ih : ExecOK P T n) : OracleOK P (callF T (exec T n)) := by
  intro f args o own r o' hc
  unfold callF at hc
  split at hc
  · rename_i x hK
    injection hc with hc
    subst hc
    exact hT.K _ _ _ _ _ _ hK
  · split at hc
    · cases hc
    · rename_i F hF
      obtain ⟨fn, H, hfn, hcomp, hg⟩ := hT.fn f F hF
      split at hc
      · rename_i hlen
        unfold compFn at hcomp
        split at hcomp
        · cases hcomp
        · rename_i code hcode
          split at hcomp
          · rename_i b rs hb hrs
            split at hcomp
            · cases hcomp
            · rename_i hnt
              injection hcomp with hcomp
              subst hcomp
              simp only at hc hlen
              have fin : ∀ (out : Out) (st : St), (out = .norm ∨ out = .ret) → exec T n o.length b ⟨bindArgs 0 args, o⟩ = some (out, st) → ∀ r0, resultsA st rs = some r0 → finish own o.length r0 st.o = some (r, o') →
                  goodF P f = true ∧ CallO P f args o r o' ∧ (own = false → o' = []) := by
                intro out st hout hex r0 hr0 hfi
                refine ⟨hg, fun A w σ vs hS hr => ?_, fun ho => ?_⟩
                · have hvl := RepL.length _ _ hr
                  refine calls_of_wp hfn hcode (wp_mono (ih _ b _ out st hex fn.ntmps H code hb A w σ o { tmps := vs.toArray ++ Array.replicate (fn.ntmps - vs.toArray.size) undef, defers := [] } w σ (Nat.le_refl _) ⟨hS, fun s => ?_, ?_, rfl, Ext.refl _ _ _⟩) ?_)
                  · simp only [getE_bind, Nat.zero_le, if_true, Nat.sub_zero]
                    cases hs : args[s]? with
                    | none => simp [Rep]
                    | some c =>
                      obtain ⟨v, hv, hrv⟩ := RepL.get _ _ hr s c hs
                      have hsl : s < vs.length := (List.getElem?_eq_some_iff.1 hv).1
                      have : (vs.toArray ++ Array.replicate (fn.ntmps - vs.toArray.size) undef).getD s undef = v := by
                        rw [Array.getD_eq_getD_getElem?, Array.getElem?_append_left (by simpa using hsl)]
                        simp [hv]
                      rw [this]
                      simpa using hrv
                  · simp; omega
                  · rintro e a' w' ⟨rfl, σ', hs'⟩
                    obtain ⟨u, hu, hru⟩ := results_rep hs' hrs hr0
                    have hfin := finish_sound hs'.sim hs'.ext hru hfi
                    rcases hout with rfl | rfl
                    · exact ⟨hs'.defers, u, hu, u, hfin.choose, rfl, hfin.choose_spec⟩
                    · exact ⟨hs'.defers, u, hu, u, hfin.choose, rfl, hfin.choose_spec⟩
                · subst ho
                  unfold finish at hfi
                  simp only [Bool.false_eq_true, if_false] at hfi
                  split at hfi
                  · split at hfi
                    · simp only [Option.some.injEq, Prod.mk.injEq] at hfi; exact hfi.2.symm
                    · cases hfi
                  · cases hfi
              split at hc
              · rename_i st hex
                split at hc
                · rename_i r0 hr0; exact fin .norm st (.inl rfl) hex r0 hr0 hc
                · cases hc
              · rename_i st hex
                split at hc
                · rename_i r0 hr0; exact fin .ret st (.inr rfl) hex r0 hr0 hc
                · cases hc
              · cases hc
          · cases hcomp
      · cases hc

theorem exec_ok {T : Tab} (hT : TabOK P T) : ∀ n, ExecOK P T n ∧ ∀ (lo : Nat) (b : IR) (st : St) (out : Out) (st' : St), exec T n lo (.loop b) st = some (out, st') → ∀ (nt : Nat) (H : List RH) (code : Code), comp P nt H code = some b → ∀ (A : Nat → Prop) (w0 : World) (σ0 : Sig) (o0 : Store) (a : Act) (w : World) (σ : Sig),
      o0.length ≤ lo → Sim A nt w0 σ0 o0 st a w σ → Code.rounds P code (fun e a' w' => e = out.toExit ∧ ∃ σ', Sim A nt w0 σ0 o0 st' a' w' σ') n a w
  | 0 => ⟨fun lo c st out st' h => by simp [exec] at h, fun lo b st out st' h => by simp [exec] at h⟩
  | n + 1 => by
    obtain ⟨ih, ihl⟩ := exec_ok hT n
    have hloop : ∀ (lo : Nat) (b : IR) (st : St) (out : Out) (st' : St), exec T (n + 1) lo (.loop b) st = some (out, st') → ∀ (nt : Nat) (H : List RH) (code : Code), comp P nt H code = some b → ∀ (A : Nat → Prop) (w0 : World) (σ0 : Sig) (o0 : Store) (a : Act) (w : World) (σ : Sig),
        o0.length ≤ lo → Sim A nt w0 σ0 o0 st a w σ → Code.rounds P code (fun e a' w' => e = out.toExit ∧ ∃ σ', Sim A nt w0 σ0 o0 st' a' w' σ') (n + 1) a w := by
      intro lo b st out st' h nt H code hc A w0 σ0 o0 a w σ hlo hs
      simp only [exec] at h
      split at h
      · rename_i st1 h1
        have hb := ih lo b st .norm st1 h1 nt H code hc A w0 σ0 o0 a w σ hlo hs
        rw [rounds_succ]
        refine wp_mono hb ?_
        rintro e a' w' ⟨rfl, σ', hs'⟩
        obtain ⟨σ2, hs2⟩ := hs'.trim (k := st.o.length) hs.len
        exact ihl lo b _ out st' h nt H code hc A w0 σ0 o0 a' w' σ2 hlo hs2
      · rename_i hne
        have hb := ih lo b st out st' h nt H code hc A w0 σ0 o0 a w σ hlo hs
        rw [rounds_succ]
        refine wp_mono hb ?_
        rintro e a' w' ⟨rfl, hs'⟩
        cases out with
        | norm => exact absurd h (hne st')
        | exit id => exact ⟨rfl, hs'⟩
        | ret => exact ⟨rfl, hs'⟩
    refine ⟨fun lo c st out st' h nt H code hc A w0 σ0 o0 a w σ hlo hs => ?_, hloop⟩
    cases code with
    | skip =>
      simp only [comp, Option.some.injEq] at hc
      subst hc
      simp only [exec, Option.some.injEq, Prod.mk.injEq] at h
      obtain ⟨rfl, rfl⟩ := h
      exact wp_skip ⟨rfl, σ, hs⟩
    | region id ops draw =>
      simp only [comp] at hc
      obtain ⟨k, l, chk, live, pre, post, rfl, hw⟩ := region_wp (callF_ok hT ih) (A := A) (lo := lo) hc
      simp only [exec] at h
      split at h
      · rename_i st2 h2
        simp only [Option.some.injEq, Prod.mk.injEq] at h
        obtain ⟨rfl, rfl⟩ := h
        exact hw h2 hlo hs
      · cases h
    | seq x y =>
      simp only [comp] at hc
      split at hc
      · rename_i x' y' hx hy
        injection hc with hc; subst hc
        simp only [exec] at h
        split at h
        · rename_i st1 h1
          refine wp_seq (wp_mono (ih lo x' st .norm st1 h1 nt H x hx A w0 σ0 o0 a w σ hlo hs) ?_)
          rintro e a' w' ⟨rfl, σ', hs'⟩
          exact ih lo y' st1 out st' h nt H y hy A w0 σ0 o0 a' w' σ' hlo hs'
        · rename_i hne
          refine wp_seq (wp_mono (ih lo x' st out st' h nt H x hx A w0 σ0 o0 a w σ hlo hs) ?_)
          rintro e a' w' ⟨rfl, hs'⟩
          cases out with
          | norm => exact absurd h (hne st')
          | exit id => exact ⟨rfl, hs'⟩
          | ret => exact ⟨rfl, hs'⟩
      · cases hc
    | cond x y z =>
      simp only [comp] at hc
      split at hc
      · rename_i y' z' hy hz
        injection hc with hc; subst hc
        simp only [exec] at h
        have hx := hs.ev x
        split at h
        · rename_i hxx
          rw [hxx] at hx
          exact wp_cond_true (rep_sc hx) (ih lo y' st out st' h nt H y hy A w0 σ0 o0 a w σ hlo hs)
        · rename_i hxx
          rw [hxx] at hx
          exact wp_cond_false (rep_sc hx) (ih lo z' st out st' h nt H z hz A w0 σ0 o0 a w σ hlo hs)
        · cases h
      · cases hc
    | block id b =>
      simp only [comp] at hc
      obtain ⟨b', hb, rfl⟩ := Option.map_eq_some_iff.1 hc
      simp only [exec] at h
      split at h
      · rename_i id' st1 h1
        refine wp_block (wp_mono (ih lo b' st (.exit id') st1 h1 nt H b hb A w0 σ0 o0 a w σ hlo hs) ?_)
        rintro e a' w' ⟨rfl, hs'⟩
        simp only [Out.toExit, Exit.inBlock]
        split at h
        · rename_i hid
          simp only [Option.some.injEq, Prod.mk.injEq] at h
          obtain ⟨rfl, rfl⟩ := h
          rw [if_pos hid]
          exact ⟨rfl, hs'⟩
        · rename_i hid
          simp only [Option.some.injEq, Prod.mk.injEq] at h
          obtain ⟨rfl, rfl⟩ := h
          rw [if_neg hid]
          exact ⟨rfl, hs'⟩
      · rename_i hne
        refine wp_block (wp_mono (ih lo b' st out st' h nt H b hb A w0 σ0 o0 a w σ hlo hs) ?_)
        rintro e a' w' ⟨rfl, hs'⟩
        cases out with
        | norm => exact ⟨rfl, hs'⟩
        | exit id2 => exact absurd h (hne id2 st')
        | ret => exact ⟨rfl, hs'⟩
    | loop b =>
      simp only [comp] at hc
      obtain ⟨b', hb, rfl⟩ := Option.map_eq_some_iff.1 hc
      exact wp_loop_rounds (n + 1) (hloop lo b' st out st' h nt H b hb A w0 σ0 o0 a w σ hlo hs)
    | exit id =>
      simp only [comp, Option.some.injEq] at hc
      subst hc
      simp only [exec, Option.some.injEq, Prod.mk.injEq] at h
      obtain ⟨rfl, rfl⟩ := h
      exact wp_exit ⟨rfl, σ, hs⟩
    | ret =>
      simp only [comp, Option.some.injEq] at hc
      subst hc
      simp only [exec, Option.some.injEq, Prod.mk.injEq] at h
      obtain ⟨rfl, rfl⟩ := h
      exact wp_ret ⟨rfl, σ, hs⟩
    | _ => simp only [comp, reduceCtorEq] at hc

/-- What the interpreter computes of a call, the model's call computes. -/
theorem call_sound {T : Tab} (hT : TabOK P T) (n : Nat) : OracleOK P (callF T (exec T n)) := callF_ok hT (exec_ok hT n).1
end

end Go.Vi
/-
  The abstract interpreter: what a run comes to, with no word of how long it takes.
  Conditions: none.
-/
namespace Go.Vi

/-- With fuel enough the run comes to this. -/
def Ev (T : Tab) (lo : Nat) (c : IR) (st : St) (r : Out × St) : Prop := ∃ N, ∀ n, N ≤ n → exec T n lo c st = some r

section
variable {T : Tab} {lo : Nat} {st st1 st' : St} {r : Out × St} {a b : IR} {out : Out}

theorem Ev.mk (N : Nat) (h : ∀ n, N ≤ n → exec T (n + 1) lo a st = some r) : Ev T lo a st r :=
  ⟨N + 1, fun n hn => by
    match n, hn with
    | n + 1, hn => exact h n (by omega)⟩

theorem Ev.skip : Ev T lo .skip st (.norm, st) := .mk 0 fun _ _ => rfl
theorem Ev.ret : Ev T lo .ret st (.ret, st) := .mk 0 fun _ _ => rfl
theorem Ev.exit {id : Nat} : Ev T lo (.exit id) st (.exit id, st) := .mk 0 fun _ _ => rfl

theorem Ev.seq (h : Ev T lo a st (.norm, st1)) (k : Ev T lo b st1 r) : Ev T lo (.seq a b) st r := by
  obtain ⟨N, h⟩ := h
  obtain ⟨M, k⟩ := k
  exact .mk (N + M) fun n hn => by simp only [exec, h n (by omega), k n (by omega)]

theorem Ev.seq_out (h : Ev T lo a st (out, st1)) (hne : out ≠ .norm) : Ev T lo (.seq a b) st (out, st1) := by
  obtain ⟨N, h⟩ := h
  exact .mk N fun n hn => by
    simp only [exec, h n hn]
    cases out <;> first | rfl | exact absurd rfl hne

theorem Ev.condT {x : Operand} (hx : evA st.env x = .sc (.bool true)) (h : Ev T lo a st r) : Ev T lo (.cond x a b) st r := by
  obtain ⟨N, h⟩ := h
  exact .mk N fun n hn => by simp only [exec, hx]; exact h n hn

theorem Ev.condF {x : Operand} (hx : evA st.env x = .sc (.bool false)) (h : Ev T lo b st r) : Ev T lo (.cond x a b) st r := by
  obtain ⟨N, h⟩ := h
  exact .mk N fun n hn => by simp only [exec, hx]; exact h n hn

theorem Ev.cond {x : Operand} {q : Bool} (hx : evA st.env x = .sc (.bool q)) (ht : q = true → Ev T lo a st r) (hf : q = false → Ev T lo b st r) : Ev T lo (.cond x a b) st r := by
  cases q with
  | true => exact .condT hx (ht rfl)
  | false => exact .condF hx (hf rfl)

/-- What a block makes of an outcome. -/
def Out.inBlock (id : Nat) : Out → Out
  | .exit id' => if id' = id then .norm else .exit id'
  | o => o

theorem Ev.block {id : Nat} (h : Ev T lo a st (out, st1)) : Ev T lo (.block id a) st (out.inBlock id, st1) := by
  obtain ⟨N, h⟩ := h
  exact .mk N fun n hn => by
    simp only [exec, h n hn]
    cases out with
    | exit id' => simp only [Out.inBlock]; split <;> rfl
    | _ => rfl

theorem Ev.loop_step (h : Ev T lo a st (.norm, st1)) (k : Ev T lo (.loop a) (trim st.o.length st1) r) : Ev T lo (.loop a) st r := by
  obtain ⟨N, h⟩ := h
  obtain ⟨M, k⟩ := k
  exact .mk (N + M) fun n hn => by
    simp only [exec, h n (by omega)]
    exact k n (by omega)

theorem Ev.loop_out (h : Ev T lo a st (out, st1)) (hne : out ≠ .norm) : Ev T lo (.loop a) st (out, st1) := by
  obtain ⟨N, h⟩ := h
  exact .mk N fun n hn => by
    simp only [exec, h n hn]
    cases out <;> first | rfl | exact absurd rfl hne

theorem Ev.region {id k : Nat} {draw : Bool} {ops : List IOper} {chk : List (Nat × Nat)} {live : List Nat} {pre post : List OwnH}
    (h : ∀ ex, runReg (callF T ex) k ops chk (pre.foldl (fun s h => ownH lo h s) st) = some st') :
    Ev T lo (.region id draw k ops chk live pre post) st (.norm, post.foldl (fun s h => ownH lo h s) ⟨prune live st'.env, st'.o⟩) :=
  .mk 0 fun n _ => by simp only [exec, h]

/-- A call's contract, from the run of its body. -/
theorem call_of {P : Program} (hT : TabOK P T) {f : FuncId} {F : IFn} (hF : T.fn f = some F) {args : List AV} {o : Store} {own : Bool} (hK : T.K f args o own = none) (hlen : args.length = F.params)
    (h : Ev T o.length F.body ⟨bindArgs 0 args, o⟩ (out, st')) (hout : out = .norm ∨ out = .ret) {r0 v : AV} {o' : Store} (hr : resultsA st' F.res = some r0) (hfin : finish own o.length r0 st'.o = some (v, o')) :
    goodF P f = true ∧ CallO P f args o v o' ∧ (own = false → o' = []) := by
  obtain ⟨N, h⟩ := h
  refine call_sound hT N f args o own v o' ?_
  unfold callF
  rw [hK]
  simp only [hF, if_pos hlen, h N (Nat.le_refl _)]
  rcases hout with rfl | rfl <;> simp only [hr, hfin]
end

/-! ### calls answered by what is known -/

section
variable {call call' : Oracle}

/-- The second oracle answers what the first one answers. -/
def OLe (call call' : Oracle) : Prop := ∀ f args o own r, call f args o own = some r → call' f args o own = some r

theorem OLe.callF (T : Tab) (ex : Nat → IR → St → Option (Out × St)) : OLe T.K (callF T ex) := by
  intro f args o own r h
  unfold Go.Vi.callF
  rw [h]

theorem OLe.callA (h : OLe call call') {f : FuncId} {args : List AV} {o : Store} {own : Bool} {r : AV × Store} (hc : callA call f args o own = some r) : callA call' f args o own = some r := by
  unfold Go.Vi.callA at hc ⊢
  split at hc
  · rename_i how
    rw [if_pos how]
    unfold callOwn at hc ⊢
    simp only at hc ⊢
    split at hc
    · split at hc
      · rename_i r1 s1 h1
        rw [h _ _ _ _ _ h1]
        exact hc
      · cases hc
    · cases hc
  · rename_i how
    rw [if_neg how]
    split at hc
    · cases hc
    · split at hc
      · rename_i h1
        rw [h _ _ _ _ _ h1]
        exact hc
      · cases hc

theorem OLe.eff (h : OLe call call') {op : IOp} {ρ : Operand → AV} {o : Store} {nid : Nat} {r : AV × Store} (hc : eff call op ρ o nid = some r) : eff call' op ρ o nid = some r := by
  cases op with
  | call f args own => exact h.callA hc
  | callv f args own =>
    simp only [Go.Vi.eff, effD, e_callv] at hc ⊢
    split at hc
    · exact h.callA hc
    · cases hc
  | _ => exact hc

theorem OLe.runOp (h : OLe call call') {base : Nat} {i : IOper} {st st' : St} (hc : runOp call base i st = some st') : runOp call' base i st = some st' := by
  unfold Go.Vi.runOp at hc ⊢
  split at hc
  · cases hc
  · exact hc
  · split at hc
    · rename_i h1
      rw [h.eff h1]
      exact hc
    · cases hc

theorem OLe.runOps (h : OLe call call') {base : Nat} : ∀ {l : List IOper} {st st' : St}, runOps call base l st = some st' → runOps call' base l st = some st' ∧ traceOps call' base l st = traceOps call base l st
  | [], _, _, hc => ⟨hc, rfl⟩
  | i :: l, st, st', hc => by
    simp only [Go.Vi.runOps] at hc ⊢
    split at hc
    · rename_i s1 h1
      obtain ⟨k1, k2⟩ := h.runOps hc
      have h2 := h.runOp h1
      refine ⟨by rw [h2]; exact k1, ?_⟩
      simp only [traceOps, h1, h2, k2]
    · cases hc

theorem OLe.runReg (h : OLe call call') {k : Nat} {ops : List IOper} {chk : List (Nat × Nat)} {st st' : St} (hc : runReg call k ops chk st = some st') : runReg call' k ops chk st = some st' := by
  unfold Go.Vi.runReg at hc ⊢
  simp only at hc ⊢
  split at hc
  · rename_i s1 h1
    obtain ⟨k1, k2⟩ := h.runOps h1
    rw [k1, k2]
    exact hc
  · cases hc
end

/-! ### the run, backwards -/

def VW (T : Tab) (lo : Nat) (c : IR) (st : St) (Q : Out → St → Prop) : Prop := ∃ out st', Ev T lo c st (out, st') ∧ Q out st'

/-- What a region's run must come to. -/
def RQ (x : Option St) (Q : St → Prop) : Prop := match x with | some st => Q st | none => False

section
variable {T : Tab} {lo : Nat} {st : St} {a b : IR} {Q Q' : Out → St → Prop}

theorem VW.mono (h : VW T lo a st Q) (hq : ∀ o s, Q o s → Q' o s) : VW T lo a st Q' := by
  obtain ⟨o, s, h1, h2⟩ := h
  exact ⟨o, s, h1, hq o s h2⟩

theorem VW.skip (h : Q .norm st) : VW T lo .skip st Q := ⟨_, _, .skip, h⟩
theorem VW.ret (h : Q .ret st) : VW T lo .ret st Q := ⟨_, _, .ret, h⟩
theorem VW.exit {id : Nat} (h : Q (.exit id) st) : VW T lo (.exit id) st Q := ⟨_, _, .exit, h⟩

theorem VW.seq (h : VW T lo a st fun out s => if out = .norm then VW T lo b s Q else Q out s) : VW T lo (.seq a b) st Q := by
  obtain ⟨o, s, h1, h2⟩ := h
  by_cases ho : o = .norm
  · subst ho
    rw [if_pos rfl] at h2
    obtain ⟨o2, s2, k1, k2⟩ := h2
    exact ⟨o2, s2, h1.seq k1, k2⟩
  · rw [if_neg ho] at h2
    exact ⟨o, s, h1.seq_out ho, h2⟩

theorem VW.cond {x : Operand} {q : Bool} (hx : evA st.env x = .sc (.bool q)) (h : if q = true then VW T lo a st Q else VW T lo b st Q) : VW T lo (.cond x a b) st Q := by
  cases q with
  | true => obtain ⟨o, s, h1, h2⟩ := (by simpa using h : VW T lo a st Q); exact ⟨o, s, .condT hx h1, h2⟩
  | false => obtain ⟨o, s, h1, h2⟩ := (by simpa using h : VW T lo b st Q); exact ⟨o, s, .condF hx h1, h2⟩

theorem VW.block {id : Nat} (h : VW T lo a st fun out s => Q (out.inBlock id) s) : VW T lo (.block id a) st Q := by
  obtain ⟨o, s, h1, h2⟩ := h
  exact ⟨_, _, h1.block, h2⟩

theorem VW.region {id k : Nat} {draw : Bool} {ops : List IOper} {chk : List (Nat × Nat)} {live : List Nat} {pre post : List OwnH}
    (h : RQ (runReg T.K k ops chk (pre.foldl (fun s h => ownH lo h s) st)) fun st' => Q .norm (post.foldl (fun s h => ownH lo h s) ⟨prune live st'.env, st'.o⟩)) :
    VW T lo (.region id draw k ops chk live pre post) st Q := by
  unfold RQ at h
  split at h
  · rename_i st' hs
    exact ⟨_, _, Ev.region fun ex => (OLe.callF T ex).runReg hs, h⟩
  · exact h.elim

/-- One round of a loop. -/
theorem VW.loop (h : VW T lo a st fun out s => if out = .norm then VW T lo (.loop a) (trim st.o.length s) Q else Q out s) : VW T lo (.loop a) st Q := by
  obtain ⟨o, s, h1, h2⟩ := h
  by_cases ho : o = .norm
  · subst ho
    rw [if_pos rfl] at h2
    obtain ⟨o2, s2, k1, k2⟩ := h2
    exact ⟨o2, s2, h1.loop_step k1, k2⟩
  · rw [if_neg ho] at h2
    exact ⟨o, s, h1.loop_out ho, h2⟩

/-- A loop by an invariant whose measure falls. -/
theorem VW.loop_inv (I : Nat → St → Prop) (hstep : ∀ m s, I m s → VW T lo a s fun out s' => if out = .norm then ∃ m', m' < m ∧ I m' (trim s.o.length s') else Q out s') :
    ∀ (m : Nat) (s : St), I m s → VW T lo (.loop a) s Q := by
  intro m
  induction m using Nat.strongRecOn with
  | _ m ih =>
    intro s hs
    refine VW.loop ((hstep m s hs).mono fun o s' h => ?_)
    split
    · rename_i ho
      rw [if_pos ho] at h
      obtain ⟨m', h1, h2⟩ := h
      exact ih m' h1 _ h2
    · rename_i ho
      rwa [if_neg ho] at h

/-- A call's contract, from the run of its body. -/
theorem call_of_vw {P : Program} (hT : TabOK P T) {f : FuncId} {F : IFn} (hF : T.fn f = some F) {args : List AV} {o : Store} {own : Bool} (hK : T.K f args o own = none) (hlen : args.length = F.params) {v : AV} {o' : Store}
    (h : VW T o.length F.body ⟨bindArgs 0 args, o⟩ fun out st' => (out = .norm ∨ out = .ret) ∧ (resultsA st' F.res).bind (fun r0 => finish own o.length r0 st'.o) = some (v, o')) :
    goodF P f = true ∧ CallO P f args o v o' ∧ (own = false → o' = []) := by
  obtain ⟨out, st', h1, h2, h3⟩ := h
  obtain ⟨r0, hr, hfin⟩ := Option.bind_eq_some_iff.1 h3
  exact call_of hT hF hK hlen h1 h2 hr hfin
end
end Go.Vi
/-
  The abstract interpreter: known results, given by a plain function on plain data.
  Conditions: none.
-/
namespace Go.Vi

open Classical in
/-- The known result of a call whose arguments are the cells of some data. -/
noncomputable def ans {α : Type} (enc : α → List AV) (dom : α → Prop) (spec : α → AV) (args : List AV) : Option AV :=
  if h : ∃ a, args = enc a ∧ dom a then some (spec (Classical.choose h)) else none

theorem ans_eq {α : Type} {enc : α → List AV} {dom : α → Prop} {spec : α → AV} (hinj : ∀ a b, enc a = enc b → a = b) {a : α} (hd : dom a) : ans enc dom spec (enc a) = some (spec a) := by
  have h : ∃ b, enc a = enc b ∧ dom b := ⟨a, rfl, hd⟩
  unfold ans
  rw [dif_pos h, ← hinj _ _ (Classical.choose_spec h).1]

theorem ans_some {α : Type} {enc : α → List AV} {dom : α → Prop} {spec : α → AV} {args : List AV} {v : AV} (h : ans enc dom spec args = some v) : ∃ a, args = enc a ∧ dom a ∧ v = spec a := by
  unfold ans at h
  split at h
  · rename_i hx
    injection h with h
    exact ⟨_, (Classical.choose_spec hx).1, (Classical.choose_spec hx).2, h.symm⟩
  · cases h

/-- A contract: pure calls of 'f' by the cells of data of the domain come to 'spec'. -/
def Con (P : Program) (f : FuncId) {α : Type} (enc : α → List AV) (dom : α → Prop) (spec : α → AV) : Prop :=
  ∀ a, dom a → goodF P f = true ∧ CallO P f (enc a) [] (spec a) []

/-- One more function is known. -/
noncomputable def Tab.add {α : Type} (T : Tab) (f : FuncId) (enc : α → List AV) (dom : α → Prop) (spec : α → AV) : Tab :=
  ⟨T.fn, fun g args o own => if g = f ∧ o = [] ∧ own = false then (ans enc dom spec args).map fun v => (v, []) else T.K g args o own⟩

theorem TabOK.add {P : Program} {T : Tab} (hT : TabOK P T) {f : FuncId} {α : Type} {enc : α → List AV} {dom : α → Prop} {spec : α → AV} (hc : Con P f enc dom spec) : TabOK P (T.add f enc dom spec) where
  fn := hT.fn
  K := fun g args o own r o' h => by
    simp only [Tab.add] at h
    split at h
    · rename_i hg
      obtain ⟨rfl, rfl, rfl⟩ := hg
      obtain ⟨v, hv, h2⟩ := Option.map_eq_some_iff.1 h
      simp only [Prod.mk.injEq] at h2
      obtain ⟨rfl, rfl⟩ := h2
      obtain ⟨a, rfl, hd, rfl⟩ := ans_some hv
      exact ⟨(hc a hd).1, (hc a hd).2, fun _ => rfl⟩
    · exact hT.K g args o own r o' h

theorem Tab.add_hit {α : Type} {T : Tab} {f : FuncId} {enc : α → List AV} {dom : α → Prop} {spec : α → AV} (hinj : ∀ a b, enc a = enc b → a = b) {a : α} (hd : dom a) : (T.add f enc dom spec).K f (enc a) [] false = some (spec a, []) := by
  simp [Tab.add, ans_eq hinj hd]

theorem Tab.add_miss {α : Type} {T : Tab} {f g : FuncId} {enc : α → List AV} {dom : α → Prop} {spec : α → AV} {args : List AV} {o : Store} {own : Bool} (h : g ≠ f) : (T.add f enc dom spec).K g args o own = T.K g args o own := by
  simp [Tab.add, h]

end Go.Vi
/-
  The symbolic run: the program's data as plain structures, and how they lie in cells.
  Conditions: none.
-/
namespace Go.Vi

/-- A bundle: units of six products. -/
structure Bun where
  (a0 a1 a2 a3 a4 a5 : Int)
  deriving DecidableEq

structure Off where
  bidder : Int
  want : Bun
  value : Int
  deriving DecidableEq

structure Need where
  payers : Int
  least : Int
  deriving DecidableEq

/-- A bidder and a bundle. -/
structure BKey where
  bidder : Int
  want : Bun
  deriving DecidableEq

/-- A set of bidders with the units that are left. -/
structure Sit where
  members : Int
  left : Bun
  opn : Bun
  deriving DecidableEq

def Bun.zero : Bun := ⟨0, 0, 0, 0, 0, 0⟩

/-- The kinds of elements that rows and maps hold. -/
inductive SId where
  | i (k : IntKind)
  | b
  | bun
  | off
  | need
  | key
  | sit
  | lst (s : SId)
  | pair (s t : SId)
  deriving DecidableEq

@[reducible] def SId.T : SId → Type
  | .i _ => Int
  | .b => Bool
  | .bun => Bun
  | .off => Off
  | .need => Need
  | .key => BKey
  | .sit => Sit
  | .lst s => List s.T
  | .pair s t => s.T × t.T

def SId.dflt : (s : SId) → s.T
  | .i _ => (0 : Int)
  | .b => false
  | .bun => .zero
  | .off => ⟨0, .zero, 0⟩
  | .need => ⟨0, 0⟩
  | .key => ⟨0, .zero⟩
  | .sit => ⟨0, .zero, .zero⟩
  | .lst _ => []
  | .pair s t => (s.dflt, t.dflt)

def SId.sz : SId → Nat
  | .i _ => 1
  | .b => 1
  | .bun => 6
  | .off => 8
  | .need => 2
  | .key => 7
  | .sit => 13
  | .lst _ => 1
  | .pair s t => s.sz + t.sz

@[reducible] def SId.dec : (s : SId) → DecidableEq s.T
  | .i _ => inferInstanceAs (DecidableEq Int)
  | .b => inferInstanceAs (DecidableEq Bool)
  | .bun => inferInstanceAs (DecidableEq Bun)
  | .off => inferInstanceAs (DecidableEq Off)
  | .need => inferInstanceAs (DecidableEq Need)
  | .key => inferInstanceAs (DecidableEq BKey)
  | .sit => inferInstanceAs (DecidableEq Sit)
  | .lst s => @instDecidableEqList _ s.dec
  | .pair s t => @instDecidableEqProd _ _ s.dec t.dec
instance (s : SId) : DecidableEq s.T := s.dec

/-- Elements of one scalar. -/
def SId.scal : SId → Bool
  | .i _ | .b => true
  | _ => false

/-- Elements of scalars alone. -/
def SId.flat : SId → Bool
  | .lst _ => false
  | .pair s t => s.flat && t.flat
  | _ => true

def iv (n : Int) : Value := .int .i64 n

def Bun.vs (b : Bun) : List Value := [iv b.a0, iv b.a1, iv b.a2, iv b.a3, iv b.a4, iv b.a5]

/-- The cells of an element of scalars. -/
def encV : (s : SId) → s.T → List Value
  | .i k, n => [.int k n]
  | .b, b => [.bool b]
  | .bun, x => [iv x.a0, iv x.a1, iv x.a2, iv x.a3, iv x.a4, iv x.a5]
  | .off, x => [iv x.bidder, iv x.want.a0, iv x.want.a1, iv x.want.a2, iv x.want.a3, iv x.want.a4, iv x.want.a5, iv x.value]
  | .need, x => [iv x.payers, iv x.least]
  | .key, x => [iv x.bidder, iv x.want.a0, iv x.want.a1, iv x.want.a2, iv x.want.a3, iv x.want.a4, iv x.want.a5]
  | .sit, x => [iv x.members, iv x.left.a0, iv x.left.a1, iv x.left.a2, iv x.left.a3, iv x.left.a4, iv x.left.a5, iv x.opn.a0, iv x.opn.a1, iv x.opn.a2, iv x.opn.a3, iv x.opn.a4, iv x.opn.a5]
  | .lst _, _ => [.bool false]
  | .pair s t, x => encV s x.1 ++ encV t x.2

/-- The cells of an element. -/
def encA : (s : SId) → s.T → List AV
  | .lst s, l => [.sl l.length (l.flatMap (encA s))]
  | .pair s t, x => encA s x.1 ++ encA t x.2
  | .i k, x => (encV (.i k) x).map .sc
  | .b, x => (encV .b x).map .sc
  | .bun, x => (encV .bun x).map .sc
  | .off, x => (encV .off x).map .sc
  | .need, x => (encV .need x).map .sc
  | .key, x => (encV .key x).map .sc
  | .sit, x => (encV .sit x).map .sc

/-- A value as the symbolic run sees it. -/
inductive SV where
  | ud
  | sc (v : Value)
  | il (k : IntKind) (n : Int)
  | si (k : IntKind) (n : Int)
  | bl (b : Bool)
  | sb (b : Bool)
  | agg (cs : List SV)
  | tup (cs : List SV)
  | row (s : SId) (l : List s.T)
  | ep (s : SId) (l : List s.T) (i off : Nat)
  | ptr (id off tot : Nat)
  | ap (id base sz len tot i : Nat)
  | rp (id i off n sz : Nat)
  | ow (id n sz : Nat)
  | os (id off len n sz : Nat)
  | mp (id : Nat)
  | fn (f : Fn) (first captured : List SV)

inductive SObj where
  | dead
  | cells (cs : List SV) (e : TypeId) (sz : Nat) (pu : Bool)
  | row (s : SId) (l : List s.T) (e : TypeId) (pu : Bool)
  | map (sk sv : SId) (ka : Bool) (es : List (sk.T × sv.T)) (kt : List Nat × Bool) (pu : Bool)

def flatA (s : SId) (l : List s.T) : List AV := l.flatMap (encA s)

def keyV (s : SId) (ka : Bool) (x : s.T) : Value := if ka then .agg (encV s x).toArray else (encV s x).headD (.bool false)
def valA (s : SId) (x : s.T) : AV := .sc ((encV s x).headD (.bool false))

mutual
def SV.g : SV → AV
  | .ud => .ud
  | .sc v => .sc v
  | .il k n => .sc (.int k n)
  | .si k n => .sc (.int k n)
  | .bl b => .sc (.bool b)
  | .sb b => .sc (.bool b)
  | .agg cs => .agg (gL cs)
  | .tup cs => .tup (gL cs)
  | .row s l => .sl l.length (flatA s l)
  | .ep s l i off => .ep (flatA s l) (i * s.sz + off)
  | .ptr id off tot => .ptr id off tot
  | .ap id base sz _ tot i => .ptr id (base + i * sz) tot
  | .rp id i off n sz => .ptr id (i * sz + off) (n * sz)
  | .ow id n sz => .os id 0 n (n * sz)
  | .os id off len n sz => .os id (off * sz) len (n * sz)
  | .mp id => .mp id
  | .fn f a b => .fn f (gL a) (gL b)
def gL : List SV → List AV
  | [] => []
  | c :: cs => c.g :: gL cs
end

theorem gL_map : ∀ (l : List SV), gL l = l.map SV.g
  | [] => rfl
  | c :: cs => by simp [gL, gL_map cs]

def SObj.g : SObj → AObj
  | .dead => .dead
  | .cells cs e sz pu => .cells (gL cs) e sz pu
  | .row s l e pu => .cells (flatA s l) e s.sz pu
  | .map sk sv ka es kt pu => .map (es.map fun p => (keyV sk ka p.1, valA sv p.2)) kt pu

/-- The cells of an element, symbolically. -/
def encS : (s : SId) → s.T → List SV
  | .i k, n => [.si k n]
  | .b, b => [.sb b]
  | .bun, x => [.si .i64 x.a0, .si .i64 x.a1, .si .i64 x.a2, .si .i64 x.a3, .si .i64 x.a4, .si .i64 x.a5]
  | .off, x => [.si .i64 x.bidder, .si .i64 x.want.a0, .si .i64 x.want.a1, .si .i64 x.want.a2, .si .i64 x.want.a3, .si .i64 x.want.a4, .si .i64 x.want.a5, .si .i64 x.value]
  | .need, x => [.si .i64 x.payers, .si .i64 x.least]
  | .key, x => [.si .i64 x.bidder, .si .i64 x.want.a0, .si .i64 x.want.a1, .si .i64 x.want.a2, .si .i64 x.want.a3, .si .i64 x.want.a4, .si .i64 x.want.a5]
  | .sit, x => [.si .i64 x.members, .si .i64 x.left.a0, .si .i64 x.left.a1, .si .i64 x.left.a2, .si .i64 x.left.a3, .si .i64 x.left.a4, .si .i64 x.left.a5, .si .i64 x.opn.a0, .si .i64 x.opn.a1, .si .i64 x.opn.a2, .si .i64 x.opn.a3, .si .i64 x.opn.a4, .si .i64 x.opn.a5]
  | .lst s, l => [.row s l]
  | .pair s t, x => encS s x.1 ++ encS t x.2

def castL (s s' : SId) (l : List s.T) : Option (List s'.T) := if h : s = s' then some (h ▸ l) else none

/-- The elements of a plain slice. -/
def decRow (s : SId) : SV → Option (List s.T)
  | .row s' l => match castL s' s l with
    | some l => some l
    | none => match l with
      | [] => some []
      | _ => none
  | _ => none

/-- A nil slice as a plain empty one. -/
def SV.qn : SV → SV
  | .sc (.slice none 0 0) => .row (.i .i64) []
  | v => v

/-- An integer of a kind. -/
def SV.int : IntKind → SV → Option Int
  | k, .si k' n => if k' = k then some n else none
  | k, .il k' n => if k' = k then some n else none
  | _, _ => none

def SV.boo : SV → Option Bool
  | .sb b => some b
  | .bl b => some b
  | _ => none

def ints : List SV → Option (List Int)
  | [] => some []
  | c :: cs => match c.int .i64, ints cs with
    | some n, some l => some (n :: l)
    | _, _ => none

/-- An element of its cells. -/
def decS : (s : SId) → List SV → Option s.T
  | .i k, [c] => c.int k
  | .b, [c] => c.boo
  | .bun, cs => match ints cs with
    | some [a0, a1, a2, a3, a4, a5] => some (⟨a0, a1, a2, a3, a4, a5⟩ : Bun)
    | _ => none
  | .off, cs => match ints cs with
    | some [b, a0, a1, a2, a3, a4, a5, v] => some (⟨b, ⟨a0, a1, a2, a3, a4, a5⟩, v⟩ : Off)
    | _ => none
  | .need, cs => match ints cs with
    | some [a, b] => some (⟨a, b⟩ : Need)
    | _ => none
  | .key, cs => match ints cs with
    | some [b, a0, a1, a2, a3, a4, a5] => some (⟨b, ⟨a0, a1, a2, a3, a4, a5⟩⟩ : BKey)
    | _ => none
  | .sit, cs => match ints cs with
    | some [m, a0, a1, a2, a3, a4, a5, b0, b1, b2, b3, b4, b5] => some (⟨m, ⟨a0, a1, a2, a3, a4, a5⟩, ⟨b0, b1, b2, b3, b4, b5⟩⟩ : Sit)
    | _ => none
  | .lst s, [c] => decRow s c
  | .pair s t, cs => match decS s (cs.take s.sz), decS t (cs.drop s.sz) with
    | some x, some y => some (x, y)
    | _, _ => none
  | _, _ => none

/-! ### laws of the elements -/

theorem sz_pos : (s : SId) → 0 < s.sz
  | .i _ | .b | .bun | .off | .need | .key | .sit | .lst _ => by simp [SId.sz]
  | .pair s t => by
    have := sz_pos s
    simp only [SId.sz]
    omega

theorem encS_g : (s : SId) → (x : s.T) → (encS s x).map SV.g = encA s x
  | .lst s, l => by simp only [encS, encA, List.map_cons, List.map_nil, SV.g, flatA]
  | .pair s t, x => by simp only [encS, encA, List.map_append, encS_g s x.1, encS_g t x.2]
  | .i _, x | .b, x | .bun, x | .off, x | .need, x | .key, x | .sit, x => by simp [encS, encA, encV, SV.g, iv]

theorem encV_len : (s : SId) → (x : s.T) → (encV s x).length = s.sz
  | .pair s t, x => by simp only [encV, List.length_append, encV_len s x.1, encV_len t x.2, SId.sz]
  | .lst _, x | .i _, x | .b, x | .bun, x | .off, x | .need, x | .key, x | .sit, x => rfl

theorem encA_len : (s : SId) → (x : s.T) → (encA s x).length = s.sz
  | .pair s t, x => by simp only [encA, List.length_append, encA_len s x.1, encA_len t x.2, SId.sz]
  | .lst _, x | .i _, x | .b, x | .bun, x | .off, x | .need, x | .key, x | .sit, x => rfl

theorem encS_len (s : SId) (x : s.T) : (encS s x).length = s.sz := by
  have := congrArg List.length (encS_g s x)
  simpa [encA_len] using this

theorem flat_encA : (s : SId) → s.flat = true → (x : s.T) → encA s x = (encV s x).map .sc
  | .pair s t, h, x => by
    simp only [SId.flat, Bool.and_eq_true] at h
    simp only [encA, encV, List.map_append, flat_encA s h.1, flat_encA t h.2]
  | .lst _, h, x => by simp [SId.flat] at h
  | .i _, _, x | .b, _, x | .bun, _, x | .off, _, x | .need, _, x | .key, _, x | .sit, _, x => rfl

theorem int_g {k : IntKind} {c : SV} {n : Int} (h : c.int k = some n) : c.g = .sc (.int k n) := by
  cases c <;> simp only [SV.int, reduceCtorEq] at h
  all_goals
    split at h
    · rename_i hk; subst hk; simp at h; subst h; simp [SV.g]
    · cases h

theorem boo_g {c : SV} {b : Bool} (h : c.boo = some b) : c.g = .sc (.bool b) := by
  cases c <;> simp [SV.boo] at h <;> subst h <;> simp [SV.g]

theorem ints_g : ∀ {cs : List SV} {l : List Int}, ints cs = some l → cs.map SV.g = l.map fun n => .sc (iv n)
  | [], l, h => by simp [ints] at h; subst h; rfl
  | c :: cs, l, h => by
    simp only [ints] at h
    split at h
    · rename_i n l' h1 h2
      simp at h; subst h
      simp [int_g h1, ints_g h2, iv]
    · cases h

theorem castL_eq {s s' : SId} {l : List s.T} {l' : List s'.T} (h : castL s s' l = some l') : s = s' ∧ HEq l l' := by
  unfold castL at h
  split at h
  · rename_i hs
    subst hs
    simp only [Option.some.injEq] at h
    exact ⟨rfl, heq_of_eq h⟩
  · cases h

theorem decRow_g {s : SId} {v : SV} {l : List s.T} (h : decRow s v = some l) : v.g = .sl l.length (flatA s l) := by
  cases v <;> simp only [decRow, reduceCtorEq] at h
  rename_i s' l'
  split at h
  · rename_i l2 hc
    simp only [Option.some.injEq] at h; subst h
    obtain ⟨rfl, hh⟩ := castL_eq hc
    cases hh
    rfl
  · split at h
    · simp only [Option.some.injEq] at h; subst h
      simp [SV.g, flatA]
    · cases h

theorem decS_g : {s : SId} → {cs : List SV} → {x : s.T} → (h : decS s cs = some x) → cs.map SV.g = encA s x
  | .i k, [c], _, h => by simp only [decS] at h; simp [encA, encV, int_g h]
  | .b, [c], _, h => by simp only [decS] at h; simp [encA, encV, boo_g h]
  | .lst s, [c], _, h => by simp only [decS] at h; simp only [List.map_cons, List.map_nil, decRow_g h, encA, flatA]
  | .pair s t, cs, _, h => by
    simp only [decS] at h
    split at h
    · rename_i x y h1 h2
      simp only [Option.some.injEq] at h; subst h
      have g1 := decS_g h1
      have g2 := decS_g h2
      simp only [encA, ← g1, ← g2]
      rw [← List.map_append, List.take_append_drop]
    · cases h
  | .bun, cs, _, h | .off, cs, _, h | .need, cs, _, h | .key, cs, _, h | .sit, cs, _, h => by
    simp only [decS] at h
    split at h
    · rename_i h1
      simp at h; subst h
      rw [ints_g h1]
      simp [encA, encV]
    · cases h

theorem qnS_g (v : SV) : v.qn.g = v.g.qn := by
  unfold SV.qn
  split
  · simp [SV.g, AV.qn, flatA]
  · rename_i h
    cases v with
    | sc v =>
      simp only [SV.g]
      unfold AV.qn
      split
      · rename_i h2
        simp only [AV.sc.injEq] at h2
        exact absurd (by rw [h2]) h
      · rfl
    | _ => simp only [SV.g, AV.qn]

theorem encV_one : (s : SId) → (x : s.T) → ∀ v ∈ encV s x, v.oneCell' = true
  | .pair s t, x => by
    intro v hv
    simp only [encV] at hv
    rcases List.mem_append.1 hv with h | h
    · exact encV_one s _ v h
    · exact encV_one t _ v h
  | .lst _, x | .i _, x | .b, x | .bun, x | .off, x | .need, x | .key, x | .sit, x => by simp [encV, iv, Value.oneCell']

/-- A cell of a plain row: a scalar, or a plain slice. -/
def Plain (a : AV) : Prop := (∃ v, a = .sc v ∧ v.oneCell' = true ∧ v ≠ .slice none 0 0) ∨ ∃ n cs, a = .sl n cs ∧ pureL cs = true

theorem pureL_all : ∀ {l : List AV}, (∀ a ∈ l, a.pure = true) → pureL l = true
  | [], _ => by simp [pureL]
  | a :: l, h => by simp [pureL, h a (by simp), pureL_all (l := l) fun b hb => h b (by simp [hb])]

theorem belL_all {k : Nat} : ∀ {l : List AV}, (∀ a ∈ l, a.bel k = true) → belL k l = true
  | [], _ => by simp [belL]
  | a :: l, h => by simp [belL, h a (by simp), belL_all (l := l) fun b hb => h b (by simp [hb])]

theorem Plain.pure {a : AV} (h : Plain a) : a.pure = true := by
  rcases h with ⟨v, rfl, _⟩ | ⟨n, cs, rfl, h⟩
  · simp [AV.pure]
  · simpa [AV.pure] using h
theorem Plain.bel {a : AV} (h : Plain a) (k : Nat) : a.bel k = true := by
  rcases h with ⟨v, rfl, _⟩ | ⟨n, cs, rfl, h⟩ <;> simp [AV.bel]
theorem Plain.one {a : AV} (h : Plain a) : a.one = true := by
  rcases h with ⟨v, rfl, h, _⟩ | ⟨n, cs, rfl, h⟩
  · simpa [AV.one] using h
  · simp [AV.one]
theorem Plain.qn {a : AV} (h : Plain a) : a.qn = a := by
  rcases h with ⟨v, rfl, _, h⟩ | ⟨n, cs, rfl, h⟩
  · unfold AV.qn
    split
    · rename_i h2
      simp only [AV.sc.injEq] at h2
      exact absurd h2 h
    · rfl
  · rfl

theorem encA_plain : (s : SId) → (x : s.T) → ∀ a ∈ encA s x, Plain a
  | .pair s t, x => by
    intro a ha
    simp only [encA] at ha
    rcases List.mem_append.1 ha with h | h
    · exact encA_plain s _ a h
    · exact encA_plain t _ a h
  | .lst s, l => by
    intro a ha
    simp only [encA, List.mem_singleton] at ha
    subst ha
    refine .inr ⟨_, _, rfl, pureL_all fun b hb => ?_⟩
    obtain ⟨y, _, hy⟩ := List.mem_flatMap.1 hb
    exact (encA_plain s y b hy).pure
  | .i _, x | .b, x | .bun, x | .off, x | .need, x | .key, x | .sit, x => by
    intro a ha
    simp only [encA] at ha
    obtain ⟨v, hv, rfl⟩ := List.mem_map.1 ha
    refine .inl ⟨v, rfl, encV_one _ _ v hv, ?_⟩
    rintro rfl
    simp [encV, iv] at hv

theorem flatA_plain {s : SId} {l : List s.T} {a : AV} (h : a ∈ flatA s l) : Plain a := by
  unfold flatA at h
  obtain ⟨x, _, hx⟩ := List.mem_flatMap.1 h
  exact encA_plain s x a hx

theorem flatA_pure (s : SId) (l : List s.T) : pureL (flatA s l) = true := pureL_all fun a h => (flatA_plain h).pure

theorem flatA_bel (k : Nat) (s : SId) (l : List s.T) : belL k (flatA s l) = true := belL_all fun a h => (flatA_plain h).bel k

theorem flatA_one (s : SId) (l : List s.T) : oneL (flatA s l) = true := by
  simp only [oneL, List.all_eq_true]
  intro a h
  exact (flatA_plain h).one

theorem map_qn {l : List AV} (h : ∀ a ∈ l, Plain a) : l.map .qn = l := by
  have : l.map AV.qn = l.map id := List.map_congr_left fun a ha => (h a ha).qn
  simpa using this

theorem flatA_qn (pu : Bool) (s : SId) (l : List s.T) : qnL pu (flatA s l) = flatA s l := by
  unfold qnL
  split
  · exact map_qn fun a ha => flatA_plain ha
  · rfl

theorem flatA_len (s : SId) (l : List s.T) : (flatA s l).length = l.length * s.sz := by
  induction l with
  | nil => simp [flatA]
  | cons x l ih => simp only [flatA, List.flatMap_cons, List.length_append, encA_len, List.length_cons] at ih ⊢; rw [ih, Nat.succ_mul]; omega

theorem flatA_app (s : SId) (l l' : List s.T) : flatA s (l ++ l') = flatA s l ++ flatA s l' := by simp [flatA]

theorem flatA_drop (s : SId) : ∀ (l : List s.T) (i : Nat), (flatA s l).drop (i * s.sz) = flatA s (l.drop i)
  | l, 0 => by simp
  | [], i + 1 => by simp [flatA]
  | x :: l, i + 1 => by
    have h := flatA_drop s l i
    simp only [flatA, List.flatMap_cons, List.drop_succ_cons] at h ⊢
    rw [Nat.succ_mul, Nat.add_comm, List.drop_append, encA_len, Nat.add_sub_cancel_left, h, List.drop_of_length_le (by rw [encA_len]; omega)]
    simp

theorem flatA_take (s : SId) : ∀ (l : List s.T) (i : Nat), (flatA s l).take (i * s.sz) = flatA s (l.take i)
  | l, 0 => by simp [flatA]
  | [], i + 1 => by simp [flatA]
  | x :: l, i + 1 => by
    have h := flatA_take s l i
    simp only [flatA, List.flatMap_cons, List.take_succ_cons] at h ⊢
    rw [Nat.succ_mul, Nat.add_comm, List.take_append, encA_len, Nat.add_sub_cancel_left, h, List.take_of_length_le (by rw [encA_len]; omega)]

/-- The element at an index. -/
def nthD {α : Type} (l : List α) (i : Nat) (d : α) : α := (l[i]?).getD d

theorem nthD_eq {α : Type} {l : List α} {i : Nat} {d : α} (h : i < l.length) : nthD l i d = l[i] := by simp [nthD, h]

theorem flatA_at {s : SId} {l : List s.T} {i : Nat} (h : i < l.length) : (flatA s l).drop (i * s.sz) = encA s (nthD l i s.dflt) ++ flatA s (l.drop (i + 1)) := by
  rw [flatA_drop, List.drop_eq_getElem_cons h, nthD_eq h]
  simp only [flatA, List.flatMap_cons]

end Go.Vi
/-
  The symbolic run: its operations, and what must hold for a piece of code to come to a post. Plain definitions: no proof stands here.
  Conditions: none.
-/
namespace Go.Vi

abbrev SEnv := List (Nat × SV)
abbrev SStore := List SObj

structure SSt where
  env : SEnv
  o : SStore

def getS : SEnv → Nat → SV
  | [], _ => .ud
  | p :: r, s => bif Nat.beq p.1 s then p.2 else getS r s

def putS (env : SEnv) (dst : Option Nat) (v : SV) : SEnv :=
  match dst with
  | none => env
  | some d => (d, v) :: env

def SV.ofCell : Value → SV
  | .int k n => .il k n
  | .bool b => .bl b
  | v => .sc v

def SV.ofVal : Value → SV
  | .agg cs => if cs.toList.all (·.oneCell') then .agg (cs.toList.map .ofCell) else .ud
  | .tuple _ => .ud
  | .int k n => .il k n
  | .bool b => .bl b
  | v => .sc v

def evS (env : SEnv) : Operand → SV
  | .tmp t => getS env t
  | .const v => .ofVal v
  | .global _ => .ud
  | .func f => .fn (.func f) [] []

def SV.cellsOf : SV → List SV
  | .agg cs => cs
  | v => [v]

def SV.one : SV → Bool
  | .agg _ | .tup _ | .ud => false
  | .sc v => v.oneCell'
  | _ => true

def oneS (l : List SV) : Bool := l.all (·.one)

mutual
def SV.pure : SV → Bool
  | .sc _ | .il .. | .si .. | .bl _ | .sb _ | .row .. => true
  | _ => false
def pureS : List SV → Bool
  | [] => true
  | c :: cs => c.pure && pureS cs
end

mutual
def SV.bel (k : Nat) : SV → Bool
  | .ud | .sc _ | .il .. | .si .. | .bl _ | .sb _ | .row .. | .ep .. => true
  | .agg cs | .tup cs => belS k cs
  | .ptr id .. | .ap id .. | .rp id .. | .ow id .. | .os id .. | .mp id => decide (id < k)
  | .fn _ a b => belS k a && belS k b
def belS (k : Nat) : List SV → Bool
  | [] => true
  | c :: cs => c.bel k && belS k cs
end

def SObj.bel (k : Nat) : SObj → Bool
  | .cells cs _ _ pu => pu || belS k cs
  | _ => true

mutual
/-- No slice is reached. -/
def SV.noSl : SV → Bool
  | .ud | .sc _ | .il .. | .si .. | .bl _ | .sb _ => true
  | .agg cs | .tup cs => noSlS cs
  | _ => false
def noSlS : List SV → Bool
  | [] => true
  | c :: cs => c.noSl && noSlS cs
end

/-- The sum and its like stay in the kind's bounds. -/
def inR (k : IntKind) (n : Int) : Prop :=
  match k with
  | .i64 => -9223372036854775808 ≤ n ∧ n ≤ 9223372036854775807
  | k => k.wrap n = n

/-- What the call of a function must come to. -/
structure SCalls where
  pure : FuncId → List SV → (SV → Prop) → Prop
  own : FuncId → List SV → SStore → (SV → SStore → Prop) → Prop

structure SPar where
  C : SCalls
  ty : TypeId → Option SId
  mt : List Nat × Bool → Option (SId × SId)
  /-- Before a region: an object's cell that is one of the first numbers. -/
  sp : Nat → Option (Nat × Nat × Nat) := fun _ => none

def partS (cs : List SV) (off : Nat) : Option Nat → Option SV
  | none => cs[off]?
  | some n => if off + n ≤ cs.length then some (.agg ((cs.drop off).take n)) else none

def writeS (cs : List SV) (off : Nat) : List SV → List SV
  | [] => cs
  | v :: vs => writeS (cs.set off v) (off + 1) vs

def optK {α : Type} (x : Option α) (K : α → Prop) : Prop := match x with | some a => K a | none => False

def seqK {α : Type} (f : SV → (α → Prop) → Prop) : List SV → (List α → Prop) → Prop
  | [], K => K []
  | v :: vs, K => f v fun a => seqK f vs fun as => K (a :: as)

/-- What is frozen. -/
def frzK (o : SStore) : Nat → SV → (SV → Prop) → Prop
  | _, .ud, K => K .ud
  | _, .sc v, K => match v with
    | .slice none 0 0 => K (.row (.i .i64) [])
    | v => K (.sc v)
  | _, .il k n, K => K (.il k n)
  | _, .si k n, K => K (.si k n)
  | _, .bl b, K => K (.bl b)
  | _, .sb b, K => K (.sb b)
  | _, .row s l, K => K (.row s l)
  | d + 1, .agg cs, K => seqK (frzK o d) cs fun cs' => K (.agg cs')
  | d + 1, .tup cs, K => seqK (frzK o d) cs fun cs' => K (.tup cs')
  | d + 1, .fn f a b, K => seqK (frzK o d) a fun a' => seqK (frzK o d) b fun b' => K (.fn f a' b')
  | _ + 1, .ow id n sz, K => match o[id]? with
    | some (.row s l _ _) => if sz = s.sz then n = l.length ∧ K (.row s l) else False
    | _ => False
  | _ + 1, .os id off len n sz, K => match o[id]? with
    | some (.row s l _ _) => if sz = s.sz then n = l.length ∧ off + len ≤ n ∧ K (.row s ((l.drop off).take len)) else False
    | _ => False
  | _, _, _ => False

/-- The cells behind an address: what is read there. -/
def loadK (o : SStore) (a : SV) (n : Option Nat) (K : SV → Prop) : Prop :=
  match a with
  | .ptr id off tot => match o[id]? with
    | some (.cells cs _ _ _) => if cs.length = tot then optK (partS cs off n) K else False
    | _ => False
  | .ap id base sz len tot i => match o[id]? with
    | some (.cells cs _ _ _) => if cs.length = tot ∧ base + sz * len ≤ tot then i < len ∧ pickK ((cs.drop base).take (sz * len)) sz i n K else False
    | _ => False
  | .ep s l i off => i < l.length ∧ optK (partS (encS s (nthD l i s.dflt)) off n) K
  | .rp id i off m sz => match o[id]? with
    | some (.row s l _ _) => if sz = s.sz then m = l.length ∧ i < l.length ∧ optK (partS (encS s (nthD l i s.dflt)) off n) K else False
    | _ => False
  | _ => False
where
  pickK (cs : List SV) (sz i : Nat) (n : Option Nat) (K : SV → Prop) : Prop :=
    match n, sz with
    | none, 1 => match ints cs with
      | some l => K (.si .i64 (nthD l i 0))
      | none => match rowsOff cs with
        | some l => K (.row .off (nthD l i []))
        | none => False
    | _, _ => False
  rowsOff : List SV → Option (List (List Off))
    | [] => some []
    | .row .off l :: cs => (rowsOff cs).map (l :: ·)
    | _ => none

/-- A new object, where a place was kept for it. -/
def mkK (nid : Nat) (x : SObj) (o : SStore) (K : SStore → Prop) : Prop :=
  match o[nid]? with
  | some .dead => K (o.set nid x)
  | _ => False

def fillS (parts : List (Nat × Nat × SV)) (cs : List SV) : Option (List SV) :=
  match parts with
  | [] => some cs
  | (off, n, v) :: rest =>
    if v.cellsOf.length = n ∧ oneS v.cellsOf = true ∧ off + n ≤ cs.length then fillS rest (writeS cs off v.cellsOf) else none

/-- Cells as elements. -/
def decL (s : SId) : Nat → List SV → Option (List s.T)
  | 0, [] => some []
  | n + 1, cs => match decS s (cs.take s.sz), decL s n (cs.drop s.sz) with
    | some x, some l => some (x :: l)
    | _, _ => none
  | _, _ => none

/-- The elements of a slice. -/
def elemsK (o : SStore) (s : SId) (x : SV) (K : List s.T → Prop) : Prop :=
  match x with
  | .row s' l => optK (castL s' s l) K
  | .ow id n sz => match o[id]? with
    | some (.row s' l _ _) => if sz = s'.sz then n = l.length ∧ optK (castL s' s l) K else False
    | _ => False
  | .os id off len n sz => match o[id]? with
    | some (.row s' l _ _) => if sz = s'.sz then n = l.length ∧ off + len ≤ n ∧ optK (castL s' s ((l.drop off).take len)) K else False
    | _ => False
  | .sc (.slice none 0 0) => K []
  | _ => False

def intS : SV → Option Int
  | .si _ n => some n
  | .il _ n => some n
  | _ => none

def isNil : SV → Bool
  | .sc (.slice none 0 0) => true
  | _ => false

def binK (op : BinOp) (x y : SV) (K : SV → Prop) : Prop :=
  match x, y with
  | .il k a, .il k' b => match scBin op (.int k a) (.int k' b) with
    | some (.int k n) => K (.il k n)
    | some (.bool c) => K (.bl c)
    | _ => False
  | .si k a, .si k' b => go k a k' b
  | .il k a, .si k' b => go k a k' b
  | .si k a, .il k' b => go k a k' b
  | .sc (.string a), .sc (.string b) => match op with
    | .eql => K (.sb (a.toList == b.toList))
    | .neq => K (.sb (!(a.toList == b.toList)))
    | _ => False
  | _, _ => False
where
  go (k : IntKind) (a : Int) (k' : IntKind) (b : Int) : Prop :=
    match op with
    | .shl => 0 ≤ b ∧ b ≤ k.bits ∧ inR k (a * 2 ^ b.toNat) ∧ K (.si k (a * 2 ^ b.toNat))
    | .shr => 0 ≤ b ∧ b ≤ k.bits ∧ K (.si k (a / 2 ^ b.toNat))
    | .add => if k = k' then inR k (a + b) ∧ K (.si k (a + b)) else False
    | .sub => if k = k' then inR k (a - b) ∧ K (.si k (a - b)) else False
    | .mul => if k = k' then inR k (a * b) ∧ K (.si k (a * b)) else False
    | .quo => if k = k' then b ≠ 0 ∧ inR k (a.tdiv b) ∧ K (.si k (a.tdiv b)) else False
    | .rem => if k = k' then b ≠ 0 ∧ K (.si k (a.tmod b)) else False
    | .and => if k = k' then K (.si k (andI k a b)) else False
    | .or => if k = k' then K (.si k (orI k a b)) else False
    | .xor => if k = k' then K (.si k (xorI k a b)) else False
    | .andNot => if k = k' then K (.si k (andNotI k a b)) else False
    | .eql => if k = k' then K (.sb (decide (a = b))) else False
    | .neq => if k = k' then K (.sb (decide (a ≠ b))) else False
    | .lss => if k = k' then K (.sb (decide (a < b))) else False
    | .leq => if k = k' then K (.sb (decide (a ≤ b))) else False
    | .gtr => if k = k' then K (.sb (decide (b < a))) else False
    | .geq => if k = k' then K (.sb (decide (b ≤ a))) else False
  andI (k : IntKind) (a b : Int) : Int := wrapI k (BitVec.ofInt k.bits a &&& BitVec.ofInt k.bits b).toNat
  orI (k : IntKind) (a b : Int) : Int := wrapI k (BitVec.ofInt k.bits a ||| BitVec.ofInt k.bits b).toNat
  xorI (k : IntKind) (a b : Int) : Int := wrapI k (BitVec.ofInt k.bits a ^^^ BitVec.ofInt k.bits b).toNat
  andNotI (k : IntKind) (a b : Int) : Int := wrapI k (BitVec.ofInt k.bits a &&& ~~~ (BitVec.ofInt k.bits b)).toNat

/-- '==' of two cells. -/
def seq1S : SV → SV → Option Bool
  | .si k a, y => (y.int k).map fun b => decide (a = b)
  | .il k a, y => (y.int k).map fun b => decide (a = b)
  | .sb a, y => y.boo.map fun b => a == b
  | .bl a, y => y.boo.map fun b => a == b
  | _, _ => none

def seqLS : List SV → List SV → Option Bool
  | [], [] => some true
  | x :: xs, y :: ys => match seq1S x y, seqLS xs ys with
    | some a, some b => some (a && b)
    | _, _ => none
  | _, _ => none

def kOkS : List Nat → List SV → Bool
  | [], [] => true
  | 0 :: ks, .si _ _ :: vs => kOkS ks vs
  | 0 :: ks, .il _ _ :: vs => kOkS ks vs
  | 1 :: ks, .sb _ :: vs => kOkS ks vs
  | 1 :: ks, .bl _ :: vs => kOkS ks vs
  | _, _ => false

def findT (sk sv : SId) (x : sk.T) (es : List (sk.T × sv.T)) : Option sv.T := (es.find? fun p => decide (p.1 = x)).map (·.2)

def setT (sk sv : SId) (x : sk.T) (v : sv.T) : List (sk.T × sv.T) → List (sk.T × sv.T)
  | [] => [(x, v)]
  | p :: r => if p.1 = x then (x, v) :: r else p :: setT sk sv x v r

/-- An aggregate, or none. -/
def aggIs (ka : Bool) : SV → Bool
  | .agg _ => ka
  | _ => !ka

/-- A map's key is of one of these kinds. -/
def SId.keyed : SId → Bool
  | .key | .sit | .i _ => true
  | _ => false

def boundK (d : Nat) : Option SV → (Nat → Prop) → Prop
  | none, K => K d
  | some (.il _ n), K => if 0 ≤ n then K n.toNat else False
  | some (.si _ n), K => 0 ≤ n ∧ K n.toNat
  | _, _ => False

/-- One of the numbers is another one. -/
def setI : List Int → Nat → Int → Nat → List Int
  | [], _, _, _ => []
  | a :: l, i, v, j => (if i = j then v else a) :: setI l i v (j + 1)

/-- What an operation must come to. -/
def opK (p : SPar) (op : IOp) (ρ : Operand → SV) (o : SStore) (nid : Nat) (K : SV → SStore → Prop) : Prop :=
  match op with
  | .mov x => K (ρ x) o
  | .pick c a b => match ρ c with
    | .bl true => K (ρ a) o
    | .bl false => K (ρ b) o
    | .sb c => (c = true → K (ρ a) o) ∧ (c = false → K (ρ b) o)
    | _ => False
  | .alloc z e pu => mkK nid (.cells (z.map .ofCell) e z.length pu) o fun o' => K (.ptr nid 0 z.length) o'
  | .box e x => if oneS (ρ x).cellsOf then mkK nid (.cells (ρ x).cellsOf e (ρ x).cellsOf.length false) o fun o' => K (.ptr nid 0 (ρ x).cellsOf.length) o' else False
  | .build z parts => optK (fillS (parts.map fun q => (q.1, q.2.1, ρ q.2.2)) (z.map .ofCell)) fun cs => K (.agg cs) o
  | .mkrow z len parts e sz => match p.ty e, fillS (parts.map fun q => (q.1, sz, ρ q.2)) ((List.replicate len (z.map SV.ofCell)).flatten) with
    | some s, some cs => if s.sz = sz then optK (decL s len (cs.map SV.qn)) fun l => mkK nid (.row s l e true) o fun o' => K (.ow nid len sz) o' else False
    | _, _ => False
  | .mkimm z len parts e sz => match p.ty e, fillS (parts.map fun q => (q.1, sz, ρ q.2)) ((List.replicate len (z.map SV.ofCell)).flatten) with
    | some s, some cs => if s.sz = sz then optK (decL s len (cs.map SV.qn)) fun l => K (.row s l) o else False
    | _, _ => False
  | .load n a => loadK o (ρ a) n fun v => K v o
  | .store n a x => match ρ a with
    | .ptr id off tot => match o[id]? with
      | some (.cells cs e sz pu) =>
        if cs.length = tot ∧ (ρ x).cellsOf.length = n ∧ oneS (ρ x).cellsOf = true ∧ off + n ≤ cs.length ∧ (pu = false ∨ pureS (ρ x).cellsOf = true) then K .ud (o.set id (.cells (writeS cs off (if pu then (ρ x).cellsOf.map SV.qn else (ρ x).cellsOf)) e sz pu)) else False
      | _ => False
    | .rp id i off m sz => match o[id]? with
      | some (.row s l e pu) =>
        if sz = s.sz ∧ (ρ x).cellsOf.length = n ∧ off + n ≤ s.sz then m = l.length ∧ i < l.length ∧ optK (decS s (writeS (encS s (nthD l i s.dflt)) off (if pu then (ρ x).cellsOf.map SV.qn else (ρ x).cellsOf))) fun v => K .ud (o.set id (.row s (l.set i v) e pu)) else False
      | _ => False
    | .ap id base sz len tot i => match o[id]? with
      | some (.cells cs e sz' pu) => match n, sz, (ρ x).int .i64 with
        | 1, 1, some v => match ints ((cs.drop base).take len) with
          | some l => if cs.length = tot ∧ base + len ≤ tot then i < len ∧ K .ud (o.set id (.cells (writeS cs base ((setI l i v 0).map (SV.si .i64))) e sz' pu)) else False
          | none => False
        | _, _, _ => False
      | _ => False
    | _ => False
  | .nilc x => match ρ x with
    | .ptr a b c => K (.ptr a b c) o
    | .rp a b c d e => K (.rp a b c d e) o
    | .ep s l i f => K (.ep s l i f) o
    | _ => False
  | .bin op x y => binK op (ρ x) (ρ y) fun v => K v o
  | .beq neg x y => match (ρ x).boo, (ρ y).boo with
    | some a, some b => K (.sb (if neg then !(a == b) else a == b)) o
    | _, _ => False
  | .eqf neg ks x y => match ρ x, ρ y with
    | .agg a, .agg b => if kOkS ks a && kOkS ks b then optK (seqLS a b) fun r => K (.sb (if neg then !r else r)) o else False
    | _, _ => False
  | .un op x => match op, ρ x with
    | .not, .sb b => K (.sb !b) o
    | .not, .bl b => K (.bl !b) o
    | .neg, .si k n => inR k (-n) ∧ K (.si k (-n)) o
    | .neg, .il k n => K (.il k (wrapI k (0 - n))) o
    | _, _ => False
  | .conv k x => match ρ x with
    | .il _ n => K (.il k (wrapI k n)) o
    | .si _ n => inR k n ∧ K (.si k n) o
    | _ => False
  | .fieldA off x => match ρ x with
    | .ptr id b tot => K (.ptr id (b + off) tot) o
    | .ep s l i b => K (.ep s l i (b + off)) o
    | .rp id i b m sz => K (.rp id i (b + off) m sz) o
    | _ => False
  | .field off n x => match ρ x with
    | .agg cs => optK (partS cs off n) fun v => K v o
    | _ => False
  | .idxA len sz x i => match ρ i with
    | .il _ n => if 0 ≤ n ∧ n < len then (match ρ x with
      | .ptr id b tot => K (.ptr id (b + n.toNat * sz) tot) o
      | .ep s l j b => K (.ep s l j (b + n.toNat * sz)) o
      | .rp id j b m sz' => K (.rp id j (b + n.toNat * sz) m sz') o
      | _ => False) else False
    | .si _ n => match ρ x with
      | .ptr id b tot => 0 ≤ n ∧ n < len ∧ K (.ap id b sz len tot n.toNat) o
      | _ => False
    | _ => False
  | .idxS sz x i => match intS (ρ i) with
    | some n => match ρ x with
      | .row s l => if sz = s.sz then 0 ≤ n ∧ n < l.length ∧ K (.ep s l n.toNat 0) o else False
      | .ow id m sz' => match o[id]? with
        | some (.row s l _ _) => if sz = s.sz ∧ sz' = s.sz then m = l.length ∧ 0 ≤ n ∧ n < l.length ∧ K (.rp id n.toNat 0 m sz) o else False
        | _ => False
      | .os id off len m sz' => match o[id]? with
        | some (.row s l _ _) => if sz = s.sz ∧ sz' = s.sz then m = l.length ∧ 0 ≤ n ∧ n < len ∧ off + len ≤ m ∧ K (.rp id (off + n.toNat) 0 m sz) o else False
        | _ => False
      | _ => False
    | none => False
  | .idx len sz n x i => match ρ i, ρ x with
    | .il _ k, .agg cs => if 0 ≤ k ∧ k < len then optK (partS cs (k.toNat * sz) n) fun v => K v o else False
    | .si _ k, .agg cs => match n, sz, ints cs with
      | none, 1, some l => if l.length = len then 0 ≤ k ∧ k < len ∧ K (.si .i64 (nthD l k.toNat 0)) o else False
      | _, _, _ => False
    | _, _ => False
  | .mkslice z e sz bytes l c pu => match intS (ρ l), intS (ρ c), p.ty e with
    | some n, some m, some s => if s.sz = sz then optK (decS s (if pu then (z.map SV.ofCell).map SV.qn else z.map .ofCell)) fun x => 0 ≤ n ∧ n ≤ m ∧ m * bytes ≤ 140737488355328 ∧ m ≤ 1000000000000 ∧
        mkK nid (.row s (List.replicate n.toNat x) e pu) o fun o' => K (.ow nid n.toNat sz) o' else False
    | _, _, _ => False
  | .slice sz x lo hi => match ρ x with
    | .row s l => if sz = s.sz then boundK 0 (lo.map ρ) fun a => boundK l.length (hi.map ρ) fun b => a ≤ b ∧ b ≤ l.length ∧ K (.row s ((l.drop a).take (b - a))) o else False
    | .ow id m sz' => match o[id]? with
      | some (.row s l _ _) => if sz = s.sz ∧ sz' = s.sz then m = l.length ∧ boundK 0 (lo.map ρ) fun a => boundK m (hi.map ρ) fun b => a ≤ b ∧ b ≤ m ∧ K (.os id a (b - a) m sz) o else False
      | _ => False
    | _ => False
  | .append e sz bytes s x pu => match p.ty e with
    | some t => if t.sz = sz then elemsK o t (ρ x) fun new => match ρ s with
        | .sc (.slice none 0 0) => (new.length = 0 → K (.sc nilSl) o) ∧ (new.length ≠ 0 → new.length * bytes ≤ 140737488355328 ∧ new.length ≤ 1000000000000 ∧ mkK nid (.row t new e pu) o fun o' => K (.ow nid new.length sz) o')
        | .ow id n sz' => match o[id]? with
          | some (.row t' l e' pu') => if e' = e ∧ t'.sz = sz ∧ sz' = sz then n = l.length ∧ (l.length + new.length) * bytes ≤ 140737488355328 ∧ l.length + new.length ≤ 1000000000000 ∧
              optK (castL t' t l) fun l' => K (.ow id (l' ++ new).length sz) (o.set id (.row t (l' ++ new) e pu')) else False
          | _ => False
        | .row t' l => new.length = 0 ∧ K (.row t' l) o
        | _ => False
      else False
    | none => False
  | .len k x => match k, ρ x with
    | 0, .row _ l => K (.si .i64 l.length) o
    | 0, .ow _ n _ => K (.si .i64 n) o
    | 0, .os _ _ len _ _ => K (.si .i64 len) o
    | 0, .sc (.slice none 0 0) => K (.il .i64 0) o
    | 1, .sc (.string s) => K (.si .i64 s.size) o
    | 2, .mp id => match o[id]? with
      | some (.map _ _ _ es _ _) => K (.si .i64 es.length) o
      | _ => False
    | _, _ => False
  | .lenArr n => K (.il .i64 n) o
  | .mm mx x y => match ρ x, ρ y with
    | .il k a, .il k' b => if k = k' then K (.il k (if mx then (if b > a then b else a) else (if b < a then b else a))) o else False
    | .si k a, y => optK (y.int k) fun b => K (.si k (if mx then max a b else min a b)) o
    | .il k a, y => optK (y.int k) fun b => K (.si k (if mx then max a b else min a b)) o
    | _, _ => False
  | .call f args own => callK p f (args.map ρ) o own K
  | .callv f args own => match ρ f with
    | .fn (.func g) first captured => callK p g (first ++ args.map ρ ++ captured) o own K
    | _ => False
  | .extract x i => match ρ x with
    | .tup vs => optK vs[i]? fun v => K v o
    | _ => False
  | .mkfn f first captured => K (.fn f (first.map ρ) (captured.map ρ)) o
  | .mkmap kt pu => match p.mt kt with
    | some (sk, sv) => mkK nid (.map sk sv kt.2 [] kt pu) o fun o' => K (.mp nid) o'
    | none => False
  | .lookup z agg ks ka x k ok => match ρ x with
    | .mp id => match o[id]? with
      | some (.map sk sv ka' es kt _) =>
        if kt = (ks, ka) ∧ ka' = ka ∧ sk.keyed = true ∧ sv.scal = true ∧ agg = false ∧ (ka = false → sk.sz = 1) ∧ kOkS ks (ρ k).cellsOf = true ∧ aggIs ka (ρ k) = true then
          optK (decS sk (ρ k).cellsOf) fun kv => optK (decS sv (z.map .ofCell)) fun zv =>
            let r := (encS sv ((findT sk sv kv es).getD zv)).headD .ud
            K (if ok then .tup [r, .sb (findT sk sv kv es).isSome] else r) o
        else False
      | _ => False
    | _ => False
  | .mapset ks ka x k v => match ρ x with
    | .mp id => match o[id]? with
      | some (.map sk sv ka' es kt pu) =>
        if kt = (ks, ka) ∧ ka' = ka ∧ sk.keyed = true ∧ sv.scal = true ∧ (ka = false → sk.sz = 1) ∧ kOkS ks (ρ k).cellsOf = true ∧ aggIs ka (ρ k) = true ∧ aggIs false (ρ v) = true then
          optK (decS sk (ρ k).cellsOf) fun kv => optK (decS sv (ρ v).cellsOf) fun vv => K .ud (o.set id (.map sk sv ka' (setT sk sv kv vv es) kt pu))
        else False
      | _ => False
    | _ => False
  | _ => False
where
  callK (p : SPar) (f : FuncId) (args : List SV) (o : SStore) (own : Bool) (K : SV → SStore → Prop) : Prop :=
    if own then p.C.own f args o K
    else seqK (frzK o 6) args fun args' => p.C.pure f args' fun r => if (args.flatMap (fun v => tchF (o.map SObj.g) 6 v.g)).isEmpty || r.noSl then K r o else False

/-! ### regions -/

def setE : SEnv → Nat → SV → SEnv
  | [], _, _ => []
  | p :: r, s, v => bif Nat.beq p.1 s then (p.1, v) :: r else p :: setE r s v

/-- Is the operation run? A condition that is open is settled here. -/
def wantK (env : SEnv) (g : Option (Option Nat × Bool)) (K : SEnv → Bool → Prop) : Prop :=
  match g with
  | none => K env true
  | some (none, _) => False
  | some (some s, b) => match getS env s with
    | .bl c => K env (c == b)
    | .sb c => (c = true → K (setE env s (.bl true)) (true == b)) ∧ (c = false → K (setE env s (.bl false)) (false == b))
    | .tup [] => K env false
    | _ => False

def opsK (p : SPar) (base : Nat) : List IOper → SSt → Trace → (SSt → Trace → Prop) → Prop
  | [], st, tr, K => K st tr
  | i :: r, st, tr, K => wantK st.env i.guard fun env w =>
      if w then opK p i.op (evS env) st.o (base + i.nid) fun v o' => opsK p base r ⟨putS env i.dst v, o'⟩ ((i.idx, tch i.op (fun x => (evS env x).g) (st.o.map SObj.g) (base + i.nid), wrt i.op (fun x => (evS env x).g) (st.o.map SObj.g) (base + i.nid)) :: tr) K
      else opsK p base r ⟨putS env i.dst (.tup []), st.o⟩ ((i.idx, [], []) :: tr) K

def SObj.isDead : SObj → Bool
  | .dead => true
  | _ => false

def sweepS (base : Nat) (o : SStore) : SStore := if (o.drop base).all (·.isDead) then o.take base else o

def regK (p : SPar) (k : Nat) (ops : List IOper) (chk : List (Nat × Nat)) (st : SSt) (K : SSt → Prop) : Prop :=
  opsK p st.o.length ops ⟨st.env, st.o ++ List.replicate k .dead⟩ [] fun st' tr =>
    if chk.isEmpty || chkOk (st.o.length + k) tr.reverse chk then K ⟨st'.env, if k = 0 then st'.o else sweepS st.o.length st'.o⟩ else False

/-! hints -/

mutual
/-- A row is let go as a plain slice. -/
def frzV (id : Nat) (s : SId) (l : List s.T) : SV → (SV → Prop) → Prop
  | .ow j n sz, K => if j = id then (if sz = s.sz then n = l.length ∧ K (.row s l) else False) else K (.ow j n sz)
  | .os j off len n sz, K => if j = id then (if sz = s.sz then n = l.length ∧ off + len ≤ n ∧ K (.row s ((l.drop off).take len)) else False) else K (.os j off len n sz)
  | .rp j i f n sz, K => if j = id then False else K (.rp j i f n sz)
  | .ptr j f t, K => if j = id then False else K (.ptr j f t)
  | .ap j a b c d e, K => if j = id then False else K (.ap j a b c d e)
  | .agg cs, K => frzVL id s l cs fun cs' => K (.agg cs')
  | .tup cs, K => frzVL id s l cs fun cs' => K (.tup cs')
  | .fn f a b, K => frzVL id s l a fun a' => frzVL id s l b fun b' => K (.fn f a' b')
  | v, K => K v
def frzVL (id : Nat) (s : SId) (l : List s.T) : List SV → (List SV → Prop) → Prop
  | [], K => K []
  | c :: cs, K => frzV id s l c fun c' => frzVL id s l cs fun cs' => K (c' :: cs')
end

def frzEK (id : Nat) (s : SId) (l : List s.T) : SEnv → (SEnv → Prop) → Prop
  | [], K => K []
  | (k, v) :: r, K => frzV id s l v fun v' => frzEK id s l r fun r' => K ((k, v') :: r')

def frzOK (id : Nat) (s : SId) (l : List s.T) : Nat → SStore → (SStore → Prop) → Prop
  | _, [], K => K []
  | i, x :: r, K => match x with
    | .cells cs e sz pu => if pu then (if i = id then False else frzOK id s l (i + 1) r fun r' => K (.cells cs e sz pu :: r')) else frzVL id s l cs fun cs' => frzOK id s l (i + 1) r fun r' => K (.cells cs' e sz pu :: r')
    | .row s' l' e pu => if i = id then (if pu then frzOK id s l (i + 1) r fun r' => K (.dead :: r') else False) else frzOK id s l (i + 1) r fun r' => K (.row s' l' e pu :: r')
    | x => frzOK id s l (i + 1) r fun r' => K (x :: r')

def hintK (p : SPar) (lo : Nat) (h : OwnH) (st : SSt) (K : SSt → Prop) : Prop :=
  if h.own then match h.off with
    | none => if isNil (getS st.env h.slot) then (match p.ty h.e with
        | some s => if s.sz = h.sz then K ⟨(h.slot, .ow st.o.length 0 h.sz) :: st.env, st.o ++ [.row s [] h.e h.pu]⟩ else False
        | none => False) else K st
    | some k => match getS st.env h.slot with
      | .ptr id off tot => match st.o[id]? with
        | some (.cells cs e sz pu) => if (cs[off + k]?).any isNil then (if cs.length = tot ∧ pu = false then (match p.ty h.e with
            | some s => if s.sz = h.sz then K ⟨st.env, (st.o.set id (.cells (cs.set (off + k) (.ow st.o.length 0 h.sz)) e sz pu)) ++ [.row s [] h.e h.pu]⟩ else False
            | none => False) else False) else K st
        | _ => False
      | _ => False
  else match cellK h st with
    | some (some id) => if Nat.ble lo id then (match st.o[id]? with
      | some (.row s l _ pu) => if pu then frzEK id s l st.env fun env => frzOK id s l 0 st.o fun o => K ⟨env, o⟩ else False
      | _ => False) else K st
    | some none => K st
    | none => False
where
  /-- The object of a slice of the call's own. -/
  idOf : SV → Option Nat
    | .ow id .. => some id
    | .os id .. => some id
    | _ => none
  cellK (h : OwnH) (st : SSt) : Option (Option Nat) :=
    match h.off with
    | none => some (idOf (getS st.env h.slot))
    | some k => match getS st.env h.slot with
      | .ptr id off tot => match st.o[id]? with
        | some (.cells cs _ _ _) => if cs.length = tot then (cs[off + k]?).map idOf else none
        | _ => none
      | _ => none

def hintsK (p : SPar) (lo : Nat) : List OwnH → SSt → (SSt → Prop) → Prop
  | [], st, K => K st
  | h :: hs, st, K => hintK p lo h st fun st' => hintsK p lo hs st' K

def pruneS (live : List Nat) (env : SEnv) : SEnv := live.map fun s => (s, getS env s)

def trimS (k : Nat) (st : SSt) : SSt :=
  if st.o.length ≤ k then st
  else if (st.env.all fun p => p.2.bel k) && ((st.o.take k).all fun x => x.bel k) then ⟨st.env, st.o.take k⟩ else st

/-- Equal as values. -/
def SV.same (v w : SV) : Prop := v.g = w.g
def SObj.same (x y : SObj) : Prop := x.g = y.g

def sameE : SEnv → SEnv → Prop
  | [], [] => True
  | (k, v) :: e, (k', v') :: e' => if k = k' then v.same v' ∧ sameE e e' else False
  | _, _ => False

def sameO : SStore → SStore → Prop
  | [], [] => True
  | x :: o, y :: o' => x.same y ∧ sameO o o'
  | _, _ => False

/-- Equal as states. -/
def sameSt (s t : SSt) : Prop := sameE s.env t.env ∧ sameO s.o t.o

/-! what a state holds -/
def iS (s : SSt) (k : Nat) : Int := match getS s.env k with
  | .si _ n => n
  | .il _ n => n
  | _ => 0
def bS (s : SSt) (k : Nat) : Bool := match getS s.env k with
  | .sb b => b
  | .bl b => b
  | _ => false
def rS (t : SId) (s : SSt) (k : Nat) : List t.T := match getS s.env k with
  | .row t' l => match castL t' t l with
    | some l => l
    | none => []
  | _ => []
def oS (t : SId) (s : SSt) (id : Nat) : List t.T := match s.o[id]? with
  | some (.row t' l _ _) => match castL t' t l with
    | some l => l
    | none => []
  | _ => []
/-- The element that lies in an object's cells. -/
def cS (t : SId) (s : SSt) (id off : Nat) : t.T := match s.o[id]? with
  | some (.cells cs _ _ _) => match decS t ((cs.drop off).take t.sz) with
    | some x => x
    | none => t.dflt
  | _ => t.dflt
def castM (k v k' v' : SId) (es : List (k.T × v.T)) : Option (List (k'.T × v'.T)) := if h : k = k' ∧ v = v' then some (h.1 ▸ h.2 ▸ es) else none
def mS (k v : SId) (s : SSt) (id : Nat) : List (k.T × v.T) := match s.o[id]? with
  | some (.map k' v' _ es _ _) => match castM k' v' k v es with
    | some es => es
    | none => []
  | _ => []

/-- A number that is below 'n': each case by itself. -/
def splitN (v : Int) (n : Nat) (K : Nat → Prop) : Nat → Prop
  | 0 => 0 ≤ v ∧ v < n
  | j + 1 => (v = (n - (j + 1) : Nat) → K (n - (j + 1))) ∧ splitN v n K j

def splitK (x : Option (Nat × Nat × Nat)) (st : SSt) (K : SSt → Prop) : Prop :=
  match x with
  | none => K st
  | some (id, off, n) => match st.o[id]? with
    | some (.cells cs e sz pu) => match cs[off]? with
      | some (.si k v) => splitN v n (fun j => K ⟨st.env, st.o.set id (.cells (cs.set off (.il k j)) e sz pu)⟩) n
      | _ => False
    | _ => False

/-- How a loop is run: so many times, or by an invariant over the values of 'X'. -/
inductive LoopAnn where
  | unroll (n : Nat)
  | look
  | inv (X : Type) (shape : X → SSt) (next : SSt → X) (J : X → Prop) (m : X → Nat) (inner : X → Nat → LoopAnn)

def Look (_ : SSt) : Prop := False

/-- The first region of a piece of code. -/
def firstReg : IR → Nat
  | .region id .. => id
  | .seq a _ => firstReg a
  | .block _ b => firstReg b
  | .loop b => firstReg b
  | _ => 0

def unrollK (W : SSt → (Out → SSt → Prop) → Prop) (Q : Out → SSt → Prop) : Nat → SSt → Prop
  | 0, _ => False
  | n + 1, st => W st fun out s => match out with
    | .norm => unrollK W Q n (trimS st.o.length s)
    | o => Q o s

/-- What must hold for a piece of code to come to 'Q'. -/
def wpS (p : SPar) (lo : Nat) : IR → (Nat → LoopAnn) → SSt → (Out → SSt → Prop) → Prop
  | .skip, _, st, Q => Q .norm st
  | .region id _ k ops chk live pre post, _, st, Q => splitK (p.sp id) st fun st0 => hintsK p lo pre st0 fun st1 => regK p k ops chk st1 fun st2 => hintsK p lo post ⟨pruneS live st2.env, st2.o⟩ fun st3 => Q .norm st3
  | .seq a b, Λ, st, Q => wpS p lo a Λ st fun out s => match out with
    | .norm => wpS p lo b Λ s Q
    | o => Q o s
  | .cond x a b, Λ, st, Q => match evS st.env x with
    | .bl true => wpS p lo a Λ st Q
    | .bl false => wpS p lo b Λ st Q
    | .sb c => (c = true → wpS p lo a Λ st Q) ∧ (c = false → wpS p lo b Λ st Q)
    | _ => False
  | .block id b, Λ, st, Q => wpS p lo b Λ st fun out s => Q (out.inBlock id) s
  | .loop b, Λ, st, Q => match Λ (firstReg b) with
    | .unroll n => unrollK (wpS p lo b Λ) Q n st
    | .look => Look st
    | .inv _ shape next J m inner => (sameSt st (shape (next st)) ∧ J (next st)) ∧ ∀ x, J x → wpS p lo b (inner x) (shape x) fun out s => match out with
      | .norm => sameSt (trimS (shape x).o.length s) (shape (next (trimS (shape x).o.length s))) ∧ J (next (trimS (shape x).o.length s)) ∧ m (next (trimS (shape x).o.length s)) < m x
      | o => Q o s
  | .exit id, _, st, Q => Q (.exit id) st
  | .ret, _, st, Q => Q .ret st

def bindS : Nat → List SV → SEnv
  | _, [] => []
  | i, v :: vs => (i, v) :: bindS (i + 1) vs

def resK (st : SSt) (rs : List IRes) (K : SV → Prop) : Prop :=
  goK rs fun l => match l with
    | [v] => K v
    | l => K (.tup l)
where
  goK : List IRes → (List SV → Prop) → Prop
    | [], K => K []
    | r :: rs, K => oneK r fun v => goK rs fun l => K (v :: l)
  oneK (r : IRes) (K : SV → Prop) : Prop := match r.cell with
    | none => K (getS st.env r.slot)
    | some n => loadK st.o (getS st.env r.slot) n K

/-- A call of a function that does not write to what is handed in. -/
def fnK (p : SPar) (Λ : Nat → LoopAnn) (F : IFn) (args : List SV) (Q : SV → Prop) : Prop :=
  wpS p 0 F.body Λ ⟨bindS 0 args, []⟩ fun out st => match out with
    | .exit _ => False
    | _ => resK st F.res fun r => frzK st.o 6 r Q

/-- A call of a function that may write to the first 'o.length' objects. -/
def fnOwnK (p : SPar) (Λ : Nat → LoopAnn) (F : IFn) (args : List SV) (o : SStore) (Q : SV → SStore → Prop) : Prop :=
  wpS p o.length F.body Λ ⟨bindS 0 args, o⟩ fun out st => match out with
    | .exit _ => False
    | _ => resK st F.res fun r => if r.bel o.length && st.o.all (fun x => x.bel o.length) && decide (o.length ≤ st.o.length) then Q r (st.o.take o.length) else False

end Go.Vi

/-
  The abstract interpreter: a region whose order is open.
  Conditions: none.
-/
import Derived.Test.YtigbjjkijfkeeaaViLoc
namespace Go.Vi

section
variable {call : Oracle} {ρ ρ2 : Operand → AV} {nid : Nat}

theorem wrt_tch {iop : IOp} {o : Store} {j : Nat} (h : j ∈ wrt iop ρ o nid) : j ∈ tch iop ρ o nid := by
  cases iop <;> simp only [wrt, tch, List.not_mem_nil] at h ⊢ <;> try exact h
  case append => simp only [List.mem_cons, List.mem_append] at h ⊢; rcases h with h | h <;> simp [h]
  case call f args own => cases own <;> simp only [List.not_mem_nil] at h ⊢; exact h
  case callv f args own => cases own <;> simp only [List.not_mem_nil] at h ⊢; exact h

theorem wrt_nil {iop : IOp} {o : Store} (h : iop.cls = 0 ∨ iop.cls = 1) : wrt iop ρ o nid = [] := by
  cases iop <;> try (simp [IOp.cls] at h; done)
  case call f args own => cases own <;> simp [IOp.cls] at h; rfl
  case callv f args own => cases own <;> simp [IOp.cls] at h; rfl
  all_goals rfl

theorem tch_nil {iop : IOp} {o : Store} (h : iop.cls = 0) : tch iop ρ o nid = [] := by
  cases iop <;> try (simp [IOp.cls] at h; done)
  case call f args own => cases own <;> simp [IOp.cls] at h
  case callv f args own => cases own <;> simp [IOp.cls] at h
  all_goals rfl

theorem cls_cases (iop : IOp) : iop.cls = 0 ∨ iop.cls = 1 ∨ iop.cls = 2 ∨ iop.cls = 3 := by
  cases iop <;> try (simp [IOp.cls]; done)
  case call f args own => cases own <;> simp [IOp.cls]
  case callv f args own => cases own <;> simp [IOp.cls]

/-- What an operation may change. -/
def ModO (iop : IOp) (W : List Nat) (n j : Nat) : Prop := j ∈ W ∨ (iop.cls = 3 ∧ n ≤ j)

theorem eff_loc {iop : IOp} {o o' : Store} {v : AV} (he : effS call iop ρ o nid = some (v, o')) :
    o.length ≤ o'.length ∧ (iop.cls ≠ 3 → o'.length = o.length) ∧ (∀ j, ¬ ModO iop (wrt iop ρ o nid) o.length j → o'[j]? = o[j]?) ∧
    ∀ o2 : Store, (∀ j ∈ tch iop ρ o nid, o2[j]? = o[j]?) → (iop.cls = 3 → o2.length = o.length) →
      ∃ o2', effS call iop ρ o2 nid = some (v, o2') ∧ tch iop ρ o2 nid = tch iop ρ o nid ∧ wrt iop ρ o2 nid = wrt iop ρ o nid ∧ ∀ j, ModO iop (wrt iop ρ o nid) o.length j → o2'[j]? = o'[j]? := by
  rcases cls_cases iop with hc | hc | hc | hc
  · have := eff_pure_o hc he
    subst this
    refine ⟨Nat.le_refl _, fun _ => rfl, fun _ _ => rfl, fun o2 _ _ => ⟨o2, ?_, by rw [tch_nil hc, tch_nil hc], by rw [wrt_nil (.inl hc), wrt_nil (.inl hc)], fun j hj => ?_⟩⟩
    · rw [eff_pure hc o' o2, he]; rfl
    · rw [ModO, wrt_nil (.inl hc)] at hj; simp [hc] at hj
  · have := eff_reads_o hc he
    subst this
    refine ⟨Nat.le_refl _, fun _ => rfl, fun _ _ => rfl, fun o2 h _ => ⟨o2, ?_, (eff_reads (call := call) hc h).2, by rw [wrt_nil (.inr hc), wrt_nil (.inr hc)], fun j hj => ?_⟩⟩
    · rw [(eff_reads hc h).1, he]; rfl
    · rw [ModO, wrt_nil (.inr hc)] at hj; simp [hc] at hj
  · obtain ⟨id, x, hid, rfl, hk⟩ := eff_writes hc he
    refine ⟨by simp, fun _ => by simp, fun j hj => ?_, fun o2 h _ => ?_⟩
    · have : j ≠ id := fun hji => hj (.inl (hji ▸ hid))
      rw [List.getElem?_set_ne (Ne.symm this)]
    · obtain ⟨k1, k2, k3⟩ := hk o2 h
      refine ⟨_, k1, k2, k3, fun j hj => ?_⟩
      have hj : j ∈ wrt iop ρ o nid := hj.resolve_right (by simp [hc])
      have hjo := h j (wrt_tch hj)
      by_cases hji : id = j
      · subst hji
        have hlen : (id < o2.length) ↔ (id < o.length) := by
          rcases Nat.lt_or_ge id o2.length with g1 | g1 <;> rcases Nat.lt_or_ge id o.length with g2 | g2
          · simp [g1, g2]
          · rw [List.getElem?_eq_getElem g1, List.getElem?_eq_none g2] at hjo; cases hjo
          · rw [List.getElem?_eq_getElem g2, List.getElem?_eq_none g1] at hjo; cases hjo
          · omega
        rw [List.getElem?_set, List.getElem?_set]
        simp only [if_true]
        by_cases h1 : id < o.length
        · rw [if_pos h1, if_pos (hlen.2 h1)]
        · rw [if_neg h1, if_neg fun h2 => h1 (hlen.1 h2)]
      · rw [List.getElem?_set_ne hji, List.getElem?_set_ne hji]; exact hjo
  · have key : ∀ (f : FuncId) (args : List AV), callOwn call f args o = some (v, o') → wrt iop ρ o nid = reachF o reachD args [] → tch iop ρ o nid = reachF o reachD args [] →
        (∀ o2 : Store, effS call iop ρ o2 nid = callOwn call f args o2 ∧ tch iop ρ o2 nid = reachF o2 reachD args [] ∧ wrt iop ρ o2 nid = reachF o2 reachD args []) →
        o.length ≤ o'.length ∧ (iop.cls ≠ 3 → o'.length = o.length) ∧ (∀ j, ¬ ModO iop (wrt iop ρ o nid) o.length j → o'[j]? = o[j]?) ∧
        ∀ o2 : Store, (∀ j ∈ tch iop ρ o nid, o2[j]? = o[j]?) → (iop.cls = 3 → o2.length = o.length) →
        ∃ o2', effS call iop ρ o2 nid = some (v, o2') ∧ tch iop ρ o2 nid = tch iop ρ o nid ∧ wrt iop ρ o2 nid = wrt iop ρ o nid ∧ ∀ j, ModO iop (wrt iop ρ o nid) o.length j → o2'[j]? = o'[j]? := by
      intro f args hcall hw ht hg
      obtain ⟨c1, c2, c3⟩ := callOwn_loc hcall
      refine ⟨c1, fun h => absurd hc h, fun j hj => ?_, fun o2 h hl => ?_⟩
      · simp only [ModO, hc, true_and, not_or, Nat.not_le, hw] at hj
        exact c2 j hj.2 hj.1
      · rw [ht] at h
        obtain ⟨o2', d1, d2, d3⟩ := c3 o2 (hl hc) h
        obtain ⟨g1, g2, g3⟩ := hg o2
        refine ⟨o2', by rw [g1, d1], by rw [g2, d2, ht], by rw [g3, d2, hw], fun j hj => d3 j ?_⟩
        simp only [ModO, hc, true_and, hw] at hj
        exact hj
    cases iop <;> try (simp [IOp.cls] at hc; done)
    case call f args own =>
      cases own
      · simp [IOp.cls] at hc
      · simp only [effS, callA, if_true] at he
        exact key f (args.map ρ) he rfl rfl fun o2 => ⟨by simp [effS, callA], rfl, rfl⟩
    case callv f args own =>
      cases own
      · simp [IOp.cls] at hc
      · simp only [effS, callA, if_true] at he
        split at he
        · rename_i g first captured hf
          exact key g (first ++ args.map ρ ++ captured) he (by simp [wrt, hf]) (by simp [tch, hf]) fun o2 => ⟨by simp [effS, callA, hf], by simp [tch, hf], by simp [wrt, hf]⟩
        · cases he

theorem map_rho {l : List Operand} (h : ∀ x ∈ l, ρ2 x = ρ x) : l.map ρ2 = l.map ρ := List.map_congr_left h

theorem eff_rho {iop : IOp} (h : ∀ x ∈ iop.opds, ρ2 x = ρ x) (o : Store) : effS call iop ρ2 o nid = effS call iop ρ o nid ∧ tch iop ρ2 o nid = tch iop ρ o nid ∧ wrt iop ρ2 o nid = wrt iop ρ o nid := by
  cases iop
  case build z ps =>
    have : (ps.map fun p => (p.1, p.2.1, ρ2 p.2.2)) = ps.map fun p => (p.1, p.2.1, ρ p.2.2) := List.map_congr_left fun p hp => by rw [h p.2.2 (by simp only [IOp.opds]; exact List.mem_map_of_mem (f := fun p : Nat × Nat × Operand => p.2.2) hp)]
    simp only [effS, tch, wrt, this, and_self]
  case mkrow z len ps e sz =>
    have : (ps.map fun p => (p.1, sz, ρ2 p.2)) = ps.map fun p => (p.1, sz, ρ p.2) := List.map_congr_left fun p hp => by rw [h p.2 (by simp only [IOp.opds]; exact List.mem_map_of_mem (f := fun p : Nat × Operand => p.2) hp)]
    simp only [effS, tch, wrt, this, and_self]
  case mkimm z len ps e sz =>
    have : (ps.map fun p => (p.1, sz, ρ2 p.2)) = ps.map fun p => (p.1, sz, ρ p.2) := List.map_congr_left fun p hp => by rw [h p.2 (by simp only [IOp.opds]; exact List.mem_map_of_mem (f := fun p : Nat × Operand => p.2) hp)]
    simp only [effS, tch, wrt, this, and_self]
  case call f args own =>
    have := map_rho h
    simp only [IOp.opds] at this
    cases own <;> simp only [effS, tch, wrt, this, and_self]
  case callv f args own =>
    have h1 : args.map ρ2 = args.map ρ := map_rho fun x hx => h x (by simp [IOp.opds, hx])
    have h2 := h f (by simp [IOp.opds])
    cases own <;> simp only [effS, tch, wrt, h1, h2, and_self]
  case mkfn f a b =>
    have h1 : a.map ρ2 = a.map ρ := map_rho fun x hx => h x (by simp [IOp.opds, hx])
    have h2 : b.map ρ2 = b.map ρ := map_rho fun x hx => h x (by simp [IOp.opds, hx])
    simp only [effS, tch, wrt, h1, h2, and_self]
  case slice sz x lo hi =>
    have h1 : lo.map ρ2 = lo.map ρ := by cases lo <;> simp [IOp.opds] at h ⊢; exact h.2.1
    have h2 : hi.map ρ2 = hi.map ρ := by cases hi <;> simp [IOp.opds] at h ⊢; first | exact h.2.2 | (cases lo <;> simp at h <;> simp [h])
    have h3 := h x (by simp [IOp.opds])
    simp only [effS, tch, wrt, h1, h2, h3, and_self]
  case sliceStr x lo hi =>
    have h1 : lo.map ρ2 = lo.map ρ := by cases lo <;> simp [IOp.opds] at h ⊢; exact h.2.1
    have h2 : hi.map ρ2 = hi.map ρ := by cases hi <;> simp [IOp.opds] at h ⊢; first | exact h.2.2 | (cases lo <;> simp at h <;> simp [h])
    have h3 := h x (by simp [IOp.opds])
    simp only [effS, tch, wrt, h1, h2, h3, and_self]
  all_goals
    simp only [IOp.opds, List.mem_cons, List.not_mem_nil, or_false, forall_eq_or_imp, forall_eq] at h
    simp [effS, tch, wrt, h]
end

/-! ### one operation of a region -/

section
variable {call : Oracle} {base : Nat}

/-- What the operation touches and may write, where it stands. -/
def entry (base : Nat) (i : IOper) (st : St) : List Nat × List Nat :=
  match wantA st.env i.guard with
  | some true => (tch i.op (evA st.env) st.o (base + i.nid), wrt i.op (evA st.env) st.o (base + i.nid))
  | _ => ([], [])

theorem entry_sub {i : IOper} {st : St} {j : Nat} (h : j ∈ (entry base i st).2) : j ∈ (entry base i st).1 := by
  unfold entry at h ⊢
  split at h
  · rename_i hw; exact wrt_tch h
  · simp at h

theorem evA_reads {i : IOper} {e e2 : EnvA} (h : ∀ s ∈ i.reads, getE e2 s = getE e s) : (∀ x ∈ i.op.opds, evA e2 x = evA e x) ∧ wantA e2 i.guard = wantA e i.guard := by
  constructor
  · intro x hx
    cases x with
    | tmp t =>
      refine h t ?_
      simp only [IOper.reads, List.mem_append]
      left
      exact List.mem_filterMap.2 ⟨.tmp t, hx, rfl⟩
    | _ => rfl
  · unfold wantA
    cases hg : i.guard with
    | none => rfl
    | some g =>
      obtain ⟨a, b⟩ := g
      cases a with
      | none => rfl
      | some s => simp only; rw [h s (by simp [IOper.reads, hg])]

theorem step_loc {i : IOper} {st st' : St} (hr : runOp call base i st = some st') :
    ∃ v, (∀ s, getE st'.env s = if i.dst = some s then v else getE st.env s) ∧ st.o.length ≤ st'.o.length ∧ (i.op.cls ≠ 3 → st'.o.length = st.o.length) ∧
      (∀ j, ¬ ModO i.op (entry base i st).2 st.o.length j → st'.o[j]? = st.o[j]?) ∧
      ∀ st2 : St, (∀ s ∈ i.reads, getE st2.env s = getE st.env s) → (∀ j ∈ (entry base i st).1, st2.o[j]? = st.o[j]?) → (i.op.cls = 3 → st2.o.length = st.o.length) →
        ∃ st2', runOp call base i st2 = some st2' ∧ (∀ s, getE st2'.env s = if i.dst = some s then v else getE st2.env s) ∧ entry base i st2 = entry base i st ∧
          ∀ j, ModO i.op (entry base i st).2 st.o.length j → st2'.o[j]? = st'.o[j]? := by
  unfold runOp at hr
  split at hr
  · cases hr
  · rename_i hw
    injection hr with hr
    subst hr
    refine ⟨.tup [], fun s => getE_put _ _ _ _, Nat.le_refl _, fun _ => rfl, fun _ _ => rfl, fun st2 he _ hl => ?_⟩
    obtain ⟨h1, h2⟩ := evA_reads he
    refine ⟨⟨putE st2.env i.dst (.tup []), st2.o⟩, ?_, fun s => getE_put _ _ _ _, ?_, fun j hj => ?_⟩
    · unfold runOp; rw [h2, hw]
    · unfold entry; rw [h2, hw]
    · unfold entry at hj
      rw [hw] at hj
      simp only [ModO, List.not_mem_nil, false_or] at hj
      have hll := hl hj.1
      simp only
      rw [List.getElem?_eq_none (by omega), List.getElem?_eq_none (by omega)]
  · rename_i hw
    split at hr
    · rename_i v o' he
      injection hr with hr
      subst hr
      rw [eff_eq] at he
      obtain ⟨l1, l2, l3, l4⟩ := eff_loc he
      have hen : entry base i st = (tch i.op (evA st.env) st.o (base + i.nid), wrt i.op (evA st.env) st.o (base + i.nid)) := by unfold entry; rw [hw]
      rw [hen]
      refine ⟨v, fun s => getE_put _ _ _ _, l1, l2, l3, fun st2 hee hag hl => ?_⟩
      obtain ⟨h1, h2⟩ := evA_reads hee
      obtain ⟨o2', m1, m2, m3, m4⟩ := l4 st2.o hag hl
      obtain ⟨r1, r2, r3⟩ := eff_rho (call := call) (nid := base + i.nid) h1 st2.o
      refine ⟨⟨putE st2.env i.dst v, o2'⟩, ?_, fun s => getE_put _ _ _ _, ?_, m4⟩
      · unfold runOp
        rw [h2, hw]
        simp only
        rw [eff_eq, r1, m1]
      · unfold entry
        rw [h2, hw]
        simp only
        rw [r2, r3, m2, m3]
    · cases hr

/-- Two states that cannot be told apart. -/
def StEq (a b : St) : Prop := (∀ s, getE a.env s = getE b.env s) ∧ a.o = b.o

theorem StEq.refl (a : St) : StEq a a := ⟨fun _ => rfl, rfl⟩
theorem StEq.trans {a b c : St} (h : StEq a b) (k : StEq b c) : StEq a c := ⟨fun s => (h.1 s).trans (k.1 s), h.2.trans k.2⟩
theorem StEq.symm {a b : St} (h : StEq a b) : StEq b a := ⟨fun s => (h.1 s).symm, h.2.symm⟩

theorem StEq.run {i : IOper} {a b a' : St} (h : StEq a b) (hr : runOp call base i a = some a') : ∃ b', runOp call base i b = some b' ∧ StEq a' b' ∧ entry base i b = entry base i a := by
  have h1 : evA b.env = evA a.env := by
    funext x
    cases x with
    | tmp t => exact (h.1 t).symm
    | _ => rfl
  have h2 : wantA b.env i.guard = wantA a.env i.guard := by
    cases hg : i.guard with
    | none => rfl
    | some g =>
      obtain ⟨c, d⟩ := g
      cases c with
      | none => rfl
      | some s => simp only [wantA]; rw [h.1]
  have hput : ∀ (v : AV) (s : Nat), getE (putE a.env i.dst v) s = getE (putE b.env i.dst v) s := by
    intro v s
    simp only [getE_put]
    by_cases hd : i.dst = some s
    · rw [if_pos hd, if_pos hd]
    · rw [if_neg hd, if_neg hd]; exact h.1 s
  have he : entry base i b = entry base i a := by unfold entry; rw [h2, h1, h.2]
  unfold runOp at hr ⊢
  rw [h2, h1, ← h.2]
  split at hr
  · cases hr
  · injection hr with hr; subst hr
    exact ⟨_, rfl, ⟨hput _, rfl⟩, he⟩
  · split at hr
    · injection hr with hr; subst hr
      exact ⟨_, rfl, ⟨hput _, rfl⟩, he⟩
    · cases hr

/-- What two operations touched does not meet. -/
def RelT (n0 : Nat) (y : IOper) (ty : List Nat × List Nat) (x : IOper) (tx : List Nat × List Nat) : Prop :=
  apartT y x = true ∧ (∀ j ∈ ty.2, j ∉ tx.1) ∧ (∀ j ∈ tx.2, j ∉ ty.1) ∧ (y.op.cls = 3 → x.op.cls ≠ 3 ∧ ∀ j ∈ tx.1, j < n0) ∧ (x.op.cls = 3 → ∀ j ∈ ty.1, j < n0)

theorem apartT_spec {y x : IOper} (h : apartT y x = true) : (∀ d, y.dst = some d → d ∉ x.reads) ∧ (∀ d, x.dst = some d → d ∉ y.reads) ∧ ∀ d, y.dst = some d → x.dst ≠ some d := by
  unfold apartT at h
  simp only [Bool.and_eq_true] at h
  obtain ⟨⟨h1, h2⟩, h3⟩ := h
  refine ⟨fun d hd => ?_, fun d hd => ?_, fun d hd hx => ?_⟩
  · rw [hd] at h1; simpa [disj] using h1
  · rw [hd] at h2; simpa [disj] using h2
  · rw [hd, hx] at h3; simp at h3

theorem swap {n0 : Nat} {y x : IOper} {st s1 s2 : St} (hy : runOp call base y st = some s1) (hx : runOp call base x s1 = some s2) (hn : n0 ≤ st.o.length) (hR : RelT n0 y (entry base y st) x (entry base x s1)) :
    ∃ s1' s2', runOp call base x st = some s1' ∧ runOp call base y s1' = some s2' ∧ StEq s2 s2' ∧ entry base x st = entry base x s1 ∧ entry base y s1' = entry base y st := by
  obtain ⟨hap, r1, r2, r3, r4⟩ := hR
  obtain ⟨a1, a2, a3⟩ := apartT_spec hap
  obtain ⟨vy, y1, y2, y3, y4, y5⟩ := step_loc hy
  obtain ⟨vx, x1, x2, x3, x4, x5⟩ := step_loc hx
  -- the second one first
  obtain ⟨s1', p1, p2, p3, p4⟩ := x5 st (fun s hs => by
      rw [y1 s, if_neg fun hd => a1 s hd hs]) (fun j hj => by
      rw [y4 j]
      rintro (hw | ⟨hc, hl⟩)
      · exact r1 j hw hj
      · have := (r3 hc).2 j hj; omega) (fun hc => by
      rw [y3 fun hc2 => (r3 hc2).1 hc])
  obtain ⟨vx', q1, q2, q3, q4, _⟩ := step_loc p1
  obtain ⟨s2', z1, z2, z3, z4⟩ := y5 s1' (fun s hs => by
      rw [p2 s, if_neg fun hd => a2 s hd hs]) (fun j hj => by
      rw [q4 j]
      rw [p3]
      rintro (hw | ⟨hc, hl⟩)
      · exact r2 j hw hj
      · have := r4 hc j hj; omega) (fun hc => by
      rw [q3 (r3 hc).1])
  obtain ⟨vy', b1, b2, b3, b4, _⟩ := step_loc z1
  refine ⟨s1', s2', p1, z1, ⟨fun s => ?_, ?_⟩, p3.symm ▸ rfl, z3⟩
  · rw [x1 s, z2 s, p2 s, y1 s]
    by_cases h1 : x.dst = some s
    · rw [if_pos h1, if_neg fun h2 => a3 s h2 h1, if_pos h1]
    · rw [if_neg h1, if_neg h1]
  · apply List.ext_getElem?
    intro j
    -- lengths
    by_cases hmx : ModO x.op (entry base x s1).2 s1.o.length j
    · -- changed by the second
      have hny : ¬ ModO y.op (entry base y s1').2 s1'.o.length j := by
        rw [z3]
        rintro (hw | ⟨hc, hl⟩)
        · rcases hmx with hw2 | ⟨hc2, hl2⟩
          · exact r1 j hw (entry_sub hw2)
          · have := r4 hc2 j (entry_sub hw); omega
        · have hx3 := (r3 hc).1
          rcases hmx with hw2 | ⟨hc2, _⟩
          · have := (r3 hc).2 j (entry_sub hw2)
            omega
          · exact hx3 hc2
      rw [b4 j hny, p4 j hmx]
    · by_cases hmy : ModO y.op (entry base y st).2 st.o.length j
      · rw [x4 j hmx, z4 j hmy]
      · -- changed by none
        rw [x4 j hmx, y4 j hmy]
        have hny : ¬ ModO y.op (entry base y s1').2 s1'.o.length j := by
          rw [z3]
          rintro (hw | ⟨hc, hl⟩)
          · exact hmy (.inl hw)
          · exact hmy (.inr ⟨hc, by omega⟩)
        have hnx : ¬ ModO x.op (entry base x st).2 st.o.length j := by
          rw [p3]
          rintro (hw | ⟨hc, hl⟩)
          · exact hmx (.inl hw)
          · have : s1.o.length = st.o.length := y3 fun hc2 => (r3 hc2).1 hc
            exact hmx (.inr ⟨hc, by omega⟩)
        rw [b4 j hny, q4 j hnx]

/-- What the operations of a run touched. -/
def ents (call : Oracle) (base : Nat) : List IOper → St → List (List Nat × List Nat)
  | [], _ => []
  | i :: r, st => entry base i st :: match runOp call base i st with
    | some st' => ents call base r st'
    | none => []

theorem StEq.runs {l : List IOper} : ∀ {a b a' : St}, StEq a b → runOps call base l a = some a' → ∃ b', runOps call base l b = some b' ∧ StEq a' b' ∧ ents call base l b = ents call base l a := by
  induction l with
  | nil => intro a b a' h hr; simp only [runOps, Option.some.injEq] at hr; subst hr; exact ⟨b, rfl, h, rfl⟩
  | cons i l ih =>
    intro a b a' h hr
    simp only [runOps] at hr
    split at hr
    · rename_i a1 h1
      obtain ⟨b1, k1, k2, k3⟩ := h.run h1
      obtain ⟨b', m1, m2, m3⟩ := ih k2 hr
      refine ⟨b', by simp only [runOps, k1, m1], m2, ?_⟩
      simp only [ents, k1, h1, k3, m3]
    · cases hr

theorem runOps_len {l : List IOper} : ∀ {st st' : St}, runOps call base l st = some st' → st.o.length ≤ st'.o.length ∧ (ents call base l st).length = l.length := by
  induction l with
  | nil => intro st st' h; simp only [runOps, Option.some.injEq] at h; subst h; simp [ents]
  | cons i l ih =>
    intro st st' h
    simp only [runOps] at h
    split at h
    · rename_i s1 h1
      obtain ⟨_, _, h2, _⟩ := step_loc h1
      obtain ⟨i1, i2⟩ := ih h
      exact ⟨Nat.le_trans h2 i1, by simp [ents, h1, i2]⟩
    · cases h

/-- An operation is run ahead of those that it stands apart from. -/
theorem front {n0 : Nat} {x : IOper} {post : List IOper} : ∀ (pre : List IOper) {st s : St}, runOps call base (pre ++ x :: post) st = some s → n0 ≤ st.o.length →
    (∀ (k : Nat) (y : IOper) (ty tx : List Nat × List Nat), pre[k]? = some y → (ents call base (pre ++ x :: post) st)[k]? = some ty → (ents call base (pre ++ x :: post) st)[pre.length]? = some tx → RelT n0 y ty x tx) →
    ∃ s1 s', runOp call base x st = some s1 ∧ runOps call base (pre ++ post) s1 = some s' ∧ StEq s s' ∧ (ents call base (pre ++ x :: post) st)[pre.length]? = some (entry base x st) ∧
      ents call base (pre ++ post) s1 = (ents call base (pre ++ x :: post) st).eraseIdx pre.length
  | [], st, s, hr, _, _ => by
    simp only [List.nil_append, runOps] at hr ⊢
    split at hr
    · rename_i s1 h1
      exact ⟨s1, s, h1, hr, StEq.refl s, by simp [ents], by simp [ents, h1]⟩
    · cases hr
  | y :: pre, st, s, hr, hn, hR => by
    simp only [List.cons_append, runOps] at hr
    split at hr
    · rename_i sy hy
      have hents : ents call base (y :: (pre ++ x :: post)) st = entry base y st :: ents call base (pre ++ x :: post) sy := by simp [ents, hy]
      obtain ⟨_, _, hly, _⟩ := step_loc hy
      obtain ⟨s1, s', i1, i2, i3, i4, i5⟩ := front pre hr (Nat.le_trans hn hly) fun k z tz tx hk h1 h2 => hR (k + 1) z tz tx (by simpa using hk) (by simp only [List.cons_append, hents]; simpa using h1) (by simp only [List.cons_append, hents]; simpa using h2)
      have hrel : RelT n0 y (entry base y st) x (entry base x sy) := hR 0 y _ _ (by simp) (by simp [hents]) (by simp only [List.cons_append, hents]; simpa using i4)
      obtain ⟨t1, t2, j1, j2, j3, j4, j5⟩ := swap hy i1 hn hrel
      obtain ⟨s'', k1, k2, k3⟩ := j3.runs i2
      refine ⟨t1, s'', j1, ?_, i3.trans k2, ?_, ?_⟩
      · simp only [List.cons_append, runOps, j2]; exact k1
      · simp only [List.cons_append, hents, List.length_cons, List.getElem?_cons_succ]; rw [i4, j4]
      · simp only [List.cons_append, hents, List.length_cons, List.eraseIdx_cons_succ, ents, j2, j5, k3, i5]
    · cases hr

end
end Go.Vi

/-
  The abstract interpreter: a region whose order is open.
  Conditions: none.
-/
import Derived.Test.YtigbjjkijfkeeaaViDraw
namespace Go.Vi

/-! ### who runs ahead of whom -/

theorem ancStep_bits {acc : List Nat} {l : List Edge} {m : Nat} : ∀ {s : Nat}, (l.foldl (ancStep acc) s).testBit m = true → s.testBit m = true ∨ ∃ e ∈ l, Region.binds .any e = true ∧ (m = e.on ∨ (acc.getD e.on 0).testBit m = true) := by
  induction l with
  | nil => intro s h; exact .inl h
  | cons e l ih =>
    intro s h
    simp only [List.foldl_cons] at h
    rcases ih h with h1 | ⟨e', he, h1, h2⟩
    · unfold ancStep at h1
      split at h1
      · rename_i hb
        simp only [Nat.testBit_or, Bool.or_eq_true, Nat.testBit_two_pow, decide_eq_true_eq] at h1
        rcases h1 with h1 | h1 | h1
        · exact .inl h1
        · exact .inr ⟨e, by simp, hb, .inl h1.symm⟩
        · exact .inr ⟨e, by simp, hb, .inr h1⟩
      · exact .inl h1
    · exact .inr ⟨e', by simp [he], h1, h2⟩

def ancF (acc : List Nat) (o : Oper) : Nat := o.after.toList.foldl (ancStep acc) 0

theorem ancGo_spec : ∀ (L : List Oper) (acc : List Nat), ∃ r, L.foldl (fun acc o => acc ++ [ancF acc o]) acc = acc ++ r ∧ r.length = L.length ∧
    ∀ (k : Nat) (o : Oper), L[k]? = some o → r[k]? = some (ancF (acc ++ r.take k) o)
  | [], acc => ⟨[], by simp, rfl, by simp⟩
  | o :: L, acc => by
    obtain ⟨r, h1, h2, h3⟩ := ancGo_spec L (acc ++ [ancF acc o])
    refine ⟨ancF acc o :: r, by simp [h1], by simp [h2], fun k o' hk => ?_⟩
    cases k with
    | zero => simp at hk; subst hk; simp
    | succ k =>
      simp only [List.getElem?_cons_succ] at hk ⊢
      rw [h3 k o' hk]
      simp

theorem ancs_bits {ops : Array Oper} {k m : Nat} {o : Oper} (ho : ops[k]? = some o) (h : ((ancs ops).getD k 0).testBit m = true) :
    ∃ e ∈ o.after, Region.binds .any e = true ∧ (m = e.on ∨ ((ancs ops).getD e.on 0).testBit m = true) := by
  obtain ⟨r, h1, h2, h3⟩ := ancGo_spec ops.toList []
  have han : ancs ops = r := by
    unfold ancs
    have := h1
    simp only [ancF, List.nil_append] at this
    exact this
  rw [han] at h ⊢
  have hk := h3 k o (by simpa using ho)
  rw [List.getD_eq_getElem?_getD, hk] at h
  simp only [Option.getD_some, List.nil_append] at h
  rcases ancStep_bits h with h0 | ⟨e, he, hb, hm⟩
  · simp at h0
  · refine ⟨e, by simpa using he, hb, hm.imp_right fun hm => ?_⟩
    rw [List.getD_eq_getElem?_getD] at hm ⊢
    rw [List.getElem?_take] at hm
    split at hm
    · exact hm
    · simp at hm

theorem edgesB_spec : ∀ (L : List Oper) (i : Nat), edgesB i L = true → ∀ (k : Nat) (o : Oper), L[k]? = some o → ∀ e ∈ o.after, Region.binds .any e = true → e.on < i + k
  | [], i, _, k, o, hk, _, _, _ => by simp at hk
  | o :: L, i, h, k, o', hk, e, he, hb => by
    simp only [edgesB, Bool.and_eq_true, List.all_eq_true] at h
    cases k with
    | zero =>
      simp at hk; subst hk
      have := h.1 e (by simpa using he)
      simpa [hb] using this
    | succ k =>
      have := edgesB_spec L (i + 1) h.2 k o' (by simpa using hk) e he hb
      omega

theorem swaps_spec {an : List Nat} : ∀ {l : List IOper}, swapsOk an l = true → ∀ (p q : Nat) (y x : IOper), p < q → l[p]? = some y → l[q]? = some x →
    (an.getD x.idx 0).testBit y.idx = true ∨ (apartT y x = true ∧ (freeM y x = true ∨ mayM y x = true))
  | [], _, p, q, y, x, _, hy, _ => by simp at hy
  | a :: r, h, p, q, y, x, hpq, hy, hx => by
    simp only [swapsOk, Bool.and_eq_true, List.all_eq_true] at h
    match q, hpq with
    | q + 1, hpq =>
      simp only [List.getElem?_cons_succ] at hx
      cases p with
      | zero =>
        simp at hy; subst hy
        have := h.1 x (List.mem_of_getElem? hx)
        simpa using this
      | succ p => exact swaps_spec h.2 p q y x (by omega) (by simpa using hy) hx

theorem pairs_spec {an : List Nat} : ∀ {l : List IOper} (p q : Nat) (y x : IOper), p < q → l[p]? = some y → l[q]? = some x → ¬ (an.getD x.idx 0).testBit y.idx = true → freeM y x = false → (y.idx, x.idx) ∈ pairsOf an l
  | [], p, q, y, x, _, hy, _, _, _ => by simp at hy
  | a :: r, p, q, y, x, hpq, hy, hx, hb, hf => by
    simp only [pairsOf, List.mem_append]
    match q, hpq with
    | q + 1, hpq =>
      simp only [List.getElem?_cons_succ] at hx
      cases p with
      | zero =>
        simp at hy; subst hy
        left
        refine List.mem_filterMap.2 ⟨x, List.mem_of_getElem? hx, ?_⟩
        rw [if_neg]
        simp only [Bool.or_eq_true, not_or]
        exact ⟨hb, by simp [hf]⟩
      | succ p => exact .inr (pairs_spec p q y x (by omega) (by simpa using hy) hx hb hf)

section
variable {P : Program} {A : Nat → Prop} {call : Oracle} {base : Nat}

theorem ents_entry : ∀ {l : List IOper} {st : St} {p : Nat} {x : IOper} {t : List Nat × List Nat}, l[p]? = some x → (ents call base l st)[p]? = some t → ∃ st', t = entry base x st'
  | [], st, p, x, t, hx, _ => by simp at hx
  | i :: l, st, p, x, t, hx, ht => by
    simp only [ents] at ht
    cases p with
    | zero => simp at hx ht; subst hx; exact ⟨st, ht.symm⟩
    | succ p =>
      simp only [List.getElem?_cons_succ] at hx ht
      split at ht
      · exact ents_entry hx ht
      · simp at ht

theorem trace_look : ∀ {l : List IOper} {st s : St} {p : Nat} {x : IOper} {t : List Nat × List Nat}, runOps call base l st = some s → (l.map (·.idx)).Nodup → l[p]? = some x → (ents call base l st)[p]? = some t → lookT (traceOps call base l st) x.idx = t
  | [], st, s, p, x, t, _, _, hx, _ => by simp at hx
  | i :: l, st, s, p, x, t, hr, hn, hx, ht => by
    simp only [runOps] at hr
    split at hr
    · rename_i s1 h1
      simp only [List.map_cons, List.nodup_cons] at hn
      have htr : traceOps call base (i :: l) st = (i.idx, entry base i st) :: traceOps call base l s1 := by
        simp only [traceOps, h1, entry]
        congr 1
        cases hw : wantA st.env i.guard with
        | none => rfl
        | some b => cases b <;> rfl
      rw [htr]
      simp only [ents, h1] at ht
      cases p with
      | zero => simp at hx ht; subst hx; simp [lookT, ht]
      | succ p =>
        simp only [List.getElem?_cons_succ] at hx ht
        have hne : i.idx ≠ x.idx := fun h => hn.1 (h ▸ List.mem_map_of_mem (f := fun i : IOper => i.idx) (List.mem_of_getElem? hx))
        simp only [lookT, beq_iff_eq, hne, if_false]
        exact trace_look hr hn.2 hx ht
    · cases hr

theorem entry_c0 {i : IOper} {st : St} (h : i.op.cls = 0) : entry base i st = ([], []) := by
  unfold entry
  split
  · rw [tch_nil h, wrt_nil (.inl h)]
  · rfl

theorem entry_c1 {i : IOper} {st : St} (h : i.op.cls = 1) : (entry base i st).2 = [] := by
  unfold entry
  split
  · simp only; rw [wrt_nil (.inr h)]
  · rfl

theorem apartL_spec {a b : List Nat} (h : apartL a b = true) : ∀ j ∈ a, j ∉ b := by
  intro j hj hb
  have := List.all_eq_true.1 h j hj
  simp at this
  exact this hb

theorem rel_of {n0 : Nat} {an : List Nat} {l : List IOper} {st s : St} (hr : runOps call base l st = some s) (hn : (l.map (·.idx)).Nodup) (hsw : swapsOk an l = true)
    (hchk : ((pairsOf an l).isEmpty || chkOk n0 (traceOps call base l st) (pairsOf an l)) = true) {p q : Nat} {y x : IOper} {ty tx : List Nat × List Nat} (hpq : p < q) (hy : l[p]? = some y) (hx : l[q]? = some x)
    (hty : (ents call base l st)[p]? = some ty) (htx : (ents call base l st)[q]? = some tx) : (an.getD x.idx 0).testBit y.idx = true ∨ RelT n0 y ty x tx := by
  rcases swaps_spec hsw p q y x hpq hy hx with h | ⟨h1, h2⟩
  · exact .inl h
  by_cases hb : (an.getD x.idx 0).testBit y.idx = true
  · exact .inl hb
  right
  obtain ⟨sy, ey⟩ := ents_entry hy hty
  obtain ⟨sx, ex⟩ := ents_entry hx htx
  cases hf : freeM y x with
  | true =>
    unfold freeM at hf
    simp only [Bool.or_eq_true, Bool.and_eq_true, beq_iff_eq] at hf
    rcases hf with (hf | hf) | ⟨hf, hf2⟩
    · have := entry_c0 (base := base) (st := sy) hf
      rw [this] at ey
      subst ey
      exact ⟨h1, by simp, by simp, fun h => (by rw [hf] at h; cases h), by simp⟩
    · have := entry_c0 (base := base) (st := sx) hf
      rw [this] at ex
      subst ex
      exact ⟨h1, by simp, by simp, fun _ => ⟨by rw [hf]; decide, by simp⟩, fun h => (by rw [hf] at h; cases h)⟩
    · have e1 := entry_c1 (base := base) (st := sy) hf
      have e2 := entry_c1 (base := base) (st := sx) hf2
      rw [← ey] at e1
      rw [← ex] at e2
      exact ⟨h1, by simp [e1], by simp [e2], fun h => (by rw [hf] at h; cases h), fun h => (by rw [hf2] at h; cases h)⟩
  | false =>
    have hm : mayM y x = true := h2.resolve_left (by simp [hf])
    have hp := pairs_spec p q y x hpq hy hx hb hf
    have hne : (pairsOf an l).isEmpty = false := by
      cases hq : pairsOf an l with
      | nil => rw [hq] at hp; simp at hp
      | cons _ _ => rfl
    rw [hne, Bool.false_or] at hchk
    have hc := List.all_eq_true.1 hchk _ hp
    simp only [trace_look hr hn hy hty, trace_look hr hn hx htx, Bool.and_eq_true, List.all_eq_true, decide_eq_true_eq] at hc
    obtain ⟨⟨⟨c1, c2⟩, c3⟩, c4⟩ := hc
    refine ⟨h1, apartL_spec c1, apartL_spec c2, fun h3 => ⟨fun h4 => ?_, c4⟩, fun _ => c3⟩
    unfold mayM at hm
    simp [h3, h4] at hm

/-! ### the region -/

theorem Sim.eq {nt : Nat} {w0 : World} {σ0 : Sig} {o0 : Store} {st st' : St} {a : Act} {w : World} {σ : Sig} (h : Sim A nt w0 σ0 o0 st a w σ) (he : StEq st st') : Sim A nt w0 σ0 o0 st' a w σ where
  sim := he.2 ▸ h.sim
  env := fun s => by rw [← he.1 s, ← he.2]; exact h.env s
  size := h.size
  defers := h.defers
  ext := he.2 ▸ h.ext

theorem Sim.drew {nt : Nat} {w0 : World} {σ0 : Sig} {o0 : Store} {st : St} {a : Act} {w : World} {σ : Sig} (h : Sim A nt w0 σ0 o0 st a w σ) : Sim A nt w0 σ0 o0 st a { w with drawn := w.drawn + 1 } σ := by
  have hE : Ext w σ st.o { w with drawn := w.drawn + 1 } σ st.o := ⟨Nat.le_refl _, fun _ _ h => ⟨rfl, h⟩, Nat.le_refl _, fun _ _ h => ⟨h, fun _ h => ⟨h, rfl⟩⟩, fun _ h => ⟨h, rfl⟩, rfl, rfl, rfl⟩
  exact ⟨⟨h.sim.len, h.sim.dist, h.sim.bnd, fun i x hx => (h.sim.obj i x hx).ext hE rfl fun _ _ _ => rfl, h.sim.av, h.sim.avb⟩, fun s => (h.env s).ext hE, h.size, h.defers, h.ext.trans hE⟩

theorem eraseIdx_mid {α : Type} (pre post : List α) (x : α) : pre ++ post = (pre ++ x :: post).eraseIdx pre.length := by
  rw [List.eraseIdx_append_of_length_le (Nat.le_refl _)]
  simp

/-- How the run stands when some of the operations are done. -/
structure OInv (P : Program) (nt : Nat) (fl : List Nat) (ops : Array Oper) (call : Oracle) (base n0 : Nat) (st2 : St) (l : List IOper) (listed : Array Bool) (st : St) : Prop where
  run : ∃ s, runOps call base l st = some s ∧ StEq st2 s
  len : n0 ≤ st.o.length
  rel : ∀ (p q : Nat) (y x : IOper) (ty tx : List Nat × List Nat), p < q → l[p]? = some y → l[q]? = some x → (ents call base l st)[p]? = some ty → (ents call base l st)[q]? = some tx → ((ancs ops).getD x.idx 0).testBit y.idx = true ∨ RelT n0 y ty x tx
  comp : ∀ x ∈ l, ∃ nid, compOper P nt fl ops nid x.idx = some x
  nodup : (l.map (·.idx)).Nodup
  sz : listed.size = ops.size
  lst : ∀ k, k < ops.size → (listed.getD k true = false ↔ ∃ x ∈ l, x.idx = k)
  closed : ∀ k m, listed.getD k false = true → ((ancs ops).getD k 0).testBit m = true → listed.getD m false = true

theorem getD_lt {listed : Array Bool} {k : Nat} (h : k < listed.size) (a b : Bool) : listed.getD k a = listed.getD k b := by
  simp [Array.getD_eq_getD_getElem?, h]

theorem draw_any {nt : Nat} {fl : List Nat} {ops : Array Oper} (hcall : OracleOK P call) (hed : edgesB 0 ops.toList = true) {n0 : Nat} {st2 : St} {w0 : World} {σ0 : Sig} {o0 : Store} {Q : Exit → Act → World → Prop}
    (hQ : ∀ a' w' σ', Sim A nt w0 σ0 o0 st2 a' w' σ' → Q .normal a' w') : ∀ (fuel : Nat) (l : List IOper) (listed : Array Bool) (st : St) (a : Act) (w : World) (σ : Sig), l.length ≤ fuel →
      OInv P nt fl ops call base n0 st2 l listed st → Sim A nt w0 σ0 o0 st a w σ → wpAny P .any ops Q fuel listed a w := by
  have hdone : ∀ (listed : Array Bool) (st : St) (a : Act) (w : World) (σ : Sig), OInv P nt fl ops call base n0 st2 [] listed st → Sim A nt w0 σ0 o0 st a w σ → Q .normal a w := by
    intro listed st a w σ hI hs
    obtain ⟨s, h1, h2⟩ := hI.run
    simp only [runOps, Option.some.injEq] at h1
    subst h1
    exact hQ _ _ _ (hs.eq h2.symm)
  have hprog : ∀ (l : List IOper) (listed : Array Bool) (st : St), OInv P nt fl ops call base n0 st2 l listed st → ∀ (k : Nat), (∃ x ∈ l, x.idx = k) → Region.ready .any ops listed ≠ [] := by
    intro l listed st hI k
    induction k using Nat.strongRecOn with
    | _ k ih =>
      rintro ⟨x, hx, rfl⟩
      obtain ⟨nid, hc⟩ := hI.comp x hx
      cases ho : ops[x.idx]? with
      | none => simp [compOper, ho] at hc
      | some o =>
        have hk : x.idx < ops.size := (Array.getElem?_eq_some_iff.1 ho).1
        by_cases hall : ∀ e ∈ o.after, Region.binds .any e = true → listed.getD e.on false = true
        · intro hnil
          have : x.idx ∈ Region.ready .any ops listed := mem_ready.2 ⟨(hI.lst _ hk).2 ⟨x, hx, rfl⟩, o, ho, hall⟩
          rw [hnil] at this
          simp at this
        · simp only [Classical.not_forall] at hall
          obtain ⟨e, he, hb, hn⟩ := hall
          have hlt := edgesB_spec ops.toList 0 hed x.idx o (by simpa using ho) e he hb
          simp only [Nat.zero_add] at hlt
          refine ih e.on hlt ((hI.lst e.on (by omega)).1 ?_)
          rw [getD_lt (by rw [hI.sz]; omega) true false]
          simpa using hn
  intro fuel
  induction fuel with
  | zero =>
    intro l listed st a w σ hl hI hs
    have : l = [] := List.eq_nil_of_length_eq_zero (by omega)
    subst this
    refine ⟨?_, hdone listed st a w σ hI hs⟩
    rw [List.eq_nil_iff_forall_not_mem]
    intro k hk
    obtain ⟨h0, o, ho, _⟩ := mem_ready.1 hk
    obtain ⟨x, hx, _⟩ := (hI.lst k (Array.getElem?_eq_some_iff.1 ho).1).1 h0
    simp at hx
  | succ fuel ih =>
    intro l listed st a w σ hl hI hs
    refine ⟨fun hnil => ?_, fun k hk => ?_⟩
    · cases l with
      | nil => exact hdone listed st a w σ hI hs
      | cons x l => exact absurd hnil (hprog _ listed st hI x.idx ⟨x, by simp, rfl⟩)
    · obtain ⟨h0, o, ho, hall⟩ := mem_ready.1 hk
      have hks : k < ops.size := (Array.getElem?_eq_some_iff.1 ho).1
      obtain ⟨x, hx, rfl⟩ := (hI.lst k hks).1 h0
      obtain ⟨pre, post, rfl⟩ := List.append_of_mem hx
      obtain ⟨s, hrun, hseq⟩ := hI.run
      have hanc : ∀ m, ((ancs ops).getD x.idx 0).testBit m = true → listed.getD m false = true := by
        intro m hm
        obtain ⟨e, he, hb, h1⟩ := ancs_bits ho hm
        rcases h1 with rfl | h1
        · exact hall e he hb
        · exact hI.closed _ _ (hall e he hb) h1
      obtain ⟨s1, s', f1, f2, f3, f4, f5⟩ := front (n0 := n0) pre hrun hI.len fun p y ty tx hp h1 h2 => by
        have hpl : p < pre.length := (List.getElem?_eq_some_iff.1 hp).1
        have hyl : (pre ++ x :: post)[p]? = some y := by rw [List.getElem?_append_left hpl]; exact hp
        rcases hI.rel p pre.length y x ty tx hpl hyl (by simp) h1 h2 with h3 | h3
        · exfalso
          have h4 := hanc _ h3
          obtain ⟨nid, hc⟩ := hI.comp y (List.mem_of_getElem? hyl)
          cases hoy : ops[y.idx]? with
          | none => simp [compOper, hoy] at hc
          | some oy =>
            have hys : y.idx < ops.size := (Array.getElem?_eq_some_iff.1 hoy).1
            have h5 := (hI.lst _ hys).2 ⟨y, List.mem_of_getElem? hyl, rfl⟩
            rw [getD_lt (by rw [hI.sz]; exact hys) true false, h4] at h5
            cases h5
        · exact h3
      obtain ⟨nid, hc⟩ := hI.comp x hx
      refine runOp_wp hcall hc f1 hs fun a' w' σ' hs' => ?_
      have hnd := hI.nodup
      have hmid := eraseIdx_mid pre post x
      have hget : ∀ (p : Nat) (y : IOper), (pre ++ post)[p]? = some y → (pre ++ x :: post)[if p < pre.length then p else p + 1]? = some y := by
        intro p y hp
        rw [hmid, List.getElem?_eraseIdx] at hp
        split <;> rename_i h <;> simpa [h] using hp
      have hent : ∀ (p : Nat) (t : List Nat × List Nat), (ents call base (pre ++ post) s1)[p]? = some t → (ents call base (pre ++ x :: post) st)[if p < pre.length then p else p + 1]? = some t := by
        intro p t hp
        rw [f5, List.getElem?_eraseIdx] at hp
        split <;> rename_i h <;> simpa [h] using hp
      obtain ⟨_, _, hlen1, _⟩ := step_loc f1
      refine ih (pre ++ post) _ s1 a' w' σ' (by simp at hl ⊢; omega) ⟨⟨s', f2, hseq.trans f3⟩, Nat.le_trans hI.len hlen1, fun p q y z ty tz hpq hy hz hty htz => ?_, fun y hy => hI.comp y ?_, ?_, by simp [hI.sz], fun k hk => ?_, fun k m hk hm => ?_⟩ hs'
      · refine hI.rel _ _ y z ty tz ?_ (hget p y hy) (hget q z hz) (hent p ty hty) (hent q tz htz)
        split <;> split <;> omega
      · rw [List.mem_append] at hy ⊢
        rcases hy with hy | hy <;> simp [hy]
      · rw [List.map_append, List.map_cons] at hnd
        rw [List.map_append]
        exact hnd.sublist (List.Sublist.append (List.Sublist.refl _) (List.sublist_cons_self _ _))
      · by_cases hkx : k = x.idx
        · subst hkx
          have h1 : (listed.setIfInBounds x.idx true).getD x.idx true = true := by simp
          rw [h1]
          constructor
          · intro h; cases h
          · rintro ⟨y, hy, hyx⟩
            exfalso
            rw [List.map_append, List.map_cons, List.nodup_append] at hnd
            obtain ⟨_, h2, h3⟩ := hnd
            rw [List.nodup_cons] at h2
            rcases List.mem_append.1 hy with hy | hy
            · exact h3 y.idx (List.mem_map_of_mem (f := fun i : IOper => i.idx) hy) x.idx (by simp) hyx
            · exact h2.1 (hyx ▸ List.mem_map_of_mem (f := fun i : IOper => i.idx) hy)
        · rw [getD_set_ne true (Ne.symm hkx), hI.lst k hk]
          constructor
          · rintro ⟨y, hy, rfl⟩
            refine ⟨y, ?_, rfl⟩
            rw [List.mem_append] at hy ⊢
            rcases hy with hy | hy
            · exact .inl hy
            · rcases List.mem_cons.1 hy with rfl | hy
              · exact absurd rfl hkx
              · exact .inr hy
          · rintro ⟨y, hy, rfl⟩
            refine ⟨y, ?_, rfl⟩
            rw [List.mem_append] at hy ⊢
            rcases hy with hy | hy <;> simp [hy]
      · by_cases hkx : k = x.idx
        · subst hkx
          exact getD_set_true (hanc m hm)
        · rw [getD_set_ne false (Ne.symm hkx)] at hk
          exact getD_set_true (hI.closed k m hk hm)

theorem nodupB_spec : ∀ {l : List Nat}, nodupB l = true → l.Nodup
  | [], _ => List.nodup_nil
  | a :: r, h => by
    simp only [nodupB, Bool.and_eq_true, Bool.not_eq_true', List.contains_eq_mem, decide_eq_false_iff_not] at h
    exact List.nodup_cons.2 ⟨h.1, nodupB_spec h.2⟩

theorem compOper_idx {nt : Nat} {fl : List Nat} {ops : Array Oper} {nid k : Nat} {x : IOper} (h : compOper P nt fl ops nid k = some x) : x.idx = k ∧ k < ops.size := by
  unfold compOper at h
  split at h
  · cases h
  · rename_i o ho
    split at h
    · obtain ⟨op, _, rfl⟩ := Option.map_eq_some_iff.1 h
      exact ⟨rfl, (Array.getElem?_eq_some_iff.1 ho).1⟩
    · cases h

theorem draw_wp (hcall : OracleOK P call) {nt : Nat} {fl : List Nat} {ops : Array Oper} {id k : Nat} {perm : List Nat} {l : List IOper} (hl : compOpers P nt fl ops 0 perm = some (l, k)) (hmix : P.follows .mixedOrders = true)
    (hlen : perm.length = ops.size) (hnd : nodupB perm = true) (hsw : swapsOk (ancs ops) l = true) (hed : edgesB 0 ops.toList = true) (hall : (List.range ops.size).all perm.contains = true)
    {st1 st2 : St} (hr : runOps call st1.o.length l ⟨st1.env, st1.o ++ deads k⟩ = some st2)
    (hchk : ((pairsOf (ancs ops) l).isEmpty || chkOk (st1.o ++ deads k).length (traceOps call st1.o.length l ⟨st1.env, st1.o ++ deads k⟩) (pairsOf (ancs ops) l)) = true)
    {w0 : World} {σ0 : Sig} {o0 : Store} {a : Act} {w : World} {σ : Sig} {Q : Exit → Act → World → Prop} (hs : Sim A nt w0 σ0 o0 ⟨st1.env, st1.o ++ deads k⟩ a w σ) (hQ : ∀ a' w' σ', Sim A nt w0 σ0 o0 st2 a' w' σ' → Q .normal a' w') : (Code.region id ops true).wp P Q a w := by
  obtain ⟨g1, g2⟩ := compOpers_get hl
  have hidx : l.map (·.idx) = perm := by
    apply List.ext_getElem?
    intro j
    rw [List.getElem?_map]
    cases hj : l[j]? with
    | none =>
      have := List.getElem?_eq_none_iff.1 hj
      rw [List.getElem?_eq_none (by omega)]; rfl
    | some x =>
      have hjl := (List.getElem?_eq_some_iff.1 hj).1
      have hp := List.getElem?_eq_getElem (l := perm) (i := j) (by omega)
      obtain ⟨nid, hc⟩ := g2 j x _ hj hp
      rw [hp]
      simp [(compOper_idx hc).1]
  have hnodup : (l.map (·.idx)).Nodup := by rw [hidx]; exact nodupB_spec hnd
  refine wp_region_any hmix (draw_any (fl := fl) (base := st1.o.length) (n0 := (st1.o ++ deads k).length) hcall hed hQ ops.size l _ ⟨st1.env, st1.o ++ deads k⟩ a _ σ (by omega) ⟨⟨st2, hr, StEq.refl _⟩, Nat.le_refl _, fun p q y x ty tx hpq hy hx hty htx => ?_, fun x hx => ?_, hnodup, by simp, fun j hj => ?_, fun j m hj => ?_⟩ hs.drew)
  · exact rel_of hr hnodup hsw hchk hpq hy hx hty htx
  · obtain ⟨j, hj⟩ := List.getElem?_of_mem hx
    have hjl := (List.getElem?_eq_some_iff.1 hj).1
    have hp := List.getElem?_eq_getElem (l := perm) (i := j) (by omega)
    obtain ⟨nid, hc⟩ := g2 j x _ hj hp
    exact ⟨nid, by rw [(compOper_idx hc).1]; exact hc⟩
  · have h1 : (Array.replicate ops.size false).getD j true = false := by simp [hj]
    rw [h1]
    refine ⟨fun _ => ?_, fun _ => rfl⟩
    have := List.all_eq_true.1 hall j (List.mem_range.2 hj)
    rw [List.contains_iff_mem, ← hidx] at this
    obtain ⟨x, hx, h2⟩ := List.mem_map.1 this
    exact ⟨x, hx, h2⟩
  · exfalso
    rw [Array.getD_eq_getD_getElem?, Array.getElem?_replicate] at hj
    split at hj <;> simp at hj
end
end Go.Vi

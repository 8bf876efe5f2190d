/-
  The abstract interpreter: a part of the objects under its own numbers; calls that may write.
  Conditions: none.
-/
import Derived.Test.YtigbjjkijfkeeaaViFrz
namespace Go.Vi

/-- What one address adds to what is reached. -/
def visitR (o : Store) (d : Nat) (id : Nat) (acc : List Nat) : List Nat :=
  if acc.contains id then acc else
  match o[id]? with
  | some (.cells cs _ _ pu) => if pu then acc ++ [id] else reachF o d cs (acc ++ [id])
  | some (.map es _ pu) => if pu then acc ++ [id] else reachF o d (es.map (·.2)) (acc ++ [id])
  | _ => acc ++ [id]

/-- What one value adds. -/
def stepR (o : Store) (d : Nat) (v : AV) (acc : List Nat) : List Nat :=
  match v with
  | .agg cs | .tup cs => reachF o d cs acc
  | .ptr id _ _ | .os id _ _ _ | .mp id => visitR o d id acc
  | .fn _ a b => reachF o d b (reachF o d a acc)
  | _ => acc

theorem reachF_cons (o : Store) (d : Nat) (v : AV) (vs : List AV) (acc : List Nat) : reachF o (d + 1) (v :: vs) acc = reachF o d vs (stepR o d v acc) := by
  cases v <;> rfl

theorem putBack_length : ∀ (ids : List Nat) (o X : Store), (putBack o ids X).length = o.length
  | [], o, X => by cases X <;> rfl
  | i :: r, o, [] => rfl
  | i :: r, o, x :: l => by simp only [putBack]; rw [putBack_length r]; simp

theorem putBack_ne : ∀ (ids : List Nat) (o X : Store) (j : Nat), j ∉ ids → (putBack o ids X)[j]? = o[j]?
  | [], o, X, j, _ => by cases X <;> rfl
  | i :: r, o, [], j, _ => rfl
  | i :: r, o, x :: l, j, h => by
    simp only [List.mem_cons, not_or] at h
    simp only [putBack]
    rw [putBack_ne r _ l j h.2, List.getElem?_set_ne (Ne.symm h.1)]

theorem renS_length {m : Nat → Option Nat} : ∀ {o o' : Store}, renS m o = some o' → o'.length = o.length
  | [], o', h => by simp only [renS, Option.some.injEq] at h; subst h; rfl
  | x :: r, o', h => by
    simp only [renS] at h
    split at h
    · rename_i y l h1 h2; injection h with h; subst h; simp [renS_length h2]
    · cases h


theorem reachF_prefix (o : Store) : ∀ (d : Nat) (vs : List AV) (acc : List Nat), ∃ t, reachF o d vs acc = acc ++ t
  | 0, vs, acc => ⟨[], by cases vs <;> simp [reachF]⟩
  | d + 1, [], acc => ⟨[], by simp [reachF]⟩
  | d + 1, v :: vs, acc => by
    rw [reachF_cons]
    have hv : ∀ id, ∃ t, visitR o d id acc = acc ++ t := by
      intro id
      unfold visitR
      split
      · exact ⟨[], by simp⟩
      · split
        · split
          · exact ⟨_, rfl⟩
          · obtain ⟨t, ht⟩ := reachF_prefix o d ‹_› (acc ++ [id]); exact ⟨[id] ++ t, by rw [ht]; simp⟩
        · split
          · exact ⟨_, rfl⟩
          · rename_i es _ _ _ _; obtain ⟨t, ht⟩ := reachF_prefix o d (es.map (·.2)) (acc ++ [id]); exact ⟨[id] ++ t, by rw [ht]; simp⟩
        · exact ⟨_, rfl⟩
    have hs : ∃ t, stepR o d v acc = acc ++ t := by
      cases v with
      | agg cs => exact reachF_prefix o d cs acc
      | tup cs => exact reachF_prefix o d cs acc
      | ptr id _ _ => exact hv id
      | os id _ _ _ => exact hv id
      | mp id => exact hv id
      | fn f a b =>
        obtain ⟨t1, h1⟩ := reachF_prefix o d a acc
        obtain ⟨t2, h2⟩ := reachF_prefix o d b (acc ++ t1)
        exact ⟨t1 ++ t2, by simp only [stepR]; rw [h1, h2]; simp⟩
      | _ => exact ⟨[], by simp [stepR]⟩
    obtain ⟨t, ht⟩ := hs
    obtain ⟨t2, ht2⟩ := reachF_prefix o d vs (acc ++ t)
    exact ⟨t ++ t2, by rw [ht, ht2]; simp⟩

theorem idxOf_spec : ∀ {ids : List Nat} {i k j : Nat}, idxOf ids i k = some j → k ≤ j ∧ ids[j - k]? = some i
  | [], i, k, j, h => by simp [idxOf] at h
  | a :: r, i, k, j, h => by
    simp only [idxOf] at h
    split at h
    · rename_i hai
      injection h with h; subst h
      simp at hai; subst hai
      simp
    · obtain ⟨h1, h2⟩ := idxOf_spec h
      refine ⟨by omega, ?_⟩
      rw [show j - k = (j - (k + 1)) + 1 from by omega]
      simpa using h2

theorem nodupN_spec : ∀ {l : List Nat}, callOwn.nodupN l = true → l.Nodup
  | [], _ => List.nodup_nil
  | a :: r, h => by
    simp only [callOwn.nodupN, Bool.and_eq_true, Bool.not_eq_true', List.contains_eq_mem, decide_eq_false_iff_not] at h
    exact List.nodup_cons.2 ⟨h.1, nodupN_spec h.2⟩

theorem subStore_get {o : Store} {ids : List Nat} : ∀ {r : List Nat} {s : Store}, subStore o ids r = some s → s.length = r.length ∧ ∀ (j i : Nat), r[j]? = some i → ∃ x y, o[i]? = some x ∧ x.ren (fun j => idxOf ids j) = some y ∧ s[j]? = some y
  | [], s, h => by simp only [subStore, Option.some.injEq] at h; subst h; simp
  | a :: r, s, h => by
    simp only [subStore] at h
    split at h
    · rename_i x l hx hl
      obtain ⟨y, hy, rfl⟩ := Option.map_eq_some_iff.1 h
      obtain ⟨i1, i2⟩ := subStore_get hl
      refine ⟨by simp [i1], fun j i hj => ?_⟩
      cases j with
      | zero => simp at hj; subst hj; exact ⟨x, y, hx, hy, by simp⟩
      | succ j => obtain ⟨x', y', k1, k2, k3⟩ := i2 j i (by simpa using hj); exact ⟨x', y', k1, k2, by simpa using k3⟩
    · cases h

theorem renS_get {m : Nat → Option Nat} : ∀ {o o' : Store}, renS m o = some o' → ∀ (i : Nat) (x : AObj), o[i]? = some x → ∃ y, x.ren m = some y ∧ o'[i]? = some y
  | [], o', h, i, x, hx => by simp at hx
  | a :: r, o', h, i, x, hx => by
    simp only [renS] at h
    split at h
    · rename_i y l h1 h2
      injection h with h; subst h
      cases i with
      | zero => simp at hx; subst hx; exact ⟨y, h1, by simp⟩
      | succ i => obtain ⟨z, k1, k2⟩ := renS_get h2 i x (by simpa using hx); exact ⟨z, k1, by simpa using k2⟩
    · cases h

theorem ren_cells {m : Nat → Option Nat} {cs : List AV} {e : TypeId} {sz : Nat} {pu : Bool} {y : AObj} (h : (AObj.cells cs e sz pu).ren m = some y) : ∃ cs', y = .cells cs' e sz pu ∧ cs'.length = cs.length := by
  simp only [AObj.ren] at h
  split at h
  · injection h with h; exact ⟨cs, h.symm, rfl⟩
  · obtain ⟨cs', hc, rfl⟩ := Option.map_eq_some_iff.1 h; exact ⟨cs', rfl, (renL_get hc).1⟩

theorem ren_map {m : Nat → Option Nat} {es : List (Value × AV)} {kt : List Nat × Bool} {pu : Bool} {y : AObj} (h : (AObj.map es kt pu).ren m = some y) : ∃ es', y = .map es' kt pu := by
  simp only [AObj.ren] at h
  split at h
  · injection h with h; exact ⟨es, h.symm⟩
  · obtain ⟨es', hc, rfl⟩ := Option.map_eq_some_iff.1 h; exact ⟨es', rfl⟩

def sigSub (σ : Sig) (ids : List Nat) : Sig := ids.map fun i => (σ[i]?).getD none

section
variable {A A' : Nat → Prop} {w : World} {σ : Sig} {o s : Store} {ids : List Nat}

theorem sigSub_some {j : Nat} {t : Nat × Nat} (h : (sigSub σ ids)[j]? = some (some t)) : ∃ i, ids[j]? = some i ∧ σ[i]? = some (some t) := by
  unfold sigSub at h
  rw [List.getElem?_map] at h
  obtain ⟨i, hi, h2⟩ := Option.map_eq_some_iff.1 h
  refine ⟨i, hi, ?_⟩
  cases hs : σ[i]? with
  | none => rw [hs] at h2; cases h2
  | some t' => rw [hs] at h2; simp at h2; rw [h2]

theorem sigSub_get (hlen : σ.length = o.length) (hs : subStore o ids ids = some s) {j i : Nat} (hj : ids[j]? = some i) : (sigSub σ ids)[j]? = σ[i]? := by
  obtain ⟨_, h2⟩ := subStore_get hs
  obtain ⟨x, y, hx, _, _⟩ := h2 j i hj
  have hi : i < σ.length := by rw [hlen]; exact (List.getElem?_eq_some_iff.1 hx).1
  unfold sigSub
  rw [List.getElem?_map, hj]
  simp [List.getElem?_eq_getElem hi]

theorem sub_tr (hlen : σ.length = o.length) (hs : subStore o ids ids = some s) {id id' : Nat} (h : idxOf ids id = some id') : Tr o σ s (sigSub σ ids) id id' := by
  obtain ⟨_, hj⟩ := idxOf_spec h
  simp only [Nat.sub_zero] at hj
  obtain ⟨_, h2⟩ := subStore_get hs
  obtain ⟨x, y, hx, hy, hsy⟩ := h2 id' id hj
  refine ⟨fun cs e sz pu ho => ?_, fun ⟨es, kt, pu, ho⟩ => ?_, sigSub_get hlen hs hj⟩
  · rw [hx] at ho; injection ho with ho; subst ho
    obtain ⟨cs', rfl, hl⟩ := ren_cells hy
    exact ⟨cs', e, pu, hsy, hl⟩
  · rw [hx] at ho; injection ho with ho; subst ho
    obtain ⟨es', rfl⟩ := ren_map hy
    exact ⟨es', kt, pu, hsy⟩

theorem SimO.sub (hS : SimO A w σ o) (hn : ids.Nodup) (hs : subStore o ids ids = some s) (hA : ∀ b, b < w.heap.size → Fr A σ b → Fr A' (sigSub σ ids) b)
    (hav : ∀ i ∈ ids, ∀ b c, σ[i]? = some (some (b, c)) → ¬ A' b) (havb : ∀ b, A' b → b < w.heap.size) : SimO A' w (sigSub σ ids) s := by
  obtain ⟨h1, h2⟩ := subStore_get hs
  refine ⟨by simp [sigSub, h1], fun i j b c d hi hj => ?_, fun i b c hi => ?_, fun j y hy => ?_, fun i b c hi => ?_, havb⟩
  · obtain ⟨x, hx, hx2⟩ := sigSub_some hi
    obtain ⟨z, hz, hz2⟩ := sigSub_some hj
    have := hS.dist x z b c d hx2 hz2
    subst this
    exact (List.getElem?_inj (List.getElem?_eq_some_iff.1 hx).1 hn).1 (hx.trans hz.symm)
  · obtain ⟨x, hx, hx2⟩ := sigSub_some hi
    exact hS.bnd x b c hx2
  · have hjl : j < ids.length := by have := (List.getElem?_eq_some_iff.1 hy).1; omega
    have hj := List.getElem?_eq_getElem hjl
    obtain ⟨x, y', hx, hr, hy'⟩ := h2 j _ hj
    rw [hy] at hy'
    injection hy' with hy'
    subst hy'
    exact ObjOK.ren hA (fun id id' h => sub_tr hS.len hs h) hr (sigSub_get hS.len hs hj) (hS.obj _ x hx)
  · obtain ⟨x, hx, hx2⟩ := sigSub_some hi
    exact hav x (List.mem_of_getElem? hx) b c hx2

/-- The end of a call that may write. -/
theorem finishOwn_sound {o' : Store} {w0 : World} {σ0 : Sig} {o0 : Store} (hS : SimO A w σ o) (hE : Ext w0 σ0 o0 w σ o) {r0 r : AV} {u : Value} (hr : Rep A w σ o r0 u) (hf : finishOwn o0.length r0 o = some (r, o')) :
    ∃ σ', SimO A w σ' o' ∧ Rep A w σ' o' r u ∧ Ext w0 σ0 o0 w σ' o' := by
  unfold finishOwn at hf
  split at hf
  · rename_i r1 o1 hr1 ho1
    have hF := frz_of ho1
    have hS2 := hS.frz hF
    have hE2 := hE.frz hF (fun i hi => by simp only [decide_eq_false_iff_not]; omega)
    have hr2 := Rep.frz hS hF _ _ _ hr1 hr
    simp only at hf
    generalize dropPu (fun i => decide (o0.length ≤ i)) 0 o1 = o2 at hf hF hS2 hE2 hr2
    generalize sigF o (fun i => decide (o0.length ≤ i)) σ = σ2 at hS2 hE2 hr2
    obtain ⟨t, ht⟩ := reachF_prefix o2 reachD (r1 :: (o2.take o0.length).flatMap finishOwn.AObj.avs) (List.range o0.length)
    generalize reachF o2 reachD (r1 :: (o2.take o0.length).flatMap finishOwn.AObj.avs) (List.range o0.length) = ids at hf ht
    split at hf
    · rename_i hnd
      split at hf
      · rename_i r2 s2 hrr hss
        simp only [Option.some.injEq, Prod.mk.injEq] at hf
        obtain ⟨rfl, rfl⟩ := hf
        have hfr : ∀ b, b < w.heap.size → Fr A σ2 b → Fr A (sigSub σ2 ids) b := fun b _ hf => ⟨fun ⟨i, c, hi⟩ => by
          obtain ⟨x, hx, hx2⟩ := sigSub_some hi
          exact hf.1 ⟨x, c, hx2⟩, hf.2⟩
        have hid : ∀ i, i < o0.length → ids[i]? = some i := by
          intro i hi
          rw [ht, List.getElem?_append_left (by simpa using hi)]
          simp [hi]
        have hidx : ∀ i, i < o0.length → idxOf ids i = some i := by
          intro i hi
          have hmem : i ∈ ids := List.mem_of_getElem? (hid i hi)
          have : ∃ j, idxOf ids i = some j := by
            have gen : ∀ (l : List Nat) (k : Nat), i ∈ l → ∃ j, idxOf l i k = some j := by
              intro l
              induction l with
              | nil => intro k h; simp at h
              | cons a l ih =>
                intro k h
                simp only [idxOf]
                split
                · exact ⟨k, rfl⟩
                · rename_i hne
                  refine ih (k + 1) ((List.mem_cons.1 h).resolve_left fun h2 => hne (by simp [h2]))
            exact gen ids 0 hmem
          obtain ⟨j, hj⟩ := this
          obtain ⟨_, h2⟩ := idxOf_spec hj
          simp only [Nat.sub_zero] at h2
          have := (List.getElem?_inj (List.getElem?_eq_some_iff.1 h2).1 (nodupN_spec hnd)).1 (h2.trans (hid i hi).symm)
          rw [hj, this]
        refine ⟨sigSub σ2 ids, hS2.sub (nodupN_spec hnd) hss hfr (fun i _ b c h => hS2.av i b c h) hS2.avb, Rep.ren hfr (fun id id' h => sub_tr hS2.len hss h) _ _ _ hrr hr2, hE2.size, fun b hb hn => ?_, ?_, fun id tot ha => ?_, fun id ha => ?_, hE2.os, hE2.tape, hE2.output⟩
        · obtain ⟨h1, h2⟩ := hE2.blk b hb hn
          refine ⟨h1, fun ⟨i, c, hi⟩ => ?_⟩
          obtain ⟨x, hx, hx2⟩ := sigSub_some hi
          exact h2 ⟨x, c, hx2⟩
        · rw [(subStore_get hss).1, ht]; simp
        · obtain ⟨h1, h2⟩ := hE2.cur id tot ha
          have hlt : id < o0.length := by obtain ⟨cs, e, sz, pu, ho, _⟩ := ha; exact (List.getElem?_eq_some_iff.1 ho).1
          have htr := sub_tr hS2.len hss (hidx id hlt)
          refine ⟨htr.lenLe h1, fun sz hc => ?_⟩
          rw [htr.2.2]
          exact h2 sz (htr.cur h1 hc)
        · obtain ⟨h1, h2⟩ := hE2.isMap id ha
          have hlt : id < o0.length := by obtain ⟨es, kt, pu, ho⟩ := ha; exact (List.getElem?_eq_some_iff.1 ho).1
          have htr := sub_tr hS2.len hss (hidx id hlt)
          exact ⟨htr.2.1 h1, by rw [htr.2.2]; exact h2⟩
      · cases hf
    · cases hf
  · cases hf
end

theorem putBack_at : ∀ (ids : List Nat) (o X : Store) (j i : Nat) (x : AObj), ids.Nodup → ids[j]? = some i → i < o.length → X[j]? = some x → (putBack o ids X)[i]? = some x
  | [], o, X, j, i, x, _, hj, _, _ => by simp at hj
  | a :: r, o, [], j, i, x, _, _, _, hx => by simp at hx
  | a :: r, o, y :: l, j, i, x, hn, hj, hi, hx => by
    rw [List.nodup_cons] at hn
    simp only [putBack]
    cases j with
    | zero =>
      simp at hj hx
      subst hj; subst hx
      rw [putBack_ne r _ l a hn.1, List.getElem?_set_self hi]
    | succ j =>
      simp only [List.getElem?_cons_succ] at hj hx
      exact putBack_at r _ l j i x hn.2 hj (by simpa using hi) hx

theorem idxOf_mem {i : Nat} : ∀ {l : List Nat} {k : Nat}, i ∈ l → ∃ j, idxOf l i k = some j
  | [], k, h => by simp at h
  | a :: l, k, h => by
    simp only [idxOf]
    split
    · exact ⟨k, rfl⟩
    · rename_i hne
      exact idxOf_mem ((List.mem_cons.1 h).resolve_left fun h2 => hne (by simp [h2]))

/-- The blocks after an own call. -/
def sigBack (σ σ' : Sig) (ids : List Nat) : Sig :=
  ((List.range σ.length).map fun i => match idxOf ids i with | some j => (σ'[j]?).getD none | none => (σ[i]?).getD none) ++ σ'.drop ids.length

section
variable {A : Nat → Prop} {w : World} {σ : Sig} {o : Store}

/-- A call that may write. -/
theorem call_own {P : Program} {call : Oracle} (hcall : OracleOK P call) (hS : SimO A w σ o) {f : FuncId} {args : List AV} {vs : List Value} (hr : RepL A w σ o args vs)
    {r : AV} {o' : Store} (hc : callOwn call f args o = some (r, o')) :
    goodF P f = true ∧ Calls P f vs.toArray w fun e w' => ∃ u σ', e = .returned u ∧ SimO A w' σ' o' ∧ Rep A w' σ' o' r u ∧ Ext w σ o w' σ' o' := by
  unfold callOwn at hc
  simp only at hc
  generalize reachF o reachD args [] = ids at hc
  split at hc
  · rename_i args' small ha hss
    split at hc
    · rename_i r1 small' hcl
      split at hc
      · cases hc
      · rename_i hcond
        simp only [not_or, Bool.not_eq_false, Nat.not_lt] at hcond
        obtain ⟨hnl, hnd⟩ := hcond
        have hnd := nodupN_spec hnd
        split at hc
        · rename_i r2 big hr2 hbig
          simp only [Option.some.injEq, Prod.mk.injEq] at hc
          obtain ⟨rfl, ho'⟩ := hc
          obtain ⟨hg, hco, _⟩ := hcall _ _ _ _ _ _ hcl
          refine ⟨hg, ?_⟩
          have hsub := subStore_get hss
          have hidlt : ∀ (j i : Nat), ids[j]? = some i → i < o.length := fun j i hj => by
            obtain ⟨x, y, hx, _, _⟩ := hsub.2 j i hj
            exact (List.getElem?_eq_some_iff.1 hx).1
          have hsg := fun {j i : Nat} (hj : ids[j]? = some i) => sigSub_get hS.len hss hj
          generalize hA' : (fun b => A b ∨ (Own σ b ∧ ¬ Own (sigSub σ ids) b)) = A'
          have hA'b : ∀ b, A' b ↔ (A b ∨ (Own σ b ∧ ¬ Own (sigSub σ ids) b)) := fun b => by rw [← hA']
          have hfr : ∀ b, b < w.heap.size → Fr A σ b → Fr A' (sigSub σ ids) b := fun b _ hf => ⟨fun ⟨i, c, hi⟩ => by
            obtain ⟨x, hx, hx2⟩ := sigSub_some hi
            exact hf.1 ⟨x, c, hx2⟩, fun h => ((hA'b b).1 h).elim hf.2 fun h => hf.1 h.1⟩
          have hSs : SimO A' w (sigSub σ ids) small := hS.sub hnd hss hfr (fun i hi b c h hA => by
            rcases (hA'b b).1 hA with h1 | ⟨_, h1⟩
            · exact hS.av i b c h h1
            · obtain ⟨j, hj⟩ := List.getElem?_of_mem hi
              exact h1 ⟨j, c, by rw [hsg hj]; exact h⟩) (fun b h => ((hA'b b).1 h).elim (hS.avb b) fun ⟨⟨i, c, hi⟩, _⟩ => hS.bnd i b c hi)
          have hargs : RepL A' w (sigSub σ ids) small args' vs := RepL.ren hfr (fun id id' h => sub_tr hS.len hss h) args vs args' ha hr
          refine (hco A' w _ vs hSs hargs).mono ?_
          rintro e w' ⟨u, σ', rfl, hS', hr', hE⟩
          have hbl := renS_length hbig
          have hN := hS.len
          -- the blocks and the objects after the call
          have hlenσ : (sigBack σ σ' ids).length = o.length + (small'.length - ids.length) := by simp [sigBack, hN, hS'.len]
          have hleno : o'.length = o.length + (small'.length - ids.length) := by rw [← ho']; simp [putBack_length, hbl]
          have low : ∀ i, i < o.length → idxOf ids i = none → (sigBack σ σ' ids)[i]? = σ[i]? ∧ o'[i]? = o[i]? ∧ i ∉ ids := by
            intro i hi hn
            have hni : i ∉ ids := fun h => by obtain ⟨j, hj⟩ := idxOf_mem (k := 0) h; rw [hn] at hj; cases hj
            refine ⟨?_, ?_, hni⟩
            · unfold sigBack
              rw [List.getElem?_append_left (by simp; omega)]
              simp [hN, hi, hn]
            · rw [← ho', List.getElem?_append_left (by rw [putBack_length]; exact hi), putBack_ne _ _ _ _ hni]
          have tgt : ∀ j t, backN ids o.length j = some t → (sigBack σ σ' ids)[t]? = σ'[j]? ∧ o'[t]? = big[j]? := by
            intro j t hj
            unfold backN at hj
            split at hj
            · rename_i i hji
              injection hj with hj; subst hj
              have hi := hidlt j i hji
              have hjn : j < ids.length := (List.getElem?_eq_some_iff.1 hji).1
              obtain ⟨j2, hj2⟩ := idxOf_mem (k := 0) (List.mem_of_getElem? hji)
              have hj3 := (idxOf_spec hj2).2
              simp only [Nat.sub_zero] at hj3
              have := (List.getElem?_inj (List.getElem?_eq_some_iff.1 hj3).1 hnd).1 (hj3.trans hji.symm)
              subst this
              constructor
              · unfold sigBack
                rw [List.getElem?_append_left (by simp; omega)]
                have : j2 < σ'.length := by rw [hS'.len]; omega
                simp [hN, hi, hj2, List.getElem?_eq_getElem this]
              · have hb : j2 < big.length := by omega
                rw [← ho', List.getElem?_append_left (by rw [putBack_length]; exact hi), List.getElem?_eq_getElem hb]
                exact putBack_at ids o _ j2 i _ hnd hji hi (by rw [List.getElem?_take_of_lt hjn, List.getElem?_eq_getElem hb])
            · rename_i hji
              injection hj with hj; subst hj
              have hjn := List.getElem?_eq_none_iff.1 hji
              constructor
              · unfold sigBack
                rw [List.getElem?_append_right (by simp; omega)]
                simp only [List.length_map, List.length_range, List.getElem?_drop, hN]
                congr 1; omega
              · rw [← ho', List.getElem?_append_right (by rw [putBack_length]; omega), putBack_length, List.getElem?_drop]
                congr 1; omega
          have inv : ∀ i, i < o'.length → (∃ j, j < small'.length ∧ backN ids o.length j = some i) ∨ (i < o.length ∧ idxOf ids i = none) := by
            intro i hi
            rw [hleno] at hi
            rcases Nat.lt_or_ge i o.length with h1 | h1
            · cases hq : idxOf ids i with
              | none => exact .inr ⟨h1, rfl⟩
              | some j =>
                left
                have hj3 := (idxOf_spec hq).2
                simp only [Nat.sub_zero] at hj3
                have := (List.getElem?_eq_some_iff.1 hj3).1
                exact ⟨j, by omega, by simp [backN, hj3]⟩
            · left
              refine ⟨ids.length + (i - o.length), by omega, ?_⟩
              unfold backN
              rw [List.getElem?_eq_none (by omega)]
              simp only [Option.some.injEq]
              omega
          have clash : ∀ i b c, i < o.length → idxOf ids i = none → σ[i]? = some (some (b, c)) → A' b := by
            intro i b c hi hn hs
            refine (hA'b b).2 (.inr ⟨⟨i, c, hs⟩, ?_⟩)
            rintro ⟨j, d, hj⟩
            obtain ⟨x, hx, hx2⟩ := sigSub_some hj
            have := hS.dist i x b c d hs hx2
            subst this
            exact (low i hi hn).2.2 (List.mem_of_getElem? hx)
          have own : ∀ i b c, (sigBack σ σ' ids)[i]? = some (some (b, c)) → (∃ j, backN ids o.length j = some i ∧ σ'[j]? = some (some (b, c))) ∨ (i < o.length ∧ idxOf ids i = none ∧ σ[i]? = some (some (b, c))) := by
            intro i b c hi
            have hlt := (List.getElem?_eq_some_iff.1 hi).1
            rw [hlenσ, ← hleno] at hlt
            rcases inv i hlt with ⟨j, hj, hb⟩ | ⟨h1, h2⟩
            · exact .inl ⟨j, hb, by rw [← (tgt j i hb).1]; exact hi⟩
            · exact .inr ⟨h1, h2, by rw [← (low i h1 h2).1]; exact hi⟩
          have htr : ∀ j t, backN ids o.length j = some t → Tr small' σ' o' (sigBack σ σ' ids) j t := by
            intro j t hj
            obtain ⟨t1, t2⟩ := tgt j t hj
            refine ⟨fun cs e sz pu ho => ?_, fun ⟨es, kt, pu, ho⟩ => ?_, t1⟩
            · obtain ⟨y, hy, hy2⟩ := renS_get hbig j _ ho
              obtain ⟨cs', rfl, hl⟩ := ren_cells hy
              exact ⟨cs', e, pu, by rw [t2]; exact hy2, hl⟩
            · obtain ⟨y, hy, hy2⟩ := renS_get hbig j _ ho
              obtain ⟨es', rfl⟩ := ren_map hy
              exact ⟨es', kt, pu, by rw [t2]; exact hy2⟩
          have hfr' : ∀ b, b < w'.heap.size → Fr A' σ' b → Fr A (sigBack σ σ' ids) b := by
            intro b _ hf
            refine ⟨?_, fun h => hf.2 ((hA'b b).2 (.inl h))⟩
            rintro ⟨i, c, hi⟩
            rcases own i b c hi with ⟨j, _, hj⟩ | ⟨h1, h2, h3⟩
            · exact hf.1 ⟨j, c, hj⟩
            · exact hf.2 (clash i b c h1 h2 h3)
          have hnotin : ∀ i b c, i < o.length → idxOf ids i = none → σ[i]? = some (some (b, c)) → ¬ Own (sigSub σ ids) b := by
            rintro i b c hi hn hs ⟨j, d, hj⟩
            obtain ⟨x, hx, hx2⟩ := sigSub_some hj
            have := hS.dist i x b c d hs hx2
            subst this
            exact (low i hi hn).2.2 (List.mem_of_getElem? hx)
          have hsubown : ∀ b, Own (sigSub σ ids) b → Own σ b := fun b ⟨i, c, hi⟩ => by
            obtain ⟨x, hx, hx2⟩ := sigSub_some hi
            exact ⟨x, c, hx2⟩
          have hback : ∀ id, id < o.length → ∀ j, idxOf ids id = some j → backN ids o.length j = some id := by
            intro id _ j hj
            have hj3 := (idxOf_spec hj).2
            simp only [Nat.sub_zero] at hj3
            simp [backN, hj3]
          have hEx : Ext w σ o w' (sigBack σ σ' ids) o' := by
            refine ⟨hE.size, fun b hb hn => ?_, by rw [hleno]; omega, fun id tot hle => ?_, fun id hm => ?_, hE.os, hE.tape, hE.output⟩
            · obtain ⟨h1, h2⟩ := hE.blk b hb fun h => hn (hsubown b h)
              refine ⟨h1, ?_⟩
              rintro ⟨i, c, hi⟩
              rcases own i b c hi with ⟨j, _, hj⟩ | ⟨_, _, h3⟩
              · exact h2 ⟨j, c, hj⟩
              · exact hn ⟨i, c, h3⟩
            · have hid : id < o.length := by obtain ⟨cs, e, sz, pu, ho, _⟩ := hle; exact (List.getElem?_eq_some_iff.1 ho).1
              cases hq : idxOf ids id with
              | none =>
                obtain ⟨l1, l2, _⟩ := low id hid hq
                refine ⟨?_, fun sz hcu => ⟨?_, l1⟩⟩
                · obtain ⟨cs, e, sz, pu, ho, hl⟩ := hle
                  exact ⟨cs, e, sz, pu, by rw [l2]; exact ho, hl⟩
                · obtain ⟨cs, e, pu, ho, hl⟩ := hcu
                  exact ⟨cs, e, pu, by rw [← l2]; exact ho, hl⟩
              | some j =>
                have t1 := sub_tr hS.len hss hq
                have t2 := htr j id (hback id hid j hq)
                obtain ⟨h1, h2⟩ := hE.cur j tot (t1.lenLe hle)
                refine ⟨t2.lenLe h1, fun sz hcu => ?_⟩
                obtain ⟨h3, h4⟩ := h2 sz (t2.cur h1 hcu)
                exact ⟨t1.cur hle h3, by rw [t2.2.2, h4, t1.2.2]⟩
            · have hid : id < o.length := by obtain ⟨es, kt, pu, ho⟩ := hm; exact (List.getElem?_eq_some_iff.1 ho).1
              cases hq : idxOf ids id with
              | none =>
                obtain ⟨l1, l2, _⟩ := low id hid hq
                obtain ⟨es, kt, pu, ho⟩ := hm
                exact ⟨⟨es, kt, pu, by rw [l2]; exact ho⟩, l1⟩
              | some j =>
                have t1 := sub_tr hS.len hss hq
                have t2 := htr j id (hback id hid j hq)
                obtain ⟨h1, h2⟩ := hE.isMap j (t1.2.1 hm)
                exact ⟨t2.2.1 h1, by rw [t2.2.2, h2, t1.2.2]⟩
          refine ⟨u, sigBack σ σ' ids, rfl, ⟨by rw [hlenσ, hleno], fun i k b c d hi hk => ?_, fun i b c hi => ?_, fun i y hy => ?_, fun i b c hi => ?_, fun b hb => Nat.lt_of_lt_of_le (hS.avb b hb) hE.size⟩, Rep.ren hfr' htr _ _ _ hr2 hr', hEx⟩
          · rcases own i b c hi with ⟨j, hj, hj2⟩ | ⟨h1, h2, h3⟩ <;> rcases own k b d hk with ⟨l, hl, hl2⟩ | ⟨g1, g2, g3⟩
            · have := hS'.dist j l b c d hj2 hl2
              subst this
              rw [hj] at hl
              injection hl
            · exact absurd (clash k b d g1 g2 g3) (hS'.av j b c hj2)
            · exact absurd (clash i b c h1 h2 h3) (hS'.av l b d hl2)
            · exact hS.dist i k b c d h3 g3
          · rcases own i b c hi with ⟨j, hj, hj2⟩ | ⟨h1, h2, h3⟩
            · exact hS'.bnd j b c hj2
            · exact Nat.lt_of_lt_of_le (hS.bnd i b c h3) hE.size
          · rcases inv i (List.getElem?_eq_some_iff.1 hy).1 with ⟨j, hjl, hj⟩ | ⟨h1, h2⟩
            · have hx := List.getElem?_eq_getElem hjl
              obtain ⟨z, hz, hz2⟩ := renS_get hbig j _ hx
              obtain ⟨t1, t2⟩ := tgt j i hj
              rw [← t2, hy] at hz2
              injection hz2 with hz2
              subst hz2
              exact ObjOK.ren hfr' htr hz t1 (hS'.obj j _ hx)
            · obtain ⟨l1, l2, _⟩ := low i h1 h2
              rw [l2] at hy
              exact (hS.obj i y hy).ext hEx l1 fun b c hb => (hE.blk b (hS.bnd i b c hb) (hnotin i b c h1 h2 hb)).1
          · rcases own i b c hi with ⟨j, hj, hj2⟩ | ⟨h1, h2, h3⟩
            · exact fun h => hS'.av j b c hj2 ((hA'b b).2 (.inl h))
            · exact hS.av i b c h3
        · cases hc
    · cases hc
  · cases hc
end

end Go.Vi

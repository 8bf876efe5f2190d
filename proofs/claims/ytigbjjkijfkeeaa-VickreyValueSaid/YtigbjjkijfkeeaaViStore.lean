/-
  The abstract interpreter: objects by other numbers, frozen copies, kept places.
  Conditions: none.
-/
import Derived.Test.YtigbjjkijfkeeaaViEff
namespace Go.Vi

section
variable {A A' : Nat → Prop} {w w' : World} {σ σ' : Sig} {o o' : Store}

/-- Object 'id' stands under the number id' in the other store. -/
def Tr (o : Store) (σ : Sig) (o' : Store) (σ' : Sig) (id id' : Nat) : Prop :=
  (∀ cs e sz pu, o[id]? = some (.cells cs e sz pu) → ∃ cs' e' pu', o'[id']? = some (.cells cs' e' sz pu') ∧ cs'.length = cs.length) ∧ (IsMap o id → IsMap o' id') ∧ σ'[id']? = σ[id]?

theorem Tr.lenLe {id id' tot : Nat} (h : Tr o σ o' σ' id id') (k : LenLe o id tot) : LenLe o' id' tot := by
  obtain ⟨cs, e, sz, pu, h1, h2⟩ := k
  obtain ⟨cs', e', pu', h3, h4⟩ := h.1 cs e sz pu h1
  exact ⟨cs', e', sz, pu', h3, by omega⟩

theorem Tr.cur {id id' tot sz : Nat} (h : Tr o σ o' σ' id id') (k : LenLe o id tot) (hc : CurO o' id' sz tot) : CurO o id sz tot := by
  obtain ⟨cs, e, sz0, pu, h1, h2⟩ := k
  obtain ⟨cs', e', pu', h3, h4⟩ := h.1 cs e sz0 pu h1
  obtain ⟨cs2, e2, pu2, h5, h6⟩ := hc
  rw [h3] at h5
  injection h5 with h5
  injection h5 with a b c d
  subst a c
  exact ⟨cs, e, pu, h1, by omega⟩

mutual
theorem AV.pure_ren (m : Nat → Option Nat) : ∀ (c : AV), c.pure = true → c.ren m = some c
  | .sc _, _ => rfl
  | .sl _ _, _ => rfl
  | .ud, h | .agg _, h | .tup _, h | .ep _ _, h | .ptr _ _ _, h | .os _ _ _ _, h | .mp _, h | .fn _ _ _, h => by simp [AV.pure] at h
end

mutual
theorem Rep.ren (hA : ∀ b, b < w.heap.size → Fr A σ b → Fr A' σ' b) {m : Nat → Option Nat} (hm : ∀ id id', m id = some id' → Tr o σ o' σ' id id') :
    ∀ (c : AV) (v : Value) (c' : AV), c.ren m = some c' → Rep A w σ o c v → Rep A' w σ' o' c' v
  | .ud, v, c', hc, _ => by simp only [AV.ren, Option.some.injEq] at hc; subst hc; simp [Rep]
  | .sc u, v, c', hc, h => by simp only [AV.ren, Option.some.injEq] at hc; subst hc; simpa [Rep] using h
  | .sl n cs, v, c', hc, h => by
    simp only [AV.ren, Option.some.injEq] at hc; subst hc
    simp only [Rep] at h ⊢
    obtain ⟨a, cap, rfl, hn, hp, hr⟩ := h
    exact ⟨a, cap, rfl, hn, hp, RepM.ren hA hm cs a 0 hp hr⟩
  | .ep cs off, v, c', hc, h => by
    simp only [AV.ren, Option.some.injEq] at hc; subst hc
    simp only [Rep] at h ⊢
    obtain ⟨a, rfl, hp, hr⟩ := h
    exact ⟨a, rfl, hp, RepM.ren hA hm cs _ 0 hp hr⟩
  | .agg cs, v, c', hc, h => by
    simp only [AV.ren, Option.map_eq_some_iff] at hc
    obtain ⟨cs', h1, rfl⟩ := hc
    simp only [Rep] at h ⊢
    obtain ⟨vs, rfl, hl⟩ := h
    exact ⟨vs, rfl, RepL.ren hA hm cs _ cs' h1 hl⟩
  | .tup cs, v, c', hc, h => by
    simp only [AV.ren, Option.map_eq_some_iff] at hc
    obtain ⟨cs', h1, rfl⟩ := hc
    simp only [Rep] at h ⊢
    obtain ⟨vs, rfl, hl⟩ := h
    exact ⟨vs, rfl, RepL.ren hA hm cs _ cs' h1 hl⟩
  | .ptr id off tot, v, c', hc, h => by
    simp only [AV.ren, Option.map_eq_some_iff] at hc
    obtain ⟨id', h1, rfl⟩ := hc
    have ht := hm id id' h1
    simp only [Rep] at h ⊢
    refine ⟨ht.lenLe h.1, h.2.1, fun sz hcu => ?_⟩
    rw [ht.2.2]
    exact h.2.2 sz (ht.cur h.1 hcu)
  | .os id off len tot, v, c', hc, h => by
    simp only [AV.ren, Option.map_eq_some_iff] at hc
    obtain ⟨id', h1, rfl⟩ := hc
    have ht := hm id id' h1
    simp only [Rep] at h ⊢
    obtain ⟨h0, a, cap, hv, hl, hk⟩ := h
    refine ⟨ht.lenLe h0, a, cap, hv, hl, fun sz hcu => ?_⟩
    have := hk sz (ht.cur h0 hcu)
    unfold OsOk at this ⊢
    rw [ht.2.2]
    exact this
  | .mp id, v, c', hc, h => by
    simp only [AV.ren, Option.map_eq_some_iff] at hc
    obtain ⟨id', h1, rfl⟩ := hc
    have ht := hm id id' h1
    simp only [Rep] at h ⊢
    rw [ht.2.2]
    exact ⟨ht.2.1 h.1, h.2⟩
  | .fn f a b, v, c', hc, h => by
    simp only [AV.ren] at hc
    split at hc
    · rename_i a' b' h1 h2
      injection hc with hc; subst hc
      simp only [Rep] at h ⊢
      obtain ⟨x, y, rfl, hx, hy⟩ := h
      exact ⟨x, y, rfl, RepL.ren hA hm a _ a' h1 hx, RepL.ren hA hm b _ b' h2 hy⟩
    · cases hc
theorem RepL.ren (hA : ∀ b, b < w.heap.size → Fr A σ b → Fr A' σ' b) {m : Nat → Option Nat} (hm : ∀ id id', m id = some id' → Tr o σ o' σ' id id') :
    ∀ (cs : List AV) (vs : List Value) (cs' : List AV), renL m cs = some cs' → RepL A w σ o cs vs → RepL A' w σ' o' cs' vs
  | [], vs, cs', hc, h => by simp only [renL, Option.some.injEq] at hc; subst hc; simpa [RepL] using h
  | c :: cs, vs, cs', hc, h => by
    simp only [renL] at hc
    split at hc
    · rename_i c1 cs1 h1 h2
      injection hc with hc; subst hc
      simp only [RepL] at h ⊢
      obtain ⟨v, r, rfl, hv, hl⟩ := h
      exact ⟨v, r, rfl, Rep.ren hA hm c v c1 h1 hv, RepL.ren hA hm cs r cs1 h2 hl⟩
    · cases hc
theorem RepM.ren (hA : ∀ b, b < w.heap.size → Fr A σ b → Fr A' σ' b) {m : Nat → Option Nat} (hm : ∀ id id', m id = some id' → Tr o σ o' σ' id id') :
    ∀ (cs : List AV) (a : Option Addr) (j : Nat), pureL cs = true → RepM A w σ o cs a j → RepM A' w σ' o' cs a j
  | [], _, _, _, _ => by simp [RepM]
  | c :: cs, a, j, hp, h => by
    simp only [pureL, Bool.and_eq_true] at hp
    simp only [RepM] at h ⊢
    obtain ⟨⟨b, v, rfl, hf, hc, hr⟩, hl⟩ := h
    have hlt : b.block < w.heap.size := by have := cell_of_blk hc; rwa [add_block] at this
    exact ⟨⟨b, v, rfl, hA _ hlt hf, hc, Rep.ren hA hm c v c (AV.pure_ren m c hp.1) hr⟩, RepM.ren hA hm cs _ (j + 1) hp.2 hl⟩
end

theorem renL_get {m : Nat → Option Nat} : ∀ {cs cs' : List AV}, renL m cs = some cs' → cs'.length = cs.length ∧ ∀ (j : Nat) (c' : AV), cs'[j]? = some c' → ∃ c, cs[j]? = some c ∧ c.ren m = some c'
  | [], cs', h => by simp only [renL, Option.some.injEq] at h; subst h; simp
  | c :: cs, cs', h => by
    simp only [renL] at h
    split at h
    · rename_i c1 cs1 h1 h2
      injection h with h; subst h
      obtain ⟨i1, i2⟩ := renL_get h2
      refine ⟨by simp [i1], fun j d hd => ?_⟩
      cases j with
      | zero => simp at hd; subst hd; exact ⟨c, by simp, h1⟩
      | succ j => simp at hd; obtain ⟨c2, h3, h4⟩ := i2 j d hd; exact ⟨c2, by simpa using h3, h4⟩
    · cases h

theorem renM_get {m : Nat → Option Nat} : ∀ {es es' : List (Value × AV)}, renM m es = some es' → es'.length = es.length ∧ ∀ (j : Nat) (e' : Value × AV), es'[j]? = some e' → ∃ e, es[j]? = some e ∧ e.1 = e'.1 ∧ e.2.ren m = some e'.2
  | [], es', h => by simp only [renM, Option.some.injEq] at h; subst h; simp
  | e :: es, es', h => by
    simp only [renM] at h
    split at h
    · rename_i v es1 h1 h2
      injection h with h; subst h
      obtain ⟨i1, i2⟩ := renM_get h2
      refine ⟨by simp [i1], fun j d hd => ?_⟩
      cases j with
      | zero => simp at hd; subst hd; exact ⟨e, by simp, rfl, h1⟩
      | succ j => simp at hd; obtain ⟨c2, h3, h4⟩ := i2 j d hd; exact ⟨c2, by simpa using h3, h4⟩
    · cases h

theorem ren_one {m : Nat → Option Nat} {c c' : AV} (h : c.ren m = some c') (h1 : c.one = true) : c'.one = true := by
  cases c <;> simp only [AV.ren, Option.some.injEq, Option.map_eq_some_iff] at h <;> simp only [AV.one, Bool.false_eq_true] at h1
  all_goals first
    | (subst h; first | exact h1 | rfl)
    | (obtain ⟨_, _, rfl⟩ := h; rfl)
    | (split at h
       · injection h with h; subst h; rfl
       · cases h)

mutual
theorem ren_pure {m : Nat → Option Nat} : ∀ {c c' : AV}, c.ren m = some c' → c.pure = true → c' = c
  | c, c', h, hp => by
    have := AV.pure_ren m c hp
    rw [this] at h
    injection h with h
    exact h.symm
end

theorem ObjOK.ren (hA : ∀ b, b < w.heap.size → Fr A σ b → Fr A' σ' b) {m : Nat → Option Nat} (hm : ∀ id id', m id = some id' → Tr o σ o' σ' id id') {i i' : Nat} {x x' : AObj} (hx : x.ren m = some x') (hσ : σ'[i']? = σ[i]?)
    (h : ObjOK A w σ o i x) : ObjOK A' w σ' o' i' x' := by
  cases x with
  | dead => simp only [AObj.ren, Option.some.injEq] at hx; subst hx; simp only [ObjOK] at h ⊢; rw [hσ]; exact h
  | cells cs e sz pu =>
    simp only [ObjOK] at h
    obtain ⟨h1, h2, h3⟩ := h
    have key : ∀ cs', cs'.length = cs.length → (pu = true → pureL cs' = true) → oneL cs' = true → (∀ (j : Nat) (c' : AV) (v : Value), cs'[j]? = some c' → (∀ c, cs[j]? = some c → Rep A w σ o c v → Rep A' w σ' o' c' v)) → ObjOK A' w σ' o' i' (.cells cs' e sz pu) := by
      intro cs' k1 k2 k3 k4
      simp only [ObjOK]
      refine ⟨k2, k3, ?_⟩
      rcases h3 with ⟨h0, h0'⟩ | ⟨b, cap, arr, r1, r2, r3, r4, r5, r6⟩
      · left; rw [hσ]; exact ⟨h0, List.eq_nil_of_length_eq_zero (by rw [k1, h0']; rfl)⟩
      · refine .inr ⟨b, cap, arr, by rw [hσ]; exact r1, r2, r3, r4, by omega, fun j c' hj => ?_⟩
        have hjl : j < cs.length := by have := (List.getElem?_eq_some_iff.1 hj).1; omega
        obtain ⟨v, hv, hr⟩ := r6 j _ (List.getElem?_eq_getElem hjl)
        exact ⟨v, hv, k4 j c' v hj _ (List.getElem?_eq_getElem hjl) hr⟩
    simp only [AObj.ren] at hx
    split at hx
    · rename_i hpu
      injection hx with hx; subst hx
      refine key cs rfl h1 h2 fun j c' v hj c hc hr => ?_
      rw [hj] at hc
      injection hc with hc
      subst hc
      exact Rep.ren hA hm c' v c' (AV.pure_ren m c' (pureL_get (h1 hpu) c' (List.mem_of_getElem? hj))) hr
    · rename_i hpu
      obtain ⟨cs', hc', rfl⟩ := Option.map_eq_some_iff.1 hx
      obtain ⟨g1, g2⟩ := renL_get hc'
      refine key cs' g1 (fun hp => absurd hp hpu) (oneL_of.2 fun c hc => ?_) fun j c' v hj c hc hr => ?_
      · obtain ⟨j, hj⟩ := List.getElem?_of_mem hc
        obtain ⟨c0, q1, q2⟩ := g2 j c hj
        exact ren_one q2 (oneL_of.1 h2 c0 (List.mem_of_getElem? q1))
      · obtain ⟨c0, q1, q2⟩ := g2 j c' hj
        rw [hc] at q1
        injection q1 with q1
        subst q1
        exact Rep.ren hA hm c v c' q2 hr
  | map es kt pu =>
    simp only [ObjOK] at h
    obtain ⟨h1, h2, b, c, en, cl, h3, h4, h5, h6⟩ := h
    simp only [AObj.ren] at hx
    split at hx
    · rename_i hpu
      injection hx with hx; subst hx
      simp only [ObjOK]
      refine ⟨h1, h2, b, c, en, cl, by rw [hσ]; exact h3, h4, h5, fun j e he => ?_⟩
      obtain ⟨m', q1, q2, q3⟩ := h6 j e he
      exact ⟨m', q1, q2, Rep.ren hA hm e.2 _ e.2 (AV.pure_ren m e.2 (h1 hpu e (List.mem_of_getElem? he))) q3⟩
    · rename_i hpu
      obtain ⟨es', hc', rfl⟩ := Option.map_eq_some_iff.1 hx
      obtain ⟨g1, g2⟩ := renM_get hc'
      simp only [ObjOK]
      refine ⟨fun hp => absurd hp hpu, fun e he => ?_, b, c, en, cl, by rw [hσ]; exact h3, h4, by omega, fun j e' he => ?_⟩
      · obtain ⟨j, hj⟩ := List.getElem?_of_mem he
        obtain ⟨e0, q1, q2, _⟩ := g2 j e hj
        rw [← q2]
        exact h2 e0 (List.mem_of_getElem? q1)
      · obtain ⟨e0, q1, q2, q3⟩ := g2 j e' he
        obtain ⟨m', r1, r2, r3⟩ := h6 j e0 q1
        exact ⟨m', r1, by rw [r2, q2], Rep.ren hA hm e0.2 _ e'.2 q3 r3⟩

/-! ### fewer objects -/

def cutM (k : Nat) : Nat → Option Nat := fun i => if i < k then some i else none

mutual
theorem bel_ren (k : Nat) : ∀ (c : AV), c.bel k = true → c.ren (cutM k) = some c
  | .ud, _ | .sc _, _ | .sl _ _, _ | .ep _ _, _ => rfl
  | .agg cs, h => by simp only [AV.bel] at h; simp [AV.ren, belL_ren k cs h]
  | .tup cs, h => by simp only [AV.bel] at h; simp [AV.ren, belL_ren k cs h]
  | .ptr id _ _, h => by simp only [AV.bel, decide_eq_true_eq] at h; simp [AV.ren, cutM, h]
  | .os id _ _ _, h => by simp only [AV.bel, decide_eq_true_eq] at h; simp [AV.ren, cutM, h]
  | .mp id, h => by simp only [AV.bel, decide_eq_true_eq] at h; simp [AV.ren, cutM, h]
  | .fn f a b, h => by simp only [AV.bel, Bool.and_eq_true] at h; simp [AV.ren, belL_ren k a h.1, belL_ren k b h.2]
theorem belL_ren (k : Nat) : ∀ (cs : List AV), belL k cs = true → renL (cutM k) cs = some cs
  | [], _ => rfl
  | c :: cs, h => by simp only [belL, Bool.and_eq_true] at h; simp [renL, bel_ren k c h.1, belL_ren k cs h.2]
end

theorem belL_mem {k : Nat} {cs : List AV} : belL k cs = true ↔ ∀ c ∈ cs, c.bel k = true := by
  induction cs with
  | nil => simp [belL]
  | cons c cs ih => simp [belL, ih]

theorem cutM_tr (k : Nat) (id id' : Nat) (h : cutM k id = some id') : Tr o σ (o.take k) (σ.take k) id id' := by
  unfold cutM at h
  split at h
  · rename_i hk
    injection h with h; subst h
    refine ⟨fun cs e sz pu ho => ⟨cs, e, pu, by rw [List.getElem?_take_of_lt hk]; exact ho, rfl⟩, fun ⟨es, kt, pu, ho⟩ => ⟨es, kt, pu, by rw [List.getElem?_take_of_lt hk]; exact ho⟩, by rw [List.getElem?_take_of_lt hk]⟩
  · cases h

theorem fr_take (k : Nat) (b : Nat) (h : Fr A σ b) : Fr A (σ.take k) b := by
  refine ⟨?_, h.2⟩
  rintro ⟨i, c, hi⟩
  rw [List.getElem?_take] at hi
  split at hi
  · exact h.1 ⟨i, c, hi⟩
  · cases hi

theorem Rep.take {k : Nat} {c : AV} {v : Value} (h : Rep A w σ o c v) (hb : c.bel k = true) : Rep A w (σ.take k) (o.take k) c v :=
  Rep.ren (fun b _ hf => fr_take k b hf) (cutM_tr k) c v c (bel_ren k c hb) h

theorem bel_objR {k : Nat} {x : AObj} (h : x.bel k = true) : x.ren (cutM k) = some x := by
  cases x with
  | dead => rfl
  | cells cs e sz pu =>
    simp only [AObj.bel, Bool.or_eq_true] at h
    simp only [AObj.ren]
    split
    · rfl
    · rename_i hp; rw [belL_ren k cs (h.resolve_left hp)]; rfl
  | map es kt pu =>
    simp only [AObj.bel, Bool.or_eq_true] at h
    simp only [AObj.ren]
    split
    · rfl
    · rename_i hp
      have h2 := h.resolve_left hp
      have : renM (cutM k) es = some es := by
        clear h hp
        induction es with
        | nil => rfl
        | cons e es ih =>
          simp only [List.map_cons, belL, Bool.and_eq_true] at h2
          simp [renM, bel_ren k e.2 h2.1, ih h2.2]
      rw [this]; rfl

theorem SimO.take (hS : SimO A w σ o) {k : Nat} (hb : ∀ x ∈ o.take k, x.bel k = true) : SimO A w (σ.take k) (o.take k) := by
  have hsub : ∀ (i : Nat) (s : Option (Nat × Nat)), (σ.take k)[i]? = some s → σ[i]? = some s := by
    intro i s h
    rw [List.getElem?_take] at h
    split at h
    · exact h
    · cases h
  refine ⟨by simp [hS.len], fun i j b c d hi hj => hS.dist i j b c d (hsub _ _ hi) (hsub _ _ hj), fun i b c hi => hS.bnd i b c (hsub _ _ hi), fun i x hx => ?_, fun i b c hi => hS.av i b c (hsub _ _ hi), hS.avb⟩
  have hx0 := hx
  rw [List.getElem?_take] at hx
  split at hx
  · rename_i hk
    exact ObjOK.ren (fun b _ hf => fr_take k b hf) (cutM_tr k) (bel_objR (hb x (List.mem_of_getElem? hx0))) (by rw [List.getElem?_take_of_lt hk]) (hS.obj i x hx)
  · cases hx

/-- What the base sees of a state whose newest objects are let go. -/
theorem Ext.take {w0 : World} {σ0 : Sig} {o0 : Store} (h : Ext w0 σ0 o0 w σ o) {k : Nat} (hk : o0.length ≤ k) : Ext w0 σ0 o0 w (σ.take k) (o.take k) where
  size := h.size
  blk := fun b hb hn => by
    obtain ⟨h1, h2⟩ := h.blk b hb hn
    refine ⟨h1, ?_⟩
    rintro ⟨i, c, hi⟩
    rw [List.getElem?_take] at hi
    split at hi
    · exact h2 ⟨i, c, hi⟩
    · cases hi
  len := by have := h.len; simp; omega
  cur := fun id tot ha => by
    obtain ⟨h1, h2⟩ := h.cur id tot ha
    have hid : id < k := by
      obtain ⟨cs, e, sz, pu, ho, _⟩ := ha
      have := (List.getElem?_eq_some_iff.1 ho).1
      omega
    refine ⟨?_, fun sz hc => ?_⟩
    · obtain ⟨cs, e, sz, pu, ho, hl⟩ := h1
      exact ⟨cs, e, sz, pu, by rw [List.getElem?_take_of_lt hid]; exact ho, hl⟩
    · rw [List.getElem?_take_of_lt hid]
      refine h2 sz ?_
      obtain ⟨cs, e, pu, ho, hl⟩ := hc
      rw [List.getElem?_take_of_lt hid] at ho
      exact ⟨cs, e, pu, ho, hl⟩
  isMap := fun id ha => by
    obtain ⟨h1, h2⟩ := h.isMap id ha
    have hid : id < k := by
      obtain ⟨es, kt, pu, ho⟩ := ha
      have := (List.getElem?_eq_some_iff.1 ho).1
      omega
    refine ⟨?_, by rw [List.getElem?_take_of_lt hid]; exact h2⟩
    obtain ⟨es, kt, pu, ho⟩ := h1
    exact ⟨es, kt, pu, by rw [List.getElem?_take_of_lt hid]; exact ho⟩
  os := h.os
  tape := h.tape
  output := h.output

-- What stands for a value points at living objects.
mutual
theorem Rep.bel {k : Nat} (hk : ∀ i x, k ≤ i → o[i]? = some x → x.isDead = true) : ∀ (c : AV) (v : Value), Rep A w σ o c v → c.bel k = true
  | .ud, _, _ | .sc _, _, _ | .sl _ _, _, _ | .ep _ _, _, _ => rfl
  | .agg cs, v, h => by simp only [Rep] at h; obtain ⟨vs, _, hl⟩ := h; simp only [AV.bel]; exact RepL.bel hk cs _ hl
  | .tup cs, v, h => by simp only [Rep] at h; obtain ⟨vs, _, hl⟩ := h; simp only [AV.bel]; exact RepL.bel hk cs _ hl
  | .ptr id _ _, v, h => by
    simp only [Rep] at h
    obtain ⟨⟨cs, e, sz, pu, ho, _⟩, _⟩ := h
    simp only [AV.bel, decide_eq_true_eq]
    rcases Nat.lt_or_ge id k with h1 | h1
    · exact h1
    · have := hk id _ h1 ho; simp [AObj.isDead] at this
  | .os id _ _ _, v, h => by
    simp only [Rep] at h
    obtain ⟨⟨cs, e, sz, pu, ho, _⟩, _⟩ := h
    simp only [AV.bel, decide_eq_true_eq]
    rcases Nat.lt_or_ge id k with h1 | h1
    · exact h1
    · have := hk id _ h1 ho; simp [AObj.isDead] at this
  | .mp id, v, h => by
    simp only [Rep] at h
    obtain ⟨⟨es, kt, pu, ho⟩, _⟩ := h
    simp only [AV.bel, decide_eq_true_eq]
    rcases Nat.lt_or_ge id k with h1 | h1
    · exact h1
    · have := hk id _ h1 ho; simp [AObj.isDead] at this
  | .fn f a b, v, h => by simp only [Rep] at h; obtain ⟨x, y, _, ha, hb⟩ := h; simp only [AV.bel, Bool.and_eq_true]; exact ⟨RepL.bel hk a _ ha, RepL.bel hk b _ hb⟩
theorem RepL.bel {k : Nat} (hk : ∀ i x, k ≤ i → o[i]? = some x → x.isDead = true) : ∀ (cs : List AV) (vs : List Value), RepL A w σ o cs vs → belL k cs = true
  | [], _, _ => rfl
  | c :: cs, vs, h => by
    simp only [RepL] at h
    obtain ⟨v, r, _, hv, hl⟩ := h
    simp only [belL, Bool.and_eq_true]
    exact ⟨Rep.bel hk c v hv, RepL.bel hk cs r hl⟩
end

theorem ObjOK.bel {k i : Nat} {x : AObj} (hk : ∀ i x, k ≤ i → o[i]? = some x → x.isDead = true) (h : ObjOK A w σ o i x) : x.bel k = true := by
  cases x with
  | dead => rfl
  | cells cs e sz pu =>
    simp only [ObjOK] at h
    simp only [AObj.bel, Bool.or_eq_true]
    right
    refine belL_mem.2 fun c hc => ?_
    obtain ⟨j, hj⟩ := List.getElem?_of_mem hc
    rcases h.2.2 with ⟨_, h0⟩ | ⟨b, cap, arr, _, _, _, _, _, h6⟩
    · subst h0; simp at hc
    · obtain ⟨v, _, hr⟩ := h6 j c hj
      exact Rep.bel hk c v hr
  | map es kt pu =>
    simp only [ObjOK] at h
    obtain ⟨_, _, b, c, en, cl, _, _, _, h6⟩ := h
    simp only [AObj.bel, Bool.or_eq_true]
    right
    refine belL_mem.2 fun c hc => ?_
    obtain ⟨e, he, rfl⟩ := List.mem_map.1 hc
    obtain ⟨j, hj⟩ := List.getElem?_of_mem he
    obtain ⟨m, _, _, hr⟩ := h6 j e hj
    exact Rep.bel hk e.2 _ hr

/-! ### kept places -/

theorem deads_get {n i : Nat} {x : AObj} (h : (deads n)[i]? = some x) : x = .dead := by
  unfold deads at h
  rw [List.getElem?_replicate] at h
  split at h
  · injection h with h; exact h.symm
  · cases h

theorem SimO.deads (hS : SimO A w σ o) (n : Nat) : SimO A w (σ ++ List.replicate n none) (o ++ deads n) ∧ Ext w σ o w (σ ++ List.replicate n none) (o ++ deads n) := by
  have hσ : ∀ (i : Nat) (b c : Nat), (σ ++ List.replicate n none)[i]? = some (some (b, c)) → σ[i]? = some (some (b, c)) := by
    intro i b c h
    rw [List.getElem?_append] at h
    split at h
    · exact h
    · rw [List.getElem?_replicate] at h
      split at h
      · injection h with h; cases h
      · cases h
  have hE : Ext w σ o w (σ ++ List.replicate n none) (o ++ Go.Vi.deads n) := by
    refine ⟨Nat.le_refl _, fun b _ hn => ⟨rfl, fun ⟨i, c, hi⟩ => hn ⟨i, c, hσ i b c hi⟩⟩, by simp, fun id tot ha => ?_, fun id ha => ?_, rfl, rfl, rfl⟩
    · obtain ⟨cs, e, sz, pu, ho, hl⟩ := ha
      have hid := (List.getElem?_eq_some_iff.1 ho).1
      refine ⟨⟨cs, e, sz, pu, by rw [List.getElem?_append_left hid]; exact ho, hl⟩, fun sz' hc => ⟨?_, by rw [List.getElem?_append_left (by rw [hS.len]; exact hid)]⟩⟩
      obtain ⟨cs', e', pu', ho', hl'⟩ := hc
      rw [List.getElem?_append_left hid] at ho'
      exact ⟨cs', e', pu', ho', hl'⟩
    · obtain ⟨es, kt, pu, ho⟩ := ha
      have hid := (List.getElem?_eq_some_iff.1 ho).1
      exact ⟨⟨es, kt, pu, by rw [List.getElem?_append_left hid]; exact ho⟩, by rw [List.getElem?_append_left (by rw [hS.len]; exact hid)]⟩
  refine ⟨⟨by simp [Go.Vi.deads, hS.len], fun i j b c d hi hj => hS.dist i j b c d (hσ _ _ _ hi) (hσ _ _ _ hj), fun i b c hi => hS.bnd i b c (hσ _ _ _ hi), fun i x hx => ?_, fun i b c hi => hS.av i b c (hσ _ _ _ hi), hS.avb⟩, hE⟩
  rw [List.getElem?_append] at hx
  split at hx
  · rename_i hid
    exact (hS.obj i x hx).ext hE (by rw [List.getElem?_append_left (by rw [hS.len]; exact hid)]) fun _ _ _ => rfl
  · rename_i hid
    have := deads_get hx
    subst this
    simp only [ObjOK]
    have hlt := (List.getElem?_eq_some_iff.1 hx).1
    simp [Go.Vi.deads] at hlt
    rw [List.getElem?_append_right (by rw [hS.len]; omega), List.getElem?_replicate, if_pos (by rw [hS.len]; omega)]

theorem sweep_sim (hS : SimO A w σ o) (k : Nat) : ∃ σ', SimO A w σ' (sweep k o) ∧ (∀ c v, Rep A w σ o c v → Rep A w σ' (sweep k o) c v) ∧
    ∀ (w0 : World) (σ0 : Sig) (o0 : Store), o0.length ≤ k → Ext w0 σ0 o0 w σ o → Ext w0 σ0 o0 w σ' (sweep k o) := by
  unfold sweep
  split
  · rename_i h
    have hk : ∀ i x, k ≤ i → o[i]? = some x → x.isDead = true := by
      intro i x hi hx
      refine List.all_eq_true.1 h x (List.mem_of_getElem? (i := i - k) ?_)
      rw [List.getElem?_drop, show k + (i - k) = i from by omega]
      exact hx
    refine ⟨σ.take k, hS.take fun x hx => ?_, fun c v hr => hr.take (Rep.bel hk c v hr), fun w0 σ0 o0 h0 hE => hE.take h0⟩
    obtain ⟨j, hj⟩ := List.getElem?_of_mem (List.mem_of_mem_take hx)
    exact ObjOK.bel hk (hS.obj j x hj)
  · exact ⟨σ, hS, fun _ _ h => h, fun _ _ _ _ h => h⟩
end

end Go.Vi

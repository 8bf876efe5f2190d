/-
  The abstract interpreter: what it means that a value and a store of the interpreter stand for a value and a world of the model.
  Conditions: none.
-/
import Derived.Test.YtigbjjkijfkeeaaViComp
import Derived.OwnWalk
import Derived.Maps.AppendAt
namespace Go.Vi

/-- For each object: its block, and how many elements its block holds. -/
abbrev Sig := List (Option (Nat × Nat))

def Own (σ : Sig) (b : Nat) : Prop := ∃ (i c : Nat), σ[i]? = some (some (b, c))

/-- The object has cells, at least 'tot' of them. -/
def LenLe (o : Store) (id tot : Nat) : Prop := ∃ cs e sz pu, o[id]? = some (.cells cs e sz pu) ∧ tot ≤ cs.length

def CurO (o : Store) (id sz tot : Nat) : Prop := ∃ cs e pu, o[id]? = some (.cells cs e sz pu) ∧ cs.length = tot

def IsMap (o : Store) (id : Nat) : Prop := ∃ es kt pu, o[id]? = some (.map es kt pu)

def OsOk (σ : Sig) (id off len tot sz : Nat) (a : Option Addr) (cap : Nat) : Prop :=
  match σ[id]? with
  | some none => tot = 0 ∧ a = none ∧ cap = 0 ∧ len = 0
  | some (some (b, c)) => (0 < len → a = some ⟨b, off, none⟩) ∧ (off = 0 → len * sz = tot → 0 < sz → a = some ⟨b, 0, none⟩ ∧ cap = c) ∧ off + len * sz ≤ tot
  | none => False

/-- A block that is nobody's own: neither the call's, nor one that it must keep clear of. -/
def Fr (A : Nat → Prop) (σ : Sig) (b : Nat) : Prop := ¬ Own σ b ∧ ¬ A b

section
variable (A : Nat → Prop) (w : World) (σ : Sig) (o : Store)
mutual
def Rep : AV → Value → Prop
  | .ud, _ => True
  | .sc u, v => v = u ∧ u.oneCell' = true
  | .agg cs, v => ∃ vs, v = .agg vs ∧ RepL cs vs.toList
  | .tup cs, v => ∃ vs, v = .tuple vs ∧ RepL cs vs.toList
  | .sl n cs, v => ∃ a cap, v = .slice a n cap ∧ n ≤ cap ∧ pureL cs = true ∧ RepM cs a 0
  | .ep cs off, v => ∃ a : Addr, v = .pointer (some (a.add off)) ∧ pureL cs = true ∧ RepM cs (some a) 0
  | .ptr id off tot, v => LenLe o id tot ∧ (∃ a, v = .pointer (some a)) ∧ ∀ sz, CurO o id sz tot → ∃ b c, σ[id]? = some (some (b, c)) ∧ v = .pointer (some ⟨b, off, none⟩)
  | .os id off len tot, v => LenLe o id tot ∧ ∃ a cap, v = .slice a len cap ∧ len ≤ cap ∧ ∀ sz, CurO o id sz tot → OsOk σ id off len tot sz a cap
  | .mp id, v => IsMap o id ∧ ∃ b c, σ[id]? = some (some (b, c)) ∧ v = .map (some b)
  | .fn f a b, v => ∃ a' b', v = .func f a' b' ∧ RepL a a'.toList ∧ RepL b b'.toList
def RepL : List AV → List Value → Prop
  | [], vs => vs = []
  | c :: cs, vs => ∃ v r, vs = v :: r ∧ Rep c v ∧ RepL cs r
def RepM : List AV → Option Addr → Nat → Prop
  | [], _, _ => True
  | c :: cs, a, j => (∃ b v, a = some b ∧ Fr A σ b.block ∧ w.cell? (b.add j) = some v ∧ Rep c v) ∧ RepM cs a (j + 1)
end
end

structure Ext (w : World) (σ : Sig) (o : Store) (w' : World) (σ' : Sig) (o' : Store) : Prop where
  size : w.heap.size ≤ w'.heap.size
  blk : ∀ b, b < w.heap.size → ¬ Own σ b → w'.heap[b]? = w.heap[b]? ∧ ¬ Own σ' b
  len : o.length ≤ o'.length
  cur : ∀ id tot, LenLe o id tot → LenLe o' id tot ∧ ∀ sz, CurO o' id sz tot → CurO o id sz tot ∧ σ'[id]? = σ[id]?
  isMap : ∀ id, IsMap o id → IsMap o' id ∧ σ'[id]? = σ[id]?
  os : w'.os = w.os
  tape : w'.tape = w.tape
  output : w'.output = w.output

theorem Ext.refl (w : World) (σ : Sig) (o : Store) : Ext w σ o w σ o :=
  ⟨Nat.le_refl _, fun _ _ h => ⟨rfl, h⟩, Nat.le_refl _, fun _ _ h => ⟨h, fun _ h => ⟨h, rfl⟩⟩, fun _ h => ⟨h, rfl⟩, rfl, rfl, rfl⟩

theorem Ext.trans {w w1 w2 : World} {σ σ1 σ2 : Sig} {o o1 o2 : Store} (h : Ext w σ o w1 σ1 o1) (k : Ext w1 σ1 o1 w2 σ2 o2) : Ext w σ o w2 σ2 o2 where
  size := Nat.le_trans h.size k.size
  blk := fun b hb hn => by
    obtain ⟨h1, h2⟩ := h.blk b hb hn
    obtain ⟨k1, k2⟩ := k.blk b (Nat.lt_of_lt_of_le hb h.size) h2
    exact ⟨k1.trans h1, k2⟩
  len := Nat.le_trans h.len k.len
  cur := fun id tot ha => by
    obtain ⟨h1, h2⟩ := h.cur id tot ha
    obtain ⟨k1, k2⟩ := k.cur id tot h1
    refine ⟨k1, fun sz hc => ?_⟩
    obtain ⟨k3, k4⟩ := k2 sz hc
    obtain ⟨h3, h4⟩ := h2 sz k3
    exact ⟨h3, k4.trans h4⟩
  isMap := fun id ha => by
    obtain ⟨h1, h2⟩ := h.isMap id ha
    obtain ⟨k1, k2⟩ := k.isMap id h1
    exact ⟨k1, k2.trans h2⟩
  os := k.os.trans h.os
  tape := k.tape.trans h.tape
  output := k.output.trans h.output

section
variable {A : Nat → Prop} {w w' : World} {σ σ' : Sig} {o o' : Store}

theorem cell_of_blk {a : Addr} {v : Value} (hc : w.cell? a = some v) : a.block < w.heap.size := World.block_lt_of_cell? w a hc

theorem add_block (a : Addr) (n : Nat) : (a.add n).block = a.block := by unfold Addr.add; split <;> rfl
theorem add_add (a : Addr) (i j : Nat) : (a.add i).add j = a.add (i + j) := by
  unfold Addr.add
  by_cases hi : i = 0 <;> by_cases hj : j = 0 <;> simp [hi, hj, Nat.add_assoc]

mutual
theorem Rep.ext (h : Ext w σ o w' σ' o') : ∀ (c : AV) (v : Value), Rep A w σ o c v → Rep A w' σ' o' c v
  | .ud, _, _ => by simp [Rep]
  | .sc u, v, hr => by simpa [Rep] using hr
  | .agg cs, v, hr => by
    simp only [Rep] at hr ⊢
    obtain ⟨vs, rfl, hl⟩ := hr
    exact ⟨vs, rfl, RepL.ext h cs _ hl⟩
  | .tup cs, v, hr => by
    simp only [Rep] at hr ⊢
    obtain ⟨vs, rfl, hl⟩ := hr
    exact ⟨vs, rfl, RepL.ext h cs _ hl⟩
  | .sl n cs, v, hr => by
    simp only [Rep] at hr ⊢
    obtain ⟨a, cap, rfl, hn, hp, hm⟩ := hr
    exact ⟨a, cap, rfl, hn, hp, RepM.ext h cs a 0 hm⟩
  | .ep cs off, v, hr => by
    simp only [Rep] at hr ⊢
    obtain ⟨a, rfl, hp, hm⟩ := hr
    exact ⟨a, rfl, hp, RepM.ext h cs _ 0 hm⟩
  | .ptr id off tot, v, hr => by
    simp only [Rep] at hr ⊢
    obtain ⟨h0, h3⟩ := h.cur id tot hr.1
    refine ⟨h0, hr.2.1, fun sz hc => ?_⟩
    obtain ⟨h1, h2⟩ := h3 sz hc
    rw [h2]
    exact hr.2.2 sz h1
  | .os id off len tot, v, hr => by
    simp only [Rep] at hr ⊢
    obtain ⟨ha, a, cap, rfl, hl, hk⟩ := hr
    obtain ⟨h0, h3⟩ := h.cur id tot ha
    refine ⟨h0, a, cap, rfl, hl, fun sz hc => ?_⟩
    obtain ⟨h1, h2⟩ := h3 sz hc
    have := hk sz h1
    unfold OsOk at this ⊢
    rw [h2]
    exact this
  | .mp id, v, hr => by
    simp only [Rep] at hr ⊢
    obtain ⟨h1, h2⟩ := h.isMap id hr.1
    rw [h2]
    exact ⟨h1, hr.2⟩
  | .fn f a b, v, hr => by
    simp only [Rep] at hr ⊢
    obtain ⟨a', b', rfl, ha, hb⟩ := hr
    exact ⟨a', b', rfl, RepL.ext h a _ ha, RepL.ext h b _ hb⟩
theorem RepL.ext (h : Ext w σ o w' σ' o') : ∀ (cs : List AV) (vs : List Value), RepL A w σ o cs vs → RepL A w' σ' o' cs vs
  | [], vs, hr => by simpa [RepL] using hr
  | c :: cs, vs, hr => by
    simp only [RepL] at hr ⊢
    obtain ⟨v, r, rfl, hc, hl⟩ := hr
    exact ⟨v, r, rfl, Rep.ext h c v hc, RepL.ext h cs r hl⟩
theorem RepM.ext (h : Ext w σ o w' σ' o') : ∀ (cs : List AV) (a : Option Addr) (j : Nat), RepM A w σ o cs a j → RepM A w' σ' o' cs a j
  | [], _, _, _ => by simp [RepM]
  | c :: cs, a, j, hr => by
    simp only [RepM] at hr ⊢
    obtain ⟨⟨b, v, rfl, hn, hc, hv⟩, hl⟩ := hr
    have hlt : b.block < w.heap.size := by have := cell_of_blk hc; rwa [add_block] at this
    obtain ⟨h1, h2⟩ := h.blk b.block hlt hn.1
    exact ⟨⟨b, v, rfl, ⟨h2, hn.2⟩, by rw [World.cell?_of_block (w := w) (by rw [add_block]; exact h1)]; exact hc, Rep.ext h c v hv⟩, RepM.ext h cs _ (j + 1) hl⟩
end

theorem RepL.length : ∀ (cs : List AV) (vs : List Value), RepL A w σ o cs vs → cs.length = vs.length
  | [], vs, hr => by simp [RepL] at hr; simp [hr]
  | c :: cs, vs, hr => by
    simp only [RepL] at hr
    obtain ⟨v, r, rfl, _, hl⟩ := hr
    simp [RepL.length cs r hl]

theorem RepL.get : ∀ (cs : List AV) (vs : List Value), RepL A w σ o cs vs → ∀ (i : Nat) (c : AV), cs[i]? = some c → ∃ v, vs[i]? = some v ∧ Rep A w σ o c v
  | [], _, _, i, c, hc => by simp at hc
  | c :: cs, vs, hr, i, d, hd => by
    simp only [RepL] at hr
    obtain ⟨v, r, rfl, hv, hl⟩ := hr
    cases i with
    | zero => simp at hd; subst hd; exact ⟨v, by simp, hv⟩
    | succ i => simp at hd; obtain ⟨u, hu, hr⟩ := RepL.get cs r hl i d hd; exact ⟨u, by simpa using hu, hr⟩

theorem RepL.of_get : ∀ (cs : List AV) (vs : List Value), cs.length = vs.length → (∀ (i : Nat) (c : AV), cs[i]? = some c → ∃ v, vs[i]? = some v ∧ Rep A w σ o c v) → RepL A w σ o cs vs
  | [], vs, hl, _ => by simp [RepL]; exact List.eq_nil_of_length_eq_zero (by simpa using hl.symm)
  | c :: cs, [], hl, _ => by simp at hl
  | c :: cs, v :: vs, hl, hg => by
    simp only [RepL]
    obtain ⟨u, hu, hr⟩ := hg 0 c (by simp)
    simp at hu
    subst hu
    exact ⟨v, vs, rfl, hr, RepL.of_get cs vs (by simpa using hl) fun i d hd => by simpa using hg (i + 1) d (by simpa using hd)⟩

theorem RepM.get : ∀ (cs : List AV) (a : Option Addr) (j : Nat), RepM A w σ o cs a j → ∀ (i : Nat) (c : AV), cs[i]? = some c →
    ∃ b v, a = some b ∧ Fr A σ b.block ∧ w.cell? (b.add (j + i)) = some v ∧ Rep A w σ o c v
  | [], _, _, _, i, c, hc => by simp at hc
  | c :: cs, a, j, hr, i, d, hd => by
    simp only [RepM] at hr
    obtain ⟨h1, hl⟩ := hr
    cases i with
    | zero => simp at hd; subst hd; simpa using h1
    | succ i =>
      simp at hd
      have := RepM.get cs a (j + 1) hl i d hd
      rwa [show j + 1 + i = j + (i + 1) from by omega] at this

theorem RepM.of_get : ∀ (cs : List AV) (a : Option Addr) (j : Nat), (∀ (i : Nat) (c : AV), cs[i]? = some c →
    ∃ b v, a = some b ∧ Fr A σ b.block ∧ w.cell? (b.add (j + i)) = some v ∧ Rep A w σ o c v) → RepM A w σ o cs a j
  | [], _, _, _ => by simp [RepM]
  | c :: cs, a, j, hg => by
    simp only [RepM]
    refine ⟨by simpa using hg 0 c (by simp), RepM.of_get cs a (j + 1) fun i d hd => ?_⟩
    have := hg (i + 1) d (by simpa using hd)
    rwa [show j + 1 + i = j + (i + 1) from by omega]

theorem RepL.append {cs ds : List AV} {vs us : List Value} (h : RepL A w σ o cs vs) (k : RepL A w σ o ds us) : RepL A w σ o (cs ++ ds) (vs ++ us) := by
  induction cs generalizing vs with
  | nil => simp only [RepL] at h; subst h; simpa using k
  | cons c cs ih =>
    simp only [RepL] at h
    obtain ⟨v, r, rfl, hv, hl⟩ := h
    simp only [List.cons_append, RepL]
    exact ⟨v, r ++ us, rfl, hv, ih hl⟩

/-- A cell's value takes one cell. -/
theorem Rep.one {c : AV} {v : Value} (h : Rep A w σ o c v) (h1 : c.one = true) : v.oneCell' = true := by
  cases c <;> simp only [Rep] at h <;> simp only [AV.one, Bool.false_eq_true] at h1
  · exact h.1 ▸ h.2
  · obtain ⟨a, cap, rfl, _⟩ := h; rfl
  · obtain ⟨a, rfl, _⟩ := h; rfl
  · obtain ⟨_, ⟨a, rfl⟩, _⟩ := h; rfl
  · obtain ⟨_, a, cap, rfl, _⟩ := h; rfl
  · obtain ⟨_, b, c, _, rfl⟩ := h; rfl
  · obtain ⟨a, b, rfl, _⟩ := h; rfl

/-- The cells of a value stand for the cells of its value. -/
theorem Rep.cells {c : AV} {v : Value} (h : Rep A w σ o c v) (h1 : oneL c.cellsOf = true) : RepL A w σ o c.cellsOf v.cells.toList ∧ ∀ u ∈ v.cells.toList, u.oneCell' = true := by
  have key : ∀ (cs : List AV) (vs : List Value), RepL A w σ o cs vs → oneL cs = true → ∀ u ∈ vs, u.oneCell' = true := by
    intro cs
    induction cs with
    | nil => intro vs hr _ u hu; simp only [RepL] at hr; subst hr; simp at hu
    | cons c cs ih =>
      intro vs hr h1 u hu
      simp only [RepL] at hr
      obtain ⟨v, r, rfl, hc, hl⟩ := hr
      simp only [oneL, List.all_cons, Bool.and_eq_true] at h1
      rcases List.mem_cons.1 hu with rfl | hu
      · exact hc.one h1.1
      · exact ih r hl h1.2 u hu
  cases c with
  | agg cs =>
    simp only [Rep] at h
    obtain ⟨vs, rfl, hl⟩ := h
    exact ⟨hl, key _ _ hl h1⟩
  | _ =>
    simp only [AV.cellsOf, oneL, List.all_cons, List.all_nil, Bool.and_true] at h1
    have h2 := h.one h1
    have h3 : v.cells = #[v] := by cases v <;> simp_all [Value.cells, Value.oneCell']
    simp only [AV.cellsOf, h3, List.mem_singleton]
    exact ⟨by simp only [RepL]; exact ⟨v, [], rfl, h, rfl⟩, by rintro u rfl; exact h2⟩

/-- A key of the form that a map's keys have. -/
def KeyForm (kt : List Nat × Bool) (k : Value) : Prop := ∃ l, kOk kt.1 l = true ∧ (if kt.2 then k = .agg l.toArray else l = [k])

def ObjOK (A : Nat → Prop) (w : World) (σ : Sig) (o : Store) (i : Nat) : AObj → Prop
  | .dead => σ[i]? = some none
  | .cells cs e sz pu => (pu = true → pureL cs = true) ∧ oneL cs = true ∧
    ((σ[i]? = some none ∧ cs = []) ∨ ∃ b cap arr, σ[i]? = some (some (b, cap)) ∧ cap ≤ maxLen ∧ w.heap[b]? = some (.cells arr e (0, 0)) ∧ arr.size = cap * sz ∧ cs.length ≤ arr.size ∧
      ∀ (j : Nat) (c : AV), cs[j]? = some c → ∃ v, arr[j]? = some v ∧ Rep A w σ o c v)
  | .map es kt pu => (pu = true → ∀ e ∈ es, e.2.pure = true) ∧ (∀ e ∈ es, KeyForm kt e.1) ∧ ∃ (b c : Nat) (entries : Array MapEntry) (clock : Nat), σ[i]? = some (some (b, c)) ∧ w.heap[b]? = some (.map entries clock) ∧ entries.size = es.length ∧
      ∀ (j : Nat) (e : Value × AV), es[j]? = some e → ∃ m, entries[j]? = some m ∧ m.key = e.1 ∧ Rep A w σ o e.2 m.val

structure SimO (A : Nat → Prop) (w : World) (σ : Sig) (o : Store) : Prop where
  len : σ.length = o.length
  dist : ∀ (i j b c d : Nat), σ[i]? = some (some (b, c)) → σ[j]? = some (some (b, d)) → i = j
  bnd : ∀ (i b c : Nat), σ[i]? = some (some (b, c)) → b < w.heap.size
  obj : ∀ (i : Nat) (x : AObj), o[i]? = some x → ObjOK A w σ o i x
  av : ∀ (i b c : Nat), σ[i]? = some (some (b, c)) → ¬ A b
  avb : ∀ b, A b → b < w.heap.size

/-- An object that was not touched stays right. -/
theorem ObjOK.ext (h : Ext w σ o w' σ' o') {i : Nat} {x : AObj} (hx : ObjOK A w σ o i x) (hσ : σ'[i]? = σ[i]?)
    (hb : ∀ b c, σ[i]? = some (some (b, c)) → w'.heap[b]? = w.heap[b]?) : ObjOK A w' σ' o' i x := by
  cases x with
  | dead => simp only [ObjOK] at hx ⊢; rw [hσ]; exact hx
  | cells cs e sz pu =>
    simp only [ObjOK] at hx ⊢
    refine ⟨hx.1, hx.2.1, ?_⟩
    rcases hx.2.2 with h0 | ⟨b, cap, arr, h1, h2, h3, h4, h5, h6⟩
    · exact .inl ⟨by rw [hσ]; exact h0.1, h0.2⟩
    · refine .inr ⟨b, cap, arr, by rw [hσ]; exact h1, h2, by rw [hb b cap h1]; exact h3, h4, h5, fun j c hj => ?_⟩
      obtain ⟨v, hv, hr⟩ := h6 j c hj
      exact ⟨v, hv, hr.ext h⟩
  | map es kt pu =>
    simp only [ObjOK] at hx ⊢
    obtain ⟨h0, h00, b, c, en, cl, h1, h2, h3, h4⟩ := hx
    refine ⟨h0, h00, b, c, en, cl, by rw [hσ]; exact h1, by rw [hb b c h1]; exact h2, h3, fun j e hj => ?_⟩
    obtain ⟨m, hm, hk, hr⟩ := h4 j e hj
    exact ⟨m, hm, hk, hr.ext h⟩

/-- One object has turned, or a new one is laid in a kept place; its block is the old one or a new one. -/
theorem SimO.upd (hS : SimO A w σ o) {id : Nat} {x x' : AObj} {s' : Option (Nat × Nat)} (hx : o[id]? = some x)
    (hsz : w.heap.size ≤ w'.heap.size) (hos : w'.os = w.os) (htape : w'.tape = w.tape) (hout : w'.output = w.output)
    (hblk : ∀ b, b < w.heap.size → (∀ c, σ[id]? ≠ some (some (b, c))) → w'.heap[b]? = w.heap[b]?)
    (hs : ∀ b c, s' = some (b, c) → (∃ d, σ[id]? = some (some (b, d))) ∨ (w.heap.size ≤ b ∧ b < w'.heap.size))
    (hkind : match x with
      | .dead => True
      | .cells cs _ sz _ => ∃ cs' e' pu', x' = .cells cs' e' sz pu' ∧ cs.length ≤ cs'.length ∧ (cs'.length = cs.length → σ[id]? = some s')
      | .map _ _ _ => (∃ es' kt' pu', x' = .map es' kt' pu') ∧ σ[id]? = some s')
    (hok : Ext w σ o w' (σ.set id s') (o.set id x') → ObjOK A w' (σ.set id s') (o.set id x') id x') :
    SimO A w' (σ.set id s') (o.set id x') ∧ Ext w σ o w' (σ.set id s') (o.set id x') := by
  have hid : id < o.length := (List.getElem?_eq_some_iff.1 hx).1
  have hidσ : id < σ.length := by rw [hS.len]; exact hid
  have hne : ∀ i, i ≠ id → (σ.set id s')[i]? = σ[i]? := fun i hi => by rw [List.getElem?_set_ne (Ne.symm hi)]
  have hne' : ∀ i, i ≠ id → (o.set id x')[i]? = o[i]? := fun i hi => by rw [List.getElem?_set_ne (Ne.symm hi)]
  have hat : (σ.set id s')[id]? = some s' := by rw [List.getElem?_set_self hidσ]
  have hat' : (o.set id x')[id]? = some x' := by rw [List.getElem?_set_self hid]
  have hext : Ext w σ o w' (σ.set id s') (o.set id x') := by
    refine ⟨hsz, fun b hb hn => ⟨hblk b hb fun c hc => hn ⟨id, c, hc⟩, ?_⟩, by simp, fun i tot ha => ?_, fun i ha => ?_, hos, htape, hout⟩
    · rintro ⟨i, c, hi⟩
      by_cases he : i = id
      · subst he
        rw [hat] at hi
        injection hi with hi
        subst hi
        rcases hs b c rfl with ⟨d, hs⟩ | hs
        · exact hn ⟨i, d, hs⟩
        · omega
      · rw [hne i he] at hi
        exact hn ⟨i, c, hi⟩
    · by_cases he : i = id
      · subst he
        obtain ⟨cs, e, sz, pu, h1, h2⟩ := ha
        rw [hx] at h1
        injection h1 with h1
        subst h1
        obtain ⟨cs', e', pu', rfl, h3, h4⟩ := hkind
        refine ⟨⟨cs', e', sz, pu', hat', by omega⟩, fun sz' hc => ?_⟩
        obtain ⟨cs2, e2, pu2, hc1, hc2⟩ := hc
        rw [hat'] at hc1
        injection hc1 with hc1
        injection hc1 with e1 e2 e3 e4
        subst e1 e3
        refine ⟨⟨cs, e, pu, hx, by omega⟩, ?_⟩
        rw [hat, h4 (by omega)]
      · refine ⟨?_, fun sz hc => ⟨?_, hne i he⟩⟩
        · obtain ⟨cs, e, sz, pu, h1, h2⟩ := ha
          exact ⟨cs, e, sz, pu, by rw [hne' i he]; exact h1, h2⟩
        · obtain ⟨cs, e, pu, h1, h2⟩ := hc
          exact ⟨cs, e, pu, by rw [← hne' i he]; exact h1, h2⟩
    · by_cases he : i = id
      · subst he
        obtain ⟨es, kt, pu, h1⟩ := ha
        rw [hx] at h1
        injection h1 with h1
        subst h1
        obtain ⟨⟨es', kt', pu', rfl⟩, h2⟩ := hkind
        exact ⟨⟨es', kt', pu', hat'⟩, by rw [hat, h2]⟩
      · obtain ⟨es, kt, pu, h1⟩ := ha
        exact ⟨⟨es, kt, pu, by rw [hne' i he]; exact h1⟩, hne i he⟩
  refine ⟨⟨by simp [hS.len], fun i j b c d hi hj => ?_, fun i b c hi => ?_, fun i y hy => ?_, fun i b c hi => ?_, fun b hb => Nat.lt_of_lt_of_le (hS.avb b hb) hsz⟩, hext⟩
  · by_cases he : i = id <;> by_cases hf : j = id
    · rw [he, hf]
    · subst he
      rw [hat] at hi
      rw [hne j hf] at hj
      injection hi with hi
      subst hi
      rcases hs b c rfl with ⟨d', hs⟩ | hs
      · exact hS.dist i j b d' d hs hj
      · have := hS.bnd j b d hj
        omega
    · subst hf
      rw [hat] at hj
      rw [hne i he] at hi
      injection hj with hj
      subst hj
      rcases hs b d rfl with ⟨d', hs⟩ | hs
      · exact hS.dist i j b c d' hi hs
      · have := hS.bnd i b c hi
        omega
    · rw [hne i he] at hi
      rw [hne j hf] at hj
      exact hS.dist i j b c d hi hj
  · by_cases he : i = id
    · subst he
      rw [hat] at hi
      injection hi with hi
      subst hi
      rcases hs b c rfl with ⟨d, hs⟩ | hs
      · exact Nat.lt_of_lt_of_le (hS.bnd i b d hs) hsz
      · exact hs.2
    · rw [hne i he] at hi
      exact Nat.lt_of_lt_of_le (hS.bnd i b c hi) hsz
  · by_cases he : i = id
    · subst he
      rw [hat'] at hy
      injection hy with hy
      subst hy
      exact hok hext
    · rw [hne' i he] at hy
      refine (hS.obj i y hy).ext hext (hne i he) fun b c hb => ?_
      refine hblk b (hS.bnd i b c hb) fun d hd => he (hS.dist i id b c d hb hd)
  · by_cases he : i = id
    · subst he
      rw [hat] at hi
      injection hi with hi
      subst hi
      rcases hs b c rfl with ⟨d, hs⟩ | hs
      · exact hS.av i b d hs
      · intro hA
        have := hS.avb b hA
        omega
    · rw [hne i he] at hi
      exact hS.av i b c hi
end

end Go.Vi

/-
  The abstract interpreter: new objects, arithmetic, addresses, parts.
  Conditions: none.
-/
import Derived.Test.YtigbjjkijfkeeaaViEffA
import Derived.Laws.Small
namespace Go.Vi

section
variable {P : Program} {A : Nat → Prop} {w w' : World} {σ σ' : Sig} {o o' : Store} {ρA : Operand → AV} {ρC : Operand → Value} {oper : Oper} {v : AV}

theorem mkO_some {nid : Nat} {x : AObj} (h : mkO nid x o = some o') : o[nid]? = some .dead ∧ o' = o.set nid x := by
  unfold mkO at h
  split at h
  · rename_i hd; injection h with h; exact ⟨hd, h.symm⟩
  · cases h

/-- A new block for a kept place. -/
theorem SimO.newCells (hS : SimO A w σ o) {nid : Nat} (hd : o[nid]? = some .dead) {cs : List AV} {arr : Array Value} {e : TypeId} {sz cap : Nat} {pu : Bool} (hcap : arr.size = cap * sz) (hm : cap ≤ maxLen)
    (hle : cs.length ≤ arr.size) (h1 : oneL cs = true) (hp : pu = true → pureL cs = true) (hrep : ∀ (j : Nat) (c : AV), cs[j]? = some c → ∃ v, arr[j]? = some v ∧ Rep A w σ o c v) :
    SimO A (w.alloc (.cells arr e)) (σ.set nid (some (w.heap.size, cap))) (o.set nid (.cells cs e sz pu)) ∧ Ext w σ o (w.alloc (.cells arr e)) (σ.set nid (some (w.heap.size, cap))) (o.set nid (.cells cs e sz pu)) := by
  have hid : nid < o.length := (List.getElem?_eq_some_iff.1 hd).1
  have hidσ : nid < σ.length := by rw [hS.len]; exact hid
  refine SimO.upd (x := .dead) hS hd (by simp) rfl rfl rfl (fun b hb _ => heap_alloc_old w _ b hb) (fun b c h => .inr ?_) trivial fun hE => ?_
  · simp only [Option.some.injEq, Prod.mk.injEq] at h
    obtain ⟨rfl, _⟩ := h
    exact ⟨Nat.le_refl _, by simp⟩
  · simp only [ObjOK]
    refine ⟨hp, h1, .inr ⟨w.heap.size, cap, arr, by rw [List.getElem?_set_self hidσ], hm, heap_alloc_new w _, hcap, hle, fun j c hj => ?_⟩⟩
    obtain ⟨u, hu, hr⟩ := hrep j c hj
    exact ⟨u, hu, hr.ext hE⟩

theorem maxLen_one : 1 ≤ maxLen := by simp [maxLen]

theorem repL_sc (A : Nat → Prop) (w : World) (σ : Sig) (o : Store) : ∀ (z : List Value), (∀ u ∈ z, u.oneCell' = true) → RepL A w σ o (z.map .sc) z
  | [], _ => by simp [RepL]
  | v :: z, h => by
    simp only [List.map_cons, RepL]
    exact ⟨v, z, rfl, by simp [Rep, h v], repL_sc A w σ o z fun u hu => h u (by simp [hu])⟩

theorem oneL_sc {z : List Value} (h : ∀ u ∈ z, u.oneCell' = true) : oneL (z.map AV.sc) = true := by
  refine oneL_of.2 fun c hc => ?_
  obtain ⟨u, hu, rfl⟩ := List.mem_map.1 hc
  exact h u hu
theorem pureL_sc (z : List Value) : pureL (z.map AV.sc) = true := by
  refine pureL_of fun c hc => ?_
  obtain ⟨u, _, rfl⟩ := List.mem_map.1 hc
  rfl

theorem zeroT_some {t : TypeId} {z : List Value} (h : zeroT P t = some z) : ∃ (i : TypeInfo) (zv : Value), P.info? t = some i ∧ i.zero = some zv ∧ zv.cells.toList = z ∧ i.size = z.length ∧ ∀ u ∈ z, u.oneCell' = true := by
  unfold zeroT at h
  cases hi : P.info? t with
  | none => simp [hi] at h
  | some i =>
    cases hz : i.zero with
    | none => simp [hi, hz, sizeT] at h
    | some zv =>
      simp only [hi, hz, sizeT, Option.bind_some, Option.map_some] at h
      split at h
      · rename_i hc
        simp only [Bool.and_eq_true, List.all_eq_true, beq_iff_eq] at hc
        injection h with h
        exact ⟨i, zv, rfl, hz, h, by rw [← h, ← hc.2]; simp, by rw [← h]; exact hc.1⟩
      · cases h

theorem g_alloc (hS : SimO A w σ o) {t : TypeId} {z : List Value} {pu : Bool} {nid : Nat} (hop : oper.op = .alloc t) (hz : zeroT P t = some z)
    (hd : o[nid]? = some .dead) : Gives A P ρC oper w σ o (.ptr nid 0 z.length) (o.set nid (.cells (z.map .sc) t z.length pu)) := by
  obtain ⟨i, zv, hi, hzv, hcells, hsize, hone⟩ := zeroT_some hz
  have hid : nid < o.length := (List.getElem?_eq_some_iff.1 hd).1
  have hidσ : nid < σ.length := by rw [hS.len]; exact hid
  have hsz : zv.cells.size = z.length := by rw [← hcells]; simp
  obtain ⟨hS', hE⟩ := hS.newCells (w := w) (arr := zv.cells) (e := t) (sz := z.length) (cap := 1) (pu := pu) (cs := z.map .sc) hd (by omega) maxLen_one (by simp [hsz]) (oneL_sc hone) (fun _ => pureL_sc z)
    (fun j c hj => by
      obtain ⟨u, hu, hr⟩ := RepL.get _ _ (repL_sc A w σ o z hone) j c hj
      exact ⟨u, by rw [← hcells] at hu; simpa using hu, hr⟩)
  refine ⟨.pointer (some ⟨w.heap.size, 0, none⟩), _, _, .inl ?_, hS', ?_, hE⟩
  · simp [execOp, hop, Instr.alloc, zeroValue, typeInfo, hi, hzv, newVar, newRow, newObj, Sem.run]
  · simp only [Rep]
    refine ⟨⟨_, _, _, _, by rw [List.getElem?_set_self hid], by simp⟩, ⟨_, rfl⟩, fun sz hc => ⟨w.heap.size, 1, by rw [List.getElem?_set_self hidσ], rfl⟩⟩

theorem g_box (hS : SimO A w σ o) (hρ : ∀ x, Rep A w σ o (ρA x) (ρC x)) {e : TypeId} {x : Operand} {nid : Nat} (hop : oper.op = .box e x) (h1 : oneL (ρA x).cellsOf = true)
    (hd : o[nid]? = some .dead) : Gives A P ρC oper w σ o (.ptr nid 0 (ρA x).cellsOf.length) (o.set nid (.cells (ρA x).cellsOf e (ρA x).cellsOf.length false)) := by
  have hid : nid < o.length := (List.getElem?_eq_some_iff.1 hd).1
  have hidσ : nid < σ.length := by rw [hS.len]; exact hid
  obtain ⟨hl, _⟩ := (hρ x).cells h1
  have hlen := RepL.length _ _ hl
  obtain ⟨hS', hE⟩ := hS.newCells (w := w) (arr := (ρC x).cells) (e := e) (sz := (ρA x).cellsOf.length) (cap := 1) (pu := false) (cs := (ρA x).cellsOf) hd (by simp at hlen; omega) maxLen_one (by simp at hlen; omega) h1 (by simp)
    (fun j c hj => by
      obtain ⟨u, hu, hr⟩ := RepL.get _ _ hl j c hj
      exact ⟨u, by simpa using hu, hr⟩)
  refine ⟨.pointer (some ⟨w.heap.size, 0, none⟩), _, _, .inl ?_, hS', ?_, hE⟩
  · simp [execOp, hop, Instr.box, newVar, newRow, newObj, Sem.run]
  · simp only [Rep]
    refine ⟨⟨_, _, _, _, by rw [List.getElem?_set_self hid], by simp⟩, ⟨_, rfl⟩, fun sz hc => ⟨w.heap.size, 1, by rw [List.getElem?_set_self hidσ], rfl⟩⟩

theorem g_mov (hS : SimO A w σ o) (hρ : ∀ x, Rep A w σ o (ρA x) (ρC x)) {x : Operand} (hop : oper.op = .move x ∨ oper.op = .assign x) : Gives A P ρC oper w σ o (ρA x) o :=
  Gives.same hS (u := ρC x) (by rcases hop with h | h <;> simp [execOp, h]) (hρ x)

theorem rep_sc {u : Value} {v : Value} (h : Rep A w σ o (.sc u) v) : v = u := by simp only [Rep] at h; exact h.1

theorem g_pick (hS : SimO A w σ o) (hρ : ∀ x, Rep A w σ o (ρA x) (ρC x)) {c a b : Operand} (hop : oper.op = .pick c a b) {t : Bool} (hc : ρA c = .sc (.bool t)) : Gives A P ρC oper w σ o (ρA (if t then a else b)) o := by
  have h1 := hρ c
  rw [hc] at h1
  have h2 := rep_sc h1
  refine Gives.same hS (u := ρC (if t then a else b)) ?_ (hρ _)
  cases t <;> simp [execOp, hop, h2, asBool]

theorem g_nilc (hS : SimO A w σ o) (hρ : ∀ x, Rep A w σ o (ρA x) (ρC x)) {x : Operand} (hop : oper.op = .nilCheck x) {p : Addr} (hp : ρC x = .pointer (some p)) : Gives A P ρC oper w σ o (ρA x) o := by
  refine Gives.same hS (u := ρC x) ?_ (hρ x)
  simp [execOp, hop, hp]

theorem wrapI_eq (k : IntKind) (n : Int) : wrapI k n = k.wrap n := by
  cases k <;> simp only [wrapI]
  all_goals
    split
    · rename_i h
      simp only [Bool.and_eq_true, decide_eq_true_eq] at h
      simp only [IntKind.wrap, IntKind.bits, IntKind.signed]
      simp
      omega
    · rfl

theorem powI_eq (n : Nat) : powI n = 2 ^ n := by
  simp [powI]

/-- Integers and strings. -/
theorem run_scBin {op : BinOp} {t : TypeId} {x y : Operand} {a b r : Value} (h : scBin op a b = some r) :
    (do eqGuard op t x y a b; binOp op t a b : Sem Value).run P w = .ok r w := by
  unfold scBin at h
  simp only [intBin, wrapI_eq, powI_eq] at h
  split at h
  · rename_i k n k' m
    split at h
    · split at h
      · cases h
      · injection h with h; subst h
        rename_i hm
        simp [eqGuard, binOp, Op.shift, hm]
    · split at h
      · cases h
      · injection h with h; subst h
        rename_i hm
        simp [eqGuard, binOp, Op.shift, hm]
    · split at h
      · rename_i hk
        subst hk
        cases op <;> simp only [reduceCtorEq] at h <;> first
          | (injection h with h; subst h; simp [eqGuard, binOp, Op.intArith, Op.intBits, Op.intCmp]; done)
          | (split at h
             · cases h
             · rename_i hm; injection h with h; subst h; simp [eqGuard, binOp, Op.intDiv, hm])
      · cases h
  · rename_i c d
    cases op <;> simp only [reduceCtorEq] at h
    all_goals first
      | (injection h with h; subst h; simp [eqGuard, binOp, Op.stringOp]; done)
      | (split at h
         · rename_i hle
           injection h with h; subst h
           simp [eqGuard, binOp, Op.stringOp]
           omega
         · cases h)
  · cases h

theorem scBin_one {op : BinOp} {a b r : Value} (h : scBin op a b = some r) : r.oneCell' = true := by
  unfold scBin at h
  split at h
  · split at h
    · split at h
      · cases h
      · injection h with h; subst h; rfl
    · split at h
      · cases h
      · injection h with h; subst h; rfl
    · split at h
      · unfold intBin at h
        cases op <;> simp only [reduceCtorEq] at h <;> first
          | (injection h with h; subst h; rfl)
          | (split at h
             · cases h
             · injection h with h; subst h; rfl)
      · cases h
  · cases op <;> simp only [reduceCtorEq] at h
    all_goals first
      | (injection h with h; subst h; rfl)
      | (split at h
         · injection h with h; subst h; rfl
         · cases h)
  · cases h

theorem g_bin (hS : SimO A w σ o) (hρ : ∀ x, Rep A w σ o (ρA x) (ρC x)) {op : BinOp} {t t' : TypeId} {x y : Operand} (hop : oper.op = .binOp op t x y t') {a b r : Value} (ha : ρA x = .sc a) (hb : ρA y = .sc b)
    (h : scBin op a b = some r) : Gives A P ρC oper w σ o (.sc r) o := by
  have h1 := hρ x
  have h2 := hρ y
  rw [ha] at h1
  rw [hb] at h2
  refine Gives.same hS (u := r) ?_ (by simp [Rep, scBin_one h])
  simp only [execOp, hop, rep_sc h1, rep_sc h2]
  have := run_scBin (P := P) (w := w) (t := t) (x := x) (y := y) h
  simp only [Sem.run_bind] at this ⊢
  rw [this]
  rfl

theorem g_beq (hS : SimO A w σ o) (hρ : ∀ x, Rep A w σ o (ρA x) (ρC x)) {op : BinOp} {neg : Bool} {t t' : TypeId} {x y : Operand} (hop : oper.op = .binOp op t x y t') (hn : (op = .eql ∧ neg = false) ∨ (op = .neq ∧ neg = true))
    (hu : P.underlying t = some .bool) {a b : Bool} (ha : ρA x = .sc (.bool a)) (hb : ρA y = .sc (.bool b)) : Gives A P ρC oper w σ o (.sc (.bool (if neg then !(a == b) else a == b))) o := by
  have h1 := hρ x
  have h2 := hρ y
  rw [ha] at h1
  rw [hb] at h2
  refine Gives.same hS (u := .bool (if neg then !(a == b) else a == b)) ?_ (by simp [Rep, Value.oneCell'])
  simp only [execOp, hop, rep_sc h1, rep_sc h2]
  rcases hn with ⟨rfl, rfl⟩ | ⟨rfl, rfl⟩ <;> simp [eqGuard, binOp, Go.run_equal_bool w t _ _ hu]

theorem g_un (hS : SimO A w σ o) (hρ : ∀ x, Rep A w σ o (ρA x) (ρC x)) {op : UnOp} {t : TypeId} {x : Operand} (hop : oper.op = .unOp op t x) (h : unA op (ρA x) = some v) : Gives A P ρC oper w σ o v o := by
  have h1 := hρ x
  unfold unA at h
  split at h
  · rename_i b hx
    rw [hx] at h1
    have := rep_sc h1
    split at h
    · injection h with h; subst h
      refine Gives.same hS (u := .bool !b) ?_ (by simp [Rep, Value.oneCell'])
      simp [execOp, hop, this, Op.unary]
    · cases h
  · rename_i k n hx
    rw [hx] at h1
    have := rep_sc h1
    split at h
    · injection h with h; subst h
      rw [wrapI_eq]
      refine Gives.same hS (u := .int k (k.wrap (0 - n))) ?_ (by simp [Rep, Value.oneCell'])
      simp [execOp, hop, this, Op.unary, Op.intArith]
    · cases h
  · cases h

theorem g_conv (hS : SimO A w σ o) (hρ : ∀ x, Rep A w σ o (ρA x) (ρC x)) {s d : TypeId} {ds : TypeDesc} {k k' : IntKind} {n : Int} {x : Operand} (hop : oper.op = .convert s d x) (hs : P.underlying s = some ds) (hd : P.underlying d = some (.int k))
    (hx : ρA x = .sc (.int k' n)) : Gives A P ρC oper w σ o (.sc (.int k (wrapI k n))) o := by
  rw [wrapI_eq]
  have h1 := hρ x
  rw [hx] at h1
  have := rep_sc h1
  refine Gives.same hS (u := .int k (k.wrap n)) ?_ (by simp [Rep, Value.oneCell'])
  simp only [execOp, hop, this, convert]
  simp only [Sem.run_bind, run_underlying hs, run_underlying hd, Result.andThen_ok]
  cases ds <;> simp [Conv.intToInt]

theorem rep_addA {a b : AV} {d : Nat} {u : Value} (h : Rep A w σ o a u) (ha : addA d a = some b) : ∃ p : Addr, u = .pointer (some p) ∧ Rep A w σ o b (.pointer (some (p.add d))) := by
  unfold addA at ha
  split at ha
  · rename_i id off tot
    injection ha with ha; subst ha
    simp only [Rep] at h ⊢
    obtain ⟨h1, ⟨p, rfl⟩, h3⟩ := h
    refine ⟨p, rfl, h1, ⟨_, rfl⟩, fun sz hc => ?_⟩
    obtain ⟨b, c, hσ, hp⟩ := h3 sz hc
    injection hp with hp
    injection hp with hp
    subst hp
    refine ⟨b, c, hσ, ?_⟩
    unfold Addr.add
    split <;> simp_all
  · rename_i cs off
    injection ha with ha; subst ha
    simp only [Rep] at h ⊢
    obtain ⟨p, rfl, h1, h2⟩ := h
    exact ⟨p.add off, rfl, p, by rw [add_add], h1, h2⟩
  · cases ha
end

end Go.Vi

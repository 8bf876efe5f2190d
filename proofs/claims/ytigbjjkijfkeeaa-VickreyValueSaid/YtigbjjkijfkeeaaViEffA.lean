/-
  The abstract interpreter: its operations do what the model's do (the plain ones, and those that read or write one object).
  Conditions: none.
-/
import Derived.Test.YtigbjjkijfkeeaaViRep
import Derived.Laws.CopyRow
import Derived.Laws.Cells
import Derived.Laws.Entries
namespace Go.Vi

section
variable {P : Program} {A : Nat → Prop} {w w' : World} {σ σ' : Sig} {o o' : Store} {ρA : Operand → AV} {ρC : Operand → Value} {oper : Oper} {v : AV}

def Gives (A : Nat → Prop) (P : Program) (ρC : Operand → Value) (oper : Oper) (w : World) (σ : Sig) (o : Store) (v : AV) (o' : Store) : Prop :=
  ∃ u w' σ', ((execOp ρC oper).run P w = .ok (.value u) w' ∨ ((execOp ρC oper).run P w = .ok .skip w' ∧ u = undef)) ∧ SimO A w' σ' o' ∧ Rep A w' σ' o' v u ∧ Ext w σ o w' σ' o'

theorem Gives.same (hS : SimO A w σ o) {u : Value} (h : (execOp ρC oper).run P w = .ok (.value u) w) (hr : Rep A w σ o v u) : Gives A P ρC oper w σ o v o :=
  ⟨u, w, σ, .inl h, hS, hr, Ext.refl _ _ _⟩

theorem info_of_under {t : TypeId} {d : TypeDesc} (h : P.underlying t = some d) : ∃ i, P.info? t = some i := by
  cases hi : P.info? t with
  | some i => exact ⟨i, rfl⟩
  | none => simp [Program.underlying, hi] at h

theorem run_isAgg' {t : TypeId} {b : Bool} (h : isAggT P t = some b) (w : World) : (isAgg t).run P w = .ok b w := by
  unfold isAggT at h
  cases hu : P.underlying t with
  | none => simp [hu] at h
  | some d => cases d <;> simp [hu] at h <;> subst h <;> simp [isAgg, run_underlying hu]

theorem run_sizeOf' {t : TypeId} {n : Nat} (h : sizeT P t = some n) (w : World) : (sizeOf t).run P w = .ok n w := by
  unfold sizeT at h
  cases hi : P.info? t with
  | none => simp [hi] at h
  | some i => simp [hi] at h; simp [sizeOf, typeInfo, hi, h]

theorem shapeT_none {t : TypeId} (h : shapeT P t = some none) : isAggT P t = some false := by
  unfold shapeT at h; split at h <;> simp_all
theorem shapeT_some {t : TypeId} {n : Nat} (h : shapeT P t = some (some n)) : isAggT P t = some true ∧ sizeT P t = some n := by
  unfold shapeT at h; split at h <;> simp_all

/-- A part of an aggregate. -/
theorem run_part (cs : Array Value) (l : List AV) (off : Nat) (t : TypeId) (n : Option Nat) (hn : shapeT P t = some n) (hl : RepL A w σ o l cs.toList) (hp : partA l off n = some v) :
    ∃ u, (part t cs off).run P w = .ok u w ∧ Rep A w σ o v u := by
  have hlen := RepL.length _ _ hl
  cases n with
  | none =>
    simp only [partA] at hp
    obtain ⟨u, hu, hr⟩ := RepL.get _ _ hl off v hp
    exact ⟨u, by simp at hu; simp [part, run_isAgg' (shapeT_none hn), hu], hr⟩
  | some n =>
    obtain ⟨h1, h2⟩ := shapeT_some hn
    simp only [partA] at hp
    split at hp
    · rename_i hle
      injection hp with hp
      subst hp
      refine ⟨.agg (cs.extract off (off + n)), by simp [part, run_isAgg' h1, run_sizeOf' h2], ?_⟩
      simp only [Rep]
      refine ⟨_, rfl, RepL.of_get _ _ (by simp at hlen ⊢; omega) fun i c hc => ?_⟩
      rw [List.getElem?_take] at hc
      split at hc
      · rename_i hi
        rw [List.getElem?_drop] at hc
        obtain ⟨u, hu, hr⟩ := RepL.get _ _ hl (off + i) c hc
        refine ⟨u, ?_, hr⟩
        simp at hu ⊢
        rw [List.getElem?_take_of_lt hi, List.getElem?_drop]
        simpa using hu
      · cases hc
    · cases hp

/-- Where an address leads: the cells behind it, in memory. -/
theorem Rep.behindA (hS : SimO A w σ o) {a : AV} {u : Value} {cs : List AV} {off : Nat} (h : Rep A w σ o a u) (hb : Go.Vi.behind o a = some (cs, off)) :
    ∃ p : Addr, u = .pointer (some p) ∧ ∀ (j : Nat) (c : AV), cs[off + j]? = some c → ∃ v, w.cell? (p.add j) = some v ∧ Rep A w σ o c v := by
  cases a <;> simp only [Go.Vi.behind, reduceCtorEq] at hb
  · simp only [Option.some.injEq, Prod.mk.injEq] at hb
    obtain ⟨rfl, rfl⟩ := hb
    simp only [Rep] at h
    obtain ⟨b, rfl, _, hm⟩ := h
    refine ⟨_, rfl, fun j c hc => ?_⟩
    obtain ⟨b', v, hb', _, hcell, hr⟩ := RepM.get _ _ _ hm _ c hc
    injection hb' with hb'
    subst hb'
    rw [add_add]
    exact ⟨v, by simpa using hcell, hr⟩
  · rename_i id off' tot
    split at hb
    · rename_i cs' e sz pu ho
      split at hb
      · rename_i htot
        simp only [Option.some.injEq, Prod.mk.injEq] at hb
        obtain ⟨rfl, rfl⟩ := hb
        simp only [Rep] at h
        obtain ⟨b, c, hσ, rfl⟩ := h.2.2 sz ⟨cs', e, pu, ho, htot⟩
        refine ⟨_, rfl, fun j d hd => ?_⟩
        have hx := hS.obj id _ ho
        simp only [ObjOK] at hx
        rcases hx.2.2 with ⟨h0, _⟩ | ⟨b', cap, arr, h1, h2, h3, h4, h5, h6⟩
        · rw [hσ] at h0; cases h0
        · rw [hσ] at h1
          simp only [Option.some.injEq, Prod.mk.injEq] at h1
          obtain ⟨rfl, rfl⟩ := h1
          obtain ⟨v, hv, hr⟩ := h6 _ d hd
          refine ⟨v, ?_, hr⟩
          have : (⟨b, off', none⟩ : Addr).add j = ⟨b, off' + j, none⟩ := by unfold Addr.add; split <;> simp_all
          rw [this]
          simp [World.cell?, h3, hv]
      · cases hb
    · cases hb

theorem run_loadVar' {a : AV} {p : Addr} {cs : List AV} {off : Nat} {t : TypeId} {n : Option Nat} (hn : shapeT P t = some n)
    (hc : ∀ (j : Nat) (c : AV), cs[off + j]? = some c → ∃ v, w.cell? (p.add j) = some v ∧ Rep A w σ o c v) (hp : partA cs off n = some a) :
    ∃ u, (loadVar t p).run P w = .ok u w ∧ Rep A w σ o a u := by
  cases n with
  | none =>
    simp only [partA] at hp
    obtain ⟨u, hu, hr⟩ := hc 0 a (by simpa using hp)
    have h0 : p.add 0 = p := by simp [Addr.add]
    rw [h0] at hu
    exact ⟨u, by simp [loadVar, run_isAgg' (shapeT_none hn), load, Sem.run, hu], hr⟩
  | some n =>
    obtain ⟨h1, h2⟩ := shapeT_some hn
    simp only [partA] at hp
    split at hp
    · rename_i hle
      injection hp with hp
      subst hp
      have hall : ∀ j, j < n → ∃ v, w.cell? (p.add j) = some v ∧ Rep A w σ o (cs.getD (off + j) .ud) v := by
        intro j hj
        have hlt : off + j < cs.length := by omega
        obtain ⟨v, hv, hr⟩ := hc j _ (List.getElem?_eq_getElem hlt)
        exact ⟨v, hv, by simpa [List.getD, List.getElem?_eq_getElem hlt] using hr⟩
      let f : Nat → Value := fun j => (w.cell? (p.add j)).getD undef
      have hf : ∀ j, j < n → w.cell? (p.add j) = some (f j) := fun j hj => by
        obtain ⟨v, hv, _⟩ := hall j hj
        simp [f, hv]
      refine ⟨.agg ((List.range n).map f).toArray, by simp [loadVar, run_isAgg' h1, run_sizeOf' h2, run_loadCells w p n f hf], ?_⟩
      simp only [Rep]
      refine ⟨_, rfl, RepL.of_get _ _ (by simp; omega) fun i c hc' => ?_⟩
      rw [List.getElem?_take] at hc'
      split at hc'
      · rename_i hi
        rw [List.getElem?_drop] at hc'
        obtain ⟨v, hv, hr⟩ := hc i c hc'
        exact ⟨v, by simp [hi, f, hv], hr⟩
      · cases hc'
    · cases hp

theorem g_load (hS : SimO A w σ o) (hρ : ∀ x, Rep A w σ o (ρA x) (ρC x)) {t : TypeId} {n : Option Nat} {x : Operand} (hop : oper.op = .load t x) (hn : shapeT P t = some n)
    {cs : List AV} {off : Nat} (hb : behind o (ρA x) = some (cs, off)) (hp : partA cs off n = some v) : Gives A P ρC oper w σ o v o := by
  obtain ⟨p, hp1, hc⟩ := (hρ x).behindA hS hb
  obtain ⟨u, hu, hr⟩ := run_loadVar' hn hc hp
  exact Gives.same hS (by simp [execOp, hop, Instr.loadAt, Instr.sureAddr, hp1, hu]) hr

/-- Cells of an object of the call's own are written. -/
theorem writeL_length : ∀ (vs cs : List AV) (off : Nat), (writeL cs off vs).length = cs.length
  | [], _, _ => rfl
  | v :: vs, cs, off => by simp [writeL, writeL_length vs]

theorem writeL_get : ∀ (vs cs : List AV) (off : Nat), off + vs.length ≤ cs.length → ∀ j, (writeL cs off vs)[j]? = if off ≤ j ∧ j < off + vs.length then vs[j - off]? else cs[j]?
  | [], cs, off, _, j => by simp [writeL]; omega
  | v :: vs, cs, off, hl, j => by
    simp only [writeL, List.length_cons] at hl ⊢
    rw [writeL_get vs (cs.set off v) (off + 1) (by simp; omega) j]
    by_cases h1 : off + 1 ≤ j ∧ j < off + 1 + vs.length
    · rw [if_pos h1, if_pos (by omega), show j - off = (j - (off + 1)) + 1 from by omega, List.getElem?_cons_succ]
    · rw [if_neg h1]
      by_cases h2 : off = j
      · subst h2
        rw [if_pos (by omega), List.getElem?_set_self (by omega)]
        simp
      · rw [List.getElem?_set_ne h2, if_neg (by omega)]

theorem pureL_get {cs : List AV} (h : pureL cs = true) : ∀ c ∈ cs, c.pure = true := by
  induction cs with
  | nil => simp
  | cons c cs ih =>
    simp only [pureL, Bool.and_eq_true] at h
    intro d hd
    rcases List.mem_cons.1 hd with rfl | hd
    · exact h.1
    · exact ih h.2 d hd
theorem pureL_of {cs : List AV} (h : ∀ c ∈ cs, c.pure = true) : pureL cs = true := by
  induction cs with
  | nil => rfl
  | cons c cs ih => simp only [pureL, Bool.and_eq_true]; exact ⟨h c (by simp), ih fun d hd => h d (by simp [hd])⟩

theorem writeL_mem {vs cs : List AV} {off : Nat} (hl : off + vs.length ≤ cs.length) : ∀ c ∈ writeL cs off vs, c ∈ cs ∨ c ∈ vs := by
  intro c hc
  obtain ⟨j, hj⟩ := List.getElem?_of_mem hc
  rw [writeL_get vs cs off hl j] at hj
  split at hj
  · exact .inr (List.mem_of_getElem? hj)
  · exact .inl (List.mem_of_getElem? hj)

theorem splice_get (arr : List Value) (vs : List Value) (off : Nat) (hl : off + vs.length ≤ arr.length) (j : Nat) :
    (arr.take off ++ vs ++ arr.drop (off + vs.length))[j]? = if off ≤ j ∧ j < off + vs.length then vs[j - off]? else arr[j]? := by
  rw [List.append_assoc, List.getElem?_append]
  have h0 : (arr.take off).length = off := by simp; omega
  rw [h0]
  by_cases h1 : j < off
  · rw [if_pos h1, if_neg (by omega), List.getElem?_take_of_lt h1]
  · rw [if_neg h1, List.getElem?_append]
    by_cases h2 : j < off + vs.length
    · rw [if_pos (by omega), if_pos (by omega)]
    · rw [if_neg (by omega), if_neg (by omega), List.getElem?_drop, show off + vs.length + (j - off - vs.length) = j from by omega]

theorem oneL_of {cs : List AV} : oneL cs = true ↔ ∀ c ∈ cs, c.one = true := by simp [oneL]

theorem g_store (hS : SimO A w σ o) (hρ : ∀ x, Rep A w σ o (ρA x) (ρC x)) {t : TypeId} {n : Nat} {x y : Operand} (hop : oper.op = .store t x y) (hn : sizeT P t = some n)
    {id off tot : Nat} (ha : ρA x = .ptr id off tot) {cs : List AV} {e : TypeId} {sz : Nat} {pu : Bool} (ho : o[id]? = some (.cells cs e sz pu)) (htot : cs.length = tot)
    (hlen : (ρA y).cellsOf.length = n) (h1 : oneL (ρA y).cellsOf = true) (hle : off + n ≤ cs.length) (hpu : pu = false ∨ pureL (ρA y).cellsOf = true) :
    Gives A P ρC oper w σ o .ud (o.set id (.cells (writeL cs off (ρA y).cellsOf) e sz pu)) := by
  have hx := hρ x
  rw [ha] at hx
  simp only [Rep] at hx
  obtain ⟨b, c, hσ, hp⟩ := hx.2.2 sz ⟨cs, e, pu, ho, htot⟩
  obtain ⟨hl, hone⟩ := (hρ y).cells h1
  have hlen' : (ρC y).cells.toList.length = n := by rw [← hlen]; exact (RepL.length _ _ hl).symm
  have hob := hS.obj id _ ho
  simp only [ObjOK] at hob
  obtain ⟨q1, q2, q3⟩ := hob
  rcases q3 with ⟨h0, _⟩ | ⟨b', cap, arr, k1, k2, k3, k4, k5, k6⟩
  · rw [hσ] at h0; cases h0
  rw [hσ] at k1
  simp only [Option.some.injEq, Prod.mk.injEq] at k1
  obtain ⟨rfl, rfl⟩ := k1
  have hrun := run_storeCells_at (P := P) b off e (ρC y).cells.toList 0 arr w k3 (by simp at hlen' ⊢; omega) hone
  simp only [Nat.add_zero] at hrun
  generalize hnew : (arr.toList.take off ++ (ρC y).cells.toList ++ arr.toList.drop (off + (ρC y).cells.toList.length)).toArray = new at hrun
  have hexec : (execOp ρC oper).run P w = .ok .skip (w.setRow b new) := by
    simp only [execOp, hop, Instr.storeAt, Instr.sureAddr, hp, storeVar]
    simp only [Sem.run_bind, Sem.run_pure, Result.andThen_ok, run_sizeOf' hn]
    rw [if_neg (by simp at hlen' ⊢; omega)]
    simp [hrun]
  have hblt : b < w.heap.size := hS.bnd id b c hσ
  have hsame : ∀ k, k ≠ b → (w.setRow b new).heap[k]? = w.heap[k]? := by
    intro k hk
    simp [World.setRow, Array.getElem?_modify, Ne.symm hk]
  have hat : (w.setRow b new).heap[b]? = some (.cells new e (0, 0)) := by
    simp [World.setRow, Array.getElem?_modify, k3]
  have hnsz : new.size = arr.size := by rw [← hnew]; simp at hlen' ⊢; omega
  have hidσ : id < σ.length := (List.getElem?_eq_some_iff.1 hσ).1
  have hset : σ.set id (some (b, c)) = σ := by
    apply List.ext_getElem?
    intro i
    by_cases hi : id = i
    · subst hi; rw [List.getElem?_set_self hidσ, hσ]
    · rw [List.getElem?_set_ne hi]
  obtain ⟨hS', hE⟩ := SimO.upd (w' := w.setRow b new) (s' := some (b, c)) (x' := .cells (writeL cs off (ρA y).cellsOf) e sz pu) hS ho (by simp [World.setRow]) rfl rfl rfl
    (fun k _ hk => hsame k (fun he => hk c (he ▸ hσ))) (fun b2 c2 h2 => .inl ⟨c, by injection h2 with h2; injection h2 with h3 h4; rw [hσ, h3]⟩) ⟨_, _, _, rfl, by rw [writeL_length]; exact Nat.le_refl _, fun _ => hσ⟩ (fun hE => by
      simp only [ObjOK]
      refine ⟨fun hpt => ?_, ?_, .inr ⟨b, c, new, by rw [List.getElem?_set_self hidσ], k2, hat, by rw [hnsz]; exact k4, by rw [writeL_length, hnsz]; exact k5, fun j d hd => ?_⟩⟩
      · refine pureL_of fun d hd => ?_
        rcases writeL_mem (by rw [hlen]; exact hle) d hd with hd | hd
        · exact pureL_get (q1 hpt) d hd
        · exact pureL_get (hpu.resolve_left (by simp [hpt])) d hd
      · refine oneL_of.2 fun d hd => ?_
        rcases writeL_mem (by rw [hlen]; exact hle) d hd with hd | hd
        · exact oneL_of.1 q2 d hd
        · exact oneL_of.1 h1 d hd
      · rw [writeL_get _ _ _ (by rw [hlen]; exact hle)] at hd
        rw [hlen] at hd
        have hsp := splice_get arr.toList (ρC y).cells.toList off (by simp at hlen' ⊢; omega) j
        have hnj : new[j]? = if off ≤ j ∧ j < off + n then (ρC y).cells.toList[j - off]? else arr[j]? := by
          rw [← hnew]
          rw [hlen'] at hsp
          simpa [hlen'] using hsp
        by_cases hj : off ≤ j ∧ j < off + n
        · rw [if_pos hj] at hd hnj
          obtain ⟨u, hu, hr⟩ := RepL.get _ _ hl _ d hd
          exact ⟨u, by rw [hnj]; exact hu, hr.ext hE⟩
        · rw [if_neg hj] at hd hnj
          obtain ⟨u, hu, hr⟩ := k6 j d hd
          exact ⟨u, by rw [hnj]; exact hu, hr.ext hE⟩)
  rw [hset] at hS' hE
  exact ⟨undef, _, σ, .inr ⟨hexec, rfl⟩, hS', by simp [Rep], hE⟩
end

end Go.Vi

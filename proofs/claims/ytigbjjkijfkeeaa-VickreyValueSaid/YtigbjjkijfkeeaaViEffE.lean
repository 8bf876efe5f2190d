/-
  The abstract interpreter: aggregates built, rows made, append.
  Conditions: none.
-/
import Derived.Test.YtigbjjkijfkeeaaViEffD
import Derived.Laws.Tables
import Derived.Laws.MakeOwn
import Derived.Great.BuildSlice
namespace Go.Vi

section
variable {P : Program} {A : Nat → Prop} {w w' : World} {σ σ' : Sig} {o o' : Store} {ρA : Operand → AV} {ρC : Operand → Value} {oper : Oper} {v : AV}

theorem optAll_get {α β : Type} {f : α → Option β} : ∀ {l : List α} {r : List β}, optAll f l = some r → l.length = r.length ∧ ∀ (i : Nat) (a : α) (b : β), l[i]? = some a → r[i]? = some b → f a = some b
  | [], r, h => by simp only [optAll, Option.some.injEq] at h; subst h; simp
  | a :: l, r, h => by
    simp only [optAll] at h
    split at h
    · rename_i b r' hb hr
      injection h with h; subst h
      obtain ⟨h1, h2⟩ := optAll_get hr
      refine ⟨by simp [h1], fun i x y hx hy => ?_⟩
      cases i with
      | zero => simp at hx hy; subst hx hy; exact hb
      | succ i => simp at hx hy; exact h2 i x y hx hy
    · cases h

theorem g_build (hS : SimO A w σ o) (hρ : ∀ x, Rep A w σ o (ρA x) (ρC x)) {t : TypeId} {place : Nat → Option (Nat × Nat)} {z : List Value} {parts : Array (Nat × Operand)} {ps : List (Nat × Nat × Operand)} {cs : List AV} (hop : oper.op = .build t parts)
    (hz : zeroT P t = some z) (hpl : ∀ zv : Value, (P.info? t).bind (·.zero) = some zv → ∀ l, P.built t l = Instr.fill place zv.cells l)
    (hlen : ps.length = parts.toList.length) (hps : ∀ (i : Nat) (p : Nat × Operand) (q : Nat × Nat × Operand), parts.toList[i]? = some p → ps[i]? = some q → place p.1 = some (q.1, q.2.1) ∧ q.2.2 = p.2)
    (hf : fillA (ps.map fun p => (p.1, p.2.1, ρA p.2.2)) (z.map .sc) = some cs) : Gives A P ρC oper w σ o (.agg cs) o := by
  obtain ⟨i, zv, hi, hzv, hcells, hsize, hone⟩ := zeroT_some hz
  obtain ⟨us, h1, h2, h3, h4⟩ := fill_rep (w := w) (σ := σ) (o := o) place (ps.map fun p => (p.1, p.2.1, ρA p.2.2)) (parts.toList.map fun p => (p.1, ρC p.2)) (z.map .sc) zv.cells cs (by simpa using hlen)
    (fun j p q hp hq => by
      rw [List.getElem?_map, Option.map_eq_some_iff] at hp hq
      obtain ⟨p', hp', rfl⟩ := hp
      obtain ⟨q', hq', rfl⟩ := hq
      obtain ⟨k1, k2⟩ := hps j q' p' hq' hp'
      exact ⟨k1, by simp only [k2]; exact hρ _⟩) (by rw [hcells]; exact repL_sc A w σ o z hone) (oneL_sc hone) hf
  have hb : P.built t (parts.toList.map fun p => (p.1, ρC p.2)) = some us := by rw [hpl zv (by simp [hi, hzv])]; exact h1
  refine Gives.same hS (u := .agg us) ?_ (by simp only [Rep]; exact ⟨us, rfl, h2⟩)
  have := run_build (P := P) w t (parts.map fun p => (p.1, ρC p.2)) us (by simpa using hb)
  simp only [execOp, hop]
  simp [this]

/-- The zero cells of a row. -/
theorem rep_zeros (A : Nat → Prop) (w : World) (σ : Sig) (o : Store) {z : List Value} (hone : ∀ u ∈ z, u.oneCell' = true) (zc : Array Value) (hz : zc.toList = z) : ∀ n : Nat,
    RepL A w σ o (List.replicate n (z.map AV.sc)).flatten (madeCells zc (n * z.length)).toList := by
  intro n
  have hlen : ((List.replicate n (z.map AV.sc)).flatten).length = n * z.length := by simp
  refine RepL.of_get _ _ (by simp [madeCells]) fun j c hj => ?_
  have hjl : j < n * z.length := by have := (List.getElem?_eq_some_iff.1 hj).1; rwa [hlen] at this
  have key : ∀ (n j : Nat), j < n * z.length → ((List.replicate n (z.map AV.sc)).flatten)[j]? = (z.map AV.sc)[j % z.length]? := by
    intro n
    induction n with
    | zero => intro j hj; simp at hj
    | succ n ih =>
      intro j hj
      rw [List.replicate_succ, List.flatten_cons, List.getElem?_append]
      simp only [List.length_map]
      by_cases h : j < z.length
      · rw [if_pos h, Nat.mod_eq_of_lt h]
      · rw [if_neg h, ih (j - z.length) (by rw [Nat.succ_mul] at hj; omega)]
        congr 1
        rw [Nat.mod_eq_sub_mod (by omega : j ≥ z.length)]
  rw [key n j hjl] at hj
  obtain ⟨u, hu, hr⟩ := RepL.get _ _ (repL_sc A w σ o z hone) _ c hj
  refine ⟨u, ?_, hr⟩
  have hzs : zc.size = z.length := by rw [← hz]; simp
  have hpos : 0 < z.length := by
    rcases Nat.eq_zero_or_pos z.length with h | h
    · rw [h] at hjl; simp at hjl
    · exact h
  have hm : j % z.length < zc.size := by rw [hzs]; exact Nat.mod_lt _ hpos
  simp only [madeCells, Array.getElem?_toList]
  rw [Array.getElem?_map, Array.getElem?_range]
  simp only [hjl, if_true, Option.map_some, hzs]
  have hu2 : zc[j % z.length]? = some u := by rw [← hu, ← hz]; simp
  rw [getElem!_pos zc (j % z.length) hm]
  rw [← hu2, Array.getElem?_eq_getElem hm]

theorem oneL_zeros {z : List Value} (hone : ∀ u ∈ z, u.oneCell' = true) (n : Nat) : oneL (List.replicate n (z.map AV.sc)).flatten = true := by
  refine oneL_of.2 fun c hc => ?_
  simp only [List.mem_flatten, List.mem_replicate] at hc
  obtain ⟨l, ⟨_, rfl⟩, hc⟩ := hc
  exact oneL_of.1 (oneL_sc hone) c hc
theorem pureL_zeros (z : List Value) (n : Nat) : pureL (List.replicate n (z.map AV.sc)).flatten = true := by
  refine pureL_of fun c hc => ?_
  simp only [List.mem_flatten, List.mem_replicate] at hc
  obtain ⟨l, ⟨_, rfl⟩, hc⟩ := hc
  exact pureL_get (pureL_sc z) c hc

/-- A slice literal's cells. -/
theorem run_mkrow (hρ : ∀ x, Rep A w σ o (ρA x) (ρC x)) {t e len : Nat} {z : List Value} {parts : Array (Nat × Operand)} {cs : List AV} (ht : P.underlying t = some (.slice e)) (hz : zeroT P e = some z) (hpos : 0 < z.length) (hsm : len * z.length ≤ 16777216)
    (hf : fillA ((parts.toList.map fun p => (p.1 * z.length, p.2)).map fun p => (p.1, z.length, ρA p.2)) (List.replicate len (z.map AV.sc)).flatten = some cs) :
    ∃ us : Array Value, (Instr.buildSlice t len (parts.map fun p => (p.1, ρC p.2))).run P w = .ok (.slice (some ⟨w.heap.size, 0, none⟩) len len) (w.alloc (.cells us e)) ∧ RepL A w σ o cs us.toList ∧ oneL cs = true ∧ cs.length = len * z.length := by
  obtain ⟨i, zv, hi, hzv, hcells, hsize, hone⟩ := zeroT_some hz
  have hzs : zv.cells.size = z.length := by rw [← hcells]; simp
  obtain ⟨us, h1, h2, h3, h4⟩ := fill_rep (w := w) (σ := σ) (o := o) (fun i => some (i * z.length, z.length)) ((parts.toList.map fun p => (p.1 * z.length, p.2)).map fun p => (p.1, z.length, ρA p.2))
    (parts.toList.map fun p => (p.1, ρC p.2)) _ (madeCells zv.cells (len * z.length)) cs (by simp)
    (fun j p q hp hq => by
      rw [List.map_map, List.getElem?_map, Option.map_eq_some_iff] at hp
      rw [List.getElem?_map, Option.map_eq_some_iff] at hq
      obtain ⟨p', hp', rfl⟩ := hp
      obtain ⟨q', hq', rfl⟩ := hq
      rw [hp'] at hq'
      injection hq' with hq'
      subst hq'
      exact ⟨rfl, hρ _⟩) (rep_zeros A w σ o hone zv.cells hcells len) (oneL_zeros hone len) hf
  have hl : cs.length = len * z.length := by rw [h4]; simp
  refine ⟨us, ?_, h2, h3, hl⟩
  by_cases h0 : len * z.length = 0
  · have hl0 : len = 0 := by
      rcases Nat.mul_eq_zero.1 h0 with h | h
      · exact h
      · omega
    subst hl0
    have hm : madeCells zv.cells (0 * z.length) = #[] := by simp [madeCells, Array.range_zero']
    rw [hm] at h1
    have h1' : Instr.fill (fun i_1 => some (i_1 * z.length, z.length)) #[] (List.map (fun p => (p.fst, ρC p.snd)) parts.toList) = some us := h1
    simp [Instr.buildSlice, run_underlying ht, sizeOf, typeInfo, hi, hsize, newRow, Array.range_zero', h1']
  · exact run_buildSlice w t e len _ us i zv ht hi hzv (by rw [hsize]; omega) (by rw [hsize]; exact h0) (by
      rw [hsize]
      have : (parts.map fun p => (p.1, ρC p.2)).toList = parts.toList.map fun p => (p.1, ρC p.2) := by simp
      rw [this]
      exact h1)

theorem g_mkrow (hS : SimO A w σ o) (hρ : ∀ x, Rep A w σ o (ρA x) (ρC x)) {t e len nid : Nat} {z : List Value} {parts : Array (Nat × Operand)} {cs : List AV} (hop : oper.op = .buildSlice t len parts) (ht : P.underlying t = some (.slice e))
    (hz : zeroT P e = some z) (hpos : 0 < z.length) (hsm : len * z.length ≤ 16777216)
    (hf : fillA ((parts.toList.map fun p => (p.1 * z.length, p.2)).map fun p => (p.1, z.length, ρA p.2)) (List.replicate len (z.map AV.sc)).flatten = some cs) (hd : o[nid]? = some .dead) :
    Gives A P ρC oper w σ o (.os nid 0 len (len * z.length)) (o.set nid (.cells cs e z.length (pureL cs))) := by
  obtain ⟨us, h1, h2, h3, h4⟩ := run_mkrow hρ ht hz hpos hsm hf
  have hid : nid < o.length := (List.getElem?_eq_some_iff.1 hd).1
  have hidσ : nid < σ.length := by rw [hS.len]; exact hid
  have hus : us.size = len * z.length := by have := RepL.length _ _ h2; simp at this; omega
  have hlm : len ≤ maxLen := by
    have : len * 1 ≤ len * z.length := Nat.mul_le_mul_left _ hpos
    simp only [maxLen]; omega
  obtain ⟨hS', hE⟩ := hS.newCells (w := w) (arr := us) (e := e) (sz := z.length) (cap := len) (pu := pureL cs) (cs := cs) hd hus hlm (by omega) h3 (fun h => h)
    (fun j c hj => by obtain ⟨u, hu, hr⟩ := RepL.get _ _ h2 j c hj; exact ⟨u, by simpa using hu, hr⟩)
  refine ⟨.slice (some ⟨w.heap.size, 0, none⟩) len len, _, _, .inl ?_, hS', ?_, hE⟩
  · simp only [execOp, hop]
    simp [h1]
  · simp only [Rep]
    refine ⟨⟨_, _, _, _, by rw [List.getElem?_set_self hid], by omega⟩, _, _, rfl, Nat.le_refl _, fun sz hc => ?_⟩
    obtain ⟨cs2, e2, pu2, ho2, _⟩ := hc
    rw [List.getElem?_set_self hid] at ho2
    injection ho2 with ho2
    injection ho2 with _ _ hsz2 _
    subst hsz2
    unfold OsOk
    rw [List.getElem?_set_self hidσ]
    exact ⟨fun _ => rfl, fun _ _ _ => ⟨rfl, rfl⟩, by omega⟩

/-- A new block that is nobody's object. -/
theorem SimO.grow (hS : SimO A w σ o) (x : Obj) : SimO A (w.alloc x) σ o ∧ Ext w σ o (w.alloc x) σ o := by
  have hE : Ext w σ o (w.alloc x) σ o := ⟨by simp, fun b hb hn => ⟨heap_alloc_old w x b hb, hn⟩, Nat.le_refl _, fun _ _ h => ⟨h, fun _ h => ⟨h, rfl⟩⟩, fun _ h => ⟨h, rfl⟩, rfl, rfl, rfl⟩
  exact ⟨⟨hS.len, hS.dist, fun i b c h => Nat.lt_of_lt_of_le (hS.bnd i b c h) (by simp), fun i y hy => (hS.obj i y hy).ext hE rfl fun b c hb => heap_alloc_old w x b (hS.bnd i b c hb), hS.av, fun b hb => Nat.lt_of_lt_of_le (hS.avb b hb) (by simp)⟩, hE⟩

theorem g_mkimm (hS : SimO A w σ o) (hρ : ∀ x, Rep A w σ o (ρA x) (ρC x)) {t e len : Nat} {z : List Value} {parts : Array (Nat × Operand)} {cs : List AV} (hop : oper.op = .buildSlice t len parts) (ht : P.underlying t = some (.slice e))
    (hz : zeroT P e = some z) (hpos : 0 < z.length) (hsm : len * z.length ≤ 16777216)
    (hf : fillA ((parts.toList.map fun p => (p.1 * z.length, p.2)).map fun p => (p.1, z.length, ρA p.2)) (List.replicate len (z.map AV.sc)).flatten = some cs) (hp : pureL cs = true) :
    Gives A P ρC oper w σ o (.sl len cs) o := by
  obtain ⟨us, h1, h2, h3, h4⟩ := run_mkrow hρ ht hz hpos hsm hf
  obtain ⟨hS', hE⟩ := hS.grow (.cells us e)
  refine ⟨.slice (some ⟨w.heap.size, 0, none⟩) len len, _, _, .inl ?_, hS', ?_, hE⟩
  · simp only [execOp, hop]
    simp [h1]
  · simp only [Rep]
    refine ⟨_, _, rfl, Nat.le_refl _, hp, RepM.of_get _ _ _ fun j c hj => ?_⟩
    obtain ⟨u, hu, hr⟩ := RepL.get _ _ h2 j c hj
    refine ⟨_, u, rfl, ?_, ?_, hr.ext hE⟩
    · refine ⟨?_, fun hA => by have := hS.avb _ hA; simp at this⟩
      rintro ⟨i, c, hi⟩
      have := hS.bnd i _ c hi
      simp at this
    · have : (⟨w.heap.size, 0, none⟩ : Addr).add (0 + j) = ⟨w.heap.size, j, none⟩ := by unfold Addr.add; split <;> simp_all
      rw [this]
      simp only [World.cell?, heap_alloc_new]
      simpa using hu

theorem g_mkslice (hS : SimO A w σ o) (hρ : ∀ x, Rep A w σ o (ρA x) (ρC x)) {t e nid bytes : Nat} {z : List Value} {l c : Operand} {n m : Int} {pu : Bool} (hop : oper.op = .makeSlice t l c) (ht : P.underlying t = some (.slice e))
    (hz : zeroT P e = some z) (hb : bytesT P e = some bytes) (hl : intA (ρA l) = some n) (hc : intA (ρA c) = some m) (h0 : 0 ≤ n) (hnm : n ≤ m) (hby : m * bytes ≤ 140737488355328) (hm : m ≤ 1000000000000)
    (hd : o[nid]? = some .dead) : Gives A P ρC oper w σ o (.os nid 0 n.toNat (n.toNat * z.length)) (o.set nid (.cells (List.replicate n.toNat (z.map AV.sc)).flatten e z.length pu)) := by
  obtain ⟨i, zv, hi, hzv, hcells, hsize, hone⟩ := zeroT_some hz
  obtain ⟨kl, hkl⟩ := intA_rep (hρ l) hl
  obtain ⟨kc, hkc⟩ := intA_rep (hρ c) hc
  have hib : i.bytes = bytes := by simp [bytesT, hi] at hb; exact hb
  have hrun := run_make (P := P) w t e i zv ht hi hzv kl kc n m h0 hnm (by rw [hib, Int.mul_comm]; omega) (by omega)
  rw [hsize] at hrun
  have hid : nid < o.length := (List.getElem?_eq_some_iff.1 hd).1
  have hidσ : nid < σ.length := by rw [hS.len]; exact hid
  have hle : n.toNat * z.length ≤ m.toNat * z.length := Nat.mul_le_mul_right _ (by omega)
  have hrep := rep_zeros A w σ o hone zv.cells hcells m.toNat
  obtain ⟨hS', hE⟩ := hS.newCells (w := w) (arr := madeCells zv.cells (m.toNat * z.length)) (e := e) (sz := z.length) (cap := m.toNat) (pu := pu) (cs := (List.replicate n.toNat (z.map AV.sc)).flatten) hd (by simp [madeCells])
    (by simp only [maxLen]; omega) (by simp [madeCells]; exact hle) (oneL_zeros hone _) (fun _ => pureL_zeros _ _)
    (fun j c hj => by
      have hsplit : (List.replicate m.toNat (z.map AV.sc)).flatten = (List.replicate n.toNat (z.map AV.sc)).flatten ++ (List.replicate (m.toNat - n.toNat) (z.map AV.sc)).flatten := by
        rw [← List.flatten_append, List.replicate_append_replicate]
        congr 2
        omega
      obtain ⟨u, hu, hr⟩ := RepL.get _ _ hrep j c (by rw [hsplit, List.getElem?_append_left (List.getElem?_eq_some_iff.1 hj).1]; exact hj)
      exact ⟨u, by simpa using hu, hr⟩)
  refine ⟨.slice (some ⟨w.heap.size, 0, none⟩) n.toNat m.toNat, _, _, .inl ?_, hS', ?_, hE⟩
  · simp only [execOp, hop, hkl, hkc]
    simp [hrun]
  · simp only [Rep]
    refine ⟨⟨_, _, _, _, by rw [List.getElem?_set_self hid], by simp⟩, _, _, rfl, by omega, fun sz hcu => ?_⟩
    obtain ⟨cs2, e2, pu2, ho2, _⟩ := hcu
    rw [List.getElem?_set_self hid] at ho2
    injection ho2 with ho2
    injection ho2 with _ _ hsz2 _
    subst hsz2
    unfold OsOk
    rw [List.getElem?_set_self hidσ]
    exact ⟨fun _ => rfl, fun _ _ _ => ⟨rfl, rfl⟩, by omega⟩
end

end Go.Vi

/-
  The abstract interpreter: slices of slices, aggregates built, rows made, append.
  Conditions: none.
-/
import Derived.Test.YtigbjjkijfkeeaaViEffC
namespace Go.Vi

section
variable {P : Program} {A : Nat → Prop} {w w' : World} {σ σ' : Sig} {o o' : Store} {ρA : Operand → AV} {ρC : Operand → Value} {oper : Oper} {v : AV}

theorem boundA_rep {d k : Nat} {a : Option AV} {u : Option Value} (h : ∀ x, a = some x → ∃ y, u = some y ∧ Rep A w σ o x y) (hn : a = none → u = none) (hb : boundA d a = some k) :
    (u = none ∧ k = d) ∨ ∃ q, u = some (.int q (k : Int)) := by
  unfold boundA at hb
  split at hb
  · injection hb with hb; exact .inl ⟨hn rfl, hb.symm⟩
  · rename_i q n
    split at hb
    · rename_i h0
      injection hb with hb
      obtain ⟨y, hy, hr⟩ := h _ rfl
      refine .inr ⟨q, ?_⟩
      rw [hy, rep_sc hr, ← hb]
      congr 2
      omega
    · cases hb
  · cases hb

/-- The bounds of a cut. -/
theorem run_bounds (isSlice : Bool) (len cap l h : Nat) (lo hi : Option Value) (hlo : (lo = none ∧ l = 0) ∨ ∃ q, lo = some (.int q (l : Int))) (hhi : (hi = none ∧ h = len) ∨ ∃ q, hi = some (.int q (h : Int))) (hlh : l ≤ h) (hhc : h ≤ cap) :
    (Instr.sliceBounds isSlice len cap lo hi none).run P w = .ok (l, h, cap) w := by
  have a1 : (0 : Int) ≤ h ∧ (h : Int) ≤ cap := by omega
  have a2 : (0 : Int) ≤ l ∧ (l : Int) ≤ h := by omega
  rcases hlo with ⟨rfl, rfl⟩ | ⟨q, rfl⟩ <;> rcases hhi with ⟨rfl, rfl⟩ | ⟨q', rfl⟩ <;>
    simp [Instr.sliceBounds, Instr.sliceBound, asIntOf, a1, a2, hlh, hhc]

theorem map_rep (hρ : ∀ x, Rep A w σ o (ρA x) (ρC x)) (lo : Option Operand) : (∀ x, lo.map ρA = some x → ∃ y, lo.map ρC = some y ∧ Rep A w σ o x y) ∧ (lo.map ρA = none → lo.map ρC = none) := by
  cases lo with
  | none => simp
  | some a => simp; exact hρ a

theorem g_slice (hS : SimO A w σ o) (hρ : ∀ x, Rep A w σ o (ρA x) (ρC x)) {t e sz : Nat} {x : Operand} {lo hi : Option Operand} (hop : oper.op = .slice t x lo hi none) (ht : P.underlying t = some (.slice e)) (hsz : sizeT P e = some sz) (hsz0 : sz ≠ 0)
    (h : sliceA o sz (ρA x) (lo.map ρA) (hi.map ρA) = some v) : Gives A P ρC oper w σ o v o := by
  have hx := hρ x
  have main : ∀ (a : Option Addr) (len cap l k : Nat), ρC x = .slice a len cap → boundA 0 (lo.map ρA) = some l → boundA len (hi.map ρA) = some k → l ≤ k → k ≤ cap →
      Rep A w σ o v (.slice (if cap = l then a else a.map (·.add (l * sz))) (k - l) (cap - l)) → Gives A P ρC oper w σ o v o := by
    intro a len cap l k hxv hl hk hlk hkc hr
    refine Gives.same hS ?_ hr
    have b1 := boundA_rep (map_rep hρ lo).1 (map_rep hρ lo).2 hl
    have b2 := boundA_rep (map_rep hρ hi).1 (map_rep hρ hi).2 hk
    simp only [execOp, hop, Instr.sliceAt, hxv, Instr.slice]
    simp [run_underlying ht, run_bounds true len cap l k _ _ b1 b2 hlk hkc, run_sizeOf' hsz]
  unfold sliceA at h
  split at h
  · rename_i n cs hxa
    rw [hxa] at hx
    simp only [Rep] at hx
    obtain ⟨a, cap, hxv, hn, hp, hm⟩ := hx
    split at h
    · rename_i l k hl hk
      split at h
      · rename_i hc
        injection h with h; subst h
        refine main a n cap l k hxv hl hk hc.1 (by omega) ?_
        simp only [Rep]
        refine ⟨_, _, rfl, by omega, ?_, ?_⟩
        · refine pureL_of fun c hc' => pureL_get hp c ?_
          exact List.mem_of_mem_drop (List.mem_of_mem_take hc')
        · refine RepM.of_get _ _ _ fun i c hi => ?_
          rw [List.getElem?_take] at hi
          split at hi
          · rename_i hlt
            rw [List.getElem?_drop] at hi
            obtain ⟨b, u, rfl, hno, hcell, hr⟩ := RepM.get _ _ _ hm _ _ hi
            have hne : cap ≠ l := by
              intro he
              have : k - l = 0 := by omega
              rw [this] at hlt
              omega
            refine ⟨b.add (l * sz), u, by simp [hne], by rw [add_block]; exact hno, ?_, hr⟩
            rw [add_add]
            simpa using hcell
          · cases hi
      · cases h
    · cases h
  · rename_i id off len tot hxa
    rw [hxa] at hx
    simp only [Rep] at hx
    obtain ⟨hle, a, cap, hxv, hlc, hcur⟩ := hx
    split at h
    · rename_i l k hl hk
      split at h
      · rename_i cs e' sz' pu ho
        split at h
        · rename_i hc
          injection h with h; subst h
          obtain ⟨hlk, hkl, htot, rfl⟩ := hc
          refine main a len cap l k hxv hl hk hlk (by omega) ?_
          simp only [Rep]
          refine ⟨hle, _, _, rfl, by omega, fun sz2 hcu => ?_⟩
          have h1 := hcur sz2 hcu
          obtain ⟨cs2, e2, pu2, ho2, _⟩ := hcu
          rw [ho] at ho2
          injection ho2 with ho2
          injection ho2 with _ _ hsz2 _
          subst hsz2
          unfold OsOk at h1 ⊢
          split
          · rename_i hσ
            rw [hσ] at h1
            obtain ⟨h2, h3, h4, h5⟩ := h1
            subst h3
            have : l = 0 := by omega
            subst this
            exact ⟨h2, by simp, by omega, by omega⟩
          · rename_i b c hσ
            rw [hσ] at h1
            obtain ⟨h2, h3, h4⟩ := h1
            have hmul : l * sz' + (k - l) * sz' = k * sz' := by rw [← Nat.add_mul]; congr 1; omega
            have hmul2 : k * sz' ≤ len * sz' := Nat.mul_le_mul_right _ hkl
            refine ⟨fun hpos => ?_, fun hz ht hs => ?_, by omega⟩
            · have hne : cap ≠ l := by omega
              rw [h2 (by omega), if_neg hne]
              simp only [Option.map_some, Option.some.injEq]
              unfold Addr.add; split <;> simp_all
            · have hl0 : l * sz' = 0 := by omega
              have hl1 : l = 0 := by
                rcases Nat.mul_eq_zero.1 hl0 with h | h
                · exact h
                · omega
              subst hl1
              have hk2 : k * sz' = tot := by simpa using ht
              have hkeq : k = len := by
                have : len * sz' ≤ k * sz' := by omega
                have := Nat.le_of_mul_le_mul_right this hs
                omega
              obtain ⟨h5, h6⟩ := h3 (by omega) (by rw [← hkeq]; exact hk2) hs
              subst h5 h6
              by_cases hc0 : cap = 0
              · simp [hc0]
              · rw [if_neg hc0]; simp [Addr.add]
          · rename_i hσ
            rw [hσ] at h1
            exact h1.elim
        · cases h
      · cases h
    · cases h
  · rename_i hxa
    rw [hxa] at hx
    have hxv := rep_sc hx
    split at h
    · rename_i hl hk
      injection h with h; subst h
      refine main none 0 0 0 0 hxv hl hk (Nat.le_refl _) (Nat.le_refl _) ?_
      simp [Rep, nilSl, Value.oneCell']
    · cases h
  · cases h

theorem g_sliceStr (hS : SimO A w σ o) (hρ : ∀ x, Rep A w σ o (ρA x) (ρC x)) {t l k : Nat} {x : Operand} {s : ByteArray} {lo hi : Option Operand} (hop : oper.op = .slice t x lo hi none) (ht : P.underlying t = some .string)
    (hx : ρA x = .sc (.string s)) (hl : boundA 0 (lo.map ρA) = some l) (hk : boundA s.size (hi.map ρA) = some k) (hlk : l ≤ k) (hks : k ≤ s.size) : Gives A P ρC oper w σ o (.sc (.string (s.extract l k))) o := by
  have h1 := hρ x
  rw [hx] at h1
  have hv := rep_sc h1
  refine Gives.same hS (u := .string (s.extract l k)) ?_ (by simp [Rep, Value.oneCell'])
  have b1 := boundA_rep (map_rep hρ lo).1 (map_rep hρ lo).2 hl
  have b2 := boundA_rep (map_rep hρ hi).1 (map_rep hρ hi).2 hk
  simp only [execOp, hop, Instr.sliceAt, hv, Instr.slice]
  simp [run_underlying ht, run_bounds false s.size s.size l k _ _ b1 b2 hlk hks]

/-- Parts laid into the cells of an aggregate. -/
theorem fill_rep (place : Nat → Option (Nat × Nat)) : ∀ (parts : List (Nat × Nat × AV)) (cparts : List (Nat × Value)) (cs : List AV) (vs : Array Value) (cs' : List AV),
    parts.length = cparts.length → (∀ (i : Nat) (p : Nat × Nat × AV) (q : Nat × Value), parts[i]? = some p → cparts[i]? = some q → place q.1 = some (p.1, p.2.1) ∧ Rep A w σ o p.2.2 q.2) →
    RepL A w σ o cs vs.toList → oneL cs = true → fillA parts cs = some cs' →
    ∃ us, Instr.fill place vs cparts = some us ∧ RepL A w σ o cs' us.toList ∧ oneL cs' = true ∧ cs'.length = cs.length
  | [], [], cs, vs, cs', _, _, hr, h1, hf => by
    simp only [fillA, Option.some.injEq] at hf
    subst hf
    exact ⟨vs, rfl, hr, h1, rfl⟩
  | [], _ :: _, _, _, _, hl, _, _, _, _ => by simp at hl
  | _ :: _, [], _, _, _, hl, _, _, _, _ => by simp at hl
  | (off, n, a) :: parts, (i, u) :: cparts, cs, vs, cs', hl, hp, hr, h1, hf => by
    simp only [fillA] at hf
    split at hf
    · rename_i hc
      obtain ⟨c1, c2, c3⟩ := hc
      obtain ⟨p1, p2⟩ := hp 0 (off, n, a) (i, u) rfl rfl
      simp only at p1 p2
      obtain ⟨q1, q2⟩ := p2.cells c2
      have hlen := RepL.length _ _ q1
      have hlen2 := RepL.length _ _ hr
      have hsz : u.cells.size = n := by rw [← c1, hlen]; simp
      simp only [Instr.fill, p1]
      rw [if_neg (by simp [hsz]; simp at hlen2; omega)]
      -- the cells that are written
      have hw : ∀ (xs : List Value) (k : Nat) (ws : Array Value), ((xs.zipIdx k).foldl (fun cs (p : Value × Nat) => cs.setIfInBounds (off + p.2) p.1) ws).size = ws.size ∧
          ∀ j, off + k + xs.length ≤ ws.size → ((xs.zipIdx k).foldl (fun cs (p : Value × Nat) => cs.setIfInBounds (off + p.2) p.1) ws)[j]? = if off + k ≤ j ∧ j < off + k + xs.length then xs[j - (off + k)]? else ws[j]? := by
        intro xs
        induction xs with
        | nil => intro k ws; simp; intro j _ h1 h2; omega
        | cons x xs ih =>
          intro k ws
          simp only [List.zipIdx_cons, List.foldl_cons]
          obtain ⟨i1, i2⟩ := ih (k + 1) (ws.setIfInBounds (off + k) x)
          refine ⟨by rw [i1]; simp, fun j hj => ?_⟩
          simp only [List.length_cons] at hj ⊢
          rw [i2 j (by simp; omega)]
          by_cases g1 : off + (k + 1) ≤ j ∧ j < off + (k + 1) + xs.length
          · rw [if_pos g1, if_pos (by omega), show j - (off + k) = (j - (off + (k + 1))) + 1 from by omega, List.getElem?_cons_succ]
          · rw [if_neg g1]
            by_cases g2 : off + k = j
            · subst g2
              rw [if_pos (by omega), Array.getElem?_setIfInBounds_self_of_lt (by omega)]
              simp
            · rw [if_neg (by omega), Array.getElem?_setIfInBounds_ne g2]
      have hfold : Array.foldl (fun cs (p : Value × Nat) => cs.setIfInBounds (off + p.2) p.1) vs u.cells.zipIdx = (u.cells.toList.zipIdx 0).foldl (fun cs (p : Value × Nat) => cs.setIfInBounds (off + p.2) p.1) vs := by
        rw [← Array.foldl_toList]; simp
      obtain ⟨w1, w2⟩ := hw u.cells.toList 0 vs
      have hr' : RepL A w σ o (writeL cs off a.cellsOf) ((u.cells.toList.zipIdx 0).foldl (fun cs (p : Value × Nat) => cs.setIfInBounds (off + p.2) p.1) vs).toList := by
        refine RepL.of_get _ _ (by rw [writeL_length]; simp [w1]; simpa using hlen2) fun j c hj => ?_
        rw [writeL_get _ _ _ (by omega)] at hj
        have hj2 := w2 j (by simp [hsz]; simp at hlen2; omega)
        simp only [Array.getElem?_toList]
        rw [hj2]
        simp only [Nat.add_zero, Array.length_toList, hsz]
        rw [c1] at hj
        by_cases g : off ≤ j ∧ j < off + n
        · rw [if_pos g] at hj ⊢
          exact RepL.get _ _ q1 _ c hj
        · rw [if_neg g] at hj ⊢
          simpa using RepL.get _ _ hr _ c hj
      have h1' : oneL (writeL cs off a.cellsOf) = true := oneL_of.2 fun d hd => by
        rcases writeL_mem (by omega) d hd with hd | hd
        · exact oneL_of.1 h1 d hd
        · exact oneL_of.1 c2 d hd
      obtain ⟨us, k1, k2, k3, k4⟩ := fill_rep place parts cparts _ _ cs' (by simpa using hl) (fun i p q hi hq => hp (i + 1) p q (by simpa using hi) (by simpa using hq)) hr' h1' hf
      refine ⟨us, ?_, k2, k3, by rw [k4, writeL_length]⟩
      rw [← k1]
      congr 1
    · cases hf
end

end Go.Vi

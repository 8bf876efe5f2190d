/-
  Contracts: the reference's margins and rivals.
  Conditions: none.
-/
import Derived.Test.YtigbjjkijfkeeaaTM09
import Derived.Test.YtigbjjkijfkeeaaTM10
set_option linter.unusedVariables false
set_option linter.unusedSimpArgs false
set_option maxRecDepth 100000
set_option maxHeartbeats 4000000
set_option linter.unusedSimpArgs false
set_option linter.unusedVariables false
namespace Go.Vi
open Go.Proofs.Ytigbjjkijfkeeaa.Ir
open Go.Proofs

def r78 : SCtr := ⟨78, List Int × Int, .cons (codR (.i .i64)) (.one (codI .i64)), fun a => a.1.length ≤ 1000000000000, fun a => .sb (decide (a.2 ∈ a.1))⟩
def Λ78 (a : List Int × Int) : Nat → LoopAnn
  | 2 => .inv Int (fun i => ⟨[(0, .row (.i .i64) a.1), (1, .si .i64 a.2), (5, .si .i64 i)], []⟩) (fun s => iS s 5) (fun i => 0 ≤ i ∧ i ≤ a.1.length ∧ a.2 ∉ a.1.take i.toNat) (fun i => (a.1.length - i).toNat) fun _ _ => .look
  | _ => .look
theorem h78 : Holds Try.prog r78 := by
  refine con (L := []) r78 F78 Λ78 (OwnOK.none _) (by simp) (by kernel_rfl) (by kernel_rfl) (fun _ => rfl) ?_
  rintro ⟨l, k⟩ (hl : l.length ≤ 1000000000000)
  refine vcOf (((((SV.row (SId.i .i64) l).same (SV.row (SId.i .i64) l) ∧ (SV.si .i64 k).same (SV.si .i64 k) ∧ (SV.il .i64 0).same (SV.si .i64 0) ∧ True) ∧ True) ∧ (0 : Int) ≤ (0 : Int) ∧ (0 : Int) ≤ (↑l.length : Int) ∧ (k ∈ [] → False)) ∧ ∀ (x : Int), (0 : Int) ≤ x ∧ x ≤ (↑l.length : Int) ∧ (k ∈ List.take x.toNat l → False) → (decide (x < (↑l.length : Int)) = true → (0 : Int) ≤ x ∧ x < (↑l.length : Int) ∧ x.toNat < l.length ∧ (decide (nthD l x.toNat (0 : Int) = k) = true → (SV.bl true).same (SV.sb (decide (k ∈ l)))) ∧ (decide (nthD l x.toNat (0 : Int) = k) = false → inR .i64 (x + (1 : Int)) ∧ (((SV.row (SId.i .i64) l).same (SV.row (SId.i .i64) l) ∧ (SV.si .i64 k).same (SV.si .i64 k) ∧ (SV.si .i64 (x + (1 : Int))).same (SV.si .i64 (x + (1 : Int))) ∧ True) ∧ True) ∧ ((0 : Int) ≤ x + (1 : Int) ∧ x + (1 : Int) ≤ (↑l.length : Int) ∧ (k ∈ List.take (x + (1 : Int)).toNat l → False)) ∧ ((↑l.length : Int) - (x + (1 : Int))).toNat < ((↑l.length : Int) - x).toNat)) ∧ (decide (x < (↑l.length : Int)) = false → (SV.bl false).same (SV.sb (decide (k ∈ l))))) (by kernel_rfl) ?_
  simp only [decide_eq_true_eq, decide_eq_false_iff_not, same_il_si, same_si_si, same_si_il, same_il_il, same_sb_sb, same_bl_sb, same_row, same_tup2, same_tup3, same_nil, same_row_nil, same_rfl, osame_rfl, inR_i64, eq_self, true_and, and_true, Bool.and_eq_true, Bool.not_eq_true', Bool.not_eq_false']
  refine ⟨⟨by omega, by omega, by simp⟩, ?_⟩
  rintro i ⟨i0, i1, hi⟩
  refine ⟨fun hlt => ⟨i0, hlt, by omega, fun he => ?_, fun he => ⟨by omega, ⟨by omega, by omega, ?_⟩, by omega⟩⟩, fun hge => ?_⟩
  · have : k ∈ l := he ▸ nthD_mem (show i.toNat < l.length by omega)
    simp [this]
  · rw [take_nth (d := 0) i0 hlt]
    intro hm
    rcases List.mem_append.1 hm with hm | hm
    · exact hi hm
    · rw [List.mem_singleton] at hm
      exact he hm.symm
  · rw [show i.toNat = l.length by omega, List.take_length] at hi
    symm
    exact decide_eq_false hi

def xvS (p : Prob) (k : Int) : Int := (nthD p.offers k.toNat SId.off.dflt).value
def marF (p : Prob) (k : Int) (s : Int × Int) (l : List Int) : Int × Int :=
  if k ∈ l then (s.1, if s.2 < valueS p l - xvS p k then valueS p l - xvS p k else s.2) else (if s.1 < valueS p l then valueS p l else s.1, s.2)
def marR (p : Prob) (k : Int) : Int := ((listsR p).foldl (marF p k) (0, 0)).1 - ((listsR p).foldl (marF p k) (0, 0)).2
def mar1 (p : Prob) (k : Int) (i : Int) : Int := (((listsR p).take i.toNat).foldl (marF p k) (0, 0)).1
def mar2 (p : Prob) (k : Int) (i : Int) : Int := (((listsR p).take i.toNat).foldl (marF p k) (0, 0)).2

theorem val_bd (p : Prob) (c : List Int) : 0 ≤ valueS p c ∧ valueS p c ≤ 160000000 := by
  unfold valueS
  split
  · rename_i h
    obtain ⟨h1, h2⟩ := picks_ok (c := c) h
    have := sum_val_bd (good_of h) h2
    omega
  · omega
theorem mar_bd {p : Prob} {k : Int} : ∀ {ls : List (List Int)} {s : Int × Int}, 0 ≤ xvS p k → (0 ≤ s.1 ∧ s.1 ≤ 160000000) → (0 ≤ s.2 ∧ s.2 ≤ 160000000) → (0 ≤ (ls.foldl (marF p k) s).1 ∧ (ls.foldl (marF p k) s).1 ≤ 160000000) ∧ 0 ≤ (ls.foldl (marF p k) s).2 ∧ (ls.foldl (marF p k) s).2 ≤ 160000000
  | [], _, _, h1, h2 => ⟨h1, h2⟩
  | l :: ls, s, hx, h1, h2 => by
    rw [List.foldl_cons]
    have hv := val_bd p l
    refine mar_bd hx ?_ ?_
    · unfold marF
      split
      · exact h1
      · simp only
        split <;> omega
    · unfold marF
      split
      · simp only
        split <;> omega
      · exact h2
theorem lists_len {p : Prob} (hc : checkE p = 0) {l : List Int} (h : l ∈ listsR p) : l.length ≤ 160 := (feas_ok ((feas_iff hc).2 ((lists_mem hc).1 h))).2.2.2.1
theorem fold_take {α β : Type} {f : β → α → β} {s : β} {l : List α} {i : Int} {d : α} (h0 : 0 ≤ i) (h : i < l.length) : (l.take (i + 1).toNat).foldl f s = f ((l.take i.toNat).foldl f s) (nthD l i.toNat d) := by
  rw [take_nth (d := d) h0 h, List.foldl_append]
  rfl

def Q5 : List SCtr := r78 :: r77 :: r24 :: r58 :: r32 :: []
theorem hQ5 : ∀ c ∈ Q5, Holds Try.prog c := by
  simp only [Q5, List.forall_mem_cons, List.not_mem_nil, false_implies, implies_true, and_true]
  exact ⟨h78, h77, h24, h58, h32⟩

def r36 : SCtr := ⟨36, Prob × Int, .cons codP (.one (codI .i64)), fun a => a.1.offers.length ≤ 9, fun a => .tup [.si .i64 (if markE a.1 a.2 = 0 then marR a.1 a.2 else 0), .si .i64 (markE a.1 a.2)]⟩
def Λ36 (a : Prob × Int) : Nat → LoopAnn
  | 9 => .inv Int (fun i => ⟨[(1, .si .i64 a.2), (2, .ptr 0 0 20), (7, .si .i64 (mar1 a.1 a.2 i)), (8, .si .i64 (mar2 a.1 a.2 i)), (9, .row (.lst (.i .i64)) (listsR a.1)), (10, .si .i64 i)], [.cells a.1.ss 27 20 false]⟩) (fun s => iS s 10)
    (fun i => 0 ≤ i ∧ i ≤ (listsR a.1).length) (fun i => ((listsR a.1).length - i).toNat) fun _ _ => .look
  | _ => .look
theorem h36 : Holds Try.prog r36 := by
  refine con (L := Q5) r36 F36 Λ36 (OwnOK.none _) hQ5 (by kernel_rfl) (by kernel_rfl) (fun _ => rfl) ?_
  rintro ⟨p, k⟩ (h9 : p.offers.length ≤ 9)
  refine vcOf (True ∧ (decide (checkE p ≠ (0 : Int)) = true → (SV.tup [SV.il .i64 0, SV.si .i64 (checkE p)]).same (SV.tup [SV.si .i64 (if markE p k = (0 : Int) then marR p k else (0 : Int)), SV.si .i64 (markE p k)])) ∧ (decide (checkE p ≠ (0 : Int)) = false → (decide (k < (0 : Int)) = true → (SV.tup [SV.il .i64 0, SV.il .i64 4]).same (SV.tup [SV.si .i64 (if markE p k = (0 : Int) then marR p k else (0 : Int)), SV.si .i64 (markE p k)])) ∧ (decide (k < (0 : Int)) = false → (decide ((↑p.offers.length : Int) ≤ k) = true → (SV.tup [SV.il .i64 0, SV.il .i64 4]).same (SV.tup [SV.si .i64 (if markE p k = (0 : Int) then marR p k else (0 : Int)), SV.si .i64 (markE p k)])) ∧ (decide ((↑p.offers.length : Int) ≤ k) = false → p.offers.length ≤ 9 ∧ ((((SV.si .i64 k).same (SV.si .i64 k) ∧ (SV.ptr 0 0 20).same (SV.ptr 0 0 20) ∧ (SV.il .i64 0).same (SV.si .i64 (mar1 p k (0 : Int))) ∧ (SV.il .i64 0).same (SV.si .i64 (mar2 p k (0 : Int))) ∧ (SV.row (SId.i .i64).lst (listsR p)).same (SV.row (SId.i .i64).lst (listsR p)) ∧ (SV.il .i64 0).same (SV.si .i64 0) ∧ True) ∧ (SObj.cells (Prob.ss p) 27 20 false).same (SObj.cells (Prob.ss p) 27 20 false) ∧ True) ∧ (0 : Int) ≤ (0 : Int) ∧ (0 : Int) ≤ (↑(listsR p).length : Int)) ∧ ∀ (x : Int), (0 : Int) ≤ x ∧ x ≤ (↑(listsR p).length : Int) → (decide (x < (↑(listsR p).length : Int)) = true → (0 : Int) ≤ x ∧ x < (↑(listsR p).length : Int) ∧ x.toNat < (listsR p).length ∧ (nthD (listsR p) x.toNat (SId.i .i64).lst.dflt).length ≤ 1000000000000 ∧ (0 : Int) ≤ x ∧ x < (↑(listsR p).length : Int) ∧ x.toNat < (listsR p).length ∧ (nthD (listsR p) x.toNat (SId.i .i64).lst.dflt).length ≤ 1000000000000 ∧ (decide (k ∈ nthD (listsR p) x.toNat (SId.i .i64).lst.dflt) = true → (0 : Int) ≤ k ∧ k < (↑p.offers.length : Int) ∧ k.toNat < p.offers.length ∧ inR .i64 (valueS p (nthD (listsR p) x.toNat (SId.i .i64).lst.dflt) - (nthD p.offers k.toNat SId.off.dflt).value) ∧ (decide (mar2 p k x < valueS p (nthD (listsR p) x.toNat (SId.i .i64).lst.dflt) - (nthD p.offers k.toNat SId.off.dflt).value) = true → inR .i64 (x + (1 : Int)) ∧ (((SV.si .i64 k).same (SV.si .i64 k) ∧ (SV.ptr 0 0 20).same (SV.ptr 0 0 20) ∧ (SV.si .i64 (mar1 p k x)).same (SV.si .i64 (mar1 p k (x + (1 : Int)))) ∧ (SV.si .i64 (valueS p (nthD (listsR p) x.toNat (SId.i .i64).lst.dflt) - (nthD p.offers k.toNat SId.off.dflt).value)).same (SV.si .i64 (mar2 p k (x + (1 : Int)))) ∧ (SV.row (SId.i .i64).lst (listsR p)).same (SV.row (SId.i .i64).lst (listsR p)) ∧ (SV.si .i64 (x + (1 : Int))).same (SV.si .i64 (x + (1 : Int))) ∧ True) ∧ (SObj.cells (Prob.ss p) 27 20 false).same (SObj.cells (Prob.ss p) 27 20 false) ∧ True) ∧ ((0 : Int) ≤ x + (1 : Int) ∧ x + (1 : Int) ≤ (↑(listsR p).length : Int)) ∧ ((↑(listsR p).length : Int) - (x + (1 : Int))).toNat < ((↑(listsR p).length : Int) - x).toNat) ∧ (decide (mar2 p k x < valueS p (nthD (listsR p) x.toNat (SId.i .i64).lst.dflt) - (nthD p.offers k.toNat SId.off.dflt).value) = false → inR .i64 (x + (1 : Int)) ∧ (((SV.si .i64 k).same (SV.si .i64 k) ∧ (SV.ptr 0 0 20).same (SV.ptr 0 0 20) ∧ (SV.si .i64 (mar1 p k x)).same (SV.si .i64 (mar1 p k (x + (1 : Int)))) ∧ (SV.si .i64 (mar2 p k x)).same (SV.si .i64 (mar2 p k (x + (1 : Int)))) ∧ (SV.row (SId.i .i64).lst (listsR p)).same (SV.row (SId.i .i64).lst (listsR p)) ∧ (SV.si .i64 (x + (1 : Int))).same (SV.si .i64 (x + (1 : Int))) ∧ True) ∧ (SObj.cells (Prob.ss p) 27 20 false).same (SObj.cells (Prob.ss p) 27 20 false) ∧ True) ∧ ((0 : Int) ≤ x + (1 : Int) ∧ x + (1 : Int) ≤ (↑(listsR p).length : Int)) ∧ ((↑(listsR p).length : Int) - (x + (1 : Int))).toNat < ((↑(listsR p).length : Int) - x).toNat)) ∧ (decide (k ∈ nthD (listsR p) x.toNat (SId.i .i64).lst.dflt) = false → (decide (mar1 p k x < valueS p (nthD (listsR p) x.toNat (SId.i .i64).lst.dflt)) = true → inR .i64 (x + (1 : Int)) ∧ (((SV.si .i64 k).same (SV.si .i64 k) ∧ (SV.ptr 0 0 20).same (SV.ptr 0 0 20) ∧ (SV.si .i64 (valueS p (nthD (listsR p) x.toNat (SId.i .i64).lst.dflt))).same (SV.si .i64 (mar1 p k (x + (1 : Int)))) ∧ (SV.si .i64 (mar2 p k x)).same (SV.si .i64 (mar2 p k (x + (1 : Int)))) ∧ (SV.row (SId.i .i64).lst (listsR p)).same (SV.row (SId.i .i64).lst (listsR p)) ∧ (SV.si .i64 (x + (1 : Int))).same (SV.si .i64 (x + (1 : Int))) ∧ True) ∧ (SObj.cells (Prob.ss p) 27 20 false).same (SObj.cells (Prob.ss p) 27 20 false) ∧ True) ∧ ((0 : Int) ≤ x + (1 : Int) ∧ x + (1 : Int) ≤ (↑(listsR p).length : Int)) ∧ ((↑(listsR p).length : Int) - (x + (1 : Int))).toNat < ((↑(listsR p).length : Int) - x).toNat) ∧ (decide (mar1 p k x < valueS p (nthD (listsR p) x.toNat (SId.i .i64).lst.dflt)) = false → inR .i64 (x + (1 : Int)) ∧ (((SV.si .i64 k).same (SV.si .i64 k) ∧ (SV.ptr 0 0 20).same (SV.ptr 0 0 20) ∧ (SV.si .i64 (mar1 p k x)).same (SV.si .i64 (mar1 p k (x + (1 : Int)))) ∧ (SV.si .i64 (mar2 p k x)).same (SV.si .i64 (mar2 p k (x + (1 : Int)))) ∧ (SV.row (SId.i .i64).lst (listsR p)).same (SV.row (SId.i .i64).lst (listsR p)) ∧ (SV.si .i64 (x + (1 : Int))).same (SV.si .i64 (x + (1 : Int))) ∧ True) ∧ (SObj.cells (Prob.ss p) 27 20 false).same (SObj.cells (Prob.ss p) 27 20 false) ∧ True) ∧ ((0 : Int) ≤ x + (1 : Int) ∧ x + (1 : Int) ≤ (↑(listsR p).length : Int)) ∧ ((↑(listsR p).length : Int) - (x + (1 : Int))).toNat < ((↑(listsR p).length : Int) - x).toNat))) ∧ (decide (x < (↑(listsR p).length : Int)) = false → inR .i64 (mar1 p k x - mar2 p k x) ∧ (SV.tup [SV.si .i64 (mar1 p k x - mar2 p k x), SV.il .i64 0]).same (SV.tup [SV.si .i64 (if markE p k = (0 : Int) then marR p k else (0 : Int)), SV.si .i64 (markE p k)])))))) (by kernel_rfl) ?_
  simp only [decide_eq_true_eq, decide_eq_false_iff_not, same_il_si, same_si_si, same_si_il, same_il_il, same_sb_sb, same_bl_sb, same_row, same_tup2, same_tup3, same_nil, same_row_nil, same_rfl, osame_rfl, inR_i64, eq_self, true_and, and_true, Bool.and_eq_true, Bool.not_eq_true', Bool.not_eq_false']
  refine ⟨fun h => by simp [markE, h], fun h => ⟨fun hk => by simp [markE, h, hk], fun hk => ⟨fun hk2 => by simp [markE, h, hk2], fun hk2 => ?_⟩⟩⟩
  have hc : checkE p = 0 := Classical.not_not.1 h
  have hz : markE p k = 0 := by unfold markE; rw [if_neg (by simp [hc]), if_neg (by omega)]
  have hg := good_of hc
  have hxm := hg.2.2.2.2 _ (nthD_mem (d := SId.off.dflt) (show k.toNat < p.offers.length by omega))
  have hll : (listsR p).length ≤ 1000 := by
    have h1 := @lis_len p p.offers.length 0 [] [[]]
    have h2 : (2 : Nat) ^ p.offers.length ≤ 2 ^ 9 := Nat.pow_le_pow_right (by decide) h9
    simp only [List.length_singleton] at h1
    change (listsR p).length + 1 ≤ _ at h1
    omega
  refine ⟨h9, ⟨⟨rfl, rfl⟩, by omega, by omega⟩, ?_⟩
  rintro i ⟨i0, i1⟩
  have hb := @mar_bd p k ((listsR p).take i.toNat) (0, 0) (by unfold xvS; omega) (by simp) (by simp)
  change (0 ≤ mar1 p k i ∧ mar1 p k i ≤ 160000000) ∧ 0 ≤ mar2 p k i ∧ mar2 p k i ≤ 160000000 at hb
  refine ⟨fun hlt => ?_, fun hge => ?_⟩
  · have hm := nthD_mem (d := (SId.lst (.i .i64)).dflt) (show i.toNat < (listsR p).length by omega)
    have hs := fold_take (f := marF p k) (s := (0, 0)) (d := (SId.lst (.i .i64)).dflt) i0 hlt
    have s1 : mar1 p k (i + 1) = (marF p k (mar1 p k i, mar2 p k i) (nthD (listsR p) i.toNat (SId.lst (.i .i64)).dflt)).1 := congrArg (·.1) hs
    have s2 : mar2 p k (i + 1) = (marF p k (mar1 p k i, mar2 p k i) (nthD (listsR p) i.toNat (SId.lst (.i .i64)).dflt)).2 := congrArg (·.2) hs
    clear hs
    generalize nthD (listsR p) i.toNat (SId.lst (.i .i64)).dflt = l at *
    have hlen := lists_len hc hm
    have hv := val_bd p l
    have hx : (nthD p.offers k.toNat SId.off.dflt).value = xvS p k := rfl
    rw [hx] at hxm ⊢
    unfold marF at s1 s2
    refine ⟨i0, hlt, by omega, by omega, i0, hlt, by omega, by omega, fun hk => ?_, fun hk => ?_⟩
    · rw [if_pos hk] at s1 s2
      simp only at s1 s2
      refine ⟨by omega, by omega, by omega, ⟨by omega, by omega⟩, fun h1 => ?_, fun h1 => ?_⟩
      · rw [if_pos h1] at s2
        exact ⟨by omega, ⟨by omega, by omega⟩, ⟨by omega, by omega⟩, by omega⟩
      · rw [if_neg h1] at s2
        exact ⟨by omega, ⟨by omega, by omega⟩, ⟨by omega, by omega⟩, by omega⟩
    · rw [if_neg hk] at s1 s2
      simp only at s1 s2
      refine ⟨fun h1 => ?_, fun h1 => ?_⟩
      · rw [if_pos h1] at s1
        exact ⟨by omega, ⟨by omega, by omega⟩, ⟨by omega, by omega⟩, by omega⟩
      · rw [if_neg h1] at s1
        exact ⟨by omega, ⟨by omega, by omega⟩, ⟨by omega, by omega⟩, by omega⟩
  · have hi : i.toNat = (listsR p).length := by omega
    have h1 : mar1 p k i - mar2 p k i = marR p k := by unfold mar1 mar2 marR; rw [hi, List.take_length]
    refine ⟨by omega, ?_⟩
    rw [h1]
    simp [hz]

end Go.Vi
/-
  Plain law: margins.
  Conditions: none.
-/
set_option maxRecDepth 100000
set_option maxHeartbeats 4000000
set_option linter.unusedSimpArgs false
set_option linter.unusedVariables false
namespace Go.Vi
open Go.Proofs

theorem mar_fold {p : Prob} {k : Int} : ∀ {ls : List (List Int)} {s : Int × Int},
    (s.1 ≤ (ls.foldl (marF p k) s).1 ∧ (∀ l ∈ ls, k ∉ l → valueS p l ≤ (ls.foldl (marF p k) s).1) ∧ ((ls.foldl (marF p k) s).1 = s.1 ∨ ∃ l ∈ ls, k ∉ l ∧ (ls.foldl (marF p k) s).1 = valueS p l)) ∧
    (s.2 ≤ (ls.foldl (marF p k) s).2 ∧ (∀ l ∈ ls, k ∈ l → valueS p l - xvS p k ≤ (ls.foldl (marF p k) s).2) ∧ ((ls.foldl (marF p k) s).2 = s.2 ∨ ∃ l ∈ ls, k ∈ l ∧ (ls.foldl (marF p k) s).2 = valueS p l - xvS p k))
  | [], s => by simp
  | l :: ls, s => by
    obtain ⟨⟨a1, a2, a3⟩, b1, b2, b3⟩ := @mar_fold p k ls (marF p k s l)
    rw [List.foldl_cons]
    by_cases hk : k ∈ l
    · have e1 : (marF p k s l).1 = s.1 := by unfold marF; rw [if_pos hk]
      have e2 : (marF p k s l).2 = if s.2 < valueS p l - xvS p k then valueS p l - xvS p k else s.2 := by unfold marF; rw [if_pos hk]
      rw [e1] at a1 a3
      refine ⟨⟨a1, fun m hm hkm => ?_, ?_⟩, ?_, fun m hm hkm => ?_, ?_⟩
      · rcases List.mem_cons.1 hm with rfl | hm
        · exact absurd hk hkm
        · exact a2 m hm hkm
      · rcases a3 with h | ⟨m, hm, h⟩
        · exact .inl h
        · exact .inr ⟨m, by simp [hm], h⟩
      · rw [e2] at b1; split at b1 <;> omega
      · rcases List.mem_cons.1 hm with rfl | hm
        · rw [e2] at b1; split at b1 <;> omega
        · exact b2 m hm hkm
      · rcases b3 with h | ⟨m, hm, h⟩
        · rw [e2] at h
          by_cases hv : s.2 < valueS p l - xvS p k
          · rw [if_pos hv] at h; exact .inr ⟨l, by simp, hk, h⟩
          · rw [if_neg hv] at h; exact .inl h
        · exact .inr ⟨m, by simp [hm], h⟩
    · have e1 : (marF p k s l).2 = s.2 := by unfold marF; rw [if_neg hk]
      have e2 : (marF p k s l).1 = if s.1 < valueS p l then valueS p l else s.1 := by unfold marF; rw [if_neg hk]
      rw [e1] at b1 b3
      refine ⟨⟨?_, fun m hm hkm => ?_, ?_⟩, b1, fun m hm hkm => ?_, ?_⟩
      · rw [e2] at a1; split at a1 <;> omega
      · rcases List.mem_cons.1 hm with rfl | hm
        · rw [e2] at a1; split at a1 <;> omega
        · exact a2 m hm hkm
      · rcases a3 with h | ⟨m, hm, h⟩
        · rw [e2] at h
          by_cases hv : s.1 < valueS p l
          · rw [if_pos hv] at h; exact .inr ⟨l, by simp, hk, h⟩
          · rw [if_neg hv] at h; exact .inl h
        · exact .inr ⟨m, by simp [hm], h⟩
      · rcases List.mem_cons.1 hm with rfl | hm
        · exact absurd hkm hk
        · exact b2 m hm hkm
      · rcases b3 with h | ⟨m, hm, h⟩
        · exact .inl h
        · exact .inr ⟨m, by simp [hm], h⟩

/-! ### without an offer -/

theorem nth_inj {l : List Off} (hn : l.Nodup) {i j : Nat} (hi : i < l.length) (hj : j < l.length) (h : nthD l i SId.off.dflt = nthD l j SId.off.dflt) : i = j := by
  rw [nthD_eq hi, nthD_eq hj] at h
  have hp := List.pairwise_iff_getElem.1 hn
  by_cases h1 : i < j
  · exact absurd h (hp i j hi hj h1)
  · by_cases h2 : j < i
    · exact absurd h.symm (hp j i hj hi h2)
    · omega

theorem del_mem {p : Prob} {k : Int} (hn : p.offers.Nodup) (h0 : 0 ≤ k) (h1 : k < p.offers.length) {x : Off} : x ∈ (delO p k).offers ↔ x ∈ p.offers ∧ x ≠ nthD p.offers k.toNat SId.off.dflt := by
  have hsp : p.offers = p.offers.take k.toNat ++ nthD p.offers k.toNat SId.off.dflt :: p.offers.drop (k + 1).toNat := by
    rw [← drop_nth h0 h1, List.take_append_drop]
  have hn2 := hn
  rw [hsp, List.nodup_append] at hn2
  obtain ⟨_, n2, n3⟩ := hn2
  show x ∈ p.offers.take k.toNat ++ p.offers.drop (k + 1).toNat ↔ _
  constructor
  · intro h
    refine ⟨?_, ?_⟩
    · rcases List.mem_append.1 h with h | h
      · exact List.mem_of_mem_take h
      · exact List.mem_of_mem_drop h
    · rintro rfl
      rcases List.mem_append.1 h with h | h
      · exact n3 _ h _ (by simp) rfl
      · exact (List.nodup_cons.1 n2).1 h
  · rintro ⟨h, hne⟩
    rw [hsp] at h
    rcases List.mem_append.1 h with h | h
    · exact List.mem_append.2 (.inl h)
    · rcases List.mem_cons.1 h with h | h
      · exact absurd h hne
      · exact List.mem_append.2 (.inr h)

theorem filter_ne {x : Off} {a b : List Off} (h : (a ++ x :: b).Nodup) : (a ++ x :: b).filter (fun y => decide (y ≠ x)) = a ++ b := by
  rw [List.nodup_append] at h
  obtain ⟨_, n2, n3⟩ := h
  rw [List.filter_append, List.filter_cons, if_neg (by simp)]
  rw [List.filter_eq_self.2 fun y hy => by simpa using n3 y hy x (by simp)]
  rw [List.filter_eq_self.2 fun y hy => by
    have := (List.nodup_cons.1 n2).1
    have : y ≠ x := fun e => this (e ▸ hy)
    simpa using this]

theorem del_filter {p : Prob} {k : Int} (hn : p.offers.Nodup) (h0 : 0 ≤ k) (h1 : k < p.offers.length) : delO p k = offP p (p.offers.filter fun x => decide (x ≠ nthD p.offers k.toNat SId.off.dflt)) := by
  have hsp : p.offers = p.offers.take k.toNat ++ nthD p.offers k.toNat SId.off.dflt :: p.offers.drop (k + 1).toNat := by
    rw [← drop_nth h0 h1, List.take_append_drop]
  have hf := filter_ne (hsp ▸ hn)
  rw [← hsp] at hf
  unfold delO offP
  rw [hf]

theorem del_check {p : Prob} {k : Int} (hc : checkE p = 0) (h0 : 0 ≤ k) (h1 : k < p.offers.length) : checkE (delO p k) = 0 := by
  rw [del_filter (offers_nodup hc) h0 h1]
  exact check_filter hc

theorem offs_mem {p : Prob} {t : List Int} {x : Off} (h : x ∈ offsI p t) : ∃ j ∈ t, nthD p.offers j.toNat SId.off.dflt = x := List.mem_map.1 h

theorem without_eq {p : Prob} {k : Int} (hc : checkE p = 0) (h0 : 0 ≤ k) (h1 : k < p.offers.length) : topS (delO p k) = ((listsR p).foldl (marF p k) (0, 0)).1 := by
  have hn := offers_nodup hc
  have hq := del_check hc h0 h1
  have hg := good_of hc
  obtain ⟨⟨a1, a2, a3⟩, _⟩ := @mar_fold p k (listsR p) (0, 0)
  have up : ∀ l ∈ listsR p, k ∉ l → valueS p l ≤ topS (delO p k) := by
    intro l hl hk
    have hF := (lists_mem hc).1 hl
    rw [feasI_val hc hF]
    refine worth_top hq (p := delO p k) (L := offsI p l) hF.2 fun x hx => ?_
    obtain ⟨j, hj, rfl⟩ := offs_mem hx
    have hj2 := hF.1.2 j hj
    refine (del_mem hn h0 h1).2 ⟨nthD_mem (by omega), fun e => hk ?_⟩
    have := nth_inj hn (by omega) (by omega) e
    rw [show k = j by omega]
    exact hj
  have lo : topS (delO p k) ≤ ((listsR p).foldl (marF p k) (0, 0)).1 := by
    obtain ⟨L, hL, hm, hv⟩ := worth_hit hq
    have hv : sumV L = topS (delO p k) := hv
    have hmp : ∀ x ∈ L, x ∈ p.offers ∧ x ≠ nthD p.offers k.toNat SId.off.dflt := fun x hx => (del_mem hn h0 h1).1 (hm x hx)
    obtain ⟨t, ht, hp⟩ := to_idx hc (L := L) hL fun x hx => (hmp x hx).1
    have hk : k ∉ t := fun hk => (hmp _ (hp.mem_iff.1 (List.mem_map_of_mem (f := fun i : Int => nthD p.offers i.toNat SId.off.dflt) hk))).2 rfl
    have := a2 t ((lists_mem hc).2 ht) hk
    rw [feasI_val hc ht, perm_V hp, hv] at this
    exact this
  have t0 := top_bd (delO p k)
  rcases a3 with h | ⟨l, hl, hk, h⟩
  · simp only at h; omega
  · have := up l hl hk; omega

end Go.Vi
/-
  Plain law: margins, the part with the offer.
  Conditions: none.
-/
set_option maxRecDepth 100000
set_option maxHeartbeats 4000000
set_option linter.unusedSimpArgs false
set_option linter.unusedVariables false
namespace Go.Vi
open Go.Proofs

theorem ok_at {b : Bun} : b.ok = true ↔ ∀ j, j < 6 → 0 ≤ b.at j ∧ b.at j ≤ 4 := by
  rw [Bun.ok_iff]
  constructor
  · intro h j hj
    have : j = 0 ∨ j = 1 ∨ j = 2 ∨ j = 3 ∨ j = 4 ∨ j = 5 := by omega
    rcases this with rfl | rfl | rfl | rfl | rfl | rfl <;> simp only [Bun.at, nth_0, nth_s] <;> omega
  · intro h
    have h0 := h 0 (by omega)
    have h1 := h 1 (by omega)
    have h2 := h 2 (by omega)
    have h3 := h 3 (by omega)
    have h4 := h 4 (by omega)
    have h5 := h 5 (by omega)
    simp only [Bun.at, nth_0, nth_s] at h0 h1 h2 h3 h4 h5
    exact ⟨h0, h1, h2, h3, h4, h5⟩

theorem rs_at {p : Prob} {x : Off} {j : Nat} (hj : j < 6) : (rsK p x 6).at j = p.supply.at j - x.want.at j := by
  have : j = 0 ∨ j = 1 ∨ j = 2 ∨ j = 3 ∨ j = 4 ∨ j = 5 := by omega
  rcases this with rfl | rfl | rfl | rfl | rfl | rfl <;> rfl
theorem ro_at {p : Prob} {x : Off} {j : Nat} (hj : j < 6) : (roK p x 6).at j = min (if p.cls.at j = 0 ∨ p.cls.at j ≠ 0 ∧ p.cls.at j ≠ clOf p x then p.opn.at j - x.want.at j else p.opn.at j) (p.supply.at j - x.want.at j) := by
  have : j = 0 ∨ j = 1 ∨ j = 2 ∨ j = 3 ∨ j = 4 ∨ j = 5 := by omega
  rcases this with rfl | rfl | rfl | rfl | rfl | rfl <;> rfl
theorem oc_at {c w cl j : Int} (h : j < 6) : oc c w cl j 6 = if c = 0 ∨ c = cl then 0 else w := by
  unfold oc
  by_cases hh : c = 0 ∨ c = cl
  · rw [if_pos ⟨h, hh⟩, if_pos hh]
  · rw [if_neg fun q => hh q.2, if_neg hh]
theorem out_at {p : Prob} {x : Off} {j : Nat} (hj : j < 6) : (outS p x).at j = if p.cls.at j = 0 ∨ p.cls.at j = clOf p x then 0 else x.want.at j := by
  have : j = 0 ∨ j = 1 ∨ j = 2 ∨ j = 3 ∨ j = 4 ∨ j = 5 := by omega
  rcases this with rfl | rfl | rfl | rfl | rfl | rfl <;> exact oc_at (by decide)
theorem le_at_iff {a b : Bun} : a.le b = true ↔ ∀ j, j < 6 → a.at j ≤ b.at j := ⟨fun h j _ => at_le h j, le_of_at⟩
/-- A sum of parts that are not negative. -/
theorem sum_ge {f : Off → Int} : ∀ {L : List Off}, (∀ y ∈ L, 0 ≤ f y) → 0 ≤ (L.map f).sum ∧ ∀ y ∈ L, f y ≤ (L.map f).sum
  | [], _ => by simp
  | z :: L, h => by
    obtain ⟨h1, h2⟩ := sum_ge (f := f) (L := L) fun y hy => h y (by simp [hy])
    have hz := h z (by simp)
    simp only [List.map_cons, List.sum_cons]
    refine ⟨by omega, fun y hy => ?_⟩
    rcases List.mem_cons.1 hy with rfl | hy
    · omega
    · have := h2 y hy; omega
theorem sum_le {f g : Off → Int} : ∀ {L : List Off}, (∀ y ∈ L, f y ≤ g y) → (L.map f).sum ≤ (L.map g).sum
  | [], _ => by simp
  | z :: L, h => by
    have h1 := sum_le (f := f) (g := g) (L := L) fun y hy => h y (by simp [hy])
    have hz := h z (by simp)
    simp only [List.map_cons, List.sum_cons]
    omega

theorem sum0 : ∀ L : List Off, (L.map fun _ => (0 : Int)).sum = 0
  | [] => rfl
  | _ :: L => by
    have := sum0 L
    simp only [List.map_cons, List.sum_cons]
    omega

theorem feas_at {p : Prob} {L : List Off} : FeasL p L ↔ (L.map Off.bidder).Nodup ∧ (∀ j, j < 6 → (L.map fun y => y.want.at j).sum ≤ p.supply.at j) ∧ ∀ j, j < 6 → (L.map fun y => (outS p y).at j).sum ≤ p.opn.at j := by
  unfold FeasL
  rw [le_at_iff, le_at_iff]
  simp only [at_sum, List.map_map, Function.comp_def]

theorem prod_at {p : Prob} (hc : checkE p = 0) {j : Nat} (hj : j < 6) : (0 ≤ p.cls.at j ∧ p.cls.at j ≤ 4) ∧ 0 ≤ p.opn.at j ∧ p.opn.at j ≤ p.supply.at j ∧ (p.cls.at j ≠ 0 ∨ p.opn.at j = p.supply.at j) := by
  obtain ⟨f1, f2, _⟩ := frame_zero (check_zero hc).1
  have := prodOk_iff.1 (f2 j hj)
  exact ⟨⟨this.1, this.2.1⟩, this.2.2.1, this.2.2.2.1, this.2.2.2.2⟩

theorem one_fits {p : Prob} (hc : checkE p = 0) {x : Off} (hx : x ∈ p.offers) {j : Nat} (hj : j < 6) : (0 ≤ x.want.at j ∧ x.want.at j ≤ 4) ∧ x.want.at j ≤ p.supply.at j ∧ (outS p x).at j ≤ p.opn.at j := by
  have ho := (check_zero hc).2 x hx
  obtain ⟨h1, h2, h3⟩ := offer_zero ho
  have hw := (simple_zero h1).2.2.2.2
  have hF := feas_at.1 (feasL_of (p := p) (L := [x]) (by simp) h3)
  have a := hF.2.1 j hj
  have b := hF.2.2 j hj
  simp only [List.map_cons, List.map_nil, List.sum_cons, List.sum_nil] at a b
  have := ok_at.1 hw j hj
  omega

theorem outB_iff {p : Prob} {b : Int} {j : Nat} : outB p b j = true ↔ p.cls.at j ≠ 0 ∧ p.cls.at j ≠ nthD p.classes b.toNat 0 := by
  unfold outB
  rw [decide_eq_true_eq, Int.toNat_natCast]

/-- The remaining problem is valid. -/
theorem rest_frame {p : Prob} (hc : checkE p = 0) {x : Off} (hx : x ∈ p.offers) {l : List Off} (hl : l.length ≤ 160) : frameE { restP p x with offers := l } = 0 := by
  obtain ⟨f1, f2, f3, f4, f5⟩ := frame_zero (check_zero hc).1
  refine frame_ok ?_ ?_ ?_ f5
  · refine ok_at.2 fun j hj => ?_
    have h1 := one_fits hc hx hj
    have h2 := ok_at.1 f1 j hj
    show 0 ≤ (rsK p x 6).at j ∧ (rsK p x 6).at j ≤ 4
    rw [rs_at hj]
    omega
  · intro j hj
    refine prodOk_iff.2 ?_
    have h0 := prod_at hc hj
    have h1 := one_fits hc hx hj
    have hro := @ro_at p x j hj
    have hrs := @rs_at p x j hj
    have hout := @out_at p x j hj
    have e1 : nthD [p.cls.a0, p.cls.a1, p.cls.a2, p.cls.a3, p.cls.a4, p.cls.a5] j 0 = p.cls.at j := rfl
    show 0 ≤ p.cls.at j ∧ p.cls.at j ≤ 4 ∧ 0 ≤ (roK p x 6).at j ∧ (roK p x 6).at j ≤ (rsK p x 6).at j ∧ (p.cls.at j ≠ 0 ∨ (roK p x 6).at j = (rsK p x 6).at j)
    rw [hro, hrs]
    refine ⟨h0.1.1, h0.1.2, ?_, by omega, ?_⟩
    · by_cases hh : p.cls.at j = 0 ∨ p.cls.at j ≠ 0 ∧ p.cls.at j ≠ clOf p x
      · rw [if_pos hh]
        by_cases hz : p.cls.at j = 0
        · have : p.opn.at j = p.supply.at j := by rcases h0.2.2.2 with h | h <;> omega
          omega
        · have hne : ¬ (p.cls.at j = 0 ∨ p.cls.at j = clOf p x) := by omega
          rw [if_neg hne] at hout
          omega
      · rw [if_neg hh]; omega
    · by_cases hz : p.cls.at j = 0
      · right
        rw [if_pos (.inl hz)]
        have : p.opn.at j = p.supply.at j := by rcases h0.2.2.2 with h | h <;> omega
        omega
      · exact .inl hz
  · show ¬ (8 < p.classes.length ∨ 160 < l.length)
    omega

/-- What fits with an offer fits what the offer leaves. -/
theorem rest_feas {p : Prob} (hc : checkE p = 0) {x : Off} (hx : x ∈ p.offers) {L : List Off} (hL : ∀ y ∈ L, y ∈ p.offers ∧ y.bidder ≠ x.bidder) {l : List Off} :
    FeasL { restP p x with offers := l } L ↔ FeasL p (x :: L) := by
  rw [feas_at, feas_at]
  have ho : ∀ y, outS { restP p x with offers := l } y = outS p y := fun _ => rfl
  simp only [ho]
  show (L.map Off.bidder).Nodup ∧ (∀ j, j < 6 → (L.map fun y => y.want.at j).sum ≤ (rsK p x 6).at j) ∧ (∀ j, j < 6 → (L.map fun y => (outS p y).at j).sum ≤ (roK p x 6).at j) ↔ _
  simp only [List.map_cons, List.sum_cons, List.nodup_cons]
  have key : ∀ j, j < 6 → (0 ≤ (L.map fun y => (outS p y).at j).sum ∧ (L.map fun y => (outS p y).at j).sum ≤ (L.map fun y => y.want.at j).sum) ∧ (p.cls.at j = 0 → (L.map fun y => (outS p y).at j).sum = 0) := by
    intro j hj
    have hy : ∀ y ∈ L, 0 ≤ (outS p y).at j ∧ (outS p y).at j ≤ y.want.at j := fun y hy => by
      have h1 := (one_fits hc (hL y hy).1 hj).1
      rw [out_at hj]
      split <;> omega
    refine ⟨⟨(sum_ge fun y hy' => (hy y hy').1).1, sum_le fun y hy' => (hy y hy').2⟩, fun hz => ?_⟩
    have : (L.map fun y => (outS p y).at j) = L.map fun _ => 0 := List.map_congr_left fun y _ => by rw [out_at hj, if_pos (.inl hz)]
    rw [this]
    exact sum0 L
  constructor
  · rintro ⟨h1, h2, h3⟩
    refine ⟨⟨fun hm => ?_, h1⟩, fun j hj => ?_, fun j hj => ?_⟩
    · obtain ⟨y, hy, he⟩ := List.mem_map.1 hm
      exact (hL y hy).2 he
    · have a := h2 j hj
      rw [rs_at hj] at a
      omega
    · have a := h3 j hj
      have h0 := (one_fits hc hx hj).1
      rw [ro_at hj] at a
      rw [out_at hj]
      by_cases h4 : p.cls.at j = 0 ∨ p.cls.at j = clOf p x
      · rw [if_pos h4]
        split at a <;> omega
      · rw [if_neg h4]
        rw [if_pos (.inr (by omega))] at a
        omega
  · rintro ⟨⟨_, h1⟩, h2, h3⟩
    refine ⟨h1, fun j hj => ?_, fun j hj => ?_⟩
    · have a := h2 j hj
      rw [rs_at hj]
      omega
    · have a := h3 j hj
      have b := h2 j hj
      obtain ⟨k1, k2⟩ := key j hj
      have h0 := prod_at hc hj
      have h5 := one_fits hc hx hj
      rw [ro_at hj]
      rw [out_at hj] at a
      by_cases h4 : p.cls.at j = 0
      · have k3 := k2 h4
        have : p.opn.at j = p.supply.at j := by rcases h0.2.2.2 with h | h <;> omega
        rw [if_pos (.inl h4)]
        omega
      · by_cases h6 : p.cls.at j = clOf p x
        · rw [if_pos (.inr h6)] at a
          rw [if_neg (by omega)]
          omega
        · rw [if_neg (by omega)] at a
          rw [if_pos (.inr ⟨h4, h6⟩)]
          omega

theorem alone_of {p : Prob} (hc : checkE p = 0) {x : Off} {l : List Off} {L : List Off} (hL : ∀ y ∈ L, y ∈ p.offers) (hF : FeasL { restP p x with offers := l } L) {y : Off} (hy : y ∈ L) : aloneB (restP p x) y = true := by
  refine alone_iff.2 fun j hj => ?_
  obtain ⟨_, h2, h3⟩ := feas_at.1 hF
  have a := (sum_ge (f := fun y => y.want.at j) (L := L) fun z hz => (one_fits hc (hL z hz) hj).1.1).2 y hy
  have ho : ∀ z ∈ L, 0 ≤ (outS p z).at j := fun z hz => by
    have := (one_fits hc (hL z hz) hj).1
    rw [out_at hj]
    split <;> omega
  have b := (sum_ge (f := fun y => (outS p y).at j) (L := L) ho).2 y hy
  refine ⟨Int.le_trans a (h2 j hj), fun hb => ?_⟩
  have hb := outB_iff.1 hb
  have hb : p.cls.at j ≠ 0 ∧ p.cls.at j ≠ clOf p y := hb
  have hq : (outS p y).at j = y.want.at j := by rw [out_at hj, if_neg (by omega)]
  simp only [hq] at b
  exact Int.le_trans b (h3 j hj)

theorem after_check {p : Prob} (hc : checkE p = 0) {k : Int} (h0 : 0 ≤ k) (h1 : k < p.offers.length) : checkE (afterP p k) = 0 := by
  have hx : nthD p.offers k.toNat SId.off.dflt ∈ p.offers := nthD_mem (by omega)
  show checkE { restP p (nthD p.offers k.toNat SId.off.dflt) with offers := restT p (nthD p.offers k.toNat SId.off.dflt) p.offers.length } = 0
  generalize nthD p.offers k.toNat SId.off.dflt = x at *
  have hg := good_of hc
  have hrt : restT p x p.offers.length = p.offers.filter fun y => decide (y.bidder ≠ x.bidder) && aloneB (restP p x) y := by unfold restT; rw [List.take_length]
  have hlen : (restT p x p.offers.length).length ≤ 160 := by
    rw [hrt]
    exact Nat.le_trans (List.length_filter_le _ _) hg.2.1
  have hfr := rest_frame hc hx hlen
  have key : ∀ (l : List Off) (s t : List BKey), checkL p s l = 0 → (∀ y ∈ l, y ∈ p.offers) → (∀ m ∈ t, m ∈ s) → checkL { restP p x with offers := restT p x p.offers.length } t (l.filter fun y => decide (y.bidder ≠ x.bidder) && aloneB (restP p x) y) = 0 := by
    intro l
    induction l with
    | nil => intro _ _ _ _ _; rfl
    | cons o r ih =>
      intro s t h hm hs
      simp only [checkL] at h
      split at h
      · rename_i h1; exact absurd h h1
      · split at h
        · cases h
        · rename_i h1 h2
          have hn : o.key ∉ t := fun hm => h2 (hs _ hm)
          rw [List.filter_cons]
          split
          · rename_i hcond
            simp only [Bool.and_eq_true, decide_eq_true_eq] at hcond
            obtain ⟨o1, o2, o3⟩ := offer_zero (Classical.not_not.1 h1)
            have hz : offerE { restP p x with offers := restT p x p.offers.length } o = 0 := by
              have hfits : fitsB { restP p x with offers := restT p x p.offers.length } [o] = true := by
                refine fits_of (feas_at.2 ⟨by simp, fun j hj => ?_, fun j hj => ?_⟩)
                · simpa using (alone_iff.1 hcond.2 j hj).1
                · simp only [List.map_cons, List.map_nil, List.sum_cons, List.sum_nil]
                  show (outS p o).at j + 0 ≤ (roK p x 6).at j
                  rw [out_at hj]
                  have hpr := prodOk_iff.1 ((frame_zero hfr).2.1 j hj)
                  have hpr0 : 0 ≤ (roK p x 6).at j := hpr.2.2.1
                  split
                  · omega
                  · rename_i hne
                    have := (alone_iff.1 hcond.2 j hj).2 (outB_iff.2 (show p.cls.at j ≠ 0 ∧ p.cls.at j ≠ clOf p o by omega))
                    have this : o.want.at j ≤ (roK p x 6).at j := this
                    omega
              have hse : simpleE (restP p x).classes.length o = 0 := o1
              unfold offerE
              rw [if_neg (show ¬ simpleE (restP p x).classes.length o ≠ 0 by simp [hse]), if_neg o2, if_neg (by simp [hfits])]
            unfold checkL
            rw [if_neg (by simp [hz]), if_neg hn]
            exact ih _ _ h (fun y hy => hm y (by simp [hy])) fun m hm2 => by
              rcases List.mem_append.1 hm2 with hm2 | hm2
              · exact List.mem_append.2 (.inl (hs m hm2))
              · exact List.mem_append.2 (.inr hm2)
          · exact ih _ _ h (fun y hy => hm y (by simp [hy])) fun m hm2 => List.mem_append.2 (.inl (hs m hm2))
  have hcl : checkL p [] p.offers = 0 := by
    unfold checkE at hc
    split at hc
    · rename_i h1; exact absurd hc h1
    · exact hc
  have hk := key p.offers [] [] hcl (fun _ h => h) (by simp)
  rw [← hrt] at hk
  unfold checkE
  rw [if_neg (by simp [hfr])]
  exact hk

theorem after_eq {p : Prob} {k : Int} (hc : checkE p = 0) (h0 : 0 ≤ k) (h1 : k < p.offers.length) : topS (afterP p k) = ((listsR p).foldl (marF p k) (0, 0)).2 := by
  have hn := offers_nodup hc
  have hq := after_check hc h0 h1
  have hg := good_of hc
  have hx : nthD p.offers k.toNat SId.off.dflt ∈ p.offers := nthD_mem (by omega)
  have hqo : ∀ y, y ∈ (afterP p k).offers ↔ y ∈ p.offers ∧ y.bidder ≠ (nthD p.offers k.toNat SId.off.dflt).bidder ∧ aloneB (restP p (nthD p.offers k.toNat SId.off.dflt)) y = true := fun y => by
    show y ∈ restT p (nthD p.offers k.toNat SId.off.dflt) p.offers.length ↔ _
    unfold restT
    rw [List.take_length, List.mem_filter, Bool.and_eq_true, decide_eq_true_eq]
  obtain ⟨_, b1, b2, b3⟩ := @mar_fold p k (listsR p) (0, 0)
  have up : ∀ l ∈ listsR p, k ∈ l → valueS p l - xvS p k ≤ topS (afterP p k) := by
    intro l hl hk
    have hF := (lists_mem hc).1 hl
    rw [feasI_val hc hF]
    have hmem : nthD p.offers k.toNat SId.off.dflt ∈ offsI p l := List.mem_map_of_mem (f := fun i : Int => nthD p.offers i.toNat SId.off.dflt) hk
    have hperm := List.perm_cons_erase hmem
    have hF2 := perm_F hperm hF.2
    have hall : ∀ y ∈ (offsI p l).erase (nthD p.offers k.toNat SId.off.dflt), y ∈ p.offers ∧ y.bidder ≠ (nthD p.offers k.toNat SId.off.dflt).bidder := fun y hy => by
      refine ⟨offs_ok hg (inc_idx hF.1) y (List.mem_of_mem_erase hy), fun he => ?_⟩
      have := hF2.1
      rw [List.map_cons, List.nodup_cons] at this
      exact this.1 (he ▸ List.mem_map_of_mem hy)
    have hFq := (rest_feas hc hx hall (l := restT p (nthD p.offers k.toNat SId.off.dflt) p.offers.length)).2 hF2
    have := worth_top hq (p := afterP p k) (L := (offsI p l).erase (nthD p.offers k.toNat SId.off.dflt)) hFq fun y hy => (hqo y).2 ⟨(hall y hy).1, (hall y hy).2, alone_of hc (fun z hz => (hall z hz).1) hFq hy⟩
    rw [perm_V hperm]
    simp only [sumV]
    have hxv : xvS p k = (nthD p.offers k.toNat SId.off.dflt).value := rfl
    change _ ≤ topS (afterP p k) at this
    omega
  have lo : topS (afterP p k) ≤ ((listsR p).foldl (marF p k) (0, 0)).2 := by
    obtain ⟨L, hL, hm, hv⟩ := worth_hit hq
    have hv : sumV L = topS (afterP p k) := hv
    have hmp := fun y (hy : y ∈ L) => (hqo y).1 (hm y hy)
    have hFp := (rest_feas hc hx (fun y hy => ⟨(hmp y hy).1, (hmp y hy).2.1⟩) (l := restT p (nthD p.offers k.toNat SId.off.dflt) p.offers.length)).1 hL
    obtain ⟨t, ht, hp⟩ := to_idx hc hFp fun y hy => by
      rcases List.mem_cons.1 hy with rfl | hy
      · exact hx
      · exact (hmp y hy).1
    have hk : k ∈ t := by
      obtain ⟨j, hj, he⟩ := offs_mem (hp.mem_iff.2 (List.mem_cons_self ..))
      have hj2 := ht.1.2 j hj
      have := nth_inj hn (by omega) (by omega) he
      rw [show k = j by omega]
      exact hj
    have := b2 t ((lists_mem hc).2 ht) hk
    rw [feasI_val hc ht, perm_V hp] at this
    simp only [sumV, hv] at this
    have hxv : xvS p k = (nthD p.offers k.toNat SId.off.dflt).value := rfl
    omega
  have t0 := top_bd (afterP p k)
  rcases b3 with h | ⟨l, hl, hk, h⟩
  · simp only at h; omega
  · have := up l hl hk; omega

theorem mar_eq {p : Prob} {k : Int} (hc : checkE p = 0) (h0 : 0 ≤ k) (h1 : k < p.offers.length) : marS p k = marR p k := by
  unfold marS marR
  rw [without_eq hc h0 h1, after_eq hc h0 h1]

end Go.Vi
/-
  Contracts: the best list of a coalition.
  Conditions: none.
-/
set_option maxRecDepth 100000
set_option maxHeartbeats 4000000
set_option linter.unusedSimpArgs false
set_option linter.unusedVariables false
namespace Go.Vi
open Go.Proofs.Ytigbjjkijfkeeaa.Ir
open Go.Proofs

/-- What remains of the search: the situation, the value that is left to find, the list. -/
structure BSt where
  at_ : Sit
  rest : Int
  out : List Int

def stepB (p : Prob) (s : BSt) (i : Nat) : BSt :=
  let x := nthD p.offers i SId.off.dflt
  if bitI s.at_.members x.bidder ≠ 0 ∧ fitsAt p s.at_ x = true ∧ x.value + bestS p (nextAt p s.at_ x) = s.rest then ⟨nextAt p s.at_ x, s.rest - x.value, s.out ++ [(i : Int)]⟩ else s
def startB (p : Prob) (m : Int) : BSt := ⟨⟨m, p.supply, p.opn⟩, bestS p ⟨m, p.supply, p.opn⟩, []⟩
def runB (p : Prob) (m : Int) (n : Nat) : BSt := (List.range n).foldl (stepB p) (startB p m)
def bestI (p : Prob) (m : Int) : Alloc := if faultE p m = 0 then ⟨(runB p m p.offers.length).out, bestS p ⟨m, p.supply, p.opn⟩⟩ else ⟨[], 0⟩

def WK : List OCtr := [r113, r114, r116, bestC 9]
theorem hWK : ∀ c ∈ WK, HoldsO Try.prog c := by
  simp only [WK, List.forall_mem_cons, List.not_mem_nil, false_implies, implies_true, and_true]
  exact ⟨h113, h114, h116, hBest 9⟩

def r75 : OCtr where
  f := 75
  α := Prob × Int
  put a := [codP.put a.1, .si .i64 a.2]
  st _ := []
  dec v o := match v, o with
    | [v, m], [] => match codP.dec v, m.int .i64 with
      | some p, some m => some (p, m)
      | _, _ => none
    | _, _ => none
  ok v o a h := by
    split at h
    · split at h
      · rename_i h1 h2
        simp only [Option.some.injEq] at h; subst h
        exact ⟨by simp only [gL, codP.ok _ _ h1, int_g h2]; rfl, rfl⟩
      · cases h
    · cases h
  inj a b h _ := by
    simp only [gL, List.cons.injEq, and_true] at h
    have h2 := h.2
    simp only [SV.g, AV.sc.injEq, Value.int.injEq, true_and] at h2
    exact Prod.ext (codP.inj _ _ h.1) h2
  dom a := faultE a.1 a.2 = 0
  res a := .tup [.agg [.ow 0 (bestI a.1 a.2).chosen.length 1, .si .i64 (bestI a.1 a.2).value], .si .i64 0]
  out a := [.row (.i .i64) (bestI a.1 a.2).chosen 3 false]

def st75 (p : Prob) (v : Int) (s : BSt) (es : Memo) : SStore := [.cells p.ss 27 20 false, .cells [.sc (.slice none 0 0), .il .i64 0] 31 2 false,
  .cells [.si .i64 p.supply.a0, .si .i64 p.supply.a1, .si .i64 p.supply.a2, .si .i64 p.supply.a3, .si .i64 p.supply.a4, .si .i64 p.supply.a5,
   .si .i64 p.opn.a0, .si .i64 p.opn.a1, .si .i64 p.opn.a2, .si .i64 p.opn.a3, .si .i64 p.opn.a4, .si .i64 p.opn.a5,
   .si .i64 p.cls.a0, .si .i64 p.cls.a1, .si .i64 p.cls.a2, .si .i64 p.cls.a3, .si .i64 p.cls.a4, .si .i64 p.cls.a5,
   .row (.i .i64) p.classes, .row .off p.offers, .row .off (L8.of p).l0, .row .off (L8.of p).l1, .row .off (L8.of p).l2, .row .off (L8.of p).l3, .row .off (L8.of p).l4, .row .off (L8.of p).l5, .row .off (L8.of p).l6, .row .off (L8.of p).l7, .mp 3] 174 29 false,
  .map .sit (.i .i64) true es ([0, 0, 0, 0, 0, 0, 0, 0, 0, 0, 0, 0, 0], true) true,
  .cells (encS .sit s.at_) 141 13 false, .cells [.ow 6 s.out.length 1, .si .i64 v] 31 2 false, .row (.i .i64) s.out 3 false]
def Λ75 (a : Prob × Int) : Nat → LoopAnn
  | 9 => .inv (Int × Memo) (fun x => ⟨[(4, .ptr 1 0 2), (7, .ptr 2 0 29), (8, .ptr 4 0 13), (9, .ptr 5 0 2), (10, .si .i64 (runB a.1 a.2 x.1.toNat).rest), (34, .row .off a.1.offers), (35, .si .i64 a.1.offers.length), (36, .si .i64 x.1)], st75 a.1 (startB a.1 a.2).rest (runB a.1 a.2 x.1.toNat) x.2⟩)
    (fun s => (iS s 36, mS .sit (.i .i64) s 3)) (fun x => 0 ≤ x.1 ∧ x.1 ≤ a.1.offers.length ∧ MemoOk a.1 x.2) (fun x => (a.1.offers.length - x.1).toNat) fun _ _ => .look
  | _ => .look

theorem runB_succ {p : Prob} {m : Int} {n : Nat} : runB p m (n + 1) = stepB p (runB p m n) n := by
  unfold runB
  rw [List.range_succ, List.foldl_append]
  rfl

theorem nextOk {p : Prob} (hg : Good p) {a : Sit} (ha : SitOk a) {x : Off} (hx : x ∈ p.offers) (hb : bitI a.members x.bidder ≠ 0) (hf : fitsAt p a x = true) : SitOk (nextAt p a x) := by
  have hv := hg.2.2.2.2 x hx
  have h8 := hg.1
  have hd := (bit_del ha.1 ha.2.1 hv.1 (by omega)).2 hb
  simp only [fitsAt, Bool.and_eq_true] at hf
  exact ⟨hd.1, hd.2.1, sub_ok ha.2.2.1 hv.2.2.1 hf.1, sub_ok ha.2.2.2 (out_ok hv.2.2.1) hf.2⟩

theorem runB_ok {p : Prob} (hg : Good p) {m : Int} (h0 : 0 ≤ m) (h1 : m < 256) : ∀ n, n ≤ p.offers.length → SitOk (runB p m n).at_ ∧ (runB p m n).rest = bestS p (runB p m n).at_ ∧ (runB p m n).out.length ≤ n
  | 0, _ => ⟨⟨h0, h1, hg.2.2.1, hg.2.2.2.1⟩, rfl, Nat.le_refl _⟩
  | n + 1, hn => by
    obtain ⟨k1, k2, k3⟩ := runB_ok hg h0 h1 n (by omega)
    rw [runB_succ]
    unfold stepB
    simp only
    have hx := nthD_mem (d := SId.off.dflt) (show n < p.offers.length by omega)
    split
    · rename_i hc
      refine ⟨nextOk hg k1 hx hc.1 hc.2.1, ?_, by simp; omega⟩
      simp only
      omega
    · exact ⟨k1, k2, by omega⟩

theorem h75 : HoldsO Try.prog r75 := by
  refine conN (L := [r112]) (W := WK) r75 F75 (fun _ => none) Λ75 hWK (by simpa using h112) (by kernel_rfl) (fun _ => rfl) (fun _ => rfl) (by kernel_rfl) ?_
  rintro ⟨p, m⟩ (hz : faultE p m = 0)
  refine vcOf (True ∧ (decide (faultE p m ≠ (0 : Int)) = true → (SV.tup [SV.agg [SV.sc (Value.slice none 0 0), SV.il .i64 0], SV.si .i64 (faultE p m)]).same (SV.tup [SV.agg [SV.ow 0 (bestI p m).chosen.length 1, SV.si .i64 (bestI p m).value], SV.si .i64 0]) ∧ False) ∧ (decide (faultE p m ≠ (0 : Int)) = false → Good p ∧ True ∧ ((Good p ∧ L8.of p = L8.of p ∧ SitOk (Sit.mk m p.supply p.opn) ∧ MemoOk p []) ∧ cnt m < 9) ∧ ((((SV.ptr 1 0 2).same (SV.ptr 1 0 2) ∧ (SV.ptr 2 0 29).same (SV.ptr 2 0 29) ∧ (SV.ptr 4 0 13).same (SV.ptr 4 0 13) ∧ (SV.ptr 5 0 2).same (SV.ptr 5 0 2) ∧ (SV.si .i64 (bestM p (cnt m + 1) [] (Sit.mk m p.supply p.opn)).fst).same (SV.si .i64 (runB p m 0).rest) ∧ (SV.row SId.off p.offers).same (SV.row SId.off p.offers) ∧ (SV.si .i64 (↑p.offers.length : Int)).same (SV.si .i64 (↑p.offers.length : Int)) ∧ (SV.il .i64 0).same (SV.si .i64 0) ∧ True) ∧ (SObj.cells (Prob.ss p) 27 20 false).same (SObj.cells (Prob.ss p) 27 20 false) ∧ (SObj.cells [SV.sc (Value.slice none 0 0), SV.il .i64 0] 31 2 false).same (SObj.cells [SV.sc (Value.slice none 0 0), SV.il .i64 0] 31 2 false) ∧ (SObj.cells [SV.si .i64 p.supply.a0, SV.si .i64 p.supply.a1, SV.si .i64 p.supply.a2, SV.si .i64 p.supply.a3, SV.si .i64 p.supply.a4, SV.si .i64 p.supply.a5, SV.si .i64 p.opn.a0, SV.si .i64 p.opn.a1, SV.si .i64 p.opn.a2, SV.si .i64 p.opn.a3, SV.si .i64 p.opn.a4, SV.si .i64 p.opn.a5, SV.si .i64 p.cls.a0, SV.si .i64 p.cls.a1, SV.si .i64 p.cls.a2, SV.si .i64 p.cls.a3, SV.si .i64 p.cls.a4, SV.si .i64 p.cls.a5, SV.row (SId.i .i64) p.classes, SV.row SId.off p.offers, SV.row SId.off (L8.of p).l0, SV.row SId.off (L8.of p).l1, SV.row SId.off (L8.of p).l2, SV.row SId.off (L8.of p).l3, SV.row SId.off (L8.of p).l4, SV.row SId.off (L8.of p).l5, SV.row SId.off (L8.of p).l6, SV.row SId.off (L8.of p).l7, SV.mp 3] 174 29 false).same (SObj.cells [SV.si .i64 p.supply.a0, SV.si .i64 p.supply.a1, SV.si .i64 p.supply.a2, SV.si .i64 p.supply.a3, SV.si .i64 p.supply.a4, SV.si .i64 p.supply.a5, SV.si .i64 p.opn.a0, SV.si .i64 p.opn.a1, SV.si .i64 p.opn.a2, SV.si .i64 p.opn.a3, SV.si .i64 p.opn.a4, SV.si .i64 p.opn.a5, SV.si .i64 p.cls.a0, SV.si .i64 p.cls.a1, SV.si .i64 p.cls.a2, SV.si .i64 p.cls.a3, SV.si .i64 p.cls.a4, SV.si .i64 p.cls.a5, SV.row (SId.i .i64) p.classes, SV.row SId.off p.offers, SV.row SId.off (L8.of p).l0, SV.row SId.off (L8.of p).l1, SV.row SId.off (L8.of p).l2, SV.row SId.off (L8.of p).l3, SV.row SId.off (L8.of p).l4, SV.row SId.off (L8.of p).l5, SV.row SId.off (L8.of p).l6, SV.row SId.off (L8.of p).l7, SV.mp 3] 174 29 false) ∧ (SObj.map SId.sit (SId.i .i64) true (bestM p (cnt m + 1) [] (Sit.mk m p.supply p.opn)).snd ([0, 0, 0, 0, 0, 0, 0, 0, 0, 0, 0, 0, 0], true) true).same (SObj.map SId.sit (SId.i .i64) true (bestM p (cnt m + 1) [] (Sit.mk m p.supply p.opn)).snd ([0, 0, 0, 0, 0, 0, 0, 0, 0, 0, 0, 0, 0], true) true) ∧ (SObj.cells [SV.si .i64 m, SV.si .i64 p.supply.a0, SV.si .i64 p.supply.a1, SV.si .i64 p.supply.a2, SV.si .i64 p.supply.a3, SV.si .i64 p.supply.a4, SV.si .i64 p.supply.a5, SV.si .i64 p.opn.a0, SV.si .i64 p.opn.a1, SV.si .i64 p.opn.a2, SV.si .i64 p.opn.a3, SV.si .i64 p.opn.a4, SV.si .i64 p.opn.a5] 141 13 false).same (SObj.cells [SV.si .i64 (runB p m 0).at_.members, SV.si .i64 (runB p m 0).at_.left.a0, SV.si .i64 (runB p m 0).at_.left.a1, SV.si .i64 (runB p m 0).at_.left.a2, SV.si .i64 (runB p m 0).at_.left.a3, SV.si .i64 (runB p m 0).at_.left.a4, SV.si .i64 (runB p m 0).at_.left.a5, SV.si .i64 (runB p m 0).at_.opn.a0, SV.si .i64 (runB p m 0).at_.opn.a1, SV.si .i64 (runB p m 0).at_.opn.a2, SV.si .i64 (runB p m 0).at_.opn.a3, SV.si .i64 (runB p m 0).at_.opn.a4, SV.si .i64 (runB p m 0).at_.opn.a5] 141 13 false) ∧ (SObj.cells [SV.ow 6 0 1, SV.si .i64 (bestM p (cnt m + 1) [] (Sit.mk m p.supply p.opn)).fst] 31 2 false).same (SObj.cells [SV.ow 6 (runB p m 0).out.length 1, SV.si .i64 (startB p m).rest] 31 2 false) ∧ (SObj.row (SId.i .i64) [] 3 false).same (SObj.row (SId.i .i64) (runB p m 0).out 3 false) ∧ True) ∧ (0 : Int) ≤ (0 : Int) ∧ (0 : Int) ≤ (↑p.offers.length : Int) ∧ MemoOk p (bestM p (cnt m + 1) [] (Sit.mk m p.supply p.opn)).snd) ∧ ∀ (x : Int × Memo), (0 : Int) ≤ x.fst ∧ x.fst ≤ (↑p.offers.length : Int) ∧ MemoOk p x.snd → (decide (x.fst < (↑p.offers.length : Int)) = true → (0 : Int) ≤ x.fst ∧ x.fst < (↑p.offers.length : Int) ∧ x.fst.toNat < p.offers.length ∧ (0 : Int) ≤ (nthD p.offers x.fst.toNat SId.off.dflt).bidder ∧ (nthD p.offers x.fst.toNat SId.off.dflt).bidder ≤ (64 : Int) ∧ (decide (binK.andI .i64 ((runB p m x.fst.toNat).at_.members / (2 : Int) ^ (nthD p.offers x.fst.toNat SId.off.dflt).bidder.toNat) (1 : Int) = (0 : Int)) = true → inR .i64 (x.fst + (1 : Int)) ∧ (((SV.ptr 1 0 2).same (SV.ptr 1 0 2) ∧ (SV.ptr 2 0 29).same (SV.ptr 2 0 29) ∧ (SV.ptr 4 0 13).same (SV.ptr 4 0 13) ∧ (SV.ptr 5 0 2).same (SV.ptr 5 0 2) ∧ (SV.si .i64 (runB p m x.fst.toNat).rest).same (SV.si .i64 (runB p m (x.fst + (1 : Int)).toNat).rest) ∧ (SV.row SId.off p.offers).same (SV.row SId.off p.offers) ∧ (SV.si .i64 (↑p.offers.length : Int)).same (SV.si .i64 (↑p.offers.length : Int)) ∧ (SV.si .i64 (x.fst + (1 : Int))).same (SV.si .i64 (x.fst + (1 : Int))) ∧ True) ∧ (SObj.cells (Prob.ss p) 27 20 false).same (SObj.cells (Prob.ss p) 27 20 false) ∧ (SObj.cells [SV.sc (Value.slice none 0 0), SV.il .i64 0] 31 2 false).same (SObj.cells [SV.sc (Value.slice none 0 0), SV.il .i64 0] 31 2 false) ∧ (SObj.cells [SV.si .i64 p.supply.a0, SV.si .i64 p.supply.a1, SV.si .i64 p.supply.a2, SV.si .i64 p.supply.a3, SV.si .i64 p.supply.a4, SV.si .i64 p.supply.a5, SV.si .i64 p.opn.a0, SV.si .i64 p.opn.a1, SV.si .i64 p.opn.a2, SV.si .i64 p.opn.a3, SV.si .i64 p.opn.a4, SV.si .i64 p.opn.a5, SV.si .i64 p.cls.a0, SV.si .i64 p.cls.a1, SV.si .i64 p.cls.a2, SV.si .i64 p.cls.a3, SV.si .i64 p.cls.a4, SV.si .i64 p.cls.a5, SV.row (SId.i .i64) p.classes, SV.row SId.off p.offers, SV.row SId.off (L8.of p).l0, SV.row SId.off (L8.of p).l1, SV.row SId.off (L8.of p).l2, SV.row SId.off (L8.of p).l3, SV.row SId.off (L8.of p).l4, SV.row SId.off (L8.of p).l5, SV.row SId.off (L8.of p).l6, SV.row SId.off (L8.of p).l7, SV.mp 3] 174 29 false).same (SObj.cells [SV.si .i64 p.supply.a0, SV.si .i64 p.supply.a1, SV.si .i64 p.supply.a2, SV.si .i64 p.supply.a3, SV.si .i64 p.supply.a4, SV.si .i64 p.supply.a5, SV.si .i64 p.opn.a0, SV.si .i64 p.opn.a1, SV.si .i64 p.opn.a2, SV.si .i64 p.opn.a3, SV.si .i64 p.opn.a4, SV.si .i64 p.opn.a5, SV.si .i64 p.cls.a0, SV.si .i64 p.cls.a1, SV.si .i64 p.cls.a2, SV.si .i64 p.cls.a3, SV.si .i64 p.cls.a4, SV.si .i64 p.cls.a5, SV.row (SId.i .i64) p.classes, SV.row SId.off p.offers, SV.row SId.off (L8.of p).l0, SV.row SId.off (L8.of p).l1, SV.row SId.off (L8.of p).l2, SV.row SId.off (L8.of p).l3, SV.row SId.off (L8.of p).l4, SV.row SId.off (L8.of p).l5, SV.row SId.off (L8.of p).l6, SV.row SId.off (L8.of p).l7, SV.mp 3] 174 29 false) ∧ (SObj.map SId.sit (SId.i .i64) true x.snd ([0, 0, 0, 0, 0, 0, 0, 0, 0, 0, 0, 0, 0], true) true).same (SObj.map SId.sit (SId.i .i64) true x.snd ([0, 0, 0, 0, 0, 0, 0, 0, 0, 0, 0, 0, 0], true) true) ∧ (SObj.cells [SV.si .i64 (runB p m x.fst.toNat).at_.members, SV.si .i64 (runB p m x.fst.toNat).at_.left.a0, SV.si .i64 (runB p m x.fst.toNat).at_.left.a1, SV.si .i64 (runB p m x.fst.toNat).at_.left.a2, SV.si .i64 (runB p m x.fst.toNat).at_.left.a3, SV.si .i64 (runB p m x.fst.toNat).at_.left.a4, SV.si .i64 (runB p m x.fst.toNat).at_.left.a5, SV.si .i64 (runB p m x.fst.toNat).at_.opn.a0, SV.si .i64 (runB p m x.fst.toNat).at_.opn.a1, SV.si .i64 (runB p m x.fst.toNat).at_.opn.a2, SV.si .i64 (runB p m x.fst.toNat).at_.opn.a3, SV.si .i64 (runB p m x.fst.toNat).at_.opn.a4, SV.si .i64 (runB p m x.fst.toNat).at_.opn.a5] 141 13 false).same (SObj.cells [SV.si .i64 (runB p m (x.fst + (1 : Int)).toNat).at_.members, SV.si .i64 (runB p m (x.fst + (1 : Int)).toNat).at_.left.a0, SV.si .i64 (runB p m (x.fst + (1 : Int)).toNat).at_.left.a1, SV.si .i64 (runB p m (x.fst + (1 : Int)).toNat).at_.left.a2, SV.si .i64 (runB p m (x.fst + (1 : Int)).toNat).at_.left.a3, SV.si .i64 (runB p m (x.fst + (1 : Int)).toNat).at_.left.a4, SV.si .i64 (runB p m (x.fst + (1 : Int)).toNat).at_.left.a5, SV.si .i64 (runB p m (x.fst + (1 : Int)).toNat).at_.opn.a0, SV.si .i64 (runB p m (x.fst + (1 : Int)).toNat).at_.opn.a1, SV.si .i64 (runB p m (x.fst + (1 : Int)).toNat).at_.opn.a2, SV.si .i64 (runB p m (x.fst + (1 : Int)).toNat).at_.opn.a3, SV.si .i64 (runB p m (x.fst + (1 : Int)).toNat).at_.opn.a4, SV.si .i64 (runB p m (x.fst + (1 : Int)).toNat).at_.opn.a5] 141 13 false) ∧ (SObj.cells [SV.ow 6 (runB p m x.fst.toNat).out.length 1, SV.si .i64 (startB p m).rest] 31 2 false).same (SObj.cells [SV.ow 6 (runB p m (x.fst + (1 : Int)).toNat).out.length 1, SV.si .i64 (startB p m).rest] 31 2 false) ∧ (SObj.row (SId.i .i64) (runB p m x.fst.toNat).out 3 false).same (SObj.row (SId.i .i64) (runB p m (x.fst + (1 : Int)).toNat).out 3 false) ∧ True) ∧ ((0 : Int) ≤ x.fst + (1 : Int) ∧ x.fst + (1 : Int) ≤ (↑p.offers.length : Int) ∧ MemoOk p x.snd) ∧ ((↑p.offers.length : Int) - (x.fst + (1 : Int))).toNat < ((↑p.offers.length : Int) - x.fst).toNat) ∧ (decide (binK.andI .i64 ((runB p m x.fst.toNat).at_.members / (2 : Int) ^ (nthD p.offers x.fst.toNat SId.off.dflt).bidder.toNat) (1 : Int) = (0 : Int)) = false → (p.classes.length ≤ 8 ∧ (0 : Int) ≤ (nthD p.offers x.fst.toNat SId.off.dflt).bidder ∧ (nthD p.offers x.fst.toNat SId.off.dflt).bidder < (↑p.classes.length : Int) ∧ (runB p m x.fst.toNat).at_.b ∧ (nthD p.offers x.fst.toNat SId.off.dflt).want.ok = true) ∧ (fitsAt p (runB p m x.fst.toNat).at_ (nthD p.offers x.fst.toNat SId.off.dflt) = true → ((Good p ∧ L8.of p = L8.of p ∧ SitOk (afterS p (runB p m x.fst.toNat).at_ (nthD p.offers x.fst.toNat SId.off.dflt)) ∧ MemoOk p x.snd) ∧ cnt (afterS p (runB p m x.fst.toNat).at_ (nthD p.offers x.fst.toNat SId.off.dflt)).members < 9) ∧ inR .i64 ((nthD p.offers x.fst.toNat SId.off.dflt).value + (bestM p (cnt (afterS p (runB p m x.fst.toNat).at_ (nthD p.offers x.fst.toNat SId.off.dflt)).members + 1) x.snd (afterS p (runB p m x.fst.toNat).at_ (nthD p.offers x.fst.toNat SId.off.dflt))).fst) ∧ (decide ((nthD p.offers x.fst.toNat SId.off.dflt).value + (bestM p (cnt (afterS p (runB p m x.fst.toNat).at_ (nthD p.offers x.fst.toNat SId.off.dflt)).members + 1) x.snd (afterS p (runB p m x.fst.toNat).at_ (nthD p.offers x.fst.toNat SId.off.dflt))).fst = (runB p m x.fst.toNat).rest) = true → 1 = 1 ∧ (runB p m x.fst.toNat).out.length = (runB p m x.fst.toNat).out.length ∧ ((runB p m x.fst.toNat).out.length + 1) * 8 ≤ 140737488355328 ∧ (runB p m x.fst.toNat).out.length + 1 ≤ 1000000000000 ∧ inR .i64 ((runB p m x.fst.toNat).rest - (nthD p.offers x.fst.toNat SId.off.dflt).value) ∧ inR .i64 (x.fst + (1 : Int)) ∧ (((SV.ptr 1 0 2).same (SV.ptr 1 0 2) ∧ (SV.ptr 2 0 29).same (SV.ptr 2 0 29) ∧ (SV.ptr 4 0 13).same (SV.ptr 4 0 13) ∧ (SV.ptr 5 0 2).same (SV.ptr 5 0 2) ∧ (SV.si .i64 ((runB p m x.fst.toNat).rest - (nthD p.offers x.fst.toNat SId.off.dflt).value)).same (SV.si .i64 (runB p m (x.fst + (1 : Int)).toNat).rest) ∧ (SV.row SId.off p.offers).same (SV.row SId.off p.offers) ∧ (SV.si .i64 (↑p.offers.length : Int)).same (SV.si .i64 (↑p.offers.length : Int)) ∧ (SV.si .i64 (x.fst + (1 : Int))).same (SV.si .i64 (x.fst + (1 : Int))) ∧ True) ∧ (SObj.cells (Prob.ss p) 27 20 false).same (SObj.cells (Prob.ss p) 27 20 false) ∧ (SObj.cells [SV.sc (Value.slice none 0 0), SV.il .i64 0] 31 2 false).same (SObj.cells [SV.sc (Value.slice none 0 0), SV.il .i64 0] 31 2 false) ∧ (SObj.cells [SV.si .i64 p.supply.a0, SV.si .i64 p.supply.a1, SV.si .i64 p.supply.a2, SV.si .i64 p.supply.a3, SV.si .i64 p.supply.a4, SV.si .i64 p.supply.a5, SV.si .i64 p.opn.a0, SV.si .i64 p.opn.a1, SV.si .i64 p.opn.a2, SV.si .i64 p.opn.a3, SV.si .i64 p.opn.a4, SV.si .i64 p.opn.a5, SV.si .i64 p.cls.a0, SV.si .i64 p.cls.a1, SV.si .i64 p.cls.a2, SV.si .i64 p.cls.a3, SV.si .i64 p.cls.a4, SV.si .i64 p.cls.a5, SV.row (SId.i .i64) p.classes, SV.row SId.off p.offers, SV.row SId.off (L8.of p).l0, SV.row SId.off (L8.of p).l1, SV.row SId.off (L8.of p).l2, SV.row SId.off (L8.of p).l3, SV.row SId.off (L8.of p).l4, SV.row SId.off (L8.of p).l5, SV.row SId.off (L8.of p).l6, SV.row SId.off (L8.of p).l7, SV.mp 3] 174 29 false).same (SObj.cells [SV.si .i64 p.supply.a0, SV.si .i64 p.supply.a1, SV.si .i64 p.supply.a2, SV.si .i64 p.supply.a3, SV.si .i64 p.supply.a4, SV.si .i64 p.supply.a5, SV.si .i64 p.opn.a0, SV.si .i64 p.opn.a1, SV.si .i64 p.opn.a2, SV.si .i64 p.opn.a3, SV.si .i64 p.opn.a4, SV.si .i64 p.opn.a5, SV.si .i64 p.cls.a0, SV.si .i64 p.cls.a1, SV.si .i64 p.cls.a2, SV.si .i64 p.cls.a3, SV.si .i64 p.cls.a4, SV.si .i64 p.cls.a5, SV.row (SId.i .i64) p.classes, SV.row SId.off p.offers, SV.row SId.off (L8.of p).l0, SV.row SId.off (L8.of p).l1, SV.row SId.off (L8.of p).l2, SV.row SId.off (L8.of p).l3, SV.row SId.off (L8.of p).l4, SV.row SId.off (L8.of p).l5, SV.row SId.off (L8.of p).l6, SV.row SId.off (L8.of p).l7, SV.mp 3] 174 29 false) ∧ (SObj.map SId.sit (SId.i .i64) true (bestM p (cnt (afterS p (runB p m x.fst.toNat).at_ (nthD p.offers x.fst.toNat SId.off.dflt)).members + 1) x.snd (afterS p (runB p m x.fst.toNat).at_ (nthD p.offers x.fst.toNat SId.off.dflt))).snd ([0, 0, 0, 0, 0, 0, 0, 0, 0, 0, 0, 0, 0], true) true).same (SObj.map SId.sit (SId.i .i64) true (bestM p (cnt (afterS p (runB p m x.fst.toNat).at_ (nthD p.offers x.fst.toNat SId.off.dflt)).members + 1) x.snd (afterS p (runB p m x.fst.toNat).at_ (nthD p.offers x.fst.toNat SId.off.dflt))).snd ([0, 0, 0, 0, 0, 0, 0, 0, 0, 0, 0, 0, 0], true) true) ∧ (SObj.cells [SV.si .i64 (afterS p (runB p m x.fst.toNat).at_ (nthD p.offers x.fst.toNat SId.off.dflt)).members, SV.si .i64 (afterS p (runB p m x.fst.toNat).at_ (nthD p.offers x.fst.toNat SId.off.dflt)).left.a0, SV.si .i64 (afterS p (runB p m x.fst.toNat).at_ (nthD p.offers x.fst.toNat SId.off.dflt)).left.a1, SV.si .i64 (afterS p (runB p m x.fst.toNat).at_ (nthD p.offers x.fst.toNat SId.off.dflt)).left.a2, SV.si .i64 (afterS p (runB p m x.fst.toNat).at_ (nthD p.offers x.fst.toNat SId.off.dflt)).left.a3, SV.si .i64 (afterS p (runB p m x.fst.toNat).at_ (nthD p.offers x.fst.toNat SId.off.dflt)).left.a4, SV.si .i64 (afterS p (runB p m x.fst.toNat).at_ (nthD p.offers x.fst.toNat SId.off.dflt)).left.a5, SV.si .i64 (afterS p (runB p m x.fst.toNat).at_ (nthD p.offers x.fst.toNat SId.off.dflt)).opn.a0, SV.si .i64 (afterS p (runB p m x.fst.toNat).at_ (nthD p.offers x.fst.toNat SId.off.dflt)).opn.a1, SV.si .i64 (afterS p (runB p m x.fst.toNat).at_ (nthD p.offers x.fst.toNat SId.off.dflt)).opn.a2, SV.si .i64 (afterS p (runB p m x.fst.toNat).at_ (nthD p.offers x.fst.toNat SId.off.dflt)).opn.a3, SV.si .i64 (afterS p (runB p m x.fst.toNat).at_ (nthD p.offers x.fst.toNat SId.off.dflt)).opn.a4, SV.si .i64 (afterS p (runB p m x.fst.toNat).at_ (nthD p.offers x.fst.toNat SId.off.dflt)).opn.a5] 141 13 false).same (SObj.cells [SV.si .i64 (runB p m (x.fst + (1 : Int)).toNat).at_.members, SV.si .i64 (runB p m (x.fst + (1 : Int)).toNat).at_.left.a0, SV.si .i64 (runB p m (x.fst + (1 : Int)).toNat).at_.left.a1, SV.si .i64 (runB p m (x.fst + (1 : Int)).toNat).at_.left.a2, SV.si .i64 (runB p m (x.fst + (1 : Int)).toNat).at_.left.a3, SV.si .i64 (runB p m (x.fst + (1 : Int)).toNat).at_.left.a4, SV.si .i64 (runB p m (x.fst + (1 : Int)).toNat).at_.left.a5, SV.si .i64 (runB p m (x.fst + (1 : Int)).toNat).at_.opn.a0, SV.si .i64 (runB p m (x.fst + (1 : Int)).toNat).at_.opn.a1, SV.si .i64 (runB p m (x.fst + (1 : Int)).toNat).at_.opn.a2, SV.si .i64 (runB p m (x.fst + (1 : Int)).toNat).at_.opn.a3, SV.si .i64 (runB p m (x.fst + (1 : Int)).toNat).at_.opn.a4, SV.si .i64 (runB p m (x.fst + (1 : Int)).toNat).at_.opn.a5] 141 13 false) ∧ (SObj.cells [SV.ow 6 ((runB p m x.fst.toNat).out ++ [x.fst]).length 1, SV.si .i64 (startB p m).rest] 31 2 false).same (SObj.cells [SV.ow 6 (runB p m (x.fst + (1 : Int)).toNat).out.length 1, SV.si .i64 (startB p m).rest] 31 2 false) ∧ (SObj.row (SId.i .i64) ((runB p m x.fst.toNat).out ++ [x.fst]) 3 false).same (SObj.row (SId.i .i64) (runB p m (x.fst + (1 : Int)).toNat).out 3 false) ∧ True) ∧ ((0 : Int) ≤ x.fst + (1 : Int) ∧ x.fst + (1 : Int) ≤ (↑p.offers.length : Int) ∧ MemoOk p (bestM p (cnt (afterS p (runB p m x.fst.toNat).at_ (nthD p.offers x.fst.toNat SId.off.dflt)).members + 1) x.snd (afterS p (runB p m x.fst.toNat).at_ (nthD p.offers x.fst.toNat SId.off.dflt))).snd) ∧ ((↑p.offers.length : Int) - (x.fst + (1 : Int))).toNat < ((↑p.offers.length : Int) - x.fst).toNat) ∧ (decide ((nthD p.offers x.fst.toNat SId.off.dflt).value + (bestM p (cnt (afterS p (runB p m x.fst.toNat).at_ (nthD p.offers x.fst.toNat SId.off.dflt)).members + 1) x.snd (afterS p (runB p m x.fst.toNat).at_ (nthD p.offers x.fst.toNat SId.off.dflt))).fst = (runB p m x.fst.toNat).rest) = false → inR .i64 (x.fst + (1 : Int)) ∧ (((SV.ptr 1 0 2).same (SV.ptr 1 0 2) ∧ (SV.ptr 2 0 29).same (SV.ptr 2 0 29) ∧ (SV.ptr 4 0 13).same (SV.ptr 4 0 13) ∧ (SV.ptr 5 0 2).same (SV.ptr 5 0 2) ∧ (SV.si .i64 (runB p m x.fst.toNat).rest).same (SV.si .i64 (runB p m (x.fst + (1 : Int)).toNat).rest) ∧ (SV.row SId.off p.offers).same (SV.row SId.off p.offers) ∧ (SV.si .i64 (↑p.offers.length : Int)).same (SV.si .i64 (↑p.offers.length : Int)) ∧ (SV.si .i64 (x.fst + (1 : Int))).same (SV.si .i64 (x.fst + (1 : Int))) ∧ True) ∧ (SObj.cells (Prob.ss p) 27 20 false).same (SObj.cells (Prob.ss p) 27 20 false) ∧ (SObj.cells [SV.sc (Value.slice none 0 0), SV.il .i64 0] 31 2 false).same (SObj.cells [SV.sc (Value.slice none 0 0), SV.il .i64 0] 31 2 false) ∧ (SObj.cells [SV.si .i64 p.supply.a0, SV.si .i64 p.supply.a1, SV.si .i64 p.supply.a2, SV.si .i64 p.supply.a3, SV.si .i64 p.supply.a4, SV.si .i64 p.supply.a5, SV.si .i64 p.opn.a0, SV.si .i64 p.opn.a1, SV.si .i64 p.opn.a2, SV.si .i64 p.opn.a3, SV.si .i64 p.opn.a4, SV.si .i64 p.opn.a5, SV.si .i64 p.cls.a0, SV.si .i64 p.cls.a1, SV.si .i64 p.cls.a2, SV.si .i64 p.cls.a3, SV.si .i64 p.cls.a4, SV.si .i64 p.cls.a5, SV.row (SId.i .i64) p.classes, SV.row SId.off p.offers, SV.row SId.off (L8.of p).l0, SV.row SId.off (L8.of p).l1, SV.row SId.off (L8.of p).l2, SV.row SId.off (L8.of p).l3, SV.row SId.off (L8.of p).l4, SV.row SId.off (L8.of p).l5, SV.row SId.off (L8.of p).l6, SV.row SId.off (L8.of p).l7, SV.mp 3] 174 29 false).same (SObj.cells [SV.si .i64 p.supply.a0, SV.si .i64 p.supply.a1, SV.si .i64 p.supply.a2, SV.si .i64 p.supply.a3, SV.si .i64 p.supply.a4, SV.si .i64 p.supply.a5, SV.si .i64 p.opn.a0, SV.si .i64 p.opn.a1, SV.si .i64 p.opn.a2, SV.si .i64 p.opn.a3, SV.si .i64 p.opn.a4, SV.si .i64 p.opn.a5, SV.si .i64 p.cls.a0, SV.si .i64 p.cls.a1, SV.si .i64 p.cls.a2, SV.si .i64 p.cls.a3, SV.si .i64 p.cls.a4, SV.si .i64 p.cls.a5, SV.row (SId.i .i64) p.classes, SV.row SId.off p.offers, SV.row SId.off (L8.of p).l0, SV.row SId.off (L8.of p).l1, SV.row SId.off (L8.of p).l2, SV.row SId.off (L8.of p).l3, SV.row SId.off (L8.of p).l4, SV.row SId.off (L8.of p).l5, SV.row SId.off (L8.of p).l6, SV.row SId.off (L8.of p).l7, SV.mp 3] 174 29 false) ∧ (SObj.map SId.sit (SId.i .i64) true (bestM p (cnt (afterS p (runB p m x.fst.toNat).at_ (nthD p.offers x.fst.toNat SId.off.dflt)).members + 1) x.snd (afterS p (runB p m x.fst.toNat).at_ (nthD p.offers x.fst.toNat SId.off.dflt))).snd ([0, 0, 0, 0, 0, 0, 0, 0, 0, 0, 0, 0, 0], true) true).same (SObj.map SId.sit (SId.i .i64) true (bestM p (cnt (afterS p (runB p m x.fst.toNat).at_ (nthD p.offers x.fst.toNat SId.off.dflt)).members + 1) x.snd (afterS p (runB p m x.fst.toNat).at_ (nthD p.offers x.fst.toNat SId.off.dflt))).snd ([0, 0, 0, 0, 0, 0, 0, 0, 0, 0, 0, 0, 0], true) true) ∧ (SObj.cells [SV.si .i64 (runB p m x.fst.toNat).at_.members, SV.si .i64 (runB p m x.fst.toNat).at_.left.a0, SV.si .i64 (runB p m x.fst.toNat).at_.left.a1, SV.si .i64 (runB p m x.fst.toNat).at_.left.a2, SV.si .i64 (runB p m x.fst.toNat).at_.left.a3, SV.si .i64 (runB p m x.fst.toNat).at_.left.a4, SV.si .i64 (runB p m x.fst.toNat).at_.left.a5, SV.si .i64 (runB p m x.fst.toNat).at_.opn.a0, SV.si .i64 (runB p m x.fst.toNat).at_.opn.a1, SV.si .i64 (runB p m x.fst.toNat).at_.opn.a2, SV.si .i64 (runB p m x.fst.toNat).at_.opn.a3, SV.si .i64 (runB p m x.fst.toNat).at_.opn.a4, SV.si .i64 (runB p m x.fst.toNat).at_.opn.a5] 141 13 false).same (SObj.cells [SV.si .i64 (runB p m (x.fst + (1 : Int)).toNat).at_.members, SV.si .i64 (runB p m (x.fst + (1 : Int)).toNat).at_.left.a0, SV.si .i64 (runB p m (x.fst + (1 : Int)).toNat).at_.left.a1, SV.si .i64 (runB p m (x.fst + (1 : Int)).toNat).at_.left.a2, SV.si .i64 (runB p m (x.fst + (1 : Int)).toNat).at_.left.a3, SV.si .i64 (runB p m (x.fst + (1 : Int)).toNat).at_.left.a4, SV.si .i64 (runB p m (x.fst + (1 : Int)).toNat).at_.left.a5, SV.si .i64 (runB p m (x.fst + (1 : Int)).toNat).at_.opn.a0, SV.si .i64 (runB p m (x.fst + (1 : Int)).toNat).at_.opn.a1, SV.si .i64 (runB p m (x.fst + (1 : Int)).toNat).at_.opn.a2, SV.si .i64 (runB p m (x.fst + (1 : Int)).toNat).at_.opn.a3, SV.si .i64 (runB p m (x.fst + (1 : Int)).toNat).at_.opn.a4, SV.si .i64 (runB p m (x.fst + (1 : Int)).toNat).at_.opn.a5] 141 13 false) ∧ (SObj.cells [SV.ow 6 (runB p m x.fst.toNat).out.length 1, SV.si .i64 (startB p m).rest] 31 2 false).same (SObj.cells [SV.ow 6 (runB p m (x.fst + (1 : Int)).toNat).out.length 1, SV.si .i64 (startB p m).rest] 31 2 false) ∧ (SObj.row (SId.i .i64) (runB p m x.fst.toNat).out 3 false).same (SObj.row (SId.i .i64) (runB p m (x.fst + (1 : Int)).toNat).out 3 false) ∧ True) ∧ ((0 : Int) ≤ x.fst + (1 : Int) ∧ x.fst + (1 : Int) ≤ (↑p.offers.length : Int) ∧ MemoOk p (bestM p (cnt (afterS p (runB p m x.fst.toNat).at_ (nthD p.offers x.fst.toNat SId.off.dflt)).members + 1) x.snd (afterS p (runB p m x.fst.toNat).at_ (nthD p.offers x.fst.toNat SId.off.dflt))).snd) ∧ ((↑p.offers.length : Int) - (x.fst + (1 : Int))).toNat < ((↑p.offers.length : Int) - x.fst).toNat)) ∧ (fitsAt p (runB p m x.fst.toNat).at_ (nthD p.offers x.fst.toNat SId.off.dflt) = false → inR .i64 (x.fst + (1 : Int)) ∧ (((SV.ptr 1 0 2).same (SV.ptr 1 0 2) ∧ (SV.ptr 2 0 29).same (SV.ptr 2 0 29) ∧ (SV.ptr 4 0 13).same (SV.ptr 4 0 13) ∧ (SV.ptr 5 0 2).same (SV.ptr 5 0 2) ∧ (SV.si .i64 (runB p m x.fst.toNat).rest).same (SV.si .i64 (runB p m (x.fst + (1 : Int)).toNat).rest) ∧ (SV.row SId.off p.offers).same (SV.row SId.off p.offers) ∧ (SV.si .i64 (↑p.offers.length : Int)).same (SV.si .i64 (↑p.offers.length : Int)) ∧ (SV.si .i64 (x.fst + (1 : Int))).same (SV.si .i64 (x.fst + (1 : Int))) ∧ True) ∧ (SObj.cells (Prob.ss p) 27 20 false).same (SObj.cells (Prob.ss p) 27 20 false) ∧ (SObj.cells [SV.sc (Value.slice none 0 0), SV.il .i64 0] 31 2 false).same (SObj.cells [SV.sc (Value.slice none 0 0), SV.il .i64 0] 31 2 false) ∧ (SObj.cells [SV.si .i64 p.supply.a0, SV.si .i64 p.supply.a1, SV.si .i64 p.supply.a2, SV.si .i64 p.supply.a3, SV.si .i64 p.supply.a4, SV.si .i64 p.supply.a5, SV.si .i64 p.opn.a0, SV.si .i64 p.opn.a1, SV.si .i64 p.opn.a2, SV.si .i64 p.opn.a3, SV.si .i64 p.opn.a4, SV.si .i64 p.opn.a5, SV.si .i64 p.cls.a0, SV.si .i64 p.cls.a1, SV.si .i64 p.cls.a2, SV.si .i64 p.cls.a3, SV.si .i64 p.cls.a4, SV.si .i64 p.cls.a5, SV.row (SId.i .i64) p.classes, SV.row SId.off p.offers, SV.row SId.off (L8.of p).l0, SV.row SId.off (L8.of p).l1, SV.row SId.off (L8.of p).l2, SV.row SId.off (L8.of p).l3, SV.row SId.off (L8.of p).l4, SV.row SId.off (L8.of p).l5, SV.row SId.off (L8.of p).l6, SV.row SId.off (L8.of p).l7, SV.mp 3] 174 29 false).same (SObj.cells [SV.si .i64 p.supply.a0, SV.si .i64 p.supply.a1, SV.si .i64 p.supply.a2, SV.si .i64 p.supply.a3, SV.si .i64 p.supply.a4, SV.si .i64 p.supply.a5, SV.si .i64 p.opn.a0, SV.si .i64 p.opn.a1, SV.si .i64 p.opn.a2, SV.si .i64 p.opn.a3, SV.si .i64 p.opn.a4, SV.si .i64 p.opn.a5, SV.si .i64 p.cls.a0, SV.si .i64 p.cls.a1, SV.si .i64 p.cls.a2, SV.si .i64 p.cls.a3, SV.si .i64 p.cls.a4, SV.si .i64 p.cls.a5, SV.row (SId.i .i64) p.classes, SV.row SId.off p.offers, SV.row SId.off (L8.of p).l0, SV.row SId.off (L8.of p).l1, SV.row SId.off (L8.of p).l2, SV.row SId.off (L8.of p).l3, SV.row SId.off (L8.of p).l4, SV.row SId.off (L8.of p).l5, SV.row SId.off (L8.of p).l6, SV.row SId.off (L8.of p).l7, SV.mp 3] 174 29 false) ∧ (SObj.map SId.sit (SId.i .i64) true x.snd ([0, 0, 0, 0, 0, 0, 0, 0, 0, 0, 0, 0, 0], true) true).same (SObj.map SId.sit (SId.i .i64) true x.snd ([0, 0, 0, 0, 0, 0, 0, 0, 0, 0, 0, 0, 0], true) true) ∧ (SObj.cells [SV.si .i64 (runB p m x.fst.toNat).at_.members, SV.si .i64 (runB p m x.fst.toNat).at_.left.a0, SV.si .i64 (runB p m x.fst.toNat).at_.left.a1, SV.si .i64 (runB p m x.fst.toNat).at_.left.a2, SV.si .i64 (runB p m x.fst.toNat).at_.left.a3, SV.si .i64 (runB p m x.fst.toNat).at_.left.a4, SV.si .i64 (runB p m x.fst.toNat).at_.left.a5, SV.si .i64 (runB p m x.fst.toNat).at_.opn.a0, SV.si .i64 (runB p m x.fst.toNat).at_.opn.a1, SV.si .i64 (runB p m x.fst.toNat).at_.opn.a2, SV.si .i64 (runB p m x.fst.toNat).at_.opn.a3, SV.si .i64 (runB p m x.fst.toNat).at_.opn.a4, SV.si .i64 (runB p m x.fst.toNat).at_.opn.a5] 141 13 false).same (SObj.cells [SV.si .i64 (runB p m (x.fst + (1 : Int)).toNat).at_.members, SV.si .i64 (runB p m (x.fst + (1 : Int)).toNat).at_.left.a0, SV.si .i64 (runB p m (x.fst + (1 : Int)).toNat).at_.left.a1, SV.si .i64 (runB p m (x.fst + (1 : Int)).toNat).at_.left.a2, SV.si .i64 (runB p m (x.fst + (1 : Int)).toNat).at_.left.a3, SV.si .i64 (runB p m (x.fst + (1 : Int)).toNat).at_.left.a4, SV.si .i64 (runB p m (x.fst + (1 : Int)).toNat).at_.left.a5, SV.si .i64 (runB p m (x.fst + (1 : Int)).toNat).at_.opn.a0, SV.si .i64 (runB p m (x.fst + (1 : Int)).toNat).at_.opn.a1, SV.si .i64 (runB p m (x.fst + (1 : Int)).toNat).at_.opn.a2, SV.si .i64 (runB p m (x.fst + (1 : Int)).toNat).at_.opn.a3, SV.si .i64 (runB p m (x.fst + (1 : Int)).toNat).at_.opn.a4, SV.si .i64 (runB p m (x.fst + (1 : Int)).toNat).at_.opn.a5] 141 13 false) ∧ (SObj.cells [SV.ow 6 (runB p m x.fst.toNat).out.length 1, SV.si .i64 (startB p m).rest] 31 2 false).same (SObj.cells [SV.ow 6 (runB p m (x.fst + (1 : Int)).toNat).out.length 1, SV.si .i64 (startB p m).rest] 31 2 false) ∧ (SObj.row (SId.i .i64) (runB p m x.fst.toNat).out 3 false).same (SObj.row (SId.i .i64) (runB p m (x.fst + (1 : Int)).toNat).out 3 false) ∧ True) ∧ ((0 : Int) ≤ x.fst + (1 : Int) ∧ x.fst + (1 : Int) ≤ (↑p.offers.length : Int) ∧ MemoOk p x.snd) ∧ ((↑p.offers.length : Int) - (x.fst + (1 : Int))).toNat < ((↑p.offers.length : Int) - x.fst).toNat))) ∧ (decide (x.fst < (↑p.offers.length : Int)) = false → (SV.tup [SV.agg [SV.ow 0 (runB p m x.fst.toNat).out.length 1, SV.si .i64 (startB p m).rest], SV.il .i64 0]).same (SV.tup [SV.agg [SV.ow 0 (bestI p m).chosen.length 1, SV.si .i64 (bestI p m).value], SV.si .i64 0]) ∧ (SObj.row (SId.i .i64) (runB p m x.fst.toNat).out 3 false).same (SObj.row (SId.i .i64) (bestI p m).chosen 3 false) ∧ True))) (by kernel_rfl) ?_
  simp only [decide_eq_true_eq, decide_eq_false_iff_not, same_il_si, same_si_si, same_si_il, same_il_il, same_sb_sb, same_bl_sb, same_row, same_tup2, same_tup3, same_nil, same_row_nil, same_rfl, osame_rfl, inR_i64, eq_self, true_and, and_true, Bool.and_eq_true, Bool.not_eq_true', Bool.not_eq_false']
  obtain ⟨hc, m0, m1⟩ := fault_zero hz
  have hg := good_of hc
  have hp := pow_n hg.1
  have h160 := hg.2.1
  have ha : SitOk ⟨m, p.supply, p.opn⟩ := ⟨m0, by simp only; omega, hg.2.2.1, hg.2.2.2.1⟩
  have hm0 : MemoOk p [] := fun e he => by simp at he
  have cn : ∀ z, cnt z < 9 := fun z => by have := @mem_len z; unfold cnt; omega
  obtain ⟨e1, e2⟩ := best_ok hg (cnt m + 1) [] ⟨m, p.supply, p.opn⟩ ha hm0 (by simp only; omega)
  have r0 : runB p m 0 = startB p m := rfl
  have hst : (startB p m).rest = bestS p ⟨m, p.supply, p.opn⟩ := rfl
  rw [r0, e1, hst]
  refine ⟨fun h => absurd hz h, fun _ => ⟨hg, ⟨⟨hg, ha, hm0⟩, cn m⟩, ⟨⟨rfl, rfl, rfl, rfl⟩, by omega, by omega, e2⟩, ?_⟩⟩
  rintro ⟨i, es⟩ ⟨i0, i1, hes⟩
  simp only at i0 i1 hes ⊢
  obtain ⟨k1, k2, k3⟩ := runB_ok hg m0 (show m < 256 by omega) i.toNat (by omega)
  refine ⟨fun hlt => ?_, fun hge => ?_⟩
  · have hsu : runB p m (i + 1).toNat = stepB p (runB p m i.toNat) i.toNat := by rw [show (i + 1).toNat = i.toNat + 1 by omega, runB_succ]
    have hx := nthD_mem (d := SId.off.dflt) (show i.toNat < p.offers.length by omega)
    unfold stepB at hsu
    simp only at hsu
    rw [show ((i.toNat : Nat) : Int) = i by omega] at hsu
    generalize nthD p.offers i.toNat SId.off.dflt = x at *
    generalize runB p m i.toNat = s at *
    have hv := hg.2.2.2.2 x hx
    have hbd := bestS_bd hg s.at_
    have h8 := hg.1
    have hbit : binK.andI .i64 (s.at_.members / 2 ^ x.bidder.toNat) 1 = bitI s.at_.members x.bidder := rfl
    rw [hbit]
    refine ⟨i0, hlt, by omega, by omega, by omega, fun hb => ?_, fun hb => ⟨⟨by omega, by omega, by omega, k1.2.2, hv.2.2.1⟩, fun hf => ?_, fun hf => ?_⟩⟩
    · rw [if_neg (fun h => h.1 hb)] at hsu
      rw [hsu]
      exact ⟨by omega, ⟨rfl, rfl, rfl, rfl⟩, ⟨by omega, by omega, hes⟩, by omega⟩
    · have haf : afterS p s.at_ x = nextAt p s.at_ x := by unfold afterS; rw [if_pos hf]
      rw [haf]
      have hn := nextOk hg k1 hx hb hf
      obtain ⟨q1, q2⟩ := best_ok hg (cnt (nextAt p s.at_ x).members + 1) es (nextAt p s.at_ x) hn hes (by omega)
      have hbn := bestS_bd hg (nextAt p s.at_ x)
      rw [q1]
      refine ⟨⟨⟨hg, hn, hes⟩, cn _⟩, ⟨by omega, by omega⟩, fun he => ?_, fun he => ?_⟩
      · rw [if_pos ⟨hb, hf, he⟩] at hsu
        rw [hsu]
        exact ⟨by omega, by omega, by omega, by omega, ⟨rfl, rfl, rfl, rfl⟩, ⟨by omega, by omega, q2⟩, by omega⟩
      · rw [if_neg (fun h => he h.2.2)] at hsu
        rw [hsu]
        exact ⟨by omega, ⟨rfl, rfl, rfl, rfl⟩, ⟨by omega, by omega, q2⟩, by omega⟩
    · rw [if_neg (fun h => by rw [hf] at h; cases h.2.1)] at hsu
      rw [hsu]
      exact ⟨by omega, ⟨rfl, rfl, rfl, rfl⟩, ⟨by omega, by omega, hes⟩, by omega⟩
  · have hb : bestI p m = ⟨(runB p m i.toNat).out, bestS p ⟨m, p.supply, p.opn⟩⟩ := by unfold bestI; rw [if_pos hz, show i.toNat = p.offers.length by omega]
    rw [hb]
    exact ⟨rfl, rfl⟩

end Go.Vi
/-
  Plain law: the best list that the search takes is the first one.
  Conditions: none.
-/
set_option maxRecDepth 100000
set_option maxHeartbeats 4000000
set_option linter.unusedSimpArgs false
set_option linter.unusedVariables false
namespace Go.Vi
open Go.Proofs

/-! ### the order of lists -/

def Beats (a b : Alloc) : Prop := b.value < a.value ∨ a.value = b.value ∧ cmpL a.chosen b.chosen < 0
/-! ### situations -/

def FitS (p : Prob) (a : Sit) (L : List Off) : Prop := FitL p (memL a.members) a.left a.opn L

theorem mem_bit {m b : Int} : b ∈ memL m ↔ (0 ≤ b ∧ b < 8) ∧ bitI m b ≠ 0 := by
  unfold memL
  rw [List.mem_filter, decide_eq_true_eq]
  constructor
  · rintro ⟨h1, h2⟩
    simp only [List.mem_cons, List.not_mem_nil, or_false] at h1
    exact ⟨by omega, h2⟩
  · rintro ⟨h1, h2⟩
    refine ⟨?_, h2⟩
    have : b = 0 ∨ b = 1 ∨ b = 2 ∨ b = 3 ∨ b = 4 ∨ b = 5 ∨ b = 6 ∨ b = 7 := by omega
    rcases this with rfl | rfl | rfl | rfl | rfl | rfl | rfl | rfl <;> simp

theorem fitS_cons {p : Prob} (hg : Good p) {a : Sit} (ha : SitOk a) {x : Off} (hx : x ∈ p.offers) (hb : bitI a.members x.bidder ≠ 0) (hf : fitsAt p a x = true) {L : List Off} (h : FitS p (nextAt p a x) L) : FitS p a (x :: L) := by
  have hv := hg.2.2.2.2 x hx
  have h8 := hg.1
  have hd := (bit_del ha.1 ha.2.1 hv.1 (by omega)).2 hb
  have hm : memL (nextAt p a x).members = (memL a.members).filter fun g => decide (g ≠ x.bidder) := hd.2.2
  obtain ⟨n1, n2, n3, n4⟩ := h
  rw [hm] at n2
  simp only [fitsAt, Bool.and_eq_true] at hf
  have w1 := Bun.le_iff.1 hf.1
  have w2 := Bun.le_iff.1 hf.2
  refine ⟨?_, fun y hy => ?_, ?_, ?_⟩
  · rw [List.map_cons, List.nodup_cons]
    refine ⟨fun hh => ?_, n1⟩
    obtain ⟨y, hy, he⟩ := List.mem_map.1 hh
    have := (List.mem_filter.1 (n2 y hy).2).2
    simp only [decide_eq_true_eq] at this
    exact this he
  · rcases List.mem_cons.1 hy with rfl | hy
    · exact ⟨hx, mem_bit.2 ⟨⟨hv.1, by omega⟩, hb⟩⟩
    · exact ⟨(n2 y hy).1, (List.mem_filter.1 (n2 y hy).2).1⟩
  · have := Bun.le_iff.1 n3
    rw [List.map_cons, sumB_cons, Bun.le_iff]
    simp only [Bun.add, Bun.sub, nextAt] at this ⊢
    omega
  · have := Bun.le_iff.1 n4
    rw [List.map_cons, sumB_cons, Bun.le_iff]
    simp only [Bun.add, Bun.sub, nextAt] at this ⊢
    omega

theorem fitS_uncons {p : Prob} (hg : Good p) {a : Sit} (ha : SitOk a) {x : Off} {L : List Off} (h : FitS p a (x :: L)) : (bitI a.members x.bidder ≠ 0 ∧ fitsAt p a x = true) ∧ FitS p (nextAt p a x) L := by
  obtain ⟨n1, n2, n3, n4⟩ := h
  have hx := n2 x (by simp)
  have hb := (mem_bit.1 hx.2)
  have hd := (bit_del ha.1 ha.2.1 hb.1.1 hb.1.2).2 hb.2
  have hm : memL (nextAt p a x).members = (memL a.members).filter fun g => decide (g ≠ x.bidder) := hd.2.2
  obtain ⟨b1, b2⟩ := fit_bd hg (L := L) fun y hy => (n2 y (by simp [hy])).1
  rw [List.map_cons, sumB_cons, Bun.le_iff] at n3 n4
  rw [List.map_cons, List.nodup_cons] at n1
  simp only [Bun.add, Bun.bd] at n3 n4 b1 b2
  refine ⟨⟨hb.2, ?_⟩, n1.2, fun y hy => ⟨(n2 y (by simp [hy])).1, ?_⟩, ?_, ?_⟩
  · simp only [fitsAt, Bool.and_eq_true, Bun.le_iff]
    omega
  · rw [hm, List.mem_filter, decide_eq_true_eq]
    exact ⟨(n2 y (by simp [hy])).2, fun e => n1.1 (e ▸ List.mem_map_of_mem hy)⟩
  · rw [Bun.le_iff]
    simp only [Bun.sub, nextAt]
    omega
  · rw [Bun.le_iff]
    simp only [Bun.sub, nextAt]
    omega

theorem fitS_perm {p : Prob} {a : Sit} {L M : List Off} (h : L.Perm M) (hL : FitS p a L) : FitS p a M :=
  ⟨((h.map _).nodup_iff).1 hL.nd, fun x hx => hL.mem x (h.mem_iff.2 hx), by rw [← perm_B (h.map _)]; exact hL.w, by rw [← perm_B (h.map _)]; exact hL.o⟩

theorem fitS_le {p : Prob} (hg : Good p) {a : Sit} {L : List Off} (h : FitS p a L) : sumV L ≤ bestS p a := fit_le hg h
theorem fitS_at {p : Prob} (hg : Good p) {a : Sit} (ha : SitOk a) : ∃ L, FitS p a L ∧ sumV L = bestS p a := by
  have q1 := Bun.ok_iff.1 ha.2.2.1
  have q2 := Bun.ok_iff.1 ha.2.2.2
  exact fit_at hg (mem_nodup _) (by rw [Bun.le_iff]; simp only [Bun.zero]; omega) (by rw [Bun.le_iff]; simp only [Bun.zero]; omega)

/-- An optimal list with an offer is a reason to accept it. -/
theorem takes {p : Prob} (hg : Good p) {a : Sit} (ha : SitOk a) {x : Off} {L : List Off} (h : FitS p a (x :: L)) (hv : x.value + sumV L = bestS p a) :
    bitI a.members x.bidder ≠ 0 ∧ fitsAt p a x = true ∧ x.value + bestS p (nextAt p a x) = bestS p a ∧ FitS p (nextAt p a x) L ∧ sumV L = bestS p (nextAt p a x) := by
  obtain ⟨⟨h1, h2⟩, h3⟩ := fitS_uncons hg ha h
  have hx := (h.mem x (by simp)).1
  have hn := nextOk hg ha hx h1 h2
  have a1 := fitS_le hg h3
  obtain ⟨M, hM, hMv⟩ := fitS_at hg hn
  have a2 := fitS_le hg (fitS_cons hg ha hx h1 h2 hM)
  simp only [sumV] at a2
  exact ⟨h1, h2, by omega, h3, by omega⟩

/-- The first 'n' offers are no part of what is left to find. -/
theorem left_out {p : Prob} (hc : checkE p = 0) {m : Int} (h0 : 0 ≤ m) (h1 : m < 256) : ∀ n, n ≤ p.offers.length → ∀ L, FitS p (runB p m n).at_ L → sumV L = (runB p m n).rest → ∀ y ∈ L, y ∉ p.offers.take n
  | 0, _, _, _, _, _, _ => by simp
  | n + 1, hn, L, hL, hv, y, hy => by
    have hg := good_of hc
    obtain ⟨k1, k2, k3⟩ := runB_ok hg h0 h1 n (by omega)
    have ih := left_out hc h0 h1 n (by omega)
    have hx := nthD_mem (d := SId.off.dflt) (show n < p.offers.length by omega)
    have htk : p.offers.take (n + 1) = p.offers.take n ++ [nthD p.offers n SId.off.dflt] := by
      have := take_nth (l := p.offers) (i := (n : Int)) (d := SId.off.dflt) (by omega) (by omega)
      simpa using this
    rw [htk]
    rw [runB_succ] at hL hv
    unfold stepB at hL hv
    simp only at hL hv
    generalize nthD p.offers n SId.off.dflt = x at *
    generalize runB p m n = s at *
    split at hL
    · rename_i hcond
      rw [if_pos hcond] at hv
      obtain ⟨c1, c2, c3⟩ := hcond
      have hcons := fitS_cons hg k1 hx c1 c2 hL
      have := ih (x :: L) hcons (by simp only [sumV] at hv ⊢; omega)
      intro hm
      rcases List.mem_append.1 hm with hm | hm
      · exact this y (by simp [hy]) hm
      · rw [List.mem_singleton] at hm
        have hnd := hcons.nd
        rw [List.map_cons, List.nodup_cons] at hnd
        exact hnd.1 (hm ▸ List.mem_map_of_mem hy)
    · rename_i hcond
      rw [if_neg hcond] at hv
      intro hm
      rcases List.mem_append.1 hm with hm | hm
      · exact ih L hL hv y hy hm
      · rw [List.mem_singleton] at hm
        subst hm
        have hperm := List.perm_cons_erase hy
        have hv2 := perm_V hperm
        simp only [sumV] at hv2
        obtain ⟨t1, t2, t3, _⟩ := takes hg k1 (fitS_perm hperm hL) (by omega)
        exact hcond ⟨t1, t2, by omega⟩

/-- What has been taken, with what is left. -/
theorem taken {p : Prob} (hg : Good p) {m : Int} (h0 : 0 ≤ m) (h1 : m < 256) : ∀ n, n ≤ p.offers.length → IncR 0 n (runB p m n).out ∧ sumV (offsI p (runB p m n).out) + (runB p m n).rest = (startB p m).rest ∧
    ∀ L, FitS p (runB p m n).at_ L → FitS p (startB p m).at_ (offsI p (runB p m n).out ++ L)
  | 0, _ => ⟨⟨by simp [runB, startB], by simp [runB, startB]⟩, by simp [runB, startB, offsI, sumV], fun L h => by simpa [runB, startB, offsI] using h⟩
  | n + 1, hn => by
    obtain ⟨k1, k2, k3⟩ := runB_ok hg h0 h1 n (by omega)
    obtain ⟨i1, i2, i3⟩ := taken hg h0 h1 n (by omega)
    have hx := nthD_mem (d := SId.off.dflt) (show n < p.offers.length by omega)
    rw [runB_succ]
    unfold stepB
    simp only
    split
    · rename_i hcond
      obtain ⟨c1, c2, c3⟩ := hcond
      have ho : offsI p ((runB p m n).out ++ [(n : Int)]) = offsI p (runB p m n).out ++ [nthD p.offers n SId.off.dflt] := by
        rw [offsI_append]
        congr 1
      refine ⟨⟨?_, fun j hj => ?_⟩, ?_, fun L hL => ?_⟩
      · rw [List.pairwise_append]
        refine ⟨i1.1, by simp, fun a ha b hb => ?_⟩
        rw [List.mem_singleton] at hb
        have := i1.2 a ha
        omega
      · rcases List.mem_append.1 hj with hj | hj
        · have := i1.2 j hj; omega
        · rw [List.mem_singleton] at hj; omega
      · simp only
        rw [ho, sumV_append]
        simp only [sumV]
        omega
      · have := i3 _ (fitS_cons hg k1 hx c1 c2 hL)
        rw [ho]
        simpa using this
    · exact ⟨⟨i1.1, fun j hj => by have := i1.2 j hj; omega⟩, i2, i3⟩

theorem rest_zero {p : Prob} (hc : checkE p = 0) {m : Int} (h0 : 0 ≤ m) (h1 : m < 256) : (runB p m p.offers.length).rest = 0 := by
  have hg := good_of hc
  obtain ⟨k1, k2, k3⟩ := runB_ok hg h0 h1 p.offers.length (Nat.le_refl _)
  obtain ⟨L, hL, hv⟩ := fitS_at hg k1
  have := left_out hc h0 h1 p.offers.length (Nat.le_refl _) L hL (by omega)
  cases L with
  | nil => rw [k2, ← hv]; rfl
  | cons x L =>
    have hx := (hL.mem x (by simp)).1
    exact absurd (by rw [List.take_length]; exact hx) (this x (by simp))

/-- The rest of the list, from the offer 'n' on; 'k' offers are left. -/
def tailB (p : Prob) : Nat → Nat → BSt → List Int
  | 0, _, _ => []
  | k + 1, n, s =>
    let x := nthD p.offers n SId.off.dflt
    if bitI s.at_.members x.bidder ≠ 0 ∧ fitsAt p s.at_ x = true ∧ x.value + bestS p (nextAt p s.at_ x) = s.rest then (n : Int) :: tailB p k (n + 1) (stepB p s n) else tailB p k (n + 1) (stepB p s n)

theorem tail_out {p : Prob} {m : Int} : ∀ {k n : Nat}, n + k = p.offers.length → (runB p m p.offers.length).out = (runB p m n).out ++ tailB p k n (runB p m n)
  | 0, n, h => by
    have : n = p.offers.length := by omega
    subst this
    simp [tailB]
  | k + 1, n, h => by
    rw [tail_out (k := k) (n := n + 1) (by omega)]
    simp only [tailB]
    rw [runB_succ]
    unfold stepB
    simp only
    split
    · rename_i hc
      simp [List.append_assoc]
    · rfl

theorem first_one {p : Prob} (hc : checkE p = 0) {m : Int} (h0 : 0 ≤ m) (h1 : m < 256) : ∀ {k n : Nat}, n + k = p.offers.length → ∀ t : List Int, IncR n k t → FitS p (runB p m n).at_ (offsI p t) → sumV (offsI p t) = (runB p m n).rest →
    ¬ cmpL t (tailB p k n (runB p m n)) < 0
  | 0, n, h, t, ht, _, _ => by
    cases t with
    | nil => simp [tailB, cmpL]
    | cons j t =>
      have := ht.2 j (by simp)
      omega
  | k + 1, n, h, t, ht, hF, hv => by
    have hg := good_of hc
    obtain ⟨k1, k2, k3⟩ := runB_ok hg h0 h1 n (by omega)
    have hx := nthD_mem (d := SId.off.dflt) (show n < p.offers.length by omega)
    have hxv := hg.2.2.2.2 _ hx
    have hs := @runB_succ p m n
    simp only [tailB]
    rw [← hs]
    by_cases hcond : bitI (runB p m n).at_.members (nthD p.offers n SId.off.dflt).bidder ≠ 0 ∧ fitsAt p (runB p m n).at_ (nthD p.offers n SId.off.dflt) = true ∧ (nthD p.offers n SId.off.dflt).value + bestS p (nextAt p (runB p m n).at_ (nthD p.offers n SId.off.dflt)) = (runB p m n).rest
    · rw [if_pos hcond]
      have hb0 := (bestS_bd hg (nextAt p (runB p m n).at_ (nthD p.offers n SId.off.dflt))).1
      cases t with
      | nil =>
        simp only [offsI, List.map_nil, sumV] at hv
        omega
      | cons j t =>
        have hj := ht.2 j (by simp)
        have hp := List.pairwise_cons.1 ht.1
        by_cases hjn : j = n
        · subst hjn
          have hst : runB p m (n + 1) = ⟨nextAt p (runB p m n).at_ (nthD p.offers n SId.off.dflt), (runB p m n).rest - (nthD p.offers n SId.off.dflt).value, (runB p m n).out ++ [(n : Int)]⟩ := by
            rw [hs]; unfold stepB; simp only; rw [if_pos hcond]
          rw [offsI_cons, Int.toNat_natCast] at hF hv
          simp only [sumV] at hv
          have hun := (fitS_uncons hg k1 hF).2
          have := first_one hc h0 h1 (k := k) (n := n + 1) (by omega) t ⟨hp.2, fun i hi => by have a := hp.1 i hi; have b := ht.2 i (by simp [hi]); omega⟩ (by rw [hst]; exact hun) (by rw [hst]; simp only; omega)
          simp only [cmpL]
          rw [if_neg (Int.lt_irrefl _), if_neg (Int.lt_irrefl _)]
          exact this
        · simp only [cmpL]
          rw [if_neg (by omega), if_pos (by omega)]
          omega
    · rw [if_neg hcond]
      have hst : runB p m (n + 1) = runB p m n := by rw [hs]; unfold stepB; simp only; rw [if_neg hcond]
      refine first_one hc h0 h1 (k := k) (n := n + 1) (by omega) t ⟨ht.1, fun i hi => ?_⟩ (by rw [hst]; exact hF) (by rw [hst]; exact hv)
      have b := ht.2 i hi
      have : i ≠ n := by
        rintro rfl
        cases t with
        | nil => simp at hi
        | cons j t =>
          have hj := ht.2 j (by simp)
          have hp := List.pairwise_cons.1 ht.1
          have hjn : j = n := by
            rcases List.mem_cons.1 hi with h | h
            · exact h.symm
            · have := hp.1 _ h; omega
          subst hjn
          rw [offsI_cons, Int.toNat_natCast] at hF hv
          simp only [sumV] at hv
          obtain ⟨t1, t2, t3, _⟩ := takes hg k1 hF (by omega)
          exact hcond ⟨t1, t2, by omega⟩
      omega

end Go.Vi
/-
  Plain law: rivals and pivotal bidders.
  Conditions: none.
-/
set_option maxRecDepth 100000
set_option maxHeartbeats 4000000
set_option linter.unusedSimpArgs false
set_option linter.unusedVariables false
namespace Go.Vi
open Go.Proofs

theorem all_bd {p : Prob} (hg : Good p) : (0 ≤ allM p ∧ allM p < 2 ^ p.classes.length) ∧ allM p < 256 := by
  have := pow_n hg.1
  unfold allM
  omega

/-- The best list, and that it is the first one. -/
theorem best_list {p : Prob} (hc : checkE p = 0) : (bestI p (allM p)).value = topS p ∧ FeasI p (bestI p (allM p)).chosen ∧ sumV (offsI p (bestI p (allM p)).chosen) = topS p ∧
    ∀ t, FeasI p t → ¬ Beats ⟨t, sumV (offsI p t)⟩ (bestI p (allM p)) := by
  have hg := good_of hc
  obtain ⟨⟨m0, m1⟩, m2⟩ := all_bd hg
  have hf : faultE p (allM p) = 0 := by unfold faultE; rw [if_neg (by simp [hc]), if_neg (by omega)]
  have hb : bestI p (allM p) = ⟨(runB p (allM p) p.offers.length).out, bestS p ⟨allM p, p.supply, p.opn⟩⟩ := by unfold bestI; rw [if_pos hf]
  have htop : topS p = bestS p ⟨allM p, p.supply, p.opn⟩ := by unfold topS worthS; rw [if_pos hf]
  obtain ⟨i1, i2, i3⟩ := taken hg m0 m2 p.offers.length (Nat.le_refl _)
  obtain ⟨k1, k2, k3⟩ := runB_ok hg m0 m2 p.offers.length (Nat.le_refl _)
  have hz := rest_zero hc m0 m2
  have hst : (startB p (allM p)).rest = bestS p ⟨allM p, p.supply, p.opn⟩ := rfl
  have q1 := Bun.ok_iff.1 k1.2.2.1
  have q2 := Bun.ok_iff.1 k1.2.2.2
  have hnil : FitS p (runB p (allM p) p.offers.length).at_ [] := ⟨by simp, by simp, by rw [Bun.le_iff]; simp [sumB]; omega, by rw [Bun.le_iff]; simp [sumB]; omega⟩
  have hall := i3 [] hnil
  rw [List.append_nil] at hall
  have hout := @tail_out p (allM p) p.offers.length 0 (by omega)
  have h00 : (runB p (allM p) 0).out = [] := rfl
  rw [h00, List.nil_append] at hout
  have hF : FeasI p (runB p (allM p) p.offers.length).out := ⟨i1, hall.nd, hall.w, hall.o⟩
  have hV : sumV (offsI p (runB p (allM p) p.offers.length).out) = topS p := by omega
  rw [hb]
  refine ⟨htop.symm, hF, hV, fun t ht => ?_⟩
  have hfit : FitS p (startB p (allM p)).at_ (offsI p t) := ⟨ht.2.1, fun x hx => by
    have hm := offs_ok hg (inc_idx ht.1) x hx
    have hv := hg.2.2.2.2 x hm
    exact ⟨hm, mem_all hg hv.1 hv.2.1⟩, ht.2.2.1, ht.2.2.2⟩
  have hle := fitS_le hg hfit
  rintro (h | ⟨h1, h2⟩)
  · have h : bestS p ⟨allM p, p.supply, p.opn⟩ < sumV (offsI p t) := h
    have hle : sumV (offsI p t) ≤ bestS p ⟨allM p, p.supply, p.opn⟩ := hle
    omega
  · have h1 : sumV (offsI p t) = bestS p ⟨allM p, p.supply, p.opn⟩ := h1
    have h2 : cmpL t (runB p (allM p) p.offers.length).out < 0 := h2
    rw [hout] at h2
    exact first_one hc m0 m2 (k := p.offers.length) (n := 0) (by omega) t (by simpa using ht.1) hfit h1 h2

/-! ### shifting -/

def phi (k j : Int) : Int := if k ≤ j then j + 1 else j
def rivS (p : Prob) (k : Int) : Alloc := if markE p k = 0 then ⟨(bestI (delO p k) (allM p)).chosen.map (phi k), (bestI (delO p k) (allM p)).value⟩ else ⟨[], 0⟩

/-! ### pivotal bidders -/

end Go.Vi
/-
  Contracts: pivotal bidders.
  Conditions: none.
-/
set_option maxRecDepth 100000
set_option maxHeartbeats 4000000
set_option linter.unusedSimpArgs false
set_option linter.unusedVariables false
namespace Go.Vi
open Go.Proofs.Ytigbjjkijfkeeaa.Ir
open Go.Proofs

def pivS (p : Prob) (b : Int) : Bool := if checkE p ≠ 0 then false else if b < 0 ∨ (p.classes.length : Int) ≤ b then false else decide (worthS p (delI (allM p) b) < topS p)
def pivE (p : Prob) (b : Int) : Int := if checkE p ≠ 0 then checkE p else if b < 0 ∨ (p.classes.length : Int) ≤ b then 6 else 0
def r33 : SCtr := ⟨33, Prob × Int, .cons codP (.one (codI .i64)), fun _ => True, fun a => .tup [.sb (pivS a.1 a.2), .si .i64 (pivE a.1 a.2)]⟩
theorem h33 : Holds Try.prog r33 := by
  refine con (L := [r79, r76, r80, r81]) r33 F33 (fun _ _ => .look) (OwnOK.none _) (by simpa using ⟨h79, h76, h80, h81⟩) (by kernel_rfl) (by kernel_rfl) (fun _ => rfl) ?_
  rintro ⟨p, b⟩ _
  refine vcOf (True ∧ (decide (checkE p ≠ (0 : Int)) = true → (SV.tup [SV.bl false, SV.si .i64 (checkE p)]).same (SV.tup [SV.sb (pivS p b), SV.si .i64 (pivE p b)])) ∧ (decide (checkE p ≠ (0 : Int)) = false → (decide (b < (0 : Int)) = true → (SV.tup [SV.bl false, SV.il .i64 6]).same (SV.tup [SV.sb (pivS p b), SV.si .i64 (pivE p b)])) ∧ (decide (b < (0 : Int)) = false → (decide ((↑p.classes.length : Int) ≤ b) = true → (SV.tup [SV.bl false, SV.il .i64 6]).same (SV.tup [SV.sb (pivS p b), SV.si .i64 (pivE p b)])) ∧ (decide ((↑p.classes.length : Int) ≤ b) = false → p.classes.length ≤ 8 ∧ (0 : Int) ≤ b ∧ b ≤ (64 : Int) ∧ inR .i64 ((1 : Int) * (2 : Int) ^ b.toNat) ∧ True ∧ (decide (faultE p (binK.andNotI .i64 (allM p) ((1 : Int) * (2 : Int) ^ b.toNat)) = (0 : Int)) = true → p.classes.length ≤ 8 ∧ (SV.tup [SV.sb (decide (worthS p (binK.andNotI .i64 (allM p) ((1 : Int) * (2 : Int) ^ b.toNat)) < topS p)), SV.si .i64 (faultE p (binK.andNotI .i64 (allM p) ((1 : Int) * (2 : Int) ^ b.toNat)))]).same (SV.tup [SV.sb (pivS p b), SV.si .i64 (pivE p b)])) ∧ (decide (faultE p (binK.andNotI .i64 (allM p) ((1 : Int) * (2 : Int) ^ b.toNat)) = (0 : Int)) = false → (SV.tup [SV.bl false, SV.si .i64 (faultE p (binK.andNotI .i64 (allM p) ((1 : Int) * (2 : Int) ^ b.toNat)))]).same (SV.tup [SV.sb (pivS p b), SV.si .i64 (pivE p b)])))))) (by kernel_rfl) ?_
  simp only [decide_eq_true_eq, decide_eq_false_iff_not, same_il_si, same_si_si, same_si_il, same_il_il, same_sb_sb, same_bl_sb, same_row, same_tup2, same_tup3, same_nil, same_row_nil, same_rfl, osame_rfl, inR_i64, eq_self, true_and, and_true, Bool.and_eq_true, Bool.not_eq_true', Bool.not_eq_false']
  refine ⟨fun h => by simp [pivS, pivE, h], fun h => ⟨fun hb => by simp [pivS, pivE, h, hb], fun hb => ⟨fun hn => by simp [pivS, pivE, h, hn], fun hn => ?_⟩⟩⟩
  have hc : checkE p = 0 := Classical.not_not.1 h
  have hg := good_of hc
  have h8 := hg.1
  have hd : binK.andNotI .i64 (allM p) (1 * 2 ^ b.toNat) = delI (allM p) b := by rw [Int.one_mul]; rfl
  obtain ⟨d0, d1⟩ := del_bd hg (show 0 ≤ b by omega) (show b < p.classes.length by omega)
  have hf : faultE p (delI (allM p) b) = 0 := by unfold faultE; rw [if_neg (by simp [hc]), if_neg (by omega)]
  have h2 : (2 : Int) ^ b.toNat ≤ 2 ^ 8 := by
    have := Nat.pow_le_pow_right (n := 2) (by decide) (show b.toNat ≤ 8 by omega)
    exact_mod_cast this
  have h3 : (0 : Int) < 2 ^ b.toNat := by exact_mod_cast Nat.two_pow_pos b.toNat
  rw [hd]
  refine ⟨by omega, by omega, by omega, by omega, fun hz => ⟨by omega, ?_⟩, fun hz => absurd hf hz⟩
  rw [hf]
  unfold pivS pivE
  rw [if_neg (by simp [hc]), if_neg (by omega), if_neg (by simp [hc]), if_neg (by omega)]
  exact ⟨rfl, rfl⟩

def r28 : SCtr := ⟨28, Prob, .one codP, fun _ => True, fun p => .sb (decide (p.classes.length ≤ 8 ∧ p.offers.length ≤ 9))⟩
theorem h28 : Holds Try.prog r28 := by
  refine con (L := []) r28 F28 (fun _ _ => .look) (OwnOK.none _) (by simp) (by kernel_rfl) (by kernel_rfl) (fun _ => rfl) ?_
  intro (p : Prob) _
  refine vcOf ((decide ((↑p.classes.length : Int) ≤ (8 : Int)) = true → (SV.sb (decide ((↑p.offers.length : Int) ≤ (9 : Int)))).same (SV.sb (decide (p.classes.length ≤ 8 ∧ p.offers.length ≤ 9)))) ∧ (decide ((↑p.classes.length : Int) ≤ (8 : Int)) = false → (SV.bl false).same (SV.sb (decide (p.classes.length ≤ 8 ∧ p.offers.length ≤ 9))))) (by kernel_rfl) ?_
  simp only [decide_eq_true_eq, decide_eq_false_iff_not, same_il_si, same_si_si, same_si_il, same_il_il, same_sb_sb, same_bl_sb, same_row, same_tup2, same_tup3, same_nil, same_row_nil, same_rfl, osame_rfl, inR_i64, eq_self, true_and, and_true, Bool.and_eq_true, Bool.not_eq_true', Bool.not_eq_false']
  refine ⟨fun h => ?_, fun h => ?_⟩
  · rw [decide_eq_decide]; omega
  · symm
    rw [decide_eq_false_iff_not]; omega
end Go.Vi
/-
  Contracts: the best task without an offer.
  Conditions: none.
-/
set_option maxRecDepth 100000
set_option maxHeartbeats 4000000
set_option linter.unusedSimpArgs false
set_option linter.unusedVariables false
namespace Go.Vi
open Go.Proofs.Ytigbjjkijfkeeaa.Ir
open Go.Proofs

def r30 : SCtr := ⟨30, Prob × Int, .cons codP (.one (codI .i64)), fun _ => True, fun a => .tup [codA.put (rivS a.1 a.2), .si .i64 (markE a.1 a.2)]⟩
def b30 (a : Prob × Int) : Alloc := bestI (delO a.1 a.2) (allM (delO a.1 a.2))
def l30 (a : Prob × Int) (i : Nat) : List Int := ((b30 a).chosen.take i).map (phi a.2) ++ (b30 a).chosen.drop i
def Λ30 (a : Prob × Int) : Nat → LoopAnn
  | 9 => .inv Int (fun i => ⟨[(1, .si .i64 a.2), (4, .ptr 1 0 2), (8, .ptr 3 0 2), (36, .ow 4 (l30 a i.toNat).length 1), (37, .si .i64 (b30 a).chosen.length), (38, .si .i64 i)],
      [.cells a.1.ss 27 20 false, .cells [.sc (.slice none 0 0), .il .i64 0] 31 2 false, .cells (delO a.1 a.2).ss 101 20 false, .cells [.ow 4 (l30 a i.toNat).length 1, .si .i64 (b30 a).value] 31 2 false, .row (.i .i64) (l30 a i.toNat) 3 false]⟩) (fun s => iS s 38)
    (fun i => 0 ≤ i ∧ i ≤ (b30 a).chosen.length) (fun i => ((b30 a).chosen.length - i).toNat) fun _ _ => .look
  | _ => .look
theorem l30_len {a : Prob × Int} {i : Nat} : (l30 a i).length = (b30 a).chosen.length := by simp [l30]; omega
theorem l30_zero {a : Prob × Int} : l30 a 0 = (b30 a).chosen := by simp [l30]
theorem l30_all {a : Prob × Int} {i : Nat} (h : i = (b30 a).chosen.length) : l30 a i = (b30 a).chosen.map (phi a.2) := by subst h; simp [l30]
theorem set_mid {α : Type} {a b : List α} {x y : α} : (a ++ x :: b).set a.length y = a ++ y :: b := by simp
theorem set_self {l : List Int} {i : Nat} (h : i < l.length) : l.set i (nthD l i 0) = l := by rw [nthD_eq h]; exact List.set_getElem_self h
theorem l30_nth {a : Prob × Int} {i : Nat} (h : i < (b30 a).chosen.length) : nthD (l30 a i) i 0 = nthD (b30 a).chosen i 0 ∧
    l30 a (i + 1) = (l30 a i).set i (phi a.2 (nthD (b30 a).chosen i 0)) := by
  unfold l30 nthD
  generalize (b30 a).chosen = c at *
  have hl : ((c.take i).map (phi a.2)).length = i := by simp; omega
  have hd : c.drop i = c[i] :: c.drop (i + 1) := List.drop_eq_getElem_cons h
  refine ⟨?_, ?_⟩
  · rw [List.getElem?_append_right (by omega), hl, hd]
    simp [h]
  · rw [hd]
    have h2 := set_mid (a := (c.take i).map (phi a.2)) (b := c.drop (i + 1)) (x := c[i]) (y := phi a.2 (c[i]?.getD 0))
    rw [hl] at h2
    rw [h2, List.take_succ_eq_append_getElem h, List.map_append]
    simp [h]
theorem h30 : Holds Try.prog r30 := by
  refine con (L := [r73, r74, r76]) (W := ownT [r75]) r30 F30 Λ30 (ownT_ok (by simpa using h75)) (by simpa using ⟨h73, h74, h76⟩) (by kernel_rfl) (by kernel_rfl) (fun _ => rfl) ?_
  rintro ⟨p, k⟩ _
  refine vcOf (True ∧ (decide (markE p k ≠ (0 : Int)) = true → (SV.tup [SV.agg [SV.row (SId.i .i64) [], SV.il .i64 0], SV.si .i64 (markE p k)]).same (SV.tup [SV.agg [SV.row (SId.i .i64) (rivS p k).chosen, SV.si .i64 (rivS p k).value], SV.si .i64 (markE p k)])) ∧ (decide (markE p k ≠ (0 : Int)) = false → (p.offers.length ≤ 160 ∧ (0 : Int) ≤ k ∧ k < (↑p.offers.length : Int)) ∧ (delO p k).classes.length ≤ 8 ∧ faultE (delO p k) (allM (delO p k)) = (0 : Int) ∧ (false = true → (SV.tup [SV.agg [SV.row (SId.i .i64) [], SV.il .i64 0], SV.si .i64 0]).same (SV.tup [SV.agg [SV.row (SId.i .i64) (rivS p k).chosen, SV.si .i64 (rivS p k).value], SV.si .i64 (markE p k)])) ∧ (false = false → ((((SV.si .i64 k).same (SV.si .i64 k) ∧ (SV.ptr 1 0 2).same (SV.ptr 1 0 2) ∧ (SV.ptr 3 0 2).same (SV.ptr 3 0 2) ∧ (SV.ow 4 (bestI (delO p k) (allM (delO p k))).chosen.length 1).same (SV.ow 4 (l30 (p, k) 0).length 1) ∧ (SV.si .i64 (↑(bestI (delO p k) (allM (delO p k))).chosen.length : Int)).same (SV.si .i64 (↑(b30 (p, k)).chosen.length : Int)) ∧ (SV.il .i64 0).same (SV.si .i64 0) ∧ True) ∧ (SObj.cells (Prob.ss p) 27 20 false).same (SObj.cells (Prob.ss p) 27 20 false) ∧ (SObj.cells [SV.sc (Value.slice none 0 0), SV.il .i64 0] 31 2 false).same (SObj.cells [SV.sc (Value.slice none 0 0), SV.il .i64 0] 31 2 false) ∧ (SObj.cells (Prob.ss (delO p k)) 101 20 false).same (SObj.cells (Prob.ss (delO p k)) 101 20 false) ∧ (SObj.cells [SV.ow 4 (bestI (delO p k) (allM (delO p k))).chosen.length 1, SV.si .i64 (bestI (delO p k) (allM (delO p k))).value] 31 2 false).same (SObj.cells [SV.ow 4 (l30 (p, k) 0).length 1, SV.si .i64 (b30 (p, k)).value] 31 2 false) ∧ (SObj.row (SId.i .i64) (bestI (delO p k) (allM (delO p k))).chosen 3 false).same (SObj.row (SId.i .i64) (l30 (p, k) 0) 3 false) ∧ True) ∧ (0 : Int) ≤ (0 : Int) ∧ (0 : Int) ≤ (↑(b30 (p, k)).chosen.length : Int)) ∧ ∀ (x : Int), (0 : Int) ≤ x ∧ x ≤ (↑(b30 (p, k)).chosen.length : Int) → (decide (x < (↑(b30 (p, k)).chosen.length : Int)) = true → (l30 (p, k) x.toNat).length = (l30 (p, k) x.toNat).length ∧ (0 : Int) ≤ x ∧ x < (↑(l30 (p, k) x.toNat).length : Int) ∧ (l30 (p, k) x.toNat).length = (l30 (p, k) x.toNat).length ∧ x.toNat < (l30 (p, k) x.toNat).length ∧ (decide (k ≤ nthD (l30 (p, k) x.toNat) x.toNat (0 : Int)) = true → inR .i64 (nthD (l30 (p, k) x.toNat) x.toNat (0 : Int) + (1 : Int)) ∧ (l30 (p, k) x.toNat).length = (l30 (p, k) x.toNat).length ∧ (0 : Int) ≤ x ∧ x < (↑(l30 (p, k) x.toNat).length : Int) ∧ (l30 (p, k) x.toNat).length = (l30 (p, k) x.toNat).length ∧ x.toNat < (l30 (p, k) x.toNat).length ∧ inR .i64 (x + (1 : Int)) ∧ (((SV.si .i64 k).same (SV.si .i64 k) ∧ (SV.ptr 1 0 2).same (SV.ptr 1 0 2) ∧ (SV.ptr 3 0 2).same (SV.ptr 3 0 2) ∧ (SV.ow 4 (l30 (p, k) x.toNat).length 1).same (SV.ow 4 (l30 (p, k) (x + (1 : Int)).toNat).length 1) ∧ (SV.si .i64 (↑(b30 (p, k)).chosen.length : Int)).same (SV.si .i64 (↑(b30 (p, k)).chosen.length : Int)) ∧ (SV.si .i64 (x + (1 : Int))).same (SV.si .i64 (x + (1 : Int))) ∧ True) ∧ (SObj.cells (Prob.ss p) 27 20 false).same (SObj.cells (Prob.ss p) 27 20 false) ∧ (SObj.cells [SV.sc (Value.slice none 0 0), SV.il .i64 0] 31 2 false).same (SObj.cells [SV.sc (Value.slice none 0 0), SV.il .i64 0] 31 2 false) ∧ (SObj.cells (Prob.ss (delO p k)) 101 20 false).same (SObj.cells (Prob.ss (delO p k)) 101 20 false) ∧ (SObj.cells [SV.ow 4 (l30 (p, k) x.toNat).length 1, SV.si .i64 (b30 (p, k)).value] 31 2 false).same (SObj.cells [SV.ow 4 (l30 (p, k) (x + (1 : Int)).toNat).length 1, SV.si .i64 (b30 (p, k)).value] 31 2 false) ∧ (SObj.row (SId.i .i64) ((l30 (p, k) x.toNat).set x.toNat (nthD (l30 (p, k) x.toNat) x.toNat (0 : Int) + (1 : Int))) 3 false).same (SObj.row (SId.i .i64) (l30 (p, k) (x + (1 : Int)).toNat) 3 false) ∧ True) ∧ ((0 : Int) ≤ x + (1 : Int) ∧ x + (1 : Int) ≤ (↑(b30 (p, k)).chosen.length : Int)) ∧ ((↑(b30 (p, k)).chosen.length : Int) - (x + (1 : Int))).toNat < ((↑(b30 (p, k)).chosen.length : Int) - x).toNat) ∧ (decide (k ≤ nthD (l30 (p, k) x.toNat) x.toNat (0 : Int)) = false → inR .i64 (x + (1 : Int)) ∧ (((SV.si .i64 k).same (SV.si .i64 k) ∧ (SV.ptr 1 0 2).same (SV.ptr 1 0 2) ∧ (SV.ptr 3 0 2).same (SV.ptr 3 0 2) ∧ (SV.ow 4 (l30 (p, k) x.toNat).length 1).same (SV.ow 4 (l30 (p, k) (x + (1 : Int)).toNat).length 1) ∧ (SV.si .i64 (↑(b30 (p, k)).chosen.length : Int)).same (SV.si .i64 (↑(b30 (p, k)).chosen.length : Int)) ∧ (SV.si .i64 (x + (1 : Int))).same (SV.si .i64 (x + (1 : Int))) ∧ True) ∧ (SObj.cells (Prob.ss p) 27 20 false).same (SObj.cells (Prob.ss p) 27 20 false) ∧ (SObj.cells [SV.sc (Value.slice none 0 0), SV.il .i64 0] 31 2 false).same (SObj.cells [SV.sc (Value.slice none 0 0), SV.il .i64 0] 31 2 false) ∧ (SObj.cells (Prob.ss (delO p k)) 101 20 false).same (SObj.cells (Prob.ss (delO p k)) 101 20 false) ∧ (SObj.cells [SV.ow 4 (l30 (p, k) x.toNat).length 1, SV.si .i64 (b30 (p, k)).value] 31 2 false).same (SObj.cells [SV.ow 4 (l30 (p, k) (x + (1 : Int)).toNat).length 1, SV.si .i64 (b30 (p, k)).value] 31 2 false) ∧ (SObj.row (SId.i .i64) (l30 (p, k) x.toNat) 3 false).same (SObj.row (SId.i .i64) (l30 (p, k) (x + (1 : Int)).toNat) 3 false) ∧ True) ∧ ((0 : Int) ≤ x + (1 : Int) ∧ x + (1 : Int) ≤ (↑(b30 (p, k)).chosen.length : Int)) ∧ ((↑(b30 (p, k)).chosen.length : Int) - (x + (1 : Int))).toNat < ((↑(b30 (p, k)).chosen.length : Int) - x).toNat)) ∧ (decide (x < (↑(b30 (p, k)).chosen.length : Int)) = false → (l30 (p, k) x.toNat).length = (l30 (p, k) x.toNat).length ∧ (SV.tup [SV.agg [SV.row (SId.i .i64) (l30 (p, k) x.toNat), SV.si .i64 (b30 (p, k)).value], SV.il .i64 0]).same (SV.tup [SV.agg [SV.row (SId.i .i64) (rivS p k).chosen, SV.si .i64 (rivS p k).value], SV.si .i64 (markE p k)]))))) (by kernel_rfl) ?_
  simp only [decide_eq_true_eq, decide_eq_false_iff_not, same_il_si, same_si_si, same_si_il, same_il_il, same_sb_sb, same_bl_sb, same_row, same_tup2, same_tup3, same_nil, same_row_nil, same_rfl, osame_rfl, inR_i64, eq_self, true_and, and_true, Bool.and_eq_true, Bool.not_eq_true', Bool.not_eq_false']
  have zal : ∀ {a : Alloc}, a = ⟨[], 0⟩ → (SV.agg [.row (.i .i64) [], .il .i64 0]).same (SV.agg [.row (.i .i64) a.chosen, .si .i64 a.value]) := by rintro _ rfl; rfl
  refine ⟨fun h => zal (by unfold rivS; rw [if_neg h]), fun h => ?_⟩
  have hz : markE p k = 0 := Classical.not_not.1 h
  obtain ⟨hc, k0, k1⟩ := mark_zero hz
  have hg := good_of hc
  have h160 := hg.2.1
  have h8 := hg.1
  have hcq := del_check hc k0 k1
  have hgq := good_of hcq
  obtain ⟨⟨m0, m1⟩, m2⟩ := all_bd hgq
  have hf : faultE (delO p k) (allM (delO p k)) = 0 := by unfold faultE; rw [if_neg (by simp [hcq]), if_neg (by omega)]
  obtain ⟨b1, b2, b3, b4⟩ := best_list hcq
  have hlen := lists_len hcq ((lists_mem hcq).2 b2)
  have hb : bestI (delO p k) (allM (delO p k)) = b30 (p, k) := rfl
  rw [hb] at b1 b2 b3 b4 hlen ⊢
  have hq160 := hgq.2.1
  have hcong : ∀ {a b : Nat} {v : Int}, a = b → (SObj.cells [.ow 4 a 1, .si .i64 v] 31 2 false).same (SObj.cells [.ow 4 b 1, .si .i64 v] 31 2 false) := by rintro _ _ _ rfl; rfl
  have hrow : ∀ {a b : List Int}, a = b → (SObj.row (.i .i64) a 3 false).same (SObj.row (.i .i64) b 3 false) := by rintro _ _ rfl; rfl
  have how : ∀ {a b : Nat}, a = b → (SV.ow 4 a 1).same (SV.ow 4 b 1) := by rintro _ _ rfl; rfl
  refine ⟨⟨h160, k0, k1⟩, hgq.1, hf, fun h => absurd h (by decide), fun _ => ⟨⟨⟨⟨how l30_len.symm, rfl⟩, hcong l30_len.symm, hrow l30_zero.symm⟩, by omega, by omega⟩, ?_⟩⟩
  rintro i ⟨i0, i1⟩
  refine ⟨fun ilt => ?_, fun ige => ?_⟩
  · obtain ⟨n1, n2⟩ := l30_nth (a := (p, k)) (i := i.toNat) (by omega)
    have hm := b2.1.2 _ (nthD_mem (d := (0 : Int)) (show i.toNat < (b30 (p, k)).chosen.length by omega))
    have hl := @l30_len (p, k) i.toNat
    have hl2 := @l30_len (p, k) (i + 1).toNat
    rw [show i.toNat + 1 = (i + 1).toNat by omega] at n2
    rw [n1]
    generalize nthD (b30 (p, k)).chosen i.toNat 0 = x at *
    refine ⟨i0, by omega, by omega, fun hx => ⟨by omega, i0, by omega, by omega, by omega, ⟨how (by omega), hcong (by omega), hrow ?_⟩, by omega, by omega⟩, fun hx => ⟨by omega, ⟨how (by omega), hcong (by omega), hrow ?_⟩, by omega, by omega⟩⟩
    · rw [n2]; unfold phi; rw [if_pos hx]
    · rw [n2]; unfold phi; rw [if_neg hx, ← n1, set_self (by omega)]
  · have hi : i.toNat = (b30 (p, k)).chosen.length := by omega
    rw [l30_all hi, hz]
    unfold rivS
    rw [if_pos hz]
    exact ⟨rfl, rfl⟩
end Go.Vi
/-
  Contracts: the statements about the pivotal bidders and the rival tasks.
  Conditions: none.
-/
set_option maxRecDepth 100000
set_option maxHeartbeats 4000000
set_option linter.unusedSimpArgs false
set_option linter.unusedVariables false
namespace Go.Vi
open Go.Proofs.Ytigbjjkijfkeeaa.Ir
open Go.Proofs

def r72 : SCtr := ⟨72, Unit, .nil, fun _ => True, fun _ => codP.put three⟩
theorem h72 : Holds Try.prog r72 := by
  refine con (L := []) r72 F72 (fun _ _ => .look) (OwnOK.none _) (by simp) (by kernel_rfl) (by kernel_rfl) (fun _ => rfl) ?_
  intro _ _
  refine vcOf ((SV.agg [SV.il .i64 1, SV.il .i64 1, SV.il .i64 0, SV.il .i64 0, SV.il .i64 0, SV.il .i64 0, SV.il .i64 1, SV.il .i64 1, SV.il .i64 0, SV.il .i64 0, SV.il .i64 0, SV.il .i64 0, SV.il .i64 0, SV.il .i64 0, SV.il .i64 0, SV.il .i64 0, SV.il .i64 0, SV.il .i64 0, SV.row (SId.i .i64) [(0 : Int), (0 : Int), (0 : Int)], SV.row SId.off [Off.mk (0 : Int) (Bun.mk (1 : Int) (1 : Int) (0 : Int) (0 : Int) (0 : Int) (0 : Int)) (10 : Int), Off.mk (1 : Int) (Bun.mk (1 : Int) (0 : Int) (0 : Int) (0 : Int) (0 : Int) (0 : Int)) (6 : Int), Off.mk (2 : Int) (Bun.mk (0 : Int) (1 : Int) (0 : Int) (0 : Int) (0 : Int) (0 : Int)) (6 : Int)]]).same (SV.agg (Prob.ss three))) (by kernel_rfl) ?_
  rfl

def Q6 : List SCtr := [r72, r37, r30, r33, r32]
theorem hQ6 : ∀ c ∈ Q6, Holds Try.prog c := by
  simp only [Q6, List.forall_mem_cons, List.not_mem_nil, false_implies, implies_true, and_true]
  exact ⟨h72, h37, h30, h33, h32⟩

def r29 : SCtr := ⟨29, Unit, .nil, fun _ => True, fun _ => .sb true⟩
theorem h29 : Holds Try.prog r29 := by
  refine con (L := Q6) r29 F29 (fun _ _ => .look) (OwnOK.none _) hQ6 (by kernel_rfl) (by kernel_rfl) (fun _ => rfl) ?_
  intro _ _
  refine vcOf (True ∧ True ∧ True ∧ True ∧ True ∧ True ∧ True ∧ True ∧ (true = true → (true = true → (0 : Int) ≤ (0 : Int) ∧ (0 : Int) < (3 : Int) ∧ 0 < (marsS three).length ∧ (true = true → (0 : Int) ≤ (1 : Int) ∧ (1 : Int) < (3 : Int) ∧ 1 < (marsS three).length ∧ (true = true → (0 : Int) ≤ (2 : Int) ∧ (2 : Int) < (3 : Int) ∧ 2 < (marsS three).length ∧ (true = true → (true = true → (true = true → ((rivS three (0 : Int)).chosen.length ≤ 1000000000000 ∧ 2 ≤ 1000000000000) ∧ (true = true → (true = true → ((!pivS three (0 : Int)) = true → (true = true → (SV.sb (pivS three (1 : Int))).same (SV.sb true)) ∧ (true = false → (SV.bl false).same (SV.sb true))) ∧ ((!pivS three (0 : Int)) = false → (SV.bl false).same (SV.sb true))) ∧ (true = false → (SV.bl false).same (SV.sb true))) ∧ (true = false → (SV.bl false).same (SV.sb true))) ∧ (true = false → (SV.bl false).same (SV.sb true))) ∧ (true = false → (SV.bl false).same (SV.sb true))) ∧ (true = false → (SV.bl false).same (SV.sb true))) ∧ (true = false → (SV.bl false).same (SV.sb true))) ∧ (true = false → (SV.bl false).same (SV.sb true))) ∧ (true = false → (SV.bl false).same (SV.sb true))) ∧ (true = false → (SV.bl false).same (SV.sb true))) (by kernel_rfl) ?_
  simp only [decide_eq_true_eq, decide_eq_false_iff_not, same_il_si, same_si_si, same_si_il, same_il_il, same_sb_sb, same_bl_sb, same_row, same_tup2, same_tup3, same_nil, same_row_nil, same_rfl, osame_rfl, inR_i64, eq_self, true_and, and_true, Bool.and_eq_true, Bool.not_eq_true', Bool.not_eq_false']
  have e1 : marsS three = [12, 4, 4] := by kernel_rfl
  have e2 : rivS three 0 = ⟨[1, 2], 12⟩ := by kernel_rfl
  have e3 : checkE three = 0 := by kernel_rfl
  have e4 : markE three 0 = 0 := by kernel_rfl
  have e5 : pivS three 0 = false := by kernel_rfl
  have e6 : pivS three 1 = true := by kernel_rfl
  have e7 : pivE three 0 = 0 := by kernel_rfl
  have e8 : pivE three 1 = 0 := by kernel_rfl
  simp [e1, e2, e3, e4, e5, e6, e7, e8]

theorem mar_nonneg {p : Prob} {k : Int} (hc : checkE p = 0) (h0 : 0 ≤ k) (h1 : k < p.offers.length) : 0 ≤ marS p k := by
  have hn := offers_nodup hc
  have hq := after_check hc h0 h1
  have hd := del_check hc h0 h1
  have hg := good_of hc
  have hx : nthD p.offers k.toNat SId.off.dflt ∈ p.offers := nthD_mem (by omega)
  have hqo : ∀ y, y ∈ (afterP p k).offers ↔ y ∈ p.offers ∧ y.bidder ≠ (nthD p.offers k.toNat SId.off.dflt).bidder ∧ aloneB (restP p (nthD p.offers k.toNat SId.off.dflt)) y = true := fun y => by
    show y ∈ restT p (nthD p.offers k.toNat SId.off.dflt) p.offers.length ↔ _
    unfold restT
    rw [List.take_length, List.mem_filter, Bool.and_eq_true, decide_eq_true_eq]
  obtain ⟨L, hL, hm, hv⟩ := worth_hit hq
  have hv : sumV L = topS (afterP p k) := hv
  have hmp := fun y (hy : y ∈ L) => (hqo y).1 (hm y hy)
  have hFp := (rest_feas hc hx (fun y hy => ⟨(hmp y hy).1, (hmp y hy).2.1⟩) (l := restT p (nthD p.offers k.toNat SId.off.dflt) p.offers.length)).1 hL
  have hFL : FeasL p L := feas_pre hg (M := [nthD p.offers k.toNat SId.off.dflt]) (by simpa using hx) (perm_F (List.perm_append_comm (l₁ := [nthD p.offers k.toNat SId.off.dflt]) (l₂ := L)) hFp)
  have hw := worth_top hd (p := delO p k) (L := L) hFL fun y hy => (del_mem hn h0 h1).2 ⟨(hmp y hy).1, fun e => (hmp y hy).2.1 (by rw [e])⟩
  change _ ≤ topS (delO p k) at hw
  unfold marS
  omega

def r9 : SCtr := ⟨9, Prob × Int, .cons codP (.one (codI .i64)), fun _ => True, fun _ => .sb true⟩
def Λ9 (a : Prob × Int) : Nat → LoopAnn
  | 13 => .inv Int (fun i => ⟨[(2, .ptr 0 0 20), (9, .row (.i .i64) (marsS a.1)), (11, .si .i64 i)], [.cells a.1.ss 27 20 false]⟩) (fun s => iS s 11)
    (fun i => 0 ≤ i ∧ i ≤ (marsS a.1).length) (fun i => ((marsS a.1).length - i).toNat) fun _ _ => .look
  | _ => .look
theorem h9 : Holds Try.prog r9 := by
  refine con (L := [r28, r35, r36, r37, r24, r29]) r9 F9 Λ9 (OwnOK.none _) (by simpa using ⟨h28, h35, h36, h37, h24, h29⟩) (by kernel_rfl) (by kernel_rfl) (fun _ => rfl) ?_
  rintro ⟨p, k⟩ _
  refine vcOf (True ∧ ((!decide (p.classes.length ≤ 8 ∧ p.offers.length ≤ 9)) = true → True ∧ (SV.sb true).same (SV.sb true)) ∧ ((!decide (p.classes.length ≤ 8 ∧ p.offers.length ≤ 9)) = false → True ∧ p.offers.length ≤ 9 ∧ True ∧ (decide ((if markE p k = (0 : Int) then marS p k else (0 : Int)) ≠ if markE p k = (0 : Int) then marR p k else (0 : Int)) = true → (SV.bl false).same (SV.sb true)) ∧ (decide ((if markE p k = (0 : Int) then marS p k else (0 : Int)) ≠ if markE p k = (0 : Int) then marR p k else (0 : Int)) = false → (decide (markE p k ≠ markE p k) = true → (SV.bl false).same (SV.sb true)) ∧ (decide (markE p k ≠ markE p k) = false → True ∧ (decide (checkE p ≠ checkE p) = true → (SV.bl false).same (SV.sb true)) ∧ (decide (checkE p ≠ checkE p) = false → (decide (checkE p ≠ (0 : Int)) = true → (decide ((↑(marsS p).length : Int) = (0 : Int)) = true → True ∧ (SV.sb true).same (SV.sb true)) ∧ (decide ((↑(marsS p).length : Int) = (0 : Int)) = false → (SV.bl false).same (SV.sb true))) ∧ (decide (checkE p ≠ (0 : Int)) = false → (decide ((↑(marsS p).length : Int) ≠ (↑p.offers.length : Int)) = true → (SV.bl false).same (SV.sb true)) ∧ (decide ((↑(marsS p).length : Int) ≠ (↑p.offers.length : Int)) = false → ((((SV.ptr 0 0 20).same (SV.ptr 0 0 20) ∧ (SV.row (SId.i .i64) (marsS p)).same (SV.row (SId.i .i64) (marsS p)) ∧ (SV.il .i64 0).same (SV.si .i64 0) ∧ True) ∧ (SObj.cells (Prob.ss p) 27 20 false).same (SObj.cells (Prob.ss p) 27 20 false) ∧ True) ∧ (0 : Int) ≤ (0 : Int) ∧ (0 : Int) ≤ (↑(marsS p).length : Int)) ∧ ∀ (x : Int), (0 : Int) ≤ x ∧ x ≤ (↑(marsS p).length : Int) → (decide (x < (↑(marsS p).length : Int)) = true → p.offers.length ≤ 9 ∧ (0 : Int) ≤ x ∧ x < (↑(marsS p).length : Int) ∧ x.toNat < (marsS p).length ∧ (decide (nthD (marsS p) x.toNat (0 : Int) ≠ if markE p x = (0 : Int) then marR p x else (0 : Int)) = true → (SV.bl false).same (SV.sb true)) ∧ (decide (nthD (marsS p) x.toNat (0 : Int) ≠ if markE p x = (0 : Int) then marR p x else (0 : Int)) = false → (decide ((if markE p x = (0 : Int) then marR p x else (0 : Int)) < (0 : Int)) = true → (SV.bl false).same (SV.sb true)) ∧ (decide ((if markE p x = (0 : Int) then marR p x else (0 : Int)) < (0 : Int)) = false → inR .i64 (x + (1 : Int)) ∧ (((SV.ptr 0 0 20).same (SV.ptr 0 0 20) ∧ (SV.row (SId.i .i64) (marsS p)).same (SV.row (SId.i .i64) (marsS p)) ∧ (SV.si .i64 (x + (1 : Int))).same (SV.si .i64 (x + (1 : Int))) ∧ True) ∧ (SObj.cells (Prob.ss p) 27 20 false).same (SObj.cells (Prob.ss p) 27 20 false) ∧ True) ∧ ((0 : Int) ≤ x + (1 : Int) ∧ x + (1 : Int) ≤ (↑(marsS p).length : Int)) ∧ ((↑(marsS p).length : Int) - (x + (1 : Int))).toNat < ((↑(marsS p).length : Int) - x).toNat))) ∧ (decide (x < (↑(marsS p).length : Int)) = false → True ∧ (SV.sb true).same (SV.sb true))))))))) (by kernel_rfl) ?_
  simp only [decide_eq_true_eq, decide_eq_false_iff_not, same_il_si, same_si_si, same_si_il, same_il_il, same_sb_sb, same_bl_sb, same_row, same_tup2, same_tup3, same_nil, same_row_nil, same_rfl, osame_rfl, inR_i64, eq_self, true_and, and_true, Bool.and_eq_true, Bool.not_eq_true', Bool.not_eq_false']
  have hs : (if markE p k = 0 then marS p k else 0) = if markE p k = 0 then marR p k else 0 := by
    split
    · rename_i hz
      obtain ⟨hc, k0, k1⟩ := mark_zero hz
      exact mar_eq hc k0 k1
    · rfl
  refine ⟨fun _ => trivial, fun hl => ⟨hl.2, fun h => absurd hs h, fun _ => ⟨fun h => absurd rfl h, fun _ => ⟨fun h => absurd rfl h, fun _ => ⟨fun hz => ⟨fun _ => trivial, fun h => absurd ?_ h⟩, fun hz => ?_⟩⟩⟩⟩⟩
  · unfold marsS
    rw [if_neg hz]
    rfl
  have hc : checkE p = 0 := Classical.not_not.1 hz
  have hm : marsS p = marL p p.offers.length := by unfold marsS; rw [if_pos hc]
  have hml : (marsS p).length = p.offers.length := by rw [hm, marL_len]
  refine ⟨fun h => absurd (by omega) h, fun _ => ⟨⟨by omega, by omega⟩, ?_⟩⟩
  rintro i ⟨i0, i1⟩
  refine ⟨fun ilt => ?_, fun _ => trivial⟩
  have hn : nthD (marsS p) i.toNat 0 = marS p i := by
    rw [hm]
    unfold marL nthD
    rw [List.getElem?_map, List.getElem?_range (by omega)]
    simp only [Option.map_some, Option.getD_some, show ((i.toNat : Nat) : Int) = i by omega]
  have hz2 : markE p i = 0 := by unfold markE; rw [if_neg (by simp [hc]), if_neg (by omega)]
  have hme := mar_eq hc i0 (show i < p.offers.length by omega)
  have hnn := mar_nonneg hc i0 (show i < p.offers.length by omega)
  rw [hn, if_pos hz2, ← hme]
  exact ⟨hl.2, i0, ilt, by omega, fun h => absurd rfl h, fun _ => ⟨fun h => by omega, fun _ => ⟨by omega, by omega, by omega⟩⟩⟩
end Go.Vi

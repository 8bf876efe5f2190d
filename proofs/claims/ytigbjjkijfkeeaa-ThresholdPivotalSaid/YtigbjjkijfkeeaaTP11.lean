/-
  Contracts: the reference's margins and rivals.
  Conditions: none.
-/
import Derived.Test.YtigbjjkijfkeeaaTP09
import Derived.Test.YtigbjjkijfkeeaaTP10
set_option linter.unusedVariables false
set_option linter.unusedSimpArgs false
set_option maxRecDepth 100000
set_option maxHeartbeats 4000000
set_option linter.unusedSimpArgs false
set_option linter.unusedVariables false
namespace Go.Vi
open Go.Proofs.Ytigbjjkijfkeeaa.Ir
open Go.Proofs

def r78 : SCtr := ⟨78, List Int × Int, .cons (codR (.i .i64)) (.one (codI .i64)), fun a => a.1.length ≤ 1000000000000, fun a => .sb (decide (a.2 ∈ a.1))⟩
def Λ78 (a : List Int × Int) : Nat → LoopAnn
  | 2 => .inv Int (fun i => ⟨[(0, .row (.i .i64) a.1), (1, .si .i64 a.2), (5, .si .i64 i)], []⟩) (fun s => iS s 5) (fun i => 0 ≤ i ∧ i ≤ a.1.length ∧ a.2 ∉ a.1.take i.toNat) (fun i => (a.1.length - i).toNat) fun _ _ => .look
  | _ => .look
theorem h78 : Holds Try.prog r78 := by
  refine con (L := []) r78 F78 Λ78 (OwnOK.none _) (by simp) (by kernel_rfl) (by kernel_rfl) (fun _ => rfl) ?_
  rintro ⟨l, k⟩ (hl : l.length ≤ 1000000000000)
  refine vcOf (((((SV.row (SId.i .i64) l).same (SV.row (SId.i .i64) l) ∧ (SV.si .i64 k).same (SV.si .i64 k) ∧ (SV.il .i64 0).same (SV.si .i64 0) ∧ True) ∧ True) ∧ (0 : Int) ≤ (0 : Int) ∧ (0 : Int) ≤ (↑l.length : Int) ∧ (k ∈ [] → False)) ∧ ∀ (x : Int), (0 : Int) ≤ x ∧ x ≤ (↑l.length : Int) ∧ (k ∈ List.take x.toNat l → False) → (decide (x < (↑l.length : Int)) = true → (0 : Int) ≤ x ∧ x < (↑l.length : Int) ∧ x.toNat < l.length ∧ (decide (nthD l x.toNat (0 : Int) = k) = true → (SV.bl true).same (SV.sb (decide (k ∈ l)))) ∧ (decide (nthD l x.toNat (0 : Int) = k) = false → inR .i64 (x + (1 : Int)) ∧ (((SV.row (SId.i .i64) l).same (SV.row (SId.i .i64) l) ∧ (SV.si .i64 k).same (SV.si .i64 k) ∧ (SV.si .i64 (x + (1 : Int))).same (SV.si .i64 (x + (1 : Int))) ∧ True) ∧ True) ∧ ((0 : Int) ≤ x + (1 : Int) ∧ x + (1 : Int) ≤ (↑l.length : Int) ∧ (k ∈ List.take (x + (1 : Int)).toNat l → False)) ∧ ((↑l.length : Int) - (x + (1 : Int))).toNat < ((↑l.length : Int) - x).toNat)) ∧ (decide (x < (↑l.length : Int)) = false → (SV.bl false).same (SV.sb (decide (k ∈ l))))) (by kernel_rfl) ?_
  simp only [decide_eq_true_eq, decide_eq_false_iff_not, same_il_si, same_si_si, same_si_il, same_il_il, same_sb_sb, same_bl_sb, same_row, same_tup2, same_tup3, same_nil, same_row_nil, same_rfl, osame_rfl, inR_i64, eq_self, true_and, and_true, Bool.and_eq_true, Bool.not_eq_true', Bool.not_eq_false']
  refine ⟨⟨by omega, by omega, by simp⟩, ?_⟩
  rintro i ⟨i0, i1, hi⟩
  refine ⟨fun hlt => ⟨i0, hlt, by omega, fun he => ?_, fun he => ⟨by omega, ⟨by omega, by omega, ?_⟩, by omega⟩⟩, fun hge => ?_⟩
  · have : k ∈ l := he ▸ nthD_mem (show i.toNat < l.length by omega)
    simp [this]
  · rw [take_nth (d := 0) i0 hlt]
    intro hm
    rcases List.mem_append.1 hm with hm | hm
    · exact hi hm
    · rw [List.mem_singleton] at hm
      exact he hm.symm
  · rw [show i.toNat = l.length by omega, List.take_length] at hi
    symm
    exact decide_eq_false hi

theorem val_bd (p : Prob) (c : List Int) : 0 ≤ valueS p c ∧ valueS p c ≤ 160000000 := by
  unfold valueS
  split
  · rename_i h
    obtain ⟨h1, h2⟩ := picks_ok (c := c) h
    have := sum_val_bd (good_of h) h2
    omega
  · omega
theorem lists_len {p : Prob} (hc : checkE p = 0) {l : List Int} (h : l ∈ listsR p) : l.length ≤ 160 := (feas_ok ((feas_iff hc).2 ((lists_mem hc).1 h))).2.2.2.1
theorem fold_take {α β : Type} {f : β → α → β} {s : β} {l : List α} {i : Int} {d : α} (h0 : 0 ≤ i) (h : i < l.length) : (l.take (i + 1).toNat).foldl f s = f ((l.take i.toNat).foldl f s) (nthD l i.toNat d) := by
  rw [take_nth (d := d) h0 h, List.foldl_append]
  rfl

def Q5 : List SCtr := r78 :: r77 :: r24 :: r58 :: r32 :: []
theorem hQ5 : ∀ c ∈ Q5, Holds Try.prog c := by
  simp only [Q5, List.forall_mem_cons, List.not_mem_nil, false_implies, implies_true, and_true]
  exact ⟨h78, h77, h24, h58, h32⟩

def rivF (p : Prob) (k : Int) (b : Alloc) (l : List Int) : Alloc := if k ∈ l then b else better ⟨l, valueS p l⟩ b
def rivR (p : Prob) (k : Int) : Alloc := (listsR p).foldl (rivF p k) ⟨[], 0⟩
def riv1 (p : Prob) (k : Int) (i : Int) : Alloc := ((listsR p).take i.toNat).foldl (rivF p k) ⟨[], 0⟩
def rivA (p : Prob) (k : Int) : Alloc := if markE p k = 0 then rivR p k else ⟨[], 0⟩
def r31 : SCtr := ⟨31, Prob × Int, .cons codP (.one (codI .i64)), fun a => a.1.offers.length ≤ 9, fun a => .tup [codA.put (rivA a.1 a.2), .si .i64 (markE a.1 a.2)]⟩
def Λ31 (a : Prob × Int) : Nat → LoopAnn
  | 9 => .inv Int (fun i => ⟨[(1, .si .i64 a.2), (2, .ptr 0 0 20), (4, .ptr 1 0 2), (7, .ptr 2 0 2), (8, .row (.lst (.i .i64)) (listsR a.1)), (9, .si .i64 i)], [.cells a.1.ss 27 20 false, .cells [.sc (.slice none 0 0), .il .i64 0] 31 2 false, .cells [.row (.i .i64) (riv1 a.1 a.2 i).chosen, .si .i64 (riv1 a.1 a.2 i).value] 31 2 true]⟩) (fun s => iS s 9)
    (fun i => 0 ≤ i ∧ i ≤ (listsR a.1).length) (fun i => ((listsR a.1).length - i).toNat) fun _ _ => .look
  | _ => .look
theorem h31 : Holds Try.prog r31 := by
  refine con (L := Q5) r31 F31 Λ31 (OwnOK.none _) hQ5 (by kernel_rfl) (by kernel_rfl) (fun _ => rfl) ?_
  rintro ⟨p, k⟩ (h9 : p.offers.length ≤ 9)
  refine vcOf (True ∧ (decide (checkE p ≠ (0 : Int)) = true → (SV.tup [SV.agg [SV.row (SId.i .i64) [], SV.il .i64 0], SV.si .i64 (checkE p)]).same (SV.tup [SV.agg [SV.row (SId.i .i64) (rivA p k).chosen, SV.si .i64 (rivA p k).value], SV.si .i64 (markE p k)])) ∧ (decide (checkE p ≠ (0 : Int)) = false → (decide (k < (0 : Int)) = true → (SV.tup [SV.agg [SV.row (SId.i .i64) [], SV.il .i64 0], SV.il .i64 4]).same (SV.tup [SV.agg [SV.row (SId.i .i64) (rivA p k).chosen, SV.si .i64 (rivA p k).value], SV.si .i64 (markE p k)])) ∧ (decide (k < (0 : Int)) = false → (decide ((↑p.offers.length : Int) ≤ k) = true → (SV.tup [SV.agg [SV.row (SId.i .i64) [], SV.il .i64 0], SV.il .i64 4]).same (SV.tup [SV.agg [SV.row (SId.i .i64) (rivA p k).chosen, SV.si .i64 (rivA p k).value], SV.si .i64 (markE p k)])) ∧ (decide ((↑p.offers.length : Int) ≤ k) = false → p.offers.length ≤ 9 ∧ ((((SV.si .i64 k).same (SV.si .i64 k) ∧ (SV.ptr 0 0 20).same (SV.ptr 0 0 20) ∧ (SV.ptr 1 0 2).same (SV.ptr 1 0 2) ∧ (SV.ptr 2 0 2).same (SV.ptr 2 0 2) ∧ (SV.row (SId.i .i64).lst (listsR p)).same (SV.row (SId.i .i64).lst (listsR p)) ∧ (SV.il .i64 0).same (SV.si .i64 0) ∧ True) ∧ (SObj.cells (Prob.ss p) 27 20 false).same (SObj.cells (Prob.ss p) 27 20 false) ∧ (SObj.cells [SV.sc (Value.slice none 0 0), SV.il .i64 0] 31 2 false).same (SObj.cells [SV.sc (Value.slice none 0 0), SV.il .i64 0] 31 2 false) ∧ (SObj.cells [SV.row (SId.i .i64) [], SV.il .i64 0] 31 2 true).same (SObj.cells [SV.row (SId.i .i64) (riv1 p k (0 : Int)).chosen, SV.si .i64 (riv1 p k (0 : Int)).value] 31 2 true) ∧ True) ∧ (0 : Int) ≤ (0 : Int) ∧ (0 : Int) ≤ (↑(listsR p).length : Int)) ∧ ∀ (x : Int), (0 : Int) ≤ x ∧ x ≤ (↑(listsR p).length : Int) → (decide (x < (↑(listsR p).length : Int)) = true → (0 : Int) ≤ x ∧ x < (↑(listsR p).length : Int) ∧ x.toNat < (listsR p).length ∧ (nthD (listsR p) x.toNat (SId.i .i64).lst.dflt).length ≤ 1000000000000 ∧ (0 : Int) ≤ x ∧ x < (↑(listsR p).length : Int) ∧ x.toNat < (listsR p).length ∧ (nthD (listsR p) x.toNat (SId.i .i64).lst.dflt).length ≤ 1000000000000 ∧ (decide (k ∈ nthD (listsR p) x.toNat (SId.i .i64).lst.dflt) = true → inR .i64 (x + (1 : Int)) ∧ (((SV.si .i64 k).same (SV.si .i64 k) ∧ (SV.ptr 0 0 20).same (SV.ptr 0 0 20) ∧ (SV.ptr 1 0 2).same (SV.ptr 1 0 2) ∧ (SV.ptr 2 0 2).same (SV.ptr 2 0 2) ∧ (SV.row (SId.i .i64).lst (listsR p)).same (SV.row (SId.i .i64).lst (listsR p)) ∧ (SV.si .i64 (x + (1 : Int))).same (SV.si .i64 (x + (1 : Int))) ∧ True) ∧ (SObj.cells (Prob.ss p) 27 20 false).same (SObj.cells (Prob.ss p) 27 20 false) ∧ (SObj.cells [SV.sc (Value.slice none 0 0), SV.il .i64 0] 31 2 false).same (SObj.cells [SV.sc (Value.slice none 0 0), SV.il .i64 0] 31 2 false) ∧ (SObj.cells [SV.row (SId.i .i64) (riv1 p k x).chosen, SV.si .i64 (riv1 p k x).value] 31 2 true).same (SObj.cells [SV.row (SId.i .i64) (riv1 p k (x + (1 : Int))).chosen, SV.si .i64 (riv1 p k (x + (1 : Int))).value] 31 2 true) ∧ True) ∧ ((0 : Int) ≤ x + (1 : Int) ∧ x + (1 : Int) ≤ (↑(listsR p).length : Int)) ∧ ((↑(listsR p).length : Int) - (x + (1 : Int))).toNat < ((↑(listsR p).length : Int) - x).toNat) ∧ (decide (k ∈ nthD (listsR p) x.toNat (SId.i .i64).lst.dflt) = false → (decide ((riv1 p k x).value < valueS p (nthD (listsR p) x.toNat (SId.i .i64).lst.dflt)) = true → (0 : Int) ≤ x ∧ x < (↑(listsR p).length : Int) ∧ x.toNat < (listsR p).length ∧ inR .i64 (x + (1 : Int)) ∧ (((SV.si .i64 k).same (SV.si .i64 k) ∧ (SV.ptr 0 0 20).same (SV.ptr 0 0 20) ∧ (SV.ptr 1 0 2).same (SV.ptr 1 0 2) ∧ (SV.ptr 2 0 2).same (SV.ptr 2 0 2) ∧ (SV.row (SId.i .i64).lst (listsR p)).same (SV.row (SId.i .i64).lst (listsR p)) ∧ (SV.si .i64 (x + (1 : Int))).same (SV.si .i64 (x + (1 : Int))) ∧ True) ∧ (SObj.cells (Prob.ss p) 27 20 false).same (SObj.cells (Prob.ss p) 27 20 false) ∧ (SObj.cells [SV.sc (Value.slice none 0 0), SV.il .i64 0] 31 2 false).same (SObj.cells [SV.sc (Value.slice none 0 0), SV.il .i64 0] 31 2 false) ∧ (SObj.cells [SV.row (SId.i .i64) (nthD (listsR p) x.toNat (SId.i .i64).lst.dflt), SV.si .i64 (valueS p (nthD (listsR p) x.toNat (SId.i .i64).lst.dflt))] 31 2 true).same (SObj.cells [SV.row (SId.i .i64) (riv1 p k (x + (1 : Int))).chosen, SV.si .i64 (riv1 p k (x + (1 : Int))).value] 31 2 true) ∧ True) ∧ ((0 : Int) ≤ x + (1 : Int) ∧ x + (1 : Int) ≤ (↑(listsR p).length : Int)) ∧ ((↑(listsR p).length : Int) - (x + (1 : Int))).toNat < ((↑(listsR p).length : Int) - x).toNat) ∧ (decide ((riv1 p k x).value < valueS p (nthD (listsR p) x.toNat (SId.i .i64).lst.dflt)) = false → (decide (valueS p (nthD (listsR p) x.toNat (SId.i .i64).lst.dflt) = (riv1 p k x).value) = true → (0 : Int) ≤ x ∧ x < (↑(listsR p).length : Int) ∧ x.toNat < (listsR p).length ∧ ((nthD (listsR p) x.toNat (SId.i .i64).lst.dflt).length ≤ 1000000000000 ∧ (riv1 p k x).chosen.length ≤ 1000000000000) ∧ (decide (cmpL (nthD (listsR p) x.toNat (SId.i .i64).lst.dflt) (riv1 p k x).chosen < (0 : Int)) = true → (0 : Int) ≤ x ∧ x < (↑(listsR p).length : Int) ∧ x.toNat < (listsR p).length ∧ inR .i64 (x + (1 : Int)) ∧ (((SV.si .i64 k).same (SV.si .i64 k) ∧ (SV.ptr 0 0 20).same (SV.ptr 0 0 20) ∧ (SV.ptr 1 0 2).same (SV.ptr 1 0 2) ∧ (SV.ptr 2 0 2).same (SV.ptr 2 0 2) ∧ (SV.row (SId.i .i64).lst (listsR p)).same (SV.row (SId.i .i64).lst (listsR p)) ∧ (SV.si .i64 (x + (1 : Int))).same (SV.si .i64 (x + (1 : Int))) ∧ True) ∧ (SObj.cells (Prob.ss p) 27 20 false).same (SObj.cells (Prob.ss p) 27 20 false) ∧ (SObj.cells [SV.sc (Value.slice none 0 0), SV.il .i64 0] 31 2 false).same (SObj.cells [SV.sc (Value.slice none 0 0), SV.il .i64 0] 31 2 false) ∧ (SObj.cells [SV.row (SId.i .i64) (nthD (listsR p) x.toNat (SId.i .i64).lst.dflt), SV.si .i64 (valueS p (nthD (listsR p) x.toNat (SId.i .i64).lst.dflt))] 31 2 true).same (SObj.cells [SV.row (SId.i .i64) (riv1 p k (x + (1 : Int))).chosen, SV.si .i64 (riv1 p k (x + (1 : Int))).value] 31 2 true) ∧ True) ∧ ((0 : Int) ≤ x + (1 : Int) ∧ x + (1 : Int) ≤ (↑(listsR p).length : Int)) ∧ ((↑(listsR p).length : Int) - (x + (1 : Int))).toNat < ((↑(listsR p).length : Int) - x).toNat) ∧ (decide (cmpL (nthD (listsR p) x.toNat (SId.i .i64).lst.dflt) (riv1 p k x).chosen < (0 : Int)) = false → inR .i64 (x + (1 : Int)) ∧ (((SV.si .i64 k).same (SV.si .i64 k) ∧ (SV.ptr 0 0 20).same (SV.ptr 0 0 20) ∧ (SV.ptr 1 0 2).same (SV.ptr 1 0 2) ∧ (SV.ptr 2 0 2).same (SV.ptr 2 0 2) ∧ (SV.row (SId.i .i64).lst (listsR p)).same (SV.row (SId.i .i64).lst (listsR p)) ∧ (SV.si .i64 (x + (1 : Int))).same (SV.si .i64 (x + (1 : Int))) ∧ True) ∧ (SObj.cells (Prob.ss p) 27 20 false).same (SObj.cells (Prob.ss p) 27 20 false) ∧ (SObj.cells [SV.sc (Value.slice none 0 0), SV.il .i64 0] 31 2 false).same (SObj.cells [SV.sc (Value.slice none 0 0), SV.il .i64 0] 31 2 false) ∧ (SObj.cells [SV.row (SId.i .i64) (riv1 p k x).chosen, SV.si .i64 (riv1 p k x).value] 31 2 true).same (SObj.cells [SV.row (SId.i .i64) (riv1 p k (x + (1 : Int))).chosen, SV.si .i64 (riv1 p k (x + (1 : Int))).value] 31 2 true) ∧ True) ∧ ((0 : Int) ≤ x + (1 : Int) ∧ x + (1 : Int) ≤ (↑(listsR p).length : Int)) ∧ ((↑(listsR p).length : Int) - (x + (1 : Int))).toNat < ((↑(listsR p).length : Int) - x).toNat)) ∧ (decide (valueS p (nthD (listsR p) x.toNat (SId.i .i64).lst.dflt) = (riv1 p k x).value) = false → inR .i64 (x + (1 : Int)) ∧ (((SV.si .i64 k).same (SV.si .i64 k) ∧ (SV.ptr 0 0 20).same (SV.ptr 0 0 20) ∧ (SV.ptr 1 0 2).same (SV.ptr 1 0 2) ∧ (SV.ptr 2 0 2).same (SV.ptr 2 0 2) ∧ (SV.row (SId.i .i64).lst (listsR p)).same (SV.row (SId.i .i64).lst (listsR p)) ∧ (SV.si .i64 (x + (1 : Int))).same (SV.si .i64 (x + (1 : Int))) ∧ True) ∧ (SObj.cells (Prob.ss p) 27 20 false).same (SObj.cells (Prob.ss p) 27 20 false) ∧ (SObj.cells [SV.sc (Value.slice none 0 0), SV.il .i64 0] 31 2 false).same (SObj.cells [SV.sc (Value.slice none 0 0), SV.il .i64 0] 31 2 false) ∧ (SObj.cells [SV.row (SId.i .i64) (riv1 p k x).chosen, SV.si .i64 (riv1 p k x).value] 31 2 true).same (SObj.cells [SV.row (SId.i .i64) (riv1 p k (x + (1 : Int))).chosen, SV.si .i64 (riv1 p k (x + (1 : Int))).value] 31 2 true) ∧ True) ∧ ((0 : Int) ≤ x + (1 : Int) ∧ x + (1 : Int) ≤ (↑(listsR p).length : Int)) ∧ ((↑(listsR p).length : Int) - (x + (1 : Int))).toNat < ((↑(listsR p).length : Int) - x).toNat)))) ∧ (decide (x < (↑(listsR p).length : Int)) = false → (SV.tup [SV.agg [SV.row (SId.i .i64) (riv1 p k x).chosen, SV.si .i64 (riv1 p k x).value], SV.il .i64 0]).same (SV.tup [SV.agg [SV.row (SId.i .i64) (rivA p k).chosen, SV.si .i64 (rivA p k).value], SV.si .i64 (markE p k)])))))) (by kernel_rfl) ?_
  simp only [decide_eq_true_eq, decide_eq_false_iff_not, same_il_si, same_si_si, same_si_il, same_il_il, same_sb_sb, same_bl_sb, same_row, same_tup2, same_tup3, same_nil, same_row_nil, same_rfl, osame_rfl, inR_i64, eq_self, true_and, and_true, Bool.and_eq_true, Bool.not_eq_true', Bool.not_eq_false']
  have zal : ∀ {a : Alloc}, a = ⟨[], 0⟩ → (SV.agg [.row (.i .i64) [], .il .i64 0]).same (SV.agg [.row (.i .i64) a.chosen, .si .i64 a.value]) := by rintro _ rfl; rfl
  have bad : markE p k ≠ 0 → rivA p k = ⟨[], 0⟩ := fun h => by unfold rivA; rw [if_neg h]
  refine ⟨fun h => ?_, fun h => ⟨fun hk => ?_, fun hk => ⟨fun hk2 => ?_, fun hk2 => ?_⟩⟩⟩
  · have hz : markE p k = checkE p := by simp [markE, h]
    exact ⟨zal (bad (by rw [hz]; exact h)), hz.symm⟩
  · have hz : markE p k = 4 := by simp [markE, h, hk]
    exact ⟨zal (bad (by rw [hz]; decide)), hz.symm⟩
  · have hz : markE p k = 4 := by simp [markE, h, hk2]
    exact ⟨zal (bad (by rw [hz]; decide)), hz.symm⟩
  have hc : checkE p = 0 := Classical.not_not.1 h
  have hz : markE p k = 0 := by unfold markE; rw [if_neg (by simp [hc]), if_neg (by omega)]
  have hll : (listsR p).length ≤ 1000 := by
    have h1 := @lis_len p p.offers.length 0 [] [[]]
    have h2 : (2 : Nat) ^ p.offers.length ≤ 2 ^ 9 := Nat.pow_le_pow_right (by decide) h9
    simp only [List.length_singleton] at h1
    change (listsR p).length + 1 ≤ _ at h1
    omega
  have ccell : ∀ {a b : Alloc}, a = b → (SObj.cells [.row (.i .i64) a.chosen, .si .i64 a.value] 31 2 true).same (SObj.cells [.row (.i .i64) b.chosen, .si .i64 b.value] 31 2 true) := by rintro _ _ rfl; rfl
  have hrl : ∀ {ls : List (List Int)} {b : Alloc}, (∀ l ∈ ls, l.length ≤ 160) → b.chosen.length ≤ 160 → (ls.foldl (rivF p k) b).chosen.length ≤ 160 := by
    intro ls
    induction ls with
    | nil => intro b _ h; exact h
    | cons l ls ih =>
      intro b hl hb
      rw [List.foldl_cons]
      refine ih (fun m hm => hl m (by simp [hm])) ?_
      unfold rivF
      split
      · exact hb
      · exact better_len (hl l (by simp)) hb
  refine ⟨h9, ⟨rfl, by omega, by omega⟩, ?_⟩
  rintro i ⟨i0, i1⟩
  have hcl : (riv1 p k i).chosen.length ≤ 160 := hrl (fun l hl => lists_len hc (List.mem_of_mem_take hl)) (by simp)
  refine ⟨fun hlt => ?_, fun hge => ?_⟩
  · have hm := nthD_mem (d := (SId.lst (.i .i64)).dflt) (show i.toNat < (listsR p).length by omega)
    have hs : riv1 p k (i + 1) = rivF p k (riv1 p k i) (nthD (listsR p) i.toNat (SId.lst (.i .i64)).dflt) := fold_take i0 hlt
    generalize nthD (listsR p) i.toNat (SId.lst (.i .i64)).dflt = l at *
    have hlen := lists_len hc hm
    unfold rivF at hs
    refine ⟨i0, hlt, by omega, by omega, i0, hlt, by omega, by omega, fun hk => ?_, fun hk => ⟨fun h1 => ?_, fun h1 => ⟨fun h2 => ⟨i0, hlt, by omega, ⟨by omega, by omega⟩, fun h3 => ?_, fun h3 => ?_⟩, fun h2 => ?_⟩⟩⟩
    · rw [if_pos hk] at hs
      rw [hs]
      exact ⟨by omega, rfl, ⟨by omega, by omega⟩, by omega⟩
    · rw [if_neg hk] at hs
      unfold better at hs
      rw [if_pos (.inl h1)] at hs
      rw [hs]
      exact ⟨i0, hlt, by omega, by omega, rfl, ⟨by omega, by omega⟩, by omega⟩
    · rw [if_neg hk] at hs
      unfold better at hs
      rw [if_pos (.inr ⟨h2, h3⟩)] at hs
      rw [hs]
      exact ⟨i0, hlt, by omega, by omega, rfl, ⟨by omega, by omega⟩, by omega⟩
    · rw [if_neg hk] at hs
      unfold better at hs
      rw [if_neg (by rintro (h | h); exact h1 h; exact h3 h.2)] at hs
      rw [hs]
      exact ⟨by omega, rfl, ⟨by omega, by omega⟩, by omega⟩
    · rw [if_neg hk] at hs
      unfold better at hs
      rw [if_neg (by rintro (h | h); exact h1 h; exact h2 h.1)] at hs
      rw [hs]
      exact ⟨by omega, rfl, ⟨by omega, by omega⟩, by omega⟩
  · have hi : riv1 p k i = rivA p k := by unfold riv1 rivA rivR; rw [if_pos hz, show i.toNat = (listsR p).length by omega, List.take_length]
    rw [hi, hz]
    exact ⟨rfl, rfl⟩

end Go.Vi
/-
  Plain law: margins.
  Conditions: none.
-/
set_option maxRecDepth 100000
set_option maxHeartbeats 4000000
set_option linter.unusedSimpArgs false
set_option linter.unusedVariables false
namespace Go.Vi
open Go.Proofs

/-! ### without an offer -/

theorem filter_ne {x : Off} {a b : List Off} (h : (a ++ x :: b).Nodup) : (a ++ x :: b).filter (fun y => decide (y ≠ x)) = a ++ b := by
  rw [List.nodup_append] at h
  obtain ⟨_, n2, n3⟩ := h
  rw [List.filter_append, List.filter_cons, if_neg (by simp)]
  rw [List.filter_eq_self.2 fun y hy => by simpa using n3 y hy x (by simp)]
  rw [List.filter_eq_self.2 fun y hy => by
    have := (List.nodup_cons.1 n2).1
    have : y ≠ x := fun e => this (e ▸ hy)
    simpa using this]

theorem del_filter {p : Prob} {k : Int} (hn : p.offers.Nodup) (h0 : 0 ≤ k) (h1 : k < p.offers.length) : delO p k = offP p (p.offers.filter fun x => decide (x ≠ nthD p.offers k.toNat SId.off.dflt)) := by
  have hsp : p.offers = p.offers.take k.toNat ++ nthD p.offers k.toNat SId.off.dflt :: p.offers.drop (k + 1).toNat := by
    rw [← drop_nth h0 h1, List.take_append_drop]
  have hf := filter_ne (hsp ▸ hn)
  rw [← hsp] at hf
  unfold delO offP
  rw [hf]

theorem del_check {p : Prob} {k : Int} (hc : checkE p = 0) (h0 : 0 ≤ k) (h1 : k < p.offers.length) : checkE (delO p k) = 0 := by
  rw [del_filter (offers_nodup hc) h0 h1]
  exact check_filter hc

end Go.Vi
/-
  Plain law: margins, the part with the offer.
  Conditions: none.
-/
set_option maxRecDepth 100000
set_option maxHeartbeats 4000000
set_option linter.unusedSimpArgs false
set_option linter.unusedVariables false
namespace Go.Vi
open Go.Proofs

end Go.Vi
/-
  Contracts: the best list of a coalition.
  Conditions: none.
-/
set_option maxRecDepth 100000
set_option maxHeartbeats 4000000
set_option linter.unusedSimpArgs false
set_option linter.unusedVariables false
namespace Go.Vi
open Go.Proofs.Ytigbjjkijfkeeaa.Ir
open Go.Proofs

/-- What remains of the search: the situation, the value that is left to find, the list. -/
structure BSt where
  at_ : Sit
  rest : Int
  out : List Int

def stepB (p : Prob) (s : BSt) (i : Nat) : BSt :=
  let x := nthD p.offers i SId.off.dflt
  if bitI s.at_.members x.bidder ≠ 0 ∧ fitsAt p s.at_ x = true ∧ x.value + bestS p (nextAt p s.at_ x) = s.rest then ⟨nextAt p s.at_ x, s.rest - x.value, s.out ++ [(i : Int)]⟩ else s
def startB (p : Prob) (m : Int) : BSt := ⟨⟨m, p.supply, p.opn⟩, bestS p ⟨m, p.supply, p.opn⟩, []⟩
def runB (p : Prob) (m : Int) (n : Nat) : BSt := (List.range n).foldl (stepB p) (startB p m)
def bestI (p : Prob) (m : Int) : Alloc := if faultE p m = 0 then ⟨(runB p m p.offers.length).out, bestS p ⟨m, p.supply, p.opn⟩⟩ else ⟨[], 0⟩

def WK : List OCtr := [r113, r114, r116, bestC 9]
theorem hWK : ∀ c ∈ WK, HoldsO Try.prog c := by
  simp only [WK, List.forall_mem_cons, List.not_mem_nil, false_implies, implies_true, and_true]
  exact ⟨h113, h114, h116, hBest 9⟩

def r75 : OCtr where
  f := 75
  α := Prob × Int
  put a := [codP.put a.1, .si .i64 a.2]
  st _ := []
  dec v o := match v, o with
    | [v, m], [] => match codP.dec v, m.int .i64 with
      | some p, some m => some (p, m)
      | _, _ => none
    | _, _ => none
  ok v o a h := by
    split at h
    · split at h
      · rename_i h1 h2
        simp only [Option.some.injEq] at h; subst h
        exact ⟨by simp only [gL, codP.ok _ _ h1, int_g h2]; rfl, rfl⟩
      · cases h
    · cases h
  inj a b h _ := by
    simp only [gL, List.cons.injEq, and_true] at h
    have h2 := h.2
    simp only [SV.g, AV.sc.injEq, Value.int.injEq, true_and] at h2
    exact Prod.ext (codP.inj _ _ h.1) h2
  dom a := faultE a.1 a.2 = 0
  res a := .tup [.agg [.ow 0 (bestI a.1 a.2).chosen.length 1, .si .i64 (bestI a.1 a.2).value], .si .i64 0]
  out a := [.row (.i .i64) (bestI a.1 a.2).chosen 3 false]

def st75 (p : Prob) (v : Int) (s : BSt) (es : Memo) : SStore := [.cells p.ss 27 20 false, .cells [.sc (.slice none 0 0), .il .i64 0] 31 2 false,
  .cells [.si .i64 p.supply.a0, .si .i64 p.supply.a1, .si .i64 p.supply.a2, .si .i64 p.supply.a3, .si .i64 p.supply.a4, .si .i64 p.supply.a5,
   .si .i64 p.opn.a0, .si .i64 p.opn.a1, .si .i64 p.opn.a2, .si .i64 p.opn.a3, .si .i64 p.opn.a4, .si .i64 p.opn.a5,
   .si .i64 p.cls.a0, .si .i64 p.cls.a1, .si .i64 p.cls.a2, .si .i64 p.cls.a3, .si .i64 p.cls.a4, .si .i64 p.cls.a5,
   .row (.i .i64) p.classes, .row .off p.offers, .row .off (L8.of p).l0, .row .off (L8.of p).l1, .row .off (L8.of p).l2, .row .off (L8.of p).l3, .row .off (L8.of p).l4, .row .off (L8.of p).l5, .row .off (L8.of p).l6, .row .off (L8.of p).l7, .mp 3] 174 29 false,
  .map .sit (.i .i64) true es ([0, 0, 0, 0, 0, 0, 0, 0, 0, 0, 0, 0, 0], true) true,
  .cells (encS .sit s.at_) 141 13 false, .cells [.ow 6 s.out.length 1, .si .i64 v] 31 2 false, .row (.i .i64) s.out 3 false]
def Λ75 (a : Prob × Int) : Nat → LoopAnn
  | 9 => .inv (Int × Memo) (fun x => ⟨[(4, .ptr 1 0 2), (7, .ptr 2 0 29), (8, .ptr 4 0 13), (9, .ptr 5 0 2), (10, .si .i64 (runB a.1 a.2 x.1.toNat).rest), (34, .row .off a.1.offers), (35, .si .i64 a.1.offers.length), (36, .si .i64 x.1)], st75 a.1 (startB a.1 a.2).rest (runB a.1 a.2 x.1.toNat) x.2⟩)
    (fun s => (iS s 36, mS .sit (.i .i64) s 3)) (fun x => 0 ≤ x.1 ∧ x.1 ≤ a.1.offers.length ∧ MemoOk a.1 x.2) (fun x => (a.1.offers.length - x.1).toNat) fun _ _ => .look
  | _ => .look

theorem runB_succ {p : Prob} {m : Int} {n : Nat} : runB p m (n + 1) = stepB p (runB p m n) n := by
  unfold runB
  rw [List.range_succ, List.foldl_append]
  rfl

theorem nextOk {p : Prob} (hg : Good p) {a : Sit} (ha : SitOk a) {x : Off} (hx : x ∈ p.offers) (hb : bitI a.members x.bidder ≠ 0) (hf : fitsAt p a x = true) : SitOk (nextAt p a x) := by
  have hv := hg.2.2.2.2 x hx
  have h8 := hg.1
  have hd := (bit_del ha.1 ha.2.1 hv.1 (by omega)).2 hb
  simp only [fitsAt, Bool.and_eq_true] at hf
  exact ⟨hd.1, hd.2.1, sub_ok ha.2.2.1 hv.2.2.1 hf.1, sub_ok ha.2.2.2 (out_ok hv.2.2.1) hf.2⟩

theorem runB_ok {p : Prob} (hg : Good p) {m : Int} (h0 : 0 ≤ m) (h1 : m < 256) : ∀ n, n ≤ p.offers.length → SitOk (runB p m n).at_ ∧ (runB p m n).rest = bestS p (runB p m n).at_ ∧ (runB p m n).out.length ≤ n
  | 0, _ => ⟨⟨h0, h1, hg.2.2.1, hg.2.2.2.1⟩, rfl, Nat.le_refl _⟩
  | n + 1, hn => by
    obtain ⟨k1, k2, k3⟩ := runB_ok hg h0 h1 n (by omega)
    rw [runB_succ]
    unfold stepB
    simp only
    have hx := nthD_mem (d := SId.off.dflt) (show n < p.offers.length by omega)
    split
    · rename_i hc
      refine ⟨nextOk hg k1 hx hc.1 hc.2.1, ?_, by simp; omega⟩
      simp only
      omega
    · exact ⟨k1, k2, by omega⟩

theorem h75 : HoldsO Try.prog r75 := by
  refine conN (L := [r112]) (W := WK) r75 F75 (fun _ => none) Λ75 hWK (by simpa using h112) (by kernel_rfl) (fun _ => rfl) (fun _ => rfl) (by kernel_rfl) ?_
  rintro ⟨p, m⟩ (hz : faultE p m = 0)
  refine vcOf (True ∧ (decide (faultE p m ≠ (0 : Int)) = true → (SV.tup [SV.agg [SV.sc (Value.slice none 0 0), SV.il .i64 0], SV.si .i64 (faultE p m)]).same (SV.tup [SV.agg [SV.ow 0 (bestI p m).chosen.length 1, SV.si .i64 (bestI p m).value], SV.si .i64 0]) ∧ False) ∧ (decide (faultE p m ≠ (0 : Int)) = false → Good p ∧ True ∧ ((Good p ∧ L8.of p = L8.of p ∧ SitOk (Sit.mk m p.supply p.opn) ∧ MemoOk p []) ∧ cnt m < 9) ∧ ((((SV.ptr 1 0 2).same (SV.ptr 1 0 2) ∧ (SV.ptr 2 0 29).same (SV.ptr 2 0 29) ∧ (SV.ptr 4 0 13).same (SV.ptr 4 0 13) ∧ (SV.ptr 5 0 2).same (SV.ptr 5 0 2) ∧ (SV.si .i64 (bestM p (cnt m + 1) [] (Sit.mk m p.supply p.opn)).fst).same (SV.si .i64 (runB p m 0).rest) ∧ (SV.row SId.off p.offers).same (SV.row SId.off p.offers) ∧ (SV.si .i64 (↑p.offers.length : Int)).same (SV.si .i64 (↑p.offers.length : Int)) ∧ (SV.il .i64 0).same (SV.si .i64 0) ∧ True) ∧ (SObj.cells (Prob.ss p) 27 20 false).same (SObj.cells (Prob.ss p) 27 20 false) ∧ (SObj.cells [SV.sc (Value.slice none 0 0), SV.il .i64 0] 31 2 false).same (SObj.cells [SV.sc (Value.slice none 0 0), SV.il .i64 0] 31 2 false) ∧ (SObj.cells [SV.si .i64 p.supply.a0, SV.si .i64 p.supply.a1, SV.si .i64 p.supply.a2, SV.si .i64 p.supply.a3, SV.si .i64 p.supply.a4, SV.si .i64 p.supply.a5, SV.si .i64 p.opn.a0, SV.si .i64 p.opn.a1, SV.si .i64 p.opn.a2, SV.si .i64 p.opn.a3, SV.si .i64 p.opn.a4, SV.si .i64 p.opn.a5, SV.si .i64 p.cls.a0, SV.si .i64 p.cls.a1, SV.si .i64 p.cls.a2, SV.si .i64 p.cls.a3, SV.si .i64 p.cls.a4, SV.si .i64 p.cls.a5, SV.row (SId.i .i64) p.classes, SV.row SId.off p.offers, SV.row SId.off (L8.of p).l0, SV.row SId.off (L8.of p).l1, SV.row SId.off (L8.of p).l2, SV.row SId.off (L8.of p).l3, SV.row SId.off (L8.of p).l4, SV.row SId.off (L8.of p).l5, SV.row SId.off (L8.of p).l6, SV.row SId.off (L8.of p).l7, SV.mp 3] 174 29 false).same (SObj.cells [SV.si .i64 p.supply.a0, SV.si .i64 p.supply.a1, SV.si .i64 p.supply.a2, SV.si .i64 p.supply.a3, SV.si .i64 p.supply.a4, SV.si .i64 p.supply.a5, SV.si .i64 p.opn.a0, SV.si .i64 p.opn.a1, SV.si .i64 p.opn.a2, SV.si .i64 p.opn.a3, SV.si .i64 p.opn.a4, SV.si .i64 p.opn.a5, SV.si .i64 p.cls.a0, SV.si .i64 p.cls.a1, SV.si .i64 p.cls.a2, SV.si .i64 p.cls.a3, SV.si .i64 p.cls.a4, SV.si .i64 p.cls.a5, SV.row (SId.i .i64) p.classes, SV.row SId.off p.offers, SV.row SId.off (L8.of p).l0, SV.row SId.off (L8.of p).l1, SV.row SId.off (L8.of p).l2, SV.row SId.off (L8.of p).l3, SV.row SId.off (L8.of p).l4, SV.row SId.off (L8.of p).l5, SV.row SId.off (L8.of p).l6, SV.row SId.off (L8.of p).l7, SV.mp 3] 174 29 false) ∧ (SObj.map SId.sit (SId.i .i64) true (bestM p (cnt m + 1) [] (Sit.mk m p.supply p.opn)).snd ([0, 0, 0, 0, 0, 0, 0, 0, 0, 0, 0, 0, 0], true) true).same (SObj.map SId.sit (SId.i .i64) true (bestM p (cnt m + 1) [] (Sit.mk m p.supply p.opn)).snd ([0, 0, 0, 0, 0, 0, 0, 0, 0, 0, 0, 0, 0], true) true) ∧ (SObj.cells [SV.si .i64 m, SV.si .i64 p.supply.a0, SV.si .i64 p.supply.a1, SV.si .i64 p.supply.a2, SV.si .i64 p.supply.a3, SV.si .i64 p.supply.a4, SV.si .i64 p.supply.a5, SV.si .i64 p.opn.a0, SV.si .i64 p.opn.a1, SV.si .i64 p.opn.a2, SV.si .i64 p.opn.a3, SV.si .i64 p.opn.a4, SV.si .i64 p.opn.a5] 141 13 false).same (SObj.cells [SV.si .i64 (runB p m 0).at_.members, SV.si .i64 (runB p m 0).at_.left.a0, SV.si .i64 (runB p m 0).at_.left.a1, SV.si .i64 (runB p m 0).at_.left.a2, SV.si .i64 (runB p m 0).at_.left.a3, SV.si .i64 (runB p m 0).at_.left.a4, SV.si .i64 (runB p m 0).at_.left.a5, SV.si .i64 (runB p m 0).at_.opn.a0, SV.si .i64 (runB p m 0).at_.opn.a1, SV.si .i64 (runB p m 0).at_.opn.a2, SV.si .i64 (runB p m 0).at_.opn.a3, SV.si .i64 (runB p m 0).at_.opn.a4, SV.si .i64 (runB p m 0).at_.opn.a5] 141 13 false) ∧ (SObj.cells [SV.ow 6 0 1, SV.si .i64 (bestM p (cnt m + 1) [] (Sit.mk m p.supply p.opn)).fst] 31 2 false).same (SObj.cells [SV.ow 6 (runB p m 0).out.length 1, SV.si .i64 (startB p m).rest] 31 2 false) ∧ (SObj.row (SId.i .i64) [] 3 false).same (SObj.row (SId.i .i64) (runB p m 0).out 3 false) ∧ True) ∧ (0 : Int) ≤ (0 : Int) ∧ (0 : Int) ≤ (↑p.offers.length : Int) ∧ MemoOk p (bestM p (cnt m + 1) [] (Sit.mk m p.supply p.opn)).snd) ∧ ∀ (x : Int × Memo), (0 : Int) ≤ x.fst ∧ x.fst ≤ (↑p.offers.length : Int) ∧ MemoOk p x.snd → (decide (x.fst < (↑p.offers.length : Int)) = true → (0 : Int) ≤ x.fst ∧ x.fst < (↑p.offers.length : Int) ∧ x.fst.toNat < p.offers.length ∧ (0 : Int) ≤ (nthD p.offers x.fst.toNat SId.off.dflt).bidder ∧ (nthD p.offers x.fst.toNat SId.off.dflt).bidder ≤ (64 : Int) ∧ (decide (binK.andI .i64 ((runB p m x.fst.toNat).at_.members / (2 : Int) ^ (nthD p.offers x.fst.toNat SId.off.dflt).bidder.toNat) (1 : Int) = (0 : Int)) = true → inR .i64 (x.fst + (1 : Int)) ∧ (((SV.ptr 1 0 2).same (SV.ptr 1 0 2) ∧ (SV.ptr 2 0 29).same (SV.ptr 2 0 29) ∧ (SV.ptr 4 0 13).same (SV.ptr 4 0 13) ∧ (SV.ptr 5 0 2).same (SV.ptr 5 0 2) ∧ (SV.si .i64 (runB p m x.fst.toNat).rest).same (SV.si .i64 (runB p m (x.fst + (1 : Int)).toNat).rest) ∧ (SV.row SId.off p.offers).same (SV.row SId.off p.offers) ∧ (SV.si .i64 (↑p.offers.length : Int)).same (SV.si .i64 (↑p.offers.length : Int)) ∧ (SV.si .i64 (x.fst + (1 : Int))).same (SV.si .i64 (x.fst + (1 : Int))) ∧ True) ∧ (SObj.cells (Prob.ss p) 27 20 false).same (SObj.cells (Prob.ss p) 27 20 false) ∧ (SObj.cells [SV.sc (Value.slice none 0 0), SV.il .i64 0] 31 2 false).same (SObj.cells [SV.sc (Value.slice none 0 0), SV.il .i64 0] 31 2 false) ∧ (SObj.cells [SV.si .i64 p.supply.a0, SV.si .i64 p.supply.a1, SV.si .i64 p.supply.a2, SV.si .i64 p.supply.a3, SV.si .i64 p.supply.a4, SV.si .i64 p.supply.a5, SV.si .i64 p.opn.a0, SV.si .i64 p.opn.a1, SV.si .i64 p.opn.a2, SV.si .i64 p.opn.a3, SV.si .i64 p.opn.a4, SV.si .i64 p.opn.a5, SV.si .i64 p.cls.a0, SV.si .i64 p.cls.a1, SV.si .i64 p.cls.a2, SV.si .i64 p.cls.a3, SV.si .i64 p.cls.a4, SV.si .i64 p.cls.a5, SV.row (SId.i .i64) p.classes, SV.row SId.off p.offers, SV.row SId.off (L8.of p).l0, SV.row SId.off (L8.of p).l1, SV.row SId.off (L8.of p).l2, SV.row SId.off (L8.of p).l3, SV.row SId.off (L8.of p).l4, SV.row SId.off (L8.of p).l5, SV.row SId.off (L8.of p).l6, SV.row SId.off (L8.of p).l7, SV.mp 3] 174 29 false).same (SObj.cells [SV.si .i64 p.supply.a0, SV.si .i64 p.supply.a1, SV.si .i64 p.supply.a2, SV.si .i64 p.supply.a3, SV.si .i64 p.supply.a4, SV.si .i64 p.supply.a5, SV.si .i64 p.opn.a0, SV.si .i64 p.opn.a1, SV.si .i64 p.opn.a2, SV.si .i64 p.opn.a3, SV.si .i64 p.opn.a4, SV.si .i64 p.opn.a5, SV.si .i64 p.cls.a0, SV.si .i64 p.cls.a1, SV.si .i64 p.cls.a2, SV.si .i64 p.cls.a3, SV.si .i64 p.cls.a4, SV.si .i64 p.cls.a5, SV.row (SId.i .i64) p.classes, SV.row SId.off p.offers, SV.row SId.off (L8.of p).l0, SV.row SId.off (L8.of p).l1, SV.row SId.off (L8.of p).l2, SV.row SId.off (L8.of p).l3, SV.row SId.off (L8.of p).l4, SV.row SId.off (L8.of p).l5, SV.row SId.off (L8.of p).l6, SV.row SId.off (L8.of p).l7, SV.mp 3] 174 29 false) ∧ (SObj.map SId.sit (SId.i .i64) true x.snd ([0, 0, 0, 0, 0, 0, 0, 0, 0, 0, 0, 0, 0], true) true).same (SObj.map SId.sit (SId.i .i64) true x.snd ([0, 0, 0, 0, 0, 0, 0, 0, 0, 0, 0, 0, 0], true) true) ∧ (SObj.cells [SV.si .i64 (runB p m x.fst.toNat).at_.members, SV.si .i64 (runB p m x.fst.toNat).at_.left.a0, SV.si .i64 (runB p m x.fst.toNat).at_.left.a1, SV.si .i64 (runB p m x.fst.toNat).at_.left.a2, SV.si .i64 (runB p m x.fst.toNat).at_.left.a3, SV.si .i64 (runB p m x.fst.toNat).at_.left.a4, SV.si .i64 (runB p m x.fst.toNat).at_.left.a5, SV.si .i64 (runB p m x.fst.toNat).at_.opn.a0, SV.si .i64 (runB p m x.fst.toNat).at_.opn.a1, SV.si .i64 (runB p m x.fst.toNat).at_.opn.a2, SV.si .i64 (runB p m x.fst.toNat).at_.opn.a3, SV.si .i64 (runB p m x.fst.toNat).at_.opn.a4, SV.si .i64 (runB p m x.fst.toNat).at_.opn.a5] 141 13 false).same (SObj.cells [SV.si .i64 (runB p m (x.fst + (1 : Int)).toNat).at_.members, SV.si .i64 (runB p m (x.fst + (1 : Int)).toNat).at_.left.a0, SV.si .i64 (runB p m (x.fst + (1 : Int)).toNat).at_.left.a1, SV.si .i64 (runB p m (x.fst + (1 : Int)).toNat).at_.left.a2, SV.si .i64 (runB p m (x.fst + (1 : Int)).toNat).at_.left.a3, SV.si .i64 (runB p m (x.fst + (1 : Int)).toNat).at_.left.a4, SV.si .i64 (runB p m (x.fst + (1 : Int)).toNat).at_.left.a5, SV.si .i64 (runB p m (x.fst + (1 : Int)).toNat).at_.opn.a0, SV.si .i64 (runB p m (x.fst + (1 : Int)).toNat).at_.opn.a1, SV.si .i64 (runB p m (x.fst + (1 : Int)).toNat).at_.opn.a2, SV.si .i64 (runB p m (x.fst + (1 : Int)).toNat).at_.opn.a3, SV.si .i64 (runB p m (x.fst + (1 : Int)).toNat).at_.opn.a4, SV.si .i64 (runB p m (x.fst + (1 : Int)).toNat).at_.opn.a5] 141 13 false) ∧ (SObj.cells [SV.ow 6 (runB p m x.fst.toNat).out.length 1, SV.si .i64 (startB p m).rest] 31 2 false).same (SObj.cells [SV.ow 6 (runB p m (x.fst + (1 : Int)).toNat).out.length 1, SV.si .i64 (startB p m).rest] 31 2 false) ∧ (SObj.row (SId.i .i64) (runB p m x.fst.toNat).out 3 false).same (SObj.row (SId.i .i64) (runB p m (x.fst + (1 : Int)).toNat).out 3 false) ∧ True) ∧ ((0 : Int) ≤ x.fst + (1 : Int) ∧ x.fst + (1 : Int) ≤ (↑p.offers.length : Int) ∧ MemoOk p x.snd) ∧ ((↑p.offers.length : Int) - (x.fst + (1 : Int))).toNat < ((↑p.offers.length : Int) - x.fst).toNat) ∧ (decide (binK.andI .i64 ((runB p m x.fst.toNat).at_.members / (2 : Int) ^ (nthD p.offers x.fst.toNat SId.off.dflt).bidder.toNat) (1 : Int) = (0 : Int)) = false → (p.classes.length ≤ 8 ∧ (0 : Int) ≤ (nthD p.offers x.fst.toNat SId.off.dflt).bidder ∧ (nthD p.offers x.fst.toNat SId.off.dflt).bidder < (↑p.classes.length : Int) ∧ (runB p m x.fst.toNat).at_.b ∧ (nthD p.offers x.fst.toNat SId.off.dflt).want.ok = true) ∧ (fitsAt p (runB p m x.fst.toNat).at_ (nthD p.offers x.fst.toNat SId.off.dflt) = true → ((Good p ∧ L8.of p = L8.of p ∧ SitOk (afterS p (runB p m x.fst.toNat).at_ (nthD p.offers x.fst.toNat SId.off.dflt)) ∧ MemoOk p x.snd) ∧ cnt (afterS p (runB p m x.fst.toNat).at_ (nthD p.offers x.fst.toNat SId.off.dflt)).members < 9) ∧ inR .i64 ((nthD p.offers x.fst.toNat SId.off.dflt).value + (bestM p (cnt (afterS p (runB p m x.fst.toNat).at_ (nthD p.offers x.fst.toNat SId.off.dflt)).members + 1) x.snd (afterS p (runB p m x.fst.toNat).at_ (nthD p.offers x.fst.toNat SId.off.dflt))).fst) ∧ (decide ((nthD p.offers x.fst.toNat SId.off.dflt).value + (bestM p (cnt (afterS p (runB p m x.fst.toNat).at_ (nthD p.offers x.fst.toNat SId.off.dflt)).members + 1) x.snd (afterS p (runB p m x.fst.toNat).at_ (nthD p.offers x.fst.toNat SId.off.dflt))).fst = (runB p m x.fst.toNat).rest) = true → 1 = 1 ∧ (runB p m x.fst.toNat).out.length = (runB p m x.fst.toNat).out.length ∧ ((runB p m x.fst.toNat).out.length + 1) * 8 ≤ 140737488355328 ∧ (runB p m x.fst.toNat).out.length + 1 ≤ 1000000000000 ∧ inR .i64 ((runB p m x.fst.toNat).rest - (nthD p.offers x.fst.toNat SId.off.dflt).value) ∧ inR .i64 (x.fst + (1 : Int)) ∧ (((SV.ptr 1 0 2).same (SV.ptr 1 0 2) ∧ (SV.ptr 2 0 29).same (SV.ptr 2 0 29) ∧ (SV.ptr 4 0 13).same (SV.ptr 4 0 13) ∧ (SV.ptr 5 0 2).same (SV.ptr 5 0 2) ∧ (SV.si .i64 ((runB p m x.fst.toNat).rest - (nthD p.offers x.fst.toNat SId.off.dflt).value)).same (SV.si .i64 (runB p m (x.fst + (1 : Int)).toNat).rest) ∧ (SV.row SId.off p.offers).same (SV.row SId.off p.offers) ∧ (SV.si .i64 (↑p.offers.length : Int)).same (SV.si .i64 (↑p.offers.length : Int)) ∧ (SV.si .i64 (x.fst + (1 : Int))).same (SV.si .i64 (x.fst + (1 : Int))) ∧ True) ∧ (SObj.cells (Prob.ss p) 27 20 false).same (SObj.cells (Prob.ss p) 27 20 false) ∧ (SObj.cells [SV.sc (Value.slice none 0 0), SV.il .i64 0] 31 2 false).same (SObj.cells [SV.sc (Value.slice none 0 0), SV.il .i64 0] 31 2 false) ∧ (SObj.cells [SV.si .i64 p.supply.a0, SV.si .i64 p.supply.a1, SV.si .i64 p.supply.a2, SV.si .i64 p.supply.a3, SV.si .i64 p.supply.a4, SV.si .i64 p.supply.a5, SV.si .i64 p.opn.a0, SV.si .i64 p.opn.a1, SV.si .i64 p.opn.a2, SV.si .i64 p.opn.a3, SV.si .i64 p.opn.a4, SV.si .i64 p.opn.a5, SV.si .i64 p.cls.a0, SV.si .i64 p.cls.a1, SV.si .i64 p.cls.a2, SV.si .i64 p.cls.a3, SV.si .i64 p.cls.a4, SV.si .i64 p.cls.a5, SV.row (SId.i .i64) p.classes, SV.row SId.off p.offers, SV.row SId.off (L8.of p).l0, SV.row SId.off (L8.of p).l1, SV.row SId.off (L8.of p).l2, SV.row SId.off (L8.of p).l3, SV.row SId.off (L8.of p).l4, SV.row SId.off (L8.of p).l5, SV.row SId.off (L8.of p).l6, SV.row SId.off (L8.of p).l7, SV.mp 3] 174 29 false).same (SObj.cells [SV.si .i64 p.supply.a0, SV.si .i64 p.supply.a1, SV.si .i64 p.supply.a2, SV.si .i64 p.supply.a3, SV.si .i64 p.supply.a4, SV.si .i64 p.supply.a5, SV.si .i64 p.opn.a0, SV.si .i64 p.opn.a1, SV.si .i64 p.opn.a2, SV.si .i64 p.opn.a3, SV.si .i64 p.opn.a4, SV.si .i64 p.opn.a5, SV.si .i64 p.cls.a0, SV.si .i64 p.cls.a1, SV.si .i64 p.cls.a2, SV.si .i64 p.cls.a3, SV.si .i64 p.cls.a4, SV.si .i64 p.cls.a5, SV.row (SId.i .i64) p.classes, SV.row SId.off p.offers, SV.row SId.off (L8.of p).l0, SV.row SId.off (L8.of p).l1, SV.row SId.off (L8.of p).l2, SV.row SId.off (L8.of p).l3, SV.row SId.off (L8.of p).l4, SV.row SId.off (L8.of p).l5, SV.row SId.off (L8.of p).l6, SV.row SId.off (L8.of p).l7, SV.mp 3] 174 29 false) ∧ (SObj.map SId.sit (SId.i .i64) true (bestM p (cnt (afterS p (runB p m x.fst.toNat).at_ (nthD p.offers x.fst.toNat SId.off.dflt)).members + 1) x.snd (afterS p (runB p m x.fst.toNat).at_ (nthD p.offers x.fst.toNat SId.off.dflt))).snd ([0, 0, 0, 0, 0, 0, 0, 0, 0, 0, 0, 0, 0], true) true).same (SObj.map SId.sit (SId.i .i64) true (bestM p (cnt (afterS p (runB p m x.fst.toNat).at_ (nthD p.offers x.fst.toNat SId.off.dflt)).members + 1) x.snd (afterS p (runB p m x.fst.toNat).at_ (nthD p.offers x.fst.toNat SId.off.dflt))).snd ([0, 0, 0, 0, 0, 0, 0, 0, 0, 0, 0, 0, 0], true) true) ∧ (SObj.cells [SV.si .i64 (afterS p (runB p m x.fst.toNat).at_ (nthD p.offers x.fst.toNat SId.off.dflt)).members, SV.si .i64 (afterS p (runB p m x.fst.toNat).at_ (nthD p.offers x.fst.toNat SId.off.dflt)).left.a0, SV.si .i64 (afterS p (runB p m x.fst.toNat).at_ (nthD p.offers x.fst.toNat SId.off.dflt)).left.a1, SV.si .i64 (afterS p (runB p m x.fst.toNat).at_ (nthD p.offers x.fst.toNat SId.off.dflt)).left.a2, SV.si .i64 (afterS p (runB p m x.fst.toNat).at_ (nthD p.offers x.fst.toNat SId.off.dflt)).left.a3, SV.si .i64 (afterS p (runB p m x.fst.toNat).at_ (nthD p.offers x.fst.toNat SId.off.dflt)).left.a4, SV.si .i64 (afterS p (runB p m x.fst.toNat).at_ (nthD p.offers x.fst.toNat SId.off.dflt)).left.a5, SV.si .i64 (afterS p (runB p m x.fst.toNat).at_ (nthD p.offers x.fst.toNat SId.off.dflt)).opn.a0, SV.si .i64 (afterS p (runB p m x.fst.toNat).at_ (nthD p.offers x.fst.toNat SId.off.dflt)).opn.a1, SV.si .i64 (afterS p (runB p m x.fst.toNat).at_ (nthD p.offers x.fst.toNat SId.off.dflt)).opn.a2, SV.si .i64 (afterS p (runB p m x.fst.toNat).at_ (nthD p.offers x.fst.toNat SId.off.dflt)).opn.a3, SV.si .i64 (afterS p (runB p m x.fst.toNat).at_ (nthD p.offers x.fst.toNat SId.off.dflt)).opn.a4, SV.si .i64 (afterS p (runB p m x.fst.toNat).at_ (nthD p.offers x.fst.toNat SId.off.dflt)).opn.a5] 141 13 false).same (SObj.cells [SV.si .i64 (runB p m (x.fst + (1 : Int)).toNat).at_.members, SV.si .i64 (runB p m (x.fst + (1 : Int)).toNat).at_.left.a0, SV.si .i64 (runB p m (x.fst + (1 : Int)).toNat).at_.left.a1, SV.si .i64 (runB p m (x.fst + (1 : Int)).toNat).at_.left.a2, SV.si .i64 (runB p m (x.fst + (1 : Int)).toNat).at_.left.a3, SV.si .i64 (runB p m (x.fst + (1 : Int)).toNat).at_.left.a4, SV.si .i64 (runB p m (x.fst + (1 : Int)).toNat).at_.left.a5, SV.si .i64 (runB p m (x.fst + (1 : Int)).toNat).at_.opn.a0, SV.si .i64 (runB p m (x.fst + (1 : Int)).toNat).at_.opn.a1, SV.si .i64 (runB p m (x.fst + (1 : Int)).toNat).at_.opn.a2, SV.si .i64 (runB p m (x.fst + (1 : Int)).toNat).at_.opn.a3, SV.si .i64 (runB p m (x.fst + (1 : Int)).toNat).at_.opn.a4, SV.si .i64 (runB p m (x.fst + (1 : Int)).toNat).at_.opn.a5] 141 13 false) ∧ (SObj.cells [SV.ow 6 ((runB p m x.fst.toNat).out ++ [x.fst]).length 1, SV.si .i64 (startB p m).rest] 31 2 false).same (SObj.cells [SV.ow 6 (runB p m (x.fst + (1 : Int)).toNat).out.length 1, SV.si .i64 (startB p m).rest] 31 2 false) ∧ (SObj.row (SId.i .i64) ((runB p m x.fst.toNat).out ++ [x.fst]) 3 false).same (SObj.row (SId.i .i64) (runB p m (x.fst + (1 : Int)).toNat).out 3 false) ∧ True) ∧ ((0 : Int) ≤ x.fst + (1 : Int) ∧ x.fst + (1 : Int) ≤ (↑p.offers.length : Int) ∧ MemoOk p (bestM p (cnt (afterS p (runB p m x.fst.toNat).at_ (nthD p.offers x.fst.toNat SId.off.dflt)).members + 1) x.snd (afterS p (runB p m x.fst.toNat).at_ (nthD p.offers x.fst.toNat SId.off.dflt))).snd) ∧ ((↑p.offers.length : Int) - (x.fst + (1 : Int))).toNat < ((↑p.offers.length : Int) - x.fst).toNat) ∧ (decide ((nthD p.offers x.fst.toNat SId.off.dflt).value + (bestM p (cnt (afterS p (runB p m x.fst.toNat).at_ (nthD p.offers x.fst.toNat SId.off.dflt)).members + 1) x.snd (afterS p (runB p m x.fst.toNat).at_ (nthD p.offers x.fst.toNat SId.off.dflt))).fst = (runB p m x.fst.toNat).rest) = false → inR .i64 (x.fst + (1 : Int)) ∧ (((SV.ptr 1 0 2).same (SV.ptr 1 0 2) ∧ (SV.ptr 2 0 29).same (SV.ptr 2 0 29) ∧ (SV.ptr 4 0 13).same (SV.ptr 4 0 13) ∧ (SV.ptr 5 0 2).same (SV.ptr 5 0 2) ∧ (SV.si .i64 (runB p m x.fst.toNat).rest).same (SV.si .i64 (runB p m (x.fst + (1 : Int)).toNat).rest) ∧ (SV.row SId.off p.offers).same (SV.row SId.off p.offers) ∧ (SV.si .i64 (↑p.offers.length : Int)).same (SV.si .i64 (↑p.offers.length : Int)) ∧ (SV.si .i64 (x.fst + (1 : Int))).same (SV.si .i64 (x.fst + (1 : Int))) ∧ True) ∧ (SObj.cells (Prob.ss p) 27 20 false).same (SObj.cells (Prob.ss p) 27 20 false) ∧ (SObj.cells [SV.sc (Value.slice none 0 0), SV.il .i64 0] 31 2 false).same (SObj.cells [SV.sc (Value.slice none 0 0), SV.il .i64 0] 31 2 false) ∧ (SObj.cells [SV.si .i64 p.supply.a0, SV.si .i64 p.supply.a1, SV.si .i64 p.supply.a2, SV.si .i64 p.supply.a3, SV.si .i64 p.supply.a4, SV.si .i64 p.supply.a5, SV.si .i64 p.opn.a0, SV.si .i64 p.opn.a1, SV.si .i64 p.opn.a2, SV.si .i64 p.opn.a3, SV.si .i64 p.opn.a4, SV.si .i64 p.opn.a5, SV.si .i64 p.cls.a0, SV.si .i64 p.cls.a1, SV.si .i64 p.cls.a2, SV.si .i64 p.cls.a3, SV.si .i64 p.cls.a4, SV.si .i64 p.cls.a5, SV.row (SId.i .i64) p.classes, SV.row SId.off p.offers, SV.row SId.off (L8.of p).l0, SV.row SId.off (L8.of p).l1, SV.row SId.off (L8.of p).l2, SV.row SId.off (L8.of p).l3, SV.row SId.off (L8.of p).l4, SV.row SId.off (L8.of p).l5, SV.row SId.off (L8.of p).l6, SV.row SId.off (L8.of p).l7, SV.mp 3] 174 29 false).same (SObj.cells [SV.si .i64 p.supply.a0, SV.si .i64 p.supply.a1, SV.si .i64 p.supply.a2, SV.si .i64 p.supply.a3, SV.si .i64 p.supply.a4, SV.si .i64 p.supply.a5, SV.si .i64 p.opn.a0, SV.si .i64 p.opn.a1, SV.si .i64 p.opn.a2, SV.si .i64 p.opn.a3, SV.si .i64 p.opn.a4, SV.si .i64 p.opn.a5, SV.si .i64 p.cls.a0, SV.si .i64 p.cls.a1, SV.si .i64 p.cls.a2, SV.si .i64 p.cls.a3, SV.si .i64 p.cls.a4, SV.si .i64 p.cls.a5, SV.row (SId.i .i64) p.classes, SV.row SId.off p.offers, SV.row SId.off (L8.of p).l0, SV.row SId.off (L8.of p).l1, SV.row SId.off (L8.of p).l2, SV.row SId.off (L8.of p).l3, SV.row SId.off (L8.of p).l4, SV.row SId.off (L8.of p).l5, SV.row SId.off (L8.of p).l6, SV.row SId.off (L8.of p).l7, SV.mp 3] 174 29 false) ∧ (SObj.map SId.sit (SId.i .i64) true (bestM p (cnt (afterS p (runB p m x.fst.toNat).at_ (nthD p.offers x.fst.toNat SId.off.dflt)).members + 1) x.snd (afterS p (runB p m x.fst.toNat).at_ (nthD p.offers x.fst.toNat SId.off.dflt))).snd ([0, 0, 0, 0, 0, 0, 0, 0, 0, 0, 0, 0, 0], true) true).same (SObj.map SId.sit (SId.i .i64) true (bestM p (cnt (afterS p (runB p m x.fst.toNat).at_ (nthD p.offers x.fst.toNat SId.off.dflt)).members + 1) x.snd (afterS p (runB p m x.fst.toNat).at_ (nthD p.offers x.fst.toNat SId.off.dflt))).snd ([0, 0, 0, 0, 0, 0, 0, 0, 0, 0, 0, 0, 0], true) true) ∧ (SObj.cells [SV.si .i64 (runB p m x.fst.toNat).at_.members, SV.si .i64 (runB p m x.fst.toNat).at_.left.a0, SV.si .i64 (runB p m x.fst.toNat).at_.left.a1, SV.si .i64 (runB p m x.fst.toNat).at_.left.a2, SV.si .i64 (runB p m x.fst.toNat).at_.left.a3, SV.si .i64 (runB p m x.fst.toNat).at_.left.a4, SV.si .i64 (runB p m x.fst.toNat).at_.left.a5, SV.si .i64 (runB p m x.fst.toNat).at_.opn.a0, SV.si .i64 (runB p m x.fst.toNat).at_.opn.a1, SV.si .i64 (runB p m x.fst.toNat).at_.opn.a2, SV.si .i64 (runB p m x.fst.toNat).at_.opn.a3, SV.si .i64 (runB p m x.fst.toNat).at_.opn.a4, SV.si .i64 (runB p m x.fst.toNat).at_.opn.a5] 141 13 false).same (SObj.cells [SV.si .i64 (runB p m (x.fst + (1 : Int)).toNat).at_.members, SV.si .i64 (runB p m (x.fst + (1 : Int)).toNat).at_.left.a0, SV.si .i64 (runB p m (x.fst + (1 : Int)).toNat).at_.left.a1, SV.si .i64 (runB p m (x.fst + (1 : Int)).toNat).at_.left.a2, SV.si .i64 (runB p m (x.fst + (1 : Int)).toNat).at_.left.a3, SV.si .i64 (runB p m (x.fst + (1 : Int)).toNat).at_.left.a4, SV.si .i64 (runB p m (x.fst + (1 : Int)).toNat).at_.left.a5, SV.si .i64 (runB p m (x.fst + (1 : Int)).toNat).at_.opn.a0, SV.si .i64 (runB p m (x.fst + (1 : Int)).toNat).at_.opn.a1, SV.si .i64 (runB p m (x.fst + (1 : Int)).toNat).at_.opn.a2, SV.si .i64 (runB p m (x.fst + (1 : Int)).toNat).at_.opn.a3, SV.si .i64 (runB p m (x.fst + (1 : Int)).toNat).at_.opn.a4, SV.si .i64 (runB p m (x.fst + (1 : Int)).toNat).at_.opn.a5] 141 13 false) ∧ (SObj.cells [SV.ow 6 (runB p m x.fst.toNat).out.length 1, SV.si .i64 (startB p m).rest] 31 2 false).same (SObj.cells [SV.ow 6 (runB p m (x.fst + (1 : Int)).toNat).out.length 1, SV.si .i64 (startB p m).rest] 31 2 false) ∧ (SObj.row (SId.i .i64) (runB p m x.fst.toNat).out 3 false).same (SObj.row (SId.i .i64) (runB p m (x.fst + (1 : Int)).toNat).out 3 false) ∧ True) ∧ ((0 : Int) ≤ x.fst + (1 : Int) ∧ x.fst + (1 : Int) ≤ (↑p.offers.length : Int) ∧ MemoOk p (bestM p (cnt (afterS p (runB p m x.fst.toNat).at_ (nthD p.offers x.fst.toNat SId.off.dflt)).members + 1) x.snd (afterS p (runB p m x.fst.toNat).at_ (nthD p.offers x.fst.toNat SId.off.dflt))).snd) ∧ ((↑p.offers.length : Int) - (x.fst + (1 : Int))).toNat < ((↑p.offers.length : Int) - x.fst).toNat)) ∧ (fitsAt p (runB p m x.fst.toNat).at_ (nthD p.offers x.fst.toNat SId.off.dflt) = false → inR .i64 (x.fst + (1 : Int)) ∧ (((SV.ptr 1 0 2).same (SV.ptr 1 0 2) ∧ (SV.ptr 2 0 29).same (SV.ptr 2 0 29) ∧ (SV.ptr 4 0 13).same (SV.ptr 4 0 13) ∧ (SV.ptr 5 0 2).same (SV.ptr 5 0 2) ∧ (SV.si .i64 (runB p m x.fst.toNat).rest).same (SV.si .i64 (runB p m (x.fst + (1 : Int)).toNat).rest) ∧ (SV.row SId.off p.offers).same (SV.row SId.off p.offers) ∧ (SV.si .i64 (↑p.offers.length : Int)).same (SV.si .i64 (↑p.offers.length : Int)) ∧ (SV.si .i64 (x.fst + (1 : Int))).same (SV.si .i64 (x.fst + (1 : Int))) ∧ True) ∧ (SObj.cells (Prob.ss p) 27 20 false).same (SObj.cells (Prob.ss p) 27 20 false) ∧ (SObj.cells [SV.sc (Value.slice none 0 0), SV.il .i64 0] 31 2 false).same (SObj.cells [SV.sc (Value.slice none 0 0), SV.il .i64 0] 31 2 false) ∧ (SObj.cells [SV.si .i64 p.supply.a0, SV.si .i64 p.supply.a1, SV.si .i64 p.supply.a2, SV.si .i64 p.supply.a3, SV.si .i64 p.supply.a4, SV.si .i64 p.supply.a5, SV.si .i64 p.opn.a0, SV.si .i64 p.opn.a1, SV.si .i64 p.opn.a2, SV.si .i64 p.opn.a3, SV.si .i64 p.opn.a4, SV.si .i64 p.opn.a5, SV.si .i64 p.cls.a0, SV.si .i64 p.cls.a1, SV.si .i64 p.cls.a2, SV.si .i64 p.cls.a3, SV.si .i64 p.cls.a4, SV.si .i64 p.cls.a5, SV.row (SId.i .i64) p.classes, SV.row SId.off p.offers, SV.row SId.off (L8.of p).l0, SV.row SId.off (L8.of p).l1, SV.row SId.off (L8.of p).l2, SV.row SId.off (L8.of p).l3, SV.row SId.off (L8.of p).l4, SV.row SId.off (L8.of p).l5, SV.row SId.off (L8.of p).l6, SV.row SId.off (L8.of p).l7, SV.mp 3] 174 29 false).same (SObj.cells [SV.si .i64 p.supply.a0, SV.si .i64 p.supply.a1, SV.si .i64 p.supply.a2, SV.si .i64 p.supply.a3, SV.si .i64 p.supply.a4, SV.si .i64 p.supply.a5, SV.si .i64 p.opn.a0, SV.si .i64 p.opn.a1, SV.si .i64 p.opn.a2, SV.si .i64 p.opn.a3, SV.si .i64 p.opn.a4, SV.si .i64 p.opn.a5, SV.si .i64 p.cls.a0, SV.si .i64 p.cls.a1, SV.si .i64 p.cls.a2, SV.si .i64 p.cls.a3, SV.si .i64 p.cls.a4, SV.si .i64 p.cls.a5, SV.row (SId.i .i64) p.classes, SV.row SId.off p.offers, SV.row SId.off (L8.of p).l0, SV.row SId.off (L8.of p).l1, SV.row SId.off (L8.of p).l2, SV.row SId.off (L8.of p).l3, SV.row SId.off (L8.of p).l4, SV.row SId.off (L8.of p).l5, SV.row SId.off (L8.of p).l6, SV.row SId.off (L8.of p).l7, SV.mp 3] 174 29 false) ∧ (SObj.map SId.sit (SId.i .i64) true x.snd ([0, 0, 0, 0, 0, 0, 0, 0, 0, 0, 0, 0, 0], true) true).same (SObj.map SId.sit (SId.i .i64) true x.snd ([0, 0, 0, 0, 0, 0, 0, 0, 0, 0, 0, 0, 0], true) true) ∧ (SObj.cells [SV.si .i64 (runB p m x.fst.toNat).at_.members, SV.si .i64 (runB p m x.fst.toNat).at_.left.a0, SV.si .i64 (runB p m x.fst.toNat).at_.left.a1, SV.si .i64 (runB p m x.fst.toNat).at_.left.a2, SV.si .i64 (runB p m x.fst.toNat).at_.left.a3, SV.si .i64 (runB p m x.fst.toNat).at_.left.a4, SV.si .i64 (runB p m x.fst.toNat).at_.left.a5, SV.si .i64 (runB p m x.fst.toNat).at_.opn.a0, SV.si .i64 (runB p m x.fst.toNat).at_.opn.a1, SV.si .i64 (runB p m x.fst.toNat).at_.opn.a2, SV.si .i64 (runB p m x.fst.toNat).at_.opn.a3, SV.si .i64 (runB p m x.fst.toNat).at_.opn.a4, SV.si .i64 (runB p m x.fst.toNat).at_.opn.a5] 141 13 false).same (SObj.cells [SV.si .i64 (runB p m (x.fst + (1 : Int)).toNat).at_.members, SV.si .i64 (runB p m (x.fst + (1 : Int)).toNat).at_.left.a0, SV.si .i64 (runB p m (x.fst + (1 : Int)).toNat).at_.left.a1, SV.si .i64 (runB p m (x.fst + (1 : Int)).toNat).at_.left.a2, SV.si .i64 (runB p m (x.fst + (1 : Int)).toNat).at_.left.a3, SV.si .i64 (runB p m (x.fst + (1 : Int)).toNat).at_.left.a4, SV.si .i64 (runB p m (x.fst + (1 : Int)).toNat).at_.left.a5, SV.si .i64 (runB p m (x.fst + (1 : Int)).toNat).at_.opn.a0, SV.si .i64 (runB p m (x.fst + (1 : Int)).toNat).at_.opn.a1, SV.si .i64 (runB p m (x.fst + (1 : Int)).toNat).at_.opn.a2, SV.si .i64 (runB p m (x.fst + (1 : Int)).toNat).at_.opn.a3, SV.si .i64 (runB p m (x.fst + (1 : Int)).toNat).at_.opn.a4, SV.si .i64 (runB p m (x.fst + (1 : Int)).toNat).at_.opn.a5] 141 13 false) ∧ (SObj.cells [SV.ow 6 (runB p m x.fst.toNat).out.length 1, SV.si .i64 (startB p m).rest] 31 2 false).same (SObj.cells [SV.ow 6 (runB p m (x.fst + (1 : Int)).toNat).out.length 1, SV.si .i64 (startB p m).rest] 31 2 false) ∧ (SObj.row (SId.i .i64) (runB p m x.fst.toNat).out 3 false).same (SObj.row (SId.i .i64) (runB p m (x.fst + (1 : Int)).toNat).out 3 false) ∧ True) ∧ ((0 : Int) ≤ x.fst + (1 : Int) ∧ x.fst + (1 : Int) ≤ (↑p.offers.length : Int) ∧ MemoOk p x.snd) ∧ ((↑p.offers.length : Int) - (x.fst + (1 : Int))).toNat < ((↑p.offers.length : Int) - x.fst).toNat))) ∧ (decide (x.fst < (↑p.offers.length : Int)) = false → (SV.tup [SV.agg [SV.ow 0 (runB p m x.fst.toNat).out.length 1, SV.si .i64 (startB p m).rest], SV.il .i64 0]).same (SV.tup [SV.agg [SV.ow 0 (bestI p m).chosen.length 1, SV.si .i64 (bestI p m).value], SV.si .i64 0]) ∧ (SObj.row (SId.i .i64) (runB p m x.fst.toNat).out 3 false).same (SObj.row (SId.i .i64) (bestI p m).chosen 3 false) ∧ True))) (by kernel_rfl) ?_
  simp only [decide_eq_true_eq, decide_eq_false_iff_not, same_il_si, same_si_si, same_si_il, same_il_il, same_sb_sb, same_bl_sb, same_row, same_tup2, same_tup3, same_nil, same_row_nil, same_rfl, osame_rfl, inR_i64, eq_self, true_and, and_true, Bool.and_eq_true, Bool.not_eq_true', Bool.not_eq_false']
  obtain ⟨hc, m0, m1⟩ := fault_zero hz
  have hg := good_of hc
  have hp := pow_n hg.1
  have h160 := hg.2.1
  have ha : SitOk ⟨m, p.supply, p.opn⟩ := ⟨m0, by simp only; omega, hg.2.2.1, hg.2.2.2.1⟩
  have hm0 : MemoOk p [] := fun e he => by simp at he
  have cn : ∀ z, cnt z < 9 := fun z => by have := @mem_len z; unfold cnt; omega
  obtain ⟨e1, e2⟩ := best_ok hg (cnt m + 1) [] ⟨m, p.supply, p.opn⟩ ha hm0 (by simp only; omega)
  have r0 : runB p m 0 = startB p m := rfl
  have hst : (startB p m).rest = bestS p ⟨m, p.supply, p.opn⟩ := rfl
  rw [r0, e1, hst]
  refine ⟨fun h => absurd hz h, fun _ => ⟨hg, ⟨⟨hg, ha, hm0⟩, cn m⟩, ⟨⟨rfl, rfl, rfl, rfl⟩, by omega, by omega, e2⟩, ?_⟩⟩
  rintro ⟨i, es⟩ ⟨i0, i1, hes⟩
  simp only at i0 i1 hes ⊢
  obtain ⟨k1, k2, k3⟩ := runB_ok hg m0 (show m < 256 by omega) i.toNat (by omega)
  refine ⟨fun hlt => ?_, fun hge => ?_⟩
  · have hsu : runB p m (i + 1).toNat = stepB p (runB p m i.toNat) i.toNat := by rw [show (i + 1).toNat = i.toNat + 1 by omega, runB_succ]
    have hx := nthD_mem (d := SId.off.dflt) (show i.toNat < p.offers.length by omega)
    unfold stepB at hsu
    simp only at hsu
    rw [show ((i.toNat : Nat) : Int) = i by omega] at hsu
    generalize nthD p.offers i.toNat SId.off.dflt = x at *
    generalize runB p m i.toNat = s at *
    have hv := hg.2.2.2.2 x hx
    have hbd := bestS_bd hg s.at_
    have h8 := hg.1
    have hbit : binK.andI .i64 (s.at_.members / 2 ^ x.bidder.toNat) 1 = bitI s.at_.members x.bidder := rfl
    rw [hbit]
    refine ⟨i0, hlt, by omega, by omega, by omega, fun hb => ?_, fun hb => ⟨⟨by omega, by omega, by omega, k1.2.2, hv.2.2.1⟩, fun hf => ?_, fun hf => ?_⟩⟩
    · rw [if_neg (fun h => h.1 hb)] at hsu
      rw [hsu]
      exact ⟨by omega, ⟨rfl, rfl, rfl, rfl⟩, ⟨by omega, by omega, hes⟩, by omega⟩
    · have haf : afterS p s.at_ x = nextAt p s.at_ x := by unfold afterS; rw [if_pos hf]
      rw [haf]
      have hn := nextOk hg k1 hx hb hf
      obtain ⟨q1, q2⟩ := best_ok hg (cnt (nextAt p s.at_ x).members + 1) es (nextAt p s.at_ x) hn hes (by omega)
      have hbn := bestS_bd hg (nextAt p s.at_ x)
      rw [q1]
      refine ⟨⟨⟨hg, hn, hes⟩, cn _⟩, ⟨by omega, by omega⟩, fun he => ?_, fun he => ?_⟩
      · rw [if_pos ⟨hb, hf, he⟩] at hsu
        rw [hsu]
        exact ⟨by omega, by omega, by omega, by omega, ⟨rfl, rfl, rfl, rfl⟩, ⟨by omega, by omega, q2⟩, by omega⟩
      · rw [if_neg (fun h => he h.2.2)] at hsu
        rw [hsu]
        exact ⟨by omega, ⟨rfl, rfl, rfl, rfl⟩, ⟨by omega, by omega, q2⟩, by omega⟩
    · rw [if_neg (fun h => by rw [hf] at h; cases h.2.1)] at hsu
      rw [hsu]
      exact ⟨by omega, ⟨rfl, rfl, rfl, rfl⟩, ⟨by omega, by omega, hes⟩, by omega⟩
  · have hb : bestI p m = ⟨(runB p m i.toNat).out, bestS p ⟨m, p.supply, p.opn⟩⟩ := by unfold bestI; rw [if_pos hz, show i.toNat = p.offers.length by omega]
    rw [hb]
    exact ⟨rfl, rfl⟩

end Go.Vi
/-
  Plain law: the best list that the search takes is the first one.
  Conditions: none.
-/
set_option maxRecDepth 100000
set_option maxHeartbeats 4000000
set_option linter.unusedSimpArgs false
set_option linter.unusedVariables false
namespace Go.Vi
open Go.Proofs

/-! ### the order of lists -/

theorem cmp_self : ∀ l : List Int, cmpL l l = 0
  | [] => rfl
  | a :: l => by
    simp only [cmpL, if_neg (Int.lt_irrefl a)]
    exact cmp_self l
theorem cmp_zero : ∀ {a b : List Int}, cmpL a b = 0 → a = b
  | [], [], _ => rfl
  | [], _ :: _, h => by simp [cmpL] at h
  | _ :: _, [], h => by simp [cmpL] at h
  | x :: a, y :: b, h => by
    simp only [cmpL] at h
    split at h
    · simp at h
    · split at h
      · simp at h
      · rw [cmp_zero h, show x = y by omega]
theorem cmp_neg : ∀ {a b : List Int}, cmpL a b < 0 ↔ 0 < cmpL b a
  | [], [] => by simp [cmpL]
  | [], _ :: _ => by simp [cmpL]
  | _ :: _, [] => by simp [cmpL]
  | x :: a, y :: b => by
    simp only [cmpL]
    by_cases h1 : x < y
    · rw [if_pos h1, if_neg (by omega), if_pos h1]; simp
    · by_cases h2 : y < x
      · rw [if_neg h1, if_pos h2, if_pos h2]; simp
      · rw [if_neg h1, if_neg h2, if_neg h2, if_neg h1]
        exact cmp_neg
theorem cmp_trans : ∀ {a b c : List Int}, cmpL a b < 0 → cmpL b c < 0 → cmpL a c < 0
  | [], [], _, h, _ => by simp [cmpL] at h
  | _ :: _, [], _, h, _ => by simp [cmpL] at h
  | [], _ :: _, [], _, h => by simp [cmpL] at h
  | [], _ :: _, _ :: _, _, _ => by simp [cmpL]
  | _ :: _, _ :: _, [], _, h => by simp [cmpL] at h
  | x :: a, y :: b, z :: c, h, k => by
    simp only [cmpL] at h k ⊢
    by_cases h1 : x < y
    · by_cases k1 : y < z
      · rw [if_pos (by omega)]; omega
      · rw [if_neg k1] at k
        by_cases k2 : z < y
        · rw [if_pos k2] at k; simp at k
        · rw [if_pos (by omega)]; omega
    · rw [if_neg h1] at h
      by_cases h2 : y < x
      · rw [if_pos h2] at h; simp at h
      · rw [if_neg h2] at h
        by_cases k1 : y < z
        · rw [if_pos (by omega)]; omega
        · rw [if_neg k1] at k
          by_cases k2 : z < y
          · rw [if_pos k2] at k; simp at k
          · rw [if_neg k2] at k
            rw [if_neg (by omega), if_neg (by omega)]
            exact cmp_trans h k

def Beats (a b : Alloc) : Prop := b.value < a.value ∨ a.value = b.value ∧ cmpL a.chosen b.chosen < 0
theorem beats_trans {a b c : Alloc} (h : Beats a b) (k : Beats b c) : Beats a c := by
  rcases h with h | ⟨h1, h2⟩
  · rcases k with k | ⟨k1, _⟩
    · left; omega
    · left; omega
  · rcases k with k | ⟨k1, k2⟩
    · left; omega
    · exact .inr ⟨by omega, cmp_trans h2 k2⟩
theorem beats_irr {a : Alloc} : ¬ Beats a a := by
  rintro (h | ⟨_, h⟩)
  · omega
  · rw [cmp_self] at h; omega
theorem unbeaten {a b : Alloc} (h : ¬ Beats a b) (k : ¬ Beats b a) : a = b := by
  obtain ⟨l, v⟩ := a
  obtain ⟨m, w⟩ := b
  simp only [Beats, not_or, not_and] at h k
  have hv : v = w := by omega
  subst hv
  have h2 := h.2 rfl
  have k2 := k.2 rfl
  have := mt cmp_neg.2 k2
  rw [cmp_zero (show cmpL l m = 0 by omega)]

theorem riv_fold {p : Prob} {k : Int} : ∀ {ls : List (List Int)} {b : Alloc},
    (∀ c, Beats c (ls.foldl (rivF p k) b) → Beats c b) ∧ (∀ l ∈ ls, k ∉ l → ¬ Beats ⟨l, valueS p l⟩ (ls.foldl (rivF p k) b)) ∧
      (ls.foldl (rivF p k) b = b ∨ ∃ l ∈ ls, k ∉ l ∧ ls.foldl (rivF p k) b = ⟨l, valueS p l⟩)
  | [], b => by simp
  | l :: ls, b => by
    obtain ⟨h1, h2, h3⟩ := @riv_fold p k ls (rivF p k b l)
    rw [List.foldl_cons]
    by_cases hk : k ∈ l
    · have e : rivF p k b l = b := by unfold rivF; rw [if_pos hk]
      rw [e] at h1 h2 h3 ⊢
      refine ⟨h1, fun m hm hkm => ?_, ?_⟩
      · rcases List.mem_cons.1 hm with rfl | hm
        · exact absurd hk hkm
        · exact h2 m hm hkm
      · rcases h3 with h | ⟨m, hm, h⟩
        · exact .inl h
        · exact .inr ⟨m, by simp [hm], h⟩
    · have e : rivF p k b l = better ⟨l, valueS p l⟩ b := by unfold rivF; rw [if_neg hk]
      rw [e] at h1 h2 h3 ⊢
      by_cases hb : Beats ⟨l, valueS p l⟩ b
      · have e2 : better ⟨l, valueS p l⟩ b = ⟨l, valueS p l⟩ := if_pos hb
        rw [e2] at h1 h2 h3 ⊢
        refine ⟨fun c hc => beats_trans (h1 c hc) hb, fun m hm hkm => ?_, ?_⟩
        · rcases List.mem_cons.1 hm with rfl | hm
          · exact fun hh => beats_irr (h1 _ hh)
          · exact h2 m hm hkm
        · rcases h3 with h | ⟨m, hm, h⟩
          · exact .inr ⟨l, by simp, hk, h⟩
          · exact .inr ⟨m, by simp [hm], h⟩
      · have e2 : better ⟨l, valueS p l⟩ b = b := if_neg hb
        rw [e2] at h1 h2 h3 ⊢
        refine ⟨h1, fun m hm hkm => ?_, ?_⟩
        · rcases List.mem_cons.1 hm with rfl | hm
          · exact fun hh => hb (h1 _ hh)
          · exact h2 m hm hkm
        · rcases h3 with h | ⟨m, hm, h⟩
          · exact .inl h
          · exact .inr ⟨m, by simp [hm], h⟩

/-! ### situations -/

def FitS (p : Prob) (a : Sit) (L : List Off) : Prop := FitL p (memL a.members) a.left a.opn L

theorem mem_bit {m b : Int} : b ∈ memL m ↔ (0 ≤ b ∧ b < 8) ∧ bitI m b ≠ 0 := by
  unfold memL
  rw [List.mem_filter, decide_eq_true_eq]
  constructor
  · rintro ⟨h1, h2⟩
    simp only [List.mem_cons, List.not_mem_nil, or_false] at h1
    exact ⟨by omega, h2⟩
  · rintro ⟨h1, h2⟩
    refine ⟨?_, h2⟩
    have : b = 0 ∨ b = 1 ∨ b = 2 ∨ b = 3 ∨ b = 4 ∨ b = 5 ∨ b = 6 ∨ b = 7 := by omega
    rcases this with rfl | rfl | rfl | rfl | rfl | rfl | rfl | rfl <;> simp

theorem fitS_cons {p : Prob} (hg : Good p) {a : Sit} (ha : SitOk a) {x : Off} (hx : x ∈ p.offers) (hb : bitI a.members x.bidder ≠ 0) (hf : fitsAt p a x = true) {L : List Off} (h : FitS p (nextAt p a x) L) : FitS p a (x :: L) := by
  have hv := hg.2.2.2.2 x hx
  have h8 := hg.1
  have hd := (bit_del ha.1 ha.2.1 hv.1 (by omega)).2 hb
  have hm : memL (nextAt p a x).members = (memL a.members).filter fun g => decide (g ≠ x.bidder) := hd.2.2
  obtain ⟨n1, n2, n3, n4⟩ := h
  rw [hm] at n2
  simp only [fitsAt, Bool.and_eq_true] at hf
  have w1 := Bun.le_iff.1 hf.1
  have w2 := Bun.le_iff.1 hf.2
  refine ⟨?_, fun y hy => ?_, ?_, ?_⟩
  · rw [List.map_cons, List.nodup_cons]
    refine ⟨fun hh => ?_, n1⟩
    obtain ⟨y, hy, he⟩ := List.mem_map.1 hh
    have := (List.mem_filter.1 (n2 y hy).2).2
    simp only [decide_eq_true_eq] at this
    exact this he
  · rcases List.mem_cons.1 hy with rfl | hy
    · exact ⟨hx, mem_bit.2 ⟨⟨hv.1, by omega⟩, hb⟩⟩
    · exact ⟨(n2 y hy).1, (List.mem_filter.1 (n2 y hy).2).1⟩
  · have := Bun.le_iff.1 n3
    rw [List.map_cons, sumB_cons, Bun.le_iff]
    simp only [Bun.add, Bun.sub, nextAt] at this ⊢
    omega
  · have := Bun.le_iff.1 n4
    rw [List.map_cons, sumB_cons, Bun.le_iff]
    simp only [Bun.add, Bun.sub, nextAt] at this ⊢
    omega

theorem fitS_uncons {p : Prob} (hg : Good p) {a : Sit} (ha : SitOk a) {x : Off} {L : List Off} (h : FitS p a (x :: L)) : (bitI a.members x.bidder ≠ 0 ∧ fitsAt p a x = true) ∧ FitS p (nextAt p a x) L := by
  obtain ⟨n1, n2, n3, n4⟩ := h
  have hx := n2 x (by simp)
  have hb := (mem_bit.1 hx.2)
  have hd := (bit_del ha.1 ha.2.1 hb.1.1 hb.1.2).2 hb.2
  have hm : memL (nextAt p a x).members = (memL a.members).filter fun g => decide (g ≠ x.bidder) := hd.2.2
  obtain ⟨b1, b2⟩ := fit_bd hg (L := L) fun y hy => (n2 y (by simp [hy])).1
  rw [List.map_cons, sumB_cons, Bun.le_iff] at n3 n4
  rw [List.map_cons, List.nodup_cons] at n1
  simp only [Bun.add, Bun.bd] at n3 n4 b1 b2
  refine ⟨⟨hb.2, ?_⟩, n1.2, fun y hy => ⟨(n2 y (by simp [hy])).1, ?_⟩, ?_, ?_⟩
  · simp only [fitsAt, Bool.and_eq_true, Bun.le_iff]
    omega
  · rw [hm, List.mem_filter, decide_eq_true_eq]
    exact ⟨(n2 y (by simp [hy])).2, fun e => n1.1 (e ▸ List.mem_map_of_mem hy)⟩
  · rw [Bun.le_iff]
    simp only [Bun.sub, nextAt]
    omega
  · rw [Bun.le_iff]
    simp only [Bun.sub, nextAt]
    omega

theorem fitS_perm {p : Prob} {a : Sit} {L M : List Off} (h : L.Perm M) (hL : FitS p a L) : FitS p a M :=
  ⟨((h.map _).nodup_iff).1 hL.nd, fun x hx => hL.mem x (h.mem_iff.2 hx), by rw [← perm_B (h.map _)]; exact hL.w, by rw [← perm_B (h.map _)]; exact hL.o⟩

theorem fitS_le {p : Prob} (hg : Good p) {a : Sit} {L : List Off} (h : FitS p a L) : sumV L ≤ bestS p a := fit_le hg h
theorem fitS_at {p : Prob} (hg : Good p) {a : Sit} (ha : SitOk a) : ∃ L, FitS p a L ∧ sumV L = bestS p a := by
  have q1 := Bun.ok_iff.1 ha.2.2.1
  have q2 := Bun.ok_iff.1 ha.2.2.2
  exact fit_at hg (mem_nodup _) (by rw [Bun.le_iff]; simp only [Bun.zero]; omega) (by rw [Bun.le_iff]; simp only [Bun.zero]; omega)

/-- An optimal list with an offer is a reason to accept it. -/
theorem takes {p : Prob} (hg : Good p) {a : Sit} (ha : SitOk a) {x : Off} {L : List Off} (h : FitS p a (x :: L)) (hv : x.value + sumV L = bestS p a) :
    bitI a.members x.bidder ≠ 0 ∧ fitsAt p a x = true ∧ x.value + bestS p (nextAt p a x) = bestS p a ∧ FitS p (nextAt p a x) L ∧ sumV L = bestS p (nextAt p a x) := by
  obtain ⟨⟨h1, h2⟩, h3⟩ := fitS_uncons hg ha h
  have hx := (h.mem x (by simp)).1
  have hn := nextOk hg ha hx h1 h2
  have a1 := fitS_le hg h3
  obtain ⟨M, hM, hMv⟩ := fitS_at hg hn
  have a2 := fitS_le hg (fitS_cons hg ha hx h1 h2 hM)
  simp only [sumV] at a2
  exact ⟨h1, h2, by omega, h3, by omega⟩

/-- The first 'n' offers are no part of what is left to find. -/
theorem left_out {p : Prob} (hc : checkE p = 0) {m : Int} (h0 : 0 ≤ m) (h1 : m < 256) : ∀ n, n ≤ p.offers.length → ∀ L, FitS p (runB p m n).at_ L → sumV L = (runB p m n).rest → ∀ y ∈ L, y ∉ p.offers.take n
  | 0, _, _, _, _, _, _ => by simp
  | n + 1, hn, L, hL, hv, y, hy => by
    have hg := good_of hc
    obtain ⟨k1, k2, k3⟩ := runB_ok hg h0 h1 n (by omega)
    have ih := left_out hc h0 h1 n (by omega)
    have hx := nthD_mem (d := SId.off.dflt) (show n < p.offers.length by omega)
    have htk : p.offers.take (n + 1) = p.offers.take n ++ [nthD p.offers n SId.off.dflt] := by
      have := take_nth (l := p.offers) (i := (n : Int)) (d := SId.off.dflt) (by omega) (by omega)
      simpa using this
    rw [htk]
    rw [runB_succ] at hL hv
    unfold stepB at hL hv
    simp only at hL hv
    generalize nthD p.offers n SId.off.dflt = x at *
    generalize runB p m n = s at *
    split at hL
    · rename_i hcond
      rw [if_pos hcond] at hv
      obtain ⟨c1, c2, c3⟩ := hcond
      have hcons := fitS_cons hg k1 hx c1 c2 hL
      have := ih (x :: L) hcons (by simp only [sumV] at hv ⊢; omega)
      intro hm
      rcases List.mem_append.1 hm with hm | hm
      · exact this y (by simp [hy]) hm
      · rw [List.mem_singleton] at hm
        have hnd := hcons.nd
        rw [List.map_cons, List.nodup_cons] at hnd
        exact hnd.1 (hm ▸ List.mem_map_of_mem hy)
    · rename_i hcond
      rw [if_neg hcond] at hv
      intro hm
      rcases List.mem_append.1 hm with hm | hm
      · exact ih L hL hv y hy hm
      · rw [List.mem_singleton] at hm
        subst hm
        have hperm := List.perm_cons_erase hy
        have hv2 := perm_V hperm
        simp only [sumV] at hv2
        obtain ⟨t1, t2, t3, _⟩ := takes hg k1 (fitS_perm hperm hL) (by omega)
        exact hcond ⟨t1, t2, by omega⟩

/-- What has been taken, with what is left. -/
theorem taken {p : Prob} (hg : Good p) {m : Int} (h0 : 0 ≤ m) (h1 : m < 256) : ∀ n, n ≤ p.offers.length → IncR 0 n (runB p m n).out ∧ sumV (offsI p (runB p m n).out) + (runB p m n).rest = (startB p m).rest ∧
    ∀ L, FitS p (runB p m n).at_ L → FitS p (startB p m).at_ (offsI p (runB p m n).out ++ L)
  | 0, _ => ⟨⟨by simp [runB, startB], by simp [runB, startB]⟩, by simp [runB, startB, offsI, sumV], fun L h => by simpa [runB, startB, offsI] using h⟩
  | n + 1, hn => by
    obtain ⟨k1, k2, k3⟩ := runB_ok hg h0 h1 n (by omega)
    obtain ⟨i1, i2, i3⟩ := taken hg h0 h1 n (by omega)
    have hx := nthD_mem (d := SId.off.dflt) (show n < p.offers.length by omega)
    rw [runB_succ]
    unfold stepB
    simp only
    split
    · rename_i hcond
      obtain ⟨c1, c2, c3⟩ := hcond
      have ho : offsI p ((runB p m n).out ++ [(n : Int)]) = offsI p (runB p m n).out ++ [nthD p.offers n SId.off.dflt] := by
        rw [offsI_append]
        congr 1
      refine ⟨⟨?_, fun j hj => ?_⟩, ?_, fun L hL => ?_⟩
      · rw [List.pairwise_append]
        refine ⟨i1.1, by simp, fun a ha b hb => ?_⟩
        rw [List.mem_singleton] at hb
        have := i1.2 a ha
        omega
      · rcases List.mem_append.1 hj with hj | hj
        · have := i1.2 j hj; omega
        · rw [List.mem_singleton] at hj; omega
      · simp only
        rw [ho, sumV_append]
        simp only [sumV]
        omega
      · have := i3 _ (fitS_cons hg k1 hx c1 c2 hL)
        rw [ho]
        simpa using this
    · exact ⟨⟨i1.1, fun j hj => by have := i1.2 j hj; omega⟩, i2, i3⟩

theorem rest_zero {p : Prob} (hc : checkE p = 0) {m : Int} (h0 : 0 ≤ m) (h1 : m < 256) : (runB p m p.offers.length).rest = 0 := by
  have hg := good_of hc
  obtain ⟨k1, k2, k3⟩ := runB_ok hg h0 h1 p.offers.length (Nat.le_refl _)
  obtain ⟨L, hL, hv⟩ := fitS_at hg k1
  have := left_out hc h0 h1 p.offers.length (Nat.le_refl _) L hL (by omega)
  cases L with
  | nil => rw [k2, ← hv]; rfl
  | cons x L =>
    have hx := (hL.mem x (by simp)).1
    exact absurd (by rw [List.take_length]; exact hx) (this x (by simp))

/-- The rest of the list, from the offer 'n' on; 'k' offers are left. -/
def tailB (p : Prob) : Nat → Nat → BSt → List Int
  | 0, _, _ => []
  | k + 1, n, s =>
    let x := nthD p.offers n SId.off.dflt
    if bitI s.at_.members x.bidder ≠ 0 ∧ fitsAt p s.at_ x = true ∧ x.value + bestS p (nextAt p s.at_ x) = s.rest then (n : Int) :: tailB p k (n + 1) (stepB p s n) else tailB p k (n + 1) (stepB p s n)

theorem tail_out {p : Prob} {m : Int} : ∀ {k n : Nat}, n + k = p.offers.length → (runB p m p.offers.length).out = (runB p m n).out ++ tailB p k n (runB p m n)
  | 0, n, h => by
    have : n = p.offers.length := by omega
    subst this
    simp [tailB]
  | k + 1, n, h => by
    rw [tail_out (k := k) (n := n + 1) (by omega)]
    simp only [tailB]
    rw [runB_succ]
    unfold stepB
    simp only
    split
    · rename_i hc
      simp [List.append_assoc]
    · rfl

theorem first_one {p : Prob} (hc : checkE p = 0) {m : Int} (h0 : 0 ≤ m) (h1 : m < 256) : ∀ {k n : Nat}, n + k = p.offers.length → ∀ t : List Int, IncR n k t → FitS p (runB p m n).at_ (offsI p t) → sumV (offsI p t) = (runB p m n).rest →
    ¬ cmpL t (tailB p k n (runB p m n)) < 0
  | 0, n, h, t, ht, _, _ => by
    cases t with
    | nil => simp [tailB, cmpL]
    | cons j t =>
      have := ht.2 j (by simp)
      omega
  | k + 1, n, h, t, ht, hF, hv => by
    have hg := good_of hc
    obtain ⟨k1, k2, k3⟩ := runB_ok hg h0 h1 n (by omega)
    have hx := nthD_mem (d := SId.off.dflt) (show n < p.offers.length by omega)
    have hxv := hg.2.2.2.2 _ hx
    have hs := @runB_succ p m n
    simp only [tailB]
    rw [← hs]
    by_cases hcond : bitI (runB p m n).at_.members (nthD p.offers n SId.off.dflt).bidder ≠ 0 ∧ fitsAt p (runB p m n).at_ (nthD p.offers n SId.off.dflt) = true ∧ (nthD p.offers n SId.off.dflt).value + bestS p (nextAt p (runB p m n).at_ (nthD p.offers n SId.off.dflt)) = (runB p m n).rest
    · rw [if_pos hcond]
      have hb0 := (bestS_bd hg (nextAt p (runB p m n).at_ (nthD p.offers n SId.off.dflt))).1
      cases t with
      | nil =>
        simp only [offsI, List.map_nil, sumV] at hv
        omega
      | cons j t =>
        have hj := ht.2 j (by simp)
        have hp := List.pairwise_cons.1 ht.1
        by_cases hjn : j = n
        · subst hjn
          have hst : runB p m (n + 1) = ⟨nextAt p (runB p m n).at_ (nthD p.offers n SId.off.dflt), (runB p m n).rest - (nthD p.offers n SId.off.dflt).value, (runB p m n).out ++ [(n : Int)]⟩ := by
            rw [hs]; unfold stepB; simp only; rw [if_pos hcond]
          rw [offsI_cons, Int.toNat_natCast] at hF hv
          simp only [sumV] at hv
          have hun := (fitS_uncons hg k1 hF).2
          have := first_one hc h0 h1 (k := k) (n := n + 1) (by omega) t ⟨hp.2, fun i hi => by have a := hp.1 i hi; have b := ht.2 i (by simp [hi]); omega⟩ (by rw [hst]; exact hun) (by rw [hst]; simp only; omega)
          simp only [cmpL]
          rw [if_neg (Int.lt_irrefl _), if_neg (Int.lt_irrefl _)]
          exact this
        · simp only [cmpL]
          rw [if_neg (by omega), if_pos (by omega)]
          omega
    · rw [if_neg hcond]
      have hst : runB p m (n + 1) = runB p m n := by rw [hs]; unfold stepB; simp only; rw [if_neg hcond]
      refine first_one hc h0 h1 (k := k) (n := n + 1) (by omega) t ⟨ht.1, fun i hi => ?_⟩ (by rw [hst]; exact hF) (by rw [hst]; exact hv)
      have b := ht.2 i hi
      have : i ≠ n := by
        rintro rfl
        cases t with
        | nil => simp at hi
        | cons j t =>
          have hj := ht.2 j (by simp)
          have hp := List.pairwise_cons.1 ht.1
          have hjn : j = n := by
            rcases List.mem_cons.1 hi with h | h
            · exact h.symm
            · have := hp.1 _ h; omega
          subst hjn
          rw [offsI_cons, Int.toNat_natCast] at hF hv
          simp only [sumV] at hv
          obtain ⟨t1, t2, t3, _⟩ := takes hg k1 hF (by omega)
          exact hcond ⟨t1, t2, by omega⟩
      omega

end Go.Vi
/-
  Plain law: rivals and pivotal bidders.
  Conditions: none.
-/
set_option maxRecDepth 100000
set_option maxHeartbeats 4000000
set_option linter.unusedSimpArgs false
set_option linter.unusedVariables false
namespace Go.Vi
open Go.Proofs

theorem all_bd {p : Prob} (hg : Good p) : (0 ≤ allM p ∧ allM p < 2 ^ p.classes.length) ∧ allM p < 256 := by
  have := pow_n hg.1
  unfold allM
  omega

/-- The best list, and that it is the first one. -/
theorem best_list {p : Prob} (hc : checkE p = 0) : (bestI p (allM p)).value = topS p ∧ FeasI p (bestI p (allM p)).chosen ∧ sumV (offsI p (bestI p (allM p)).chosen) = topS p ∧
    ∀ t, FeasI p t → ¬ Beats ⟨t, sumV (offsI p t)⟩ (bestI p (allM p)) := by
  have hg := good_of hc
  obtain ⟨⟨m0, m1⟩, m2⟩ := all_bd hg
  have hf : faultE p (allM p) = 0 := by unfold faultE; rw [if_neg (by simp [hc]), if_neg (by omega)]
  have hb : bestI p (allM p) = ⟨(runB p (allM p) p.offers.length).out, bestS p ⟨allM p, p.supply, p.opn⟩⟩ := by unfold bestI; rw [if_pos hf]
  have htop : topS p = bestS p ⟨allM p, p.supply, p.opn⟩ := by unfold topS worthS; rw [if_pos hf]
  obtain ⟨i1, i2, i3⟩ := taken hg m0 m2 p.offers.length (Nat.le_refl _)
  obtain ⟨k1, k2, k3⟩ := runB_ok hg m0 m2 p.offers.length (Nat.le_refl _)
  have hz := rest_zero hc m0 m2
  have hst : (startB p (allM p)).rest = bestS p ⟨allM p, p.supply, p.opn⟩ := rfl
  have q1 := Bun.ok_iff.1 k1.2.2.1
  have q2 := Bun.ok_iff.1 k1.2.2.2
  have hnil : FitS p (runB p (allM p) p.offers.length).at_ [] := ⟨by simp, by simp, by rw [Bun.le_iff]; simp [sumB]; omega, by rw [Bun.le_iff]; simp [sumB]; omega⟩
  have hall := i3 [] hnil
  rw [List.append_nil] at hall
  have hout := @tail_out p (allM p) p.offers.length 0 (by omega)
  have h00 : (runB p (allM p) 0).out = [] := rfl
  rw [h00, List.nil_append] at hout
  have hF : FeasI p (runB p (allM p) p.offers.length).out := ⟨i1, hall.nd, hall.w, hall.o⟩
  have hV : sumV (offsI p (runB p (allM p) p.offers.length).out) = topS p := by omega
  rw [hb]
  refine ⟨htop.symm, hF, hV, fun t ht => ?_⟩
  have hfit : FitS p (startB p (allM p)).at_ (offsI p t) := ⟨ht.2.1, fun x hx => by
    have hm := offs_ok hg (inc_idx ht.1) x hx
    have hv := hg.2.2.2.2 x hm
    exact ⟨hm, mem_all hg hv.1 hv.2.1⟩, ht.2.2.1, ht.2.2.2⟩
  have hle := fitS_le hg hfit
  rintro (h | ⟨h1, h2⟩)
  · have h : bestS p ⟨allM p, p.supply, p.opn⟩ < sumV (offsI p t) := h
    have hle : sumV (offsI p t) ≤ bestS p ⟨allM p, p.supply, p.opn⟩ := hle
    omega
  · have h1 : sumV (offsI p t) = bestS p ⟨allM p, p.supply, p.opn⟩ := h1
    have h2 : cmpL t (runB p (allM p) p.offers.length).out < 0 := h2
    rw [hout] at h2
    exact first_one hc m0 m2 (k := p.offers.length) (n := 0) (by omega) t (by simpa using ht.1) hfit h1 h2

/-! ### shifting -/

def phi (k j : Int) : Int := if k ≤ j then j + 1 else j
def psi (k j : Int) : Int := if k < j then j - 1 else j

theorem phi_lt {k a b : Int} : phi k a < phi k b ↔ a < b := by
  unfold phi
  split <;> split <;> omega
theorem phi_ne {k j : Int} : phi k j ≠ k := by
  unfold phi
  split <;> omega
theorem phi_psi {k j : Int} (h : j ≠ k) : phi k (psi k j) = j := by
  unfold phi psi
  split <;> split <;> omega
theorem cmp_phi {k : Int} : ∀ {a b : List Int}, cmpL (a.map (phi k)) (b.map (phi k)) = cmpL a b
  | [], [] => rfl
  | [], _ :: _ => rfl
  | _ :: _, [] => rfl
  | x :: a, y :: b => by
    simp only [List.map_cons, cmpL, phi_lt]
    rw [cmp_phi]

theorem nth_del {p : Prob} {k : Int} (h0 : 0 ≤ k) (h1 : k < p.offers.length) {j : Int} (j0 : 0 ≤ j) (j1 : j + 1 < p.offers.length) : nthD (delO p k).offers j.toNat SId.off.dflt = nthD p.offers (phi k j).toNat SId.off.dflt := by
  have e : (delO p k).offers = p.offers.take k.toNat ++ p.offers.drop (k + 1).toNat := rfl
  have hl : (delO p k).offers.length = p.offers.length - 1 := by rw [e]; simp; omega
  rw [nthD_eq (by rw [hl]; omega)]
  unfold phi
  split
  · rw [nthD_eq (by omega)]
    simp only [e]
    rw [List.getElem_append_right (by simp; omega), List.getElem_drop]
    congr 1
    simp
    omega
  · rw [nthD_eq (by omega)]
    simp only [e]
    rw [List.getElem_append_left (by simp; omega), List.getElem_take]

theorem del_len {p : Prob} {k : Int} (h0 : 0 ≤ k) (h1 : k < p.offers.length) : ((delO p k).offers.length : Int) = p.offers.length - 1 := by
  have e : (delO p k).offers = p.offers.take k.toNat ++ p.offers.drop (k + 1).toNat := rfl
  rw [e]
  simp
  omega

theorem up_feas {p : Prob} {k : Int} (h0 : 0 ≤ k) (h1 : k < p.offers.length) {t : List Int} (ht : FeasI (delO p k) t) : FeasI p (t.map (phi k)) ∧ k ∉ t.map (phi k) ∧ offsI p (t.map (phi k)) = offsI (delO p k) t := by
  have hl := del_len h0 h1
  have ho : offsI p (t.map (phi k)) = offsI (delO p k) t := by
    unfold offsI
    rw [List.map_map]
    refine List.map_congr_left fun j hj => ?_
    have := ht.1.2 j hj
    exact (nth_del h0 h1 (by omega) (by omega)).symm
  refine ⟨⟨⟨?_, fun j hj => ?_⟩, ?_⟩, fun hm => ?_, ho⟩
  · rw [List.pairwise_map]
    exact ht.1.1.imp fun h => phi_lt.2 h
  · obtain ⟨i, hi, rfl⟩ := List.mem_map.1 hj
    have := ht.1.2 i hi
    unfold phi
    split <;> omega
  · rw [ho]
    exact ht.2
  · obtain ⟨i, _, hi⟩ := List.mem_map.1 hm
    exact phi_ne hi

theorem down_feas {p : Prob} {k : Int} (h0 : 0 ≤ k) (h1 : k < p.offers.length) {t : List Int} (ht : FeasI p t) (hk : k ∉ t) : ∃ u, FeasI (delO p k) u ∧ u.map (phi k) = t := by
  have hl := del_len h0 h1
  have hu : (t.map (psi k)).map (phi k) = t := by
    rw [List.map_map]
    have : t.map (phi k ∘ psi k) = t.map id := List.map_congr_left fun j hj => phi_psi fun e => hk (e ▸ hj)
    simpa using this
  have hinc : IncR 0 (delO p k).offers.length (t.map (psi k)) := by
    refine ⟨?_, fun j hj => ?_⟩
    · rw [List.pairwise_map]
      refine List.Pairwise.imp_of_mem ?_ ht.1.1
      intro a b ha hb hab
      refine (phi_lt (k := k)).1 ?_
      have hne : ∀ j ∈ t, j ≠ k := fun j hj e => hk (e ▸ hj)
      rw [phi_psi (hne a ha), phi_psi (hne b hb)]
      exact hab
    · obtain ⟨i, hi, rfl⟩ := List.mem_map.1 hj
      have := ht.1.2 i hi
      have hne : i ≠ k := fun e => hk (e ▸ hi)
      unfold psi
      split <;> omega
  have ho : offsI p ((t.map (psi k)).map (phi k)) = offsI (delO p k) (t.map (psi k)) := by
    unfold offsI
    rw [List.map_map]
    refine List.map_congr_left fun j hj => ?_
    have := hinc.2 j hj
    exact (nth_del h0 h1 (by omega) (by omega)).symm
  refine ⟨t.map (psi k), ⟨hinc, ?_⟩, hu⟩
  rw [← ho, hu]
  exact ht.2

def rivS (p : Prob) (k : Int) : Alloc := if markE p k = 0 then ⟨(bestI (delO p k) (allM p)).chosen.map (phi k), (bestI (delO p k) (allM p)).value⟩ else ⟨[], 0⟩

theorem riv_eq {p : Prob} {k : Int} : rivS p k = rivA p k := by
  unfold rivS rivA
  by_cases hz : markE p k = 0
  · rw [if_pos hz, if_pos hz]
    obtain ⟨hc, h0, h1⟩ := mark_zero hz
    have hg := good_of hc
    have hq := del_check hc h0 h1
    obtain ⟨b1, b2, b3, b4⟩ := best_list hq
    have hall : allM (delO p k) = allM p := rfl
    rw [hall] at b1 b2 b3 b4
    obtain ⟨u1, u2, u3⟩ := up_feas h0 h1 b2
    obtain ⟨_, f2, f3⟩ := @riv_fold p k (listsR p) ⟨[], 0⟩
    have hv0 : valueS p ((bestI (delO p k) (allM p)).chosen.map (phi k)) = (bestI (delO p k) (allM p)).value := by rw [feasI_val hc u1, u3, b3, b1]
    have n1 := f2 _ ((lists_mem hc).2 u1) u2
    rw [hv0] at n1
    refine unbeaten n1 ?_
    have hr : ∃ l, FeasI p l ∧ k ∉ l ∧ rivR p k = ⟨l, valueS p l⟩ := by
      rcases f3 with h | ⟨l, hl, hk, h⟩
      · refine ⟨[], feasI_nil hg, by simp, ?_⟩
        rw [feasI_val hc (feasI_nil hg)]
        exact h
      · exact ⟨l, (lists_mem hc).1 hl, hk, h⟩
    obtain ⟨l, hl, hk, hr⟩ := hr
    obtain ⟨t, ht, hte⟩ := down_feas h0 h1 hl hk
    obtain ⟨_, _, v3⟩ := up_feas h0 h1 ht
    rw [hr]
    intro hb
    refine b4 t ht ?_
    have hvt : valueS p l = sumV (offsI (delO p k) t) := by rw [feasI_val hc hl, ← hte, v3]
    rcases hb with h | ⟨h2, h3⟩
    · left
      simp only at h ⊢
      omega
    · right
      simp only at h2 h3 ⊢
      refine ⟨by omega, ?_⟩
      rw [← hte, cmp_phi] at h3
      exact h3
  · rw [if_neg hz, if_neg hz]

/-! ### pivotal bidders -/

def mostF (p : Prob) (m : Int) (l : List Int) : Int := if m < valueS p l then valueS p l else m
def mostR (p : Prob) : Int := (listsR p).foldl (mostF p) 0

theorem most_fold {p : Prob} : ∀ {ls : List (List Int)} {m : Int}, m ≤ ls.foldl (mostF p) m ∧ (∀ l ∈ ls, valueS p l ≤ ls.foldl (mostF p) m) ∧ (ls.foldl (mostF p) m = m ∨ ∃ l ∈ ls, ls.foldl (mostF p) m = valueS p l)
  | [], m => by simp
  | l :: ls, m => by
    obtain ⟨h1, h2, h3⟩ := @most_fold p ls (mostF p m l)
    rw [List.foldl_cons]
    by_cases hv : m < valueS p l
    · have he : mostF p m l = valueS p l := if_pos hv
      rw [he] at h1 h2 h3 ⊢
      refine ⟨by omega, fun x hx => ?_, ?_⟩
      · rcases List.mem_cons.1 hx with hx | hx
        · rw [hx]; exact h1
        · exact h2 x hx
      · rcases h3 with h | ⟨x, hx, h⟩
        · exact .inr ⟨l, by simp, h⟩
        · exact .inr ⟨x, by simp [hx], h⟩
    · have he : mostF p m l = m := if_neg hv
      rw [he] at h1 h2 h3 ⊢
      refine ⟨h1, fun x hx => ?_, ?_⟩
      · rcases List.mem_cons.1 hx with hx | hx
        · rw [hx]; omega
        · exact h2 x hx
      · rcases h3 with h | ⟨x, hx, h⟩
        · exact .inl h
        · exact .inr ⟨x, by simp [hx], h⟩

theorem most_eq {p : Prob} (hc : checkE p = 0) : mostR p = topS p := by
  have hg := good_of hc
  obtain ⟨h1, h2, h3⟩ := @most_fold p (listsR p) 0
  have t0 := top_bd p
  obtain ⟨L, hL, hm, hv⟩ := worth_hit hc
  have hv : sumV L = topS p := hv
  obtain ⟨t, ht, hp⟩ := to_idx hc hL hm
  have a := h2 t ((lists_mem hc).2 ht)
  rw [feasI_val hc ht, perm_V hp, hv] at a
  change topS p ≤ mostR p at a
  rcases h3 with h | ⟨l, hl, h⟩
  · change mostR p = 0 at h; omega
  · have hF := (lists_mem hc).1 hl
    have b := worth_top hc hF.2 (offs_ok hg (inc_idx hF.1))
    rw [feasI_val hc hF] at h
    change mostR p = _ at h
    change _ ≤ topS p at b
    omega

theorem mem_del_iff {p : Prob} (hg : Good p) {b x : Int} (h0 : 0 ≤ b) (h1 : b < p.classes.length) (h : x ∈ memL (delI (allM p) b)) : x ≠ b := by
  obtain ⟨⟨m0, m1⟩, m2⟩ := all_bd hg
  have h8 := hg.1
  have hb := (mem_bit.1 (mem_all hg h0 h1)).2
  have hd := (bit_del m0 m2 h0 (by omega)).2 hb
  rw [hd.2.2] at h
  simpa using (List.mem_filter.1 h).2

theorem top_del {p : Prob} (hc : checkE p = 0) {b : Int} (h0 : 0 ≤ b) (h1 : b < p.classes.length) : topS (qP p b) = worthS p (delI (allM p) b) := by
  have hg := good_of hc
  have hq : checkE (qP p b) = 0 := check_filter hc
  obtain ⟨d0, d1⟩ := del_bd hg h0 h1
  have hqm : ∀ x, x ∈ (qP p b).offers ↔ x ∈ p.offers ∧ x.bidder ≠ b := fun x => by
    show x ∈ p.offers.filter _ ↔ _
    rw [List.mem_filter, decide_eq_true_eq]
  have hw := worthS_val hc d0 d1
  have le1 : topS (qP p b) ≤ worthS p (delI (allM p) b) := by
    obtain ⟨L, hL, hm, hv⟩ := worth_hit hq
    have hv : sumV L = topS (qP p b) := hv
    rw [← hv, hw]
    refine fit_le hg ⟨hL.1, fun x hx => ?_, hL.2.1, hL.2.2⟩
    have hx2 := (hqm x).1 (hm x hx)
    have hxv := hg.2.2.2.2 x hx2.1
    exact ⟨hx2.1, mem_del hg h0 h1 hxv.1 hxv.2.1 hx2.2⟩
  have le2 : worthS p (delI (allM p) b) ≤ topS (qP p b) := by
    have q1 := Bun.ok_iff.1 hg.2.2.1
    have q2 := Bun.ok_iff.1 hg.2.2.2.1
    obtain ⟨L, hL, hv⟩ := fit_at hg (mem_nodup (delI (allM p) b)) (l := p.supply) (o := p.opn) (by rw [Bun.le_iff]; simp only [Bun.zero]; omega) (by rw [Bun.le_iff]; simp only [Bun.zero]; omega)
    rw [hw, ← hv]
    exact worth_top hq (p := qP p b) (L := L) ⟨hL.nd, hL.w, hL.o⟩ fun x hx => (hqm x).2 ⟨(hL.mem x hx).1, mem_del_iff hg h0 h1 (hL.mem x hx).2⟩
  omega

end Go.Vi
/-
  Contracts: pivotal bidders.
  Conditions: none.
-/
set_option maxRecDepth 100000
set_option maxHeartbeats 4000000
set_option linter.unusedSimpArgs false
set_option linter.unusedVariables false
namespace Go.Vi
open Go.Proofs.Ytigbjjkijfkeeaa.Ir
open Go.Proofs

def most1 (p : Prob) (i : Int) : Int := ((listsR p).take i.toNat).foldl (mostF p) 0
def r82 : SCtr := ⟨82, Prob, .one codP, fun p => checkE p = 0 ∧ p.offers.length ≤ 9, fun p => .si .i64 (mostR p)⟩
def Λ82 (p : Prob) : Nat → LoopAnn
  | 4 => .inv Int (fun i => ⟨[(1, .ptr 0 0 20), (3, .si .i64 (most1 p i)), (4, .row (.lst (.i .i64)) (listsR p)), (5, .si .i64 i)], [.cells p.ss 27 20 false]⟩) (fun s => iS s 5)
    (fun i => 0 ≤ i ∧ i ≤ (listsR p).length) (fun i => ((listsR p).length - i).toNat) fun _ _ => .look
  | _ => .look
theorem most_bd {p : Prob} : ∀ {ls : List (List Int)} {m : Int}, 0 ≤ m ∧ m ≤ 160000000 → 0 ≤ ls.foldl (mostF p) m ∧ ls.foldl (mostF p) m ≤ 160000000
  | [], m, h => h
  | l :: ls, m, h => by
    rw [List.foldl_cons]
    refine most_bd ?_
    have := val_bd p l
    unfold mostF
    split <;> omega
theorem h82 : Holds Try.prog r82 := by
  refine con (L := Q5) r82 F82 Λ82 (OwnOK.none _) hQ5 (by kernel_rfl) (by kernel_rfl) (fun _ => rfl) ?_
  rintro p ⟨hc, h9⟩
  refine vcOf (p.offers.length ≤ 9 ∧ ((((SV.ptr 0 0 20).same (SV.ptr 0 0 20) ∧ (SV.il .i64 0).same (SV.si .i64 (most1 p (0 : Int))) ∧ (SV.row (SId.i .i64).lst (listsR p)).same (SV.row (SId.i .i64).lst (listsR p)) ∧ (SV.il .i64 0).same (SV.si .i64 0) ∧ True) ∧ (SObj.cells (Prob.ss p) 27 20 false).same (SObj.cells (Prob.ss p) 27 20 false) ∧ True) ∧ (0 : Int) ≤ (0 : Int) ∧ (0 : Int) ≤ (↑(listsR p).length : Int)) ∧ ∀ (x : Int), (0 : Int) ≤ x ∧ x ≤ (↑(listsR p).length : Int) → (decide (x < (↑(listsR p).length : Int)) = true → (0 : Int) ≤ x ∧ x < (↑(listsR p).length : Int) ∧ x.toNat < (listsR p).length ∧ (nthD (listsR p) x.toNat (SId.i .i64).lst.dflt).length ≤ 1000000000000 ∧ (decide (most1 p x < valueS p (nthD (listsR p) x.toNat (SId.i .i64).lst.dflt)) = true → inR .i64 (x + (1 : Int)) ∧ (((SV.ptr 0 0 20).same (SV.ptr 0 0 20) ∧ (SV.si .i64 (valueS p (nthD (listsR p) x.toNat (SId.i .i64).lst.dflt))).same (SV.si .i64 (most1 p (x + (1 : Int)))) ∧ (SV.row (SId.i .i64).lst (listsR p)).same (SV.row (SId.i .i64).lst (listsR p)) ∧ (SV.si .i64 (x + (1 : Int))).same (SV.si .i64 (x + (1 : Int))) ∧ True) ∧ (SObj.cells (Prob.ss p) 27 20 false).same (SObj.cells (Prob.ss p) 27 20 false) ∧ True) ∧ ((0 : Int) ≤ x + (1 : Int) ∧ x + (1 : Int) ≤ (↑(listsR p).length : Int)) ∧ ((↑(listsR p).length : Int) - (x + (1 : Int))).toNat < ((↑(listsR p).length : Int) - x).toNat) ∧ (decide (most1 p x < valueS p (nthD (listsR p) x.toNat (SId.i .i64).lst.dflt)) = false → inR .i64 (x + (1 : Int)) ∧ (((SV.ptr 0 0 20).same (SV.ptr 0 0 20) ∧ (SV.si .i64 (most1 p x)).same (SV.si .i64 (most1 p (x + (1 : Int)))) ∧ (SV.row (SId.i .i64).lst (listsR p)).same (SV.row (SId.i .i64).lst (listsR p)) ∧ (SV.si .i64 (x + (1 : Int))).same (SV.si .i64 (x + (1 : Int))) ∧ True) ∧ (SObj.cells (Prob.ss p) 27 20 false).same (SObj.cells (Prob.ss p) 27 20 false) ∧ True) ∧ ((0 : Int) ≤ x + (1 : Int) ∧ x + (1 : Int) ≤ (↑(listsR p).length : Int)) ∧ ((↑(listsR p).length : Int) - (x + (1 : Int))).toNat < ((↑(listsR p).length : Int) - x).toNat)) ∧ (decide (x < (↑(listsR p).length : Int)) = false → (SV.si .i64 (most1 p x)).same (SV.si .i64 (mostR p)))) (by kernel_rfl) ?_
  simp only [decide_eq_true_eq, decide_eq_false_iff_not, same_il_si, same_si_si, same_si_il, same_il_il, same_sb_sb, same_bl_sb, same_row, same_tup2, same_tup3, same_nil, same_row_nil, same_rfl, osame_rfl, inR_i64, eq_self, true_and, and_true, Bool.and_eq_true, Bool.not_eq_true', Bool.not_eq_false']
  have hll : (listsR p).length ≤ 1000 := by
    have h1 := @lis_len p p.offers.length 0 [] [[]]
    have h2 : (2 : Nat) ^ p.offers.length ≤ 2 ^ 9 := Nat.pow_le_pow_right (by decide) h9
    simp only [List.length_singleton] at h1
    change (listsR p).length + 1 ≤ _ at h1
    omega
  refine ⟨h9, ⟨rfl, by omega, by omega⟩, ?_⟩
  rintro i ⟨i0, i1⟩
  have hb := @most_bd p ((listsR p).take i.toNat) 0 (by omega)
  change 0 ≤ most1 p i ∧ most1 p i ≤ 160000000 at hb
  refine ⟨fun hlt => ?_, fun hge => ?_⟩
  · have hm := nthD_mem (d := (SId.lst (.i .i64)).dflt) (show i.toNat < (listsR p).length by omega)
    have hs : most1 p (i + 1) = mostF p (most1 p i) (nthD (listsR p) i.toNat (SId.lst (.i .i64)).dflt) := fold_take i0 hlt
    generalize nthD (listsR p) i.toNat (SId.lst (.i .i64)).dflt = l at *
    have hlen := lists_len hc hm
    have hv := val_bd p l
    unfold mostF at hs
    refine ⟨i0, hlt, by omega, by omega, fun h1 => ?_, fun h1 => ?_⟩
    · rw [if_pos h1] at hs
      exact ⟨by omega, by omega, ⟨by omega, by omega⟩, by omega⟩
    · rw [if_neg h1] at hs
      exact ⟨by omega, by omega, ⟨by omega, by omega⟩, by omega⟩
  · have hi : i.toNat = (listsR p).length := by omega
    show most1 p i = mostR p
    unfold most1 mostR; rw [hi, List.take_length]

theorem u64_ok {b : Int} (h0 : 0 ≤ b) (h1 : b ≤ 1000) : inR .u64 b := by
  show IntKind.u64.wrap b = b
  simp only [IntKind.wrap, IntKind.bits, IntKind.signed]
  simp
  omega

def wiM (p : Prob) (m : Int) : Prob := offP p (p.offers.filter fun x => decide (bitI m x.bidder = 0))
def r83 : SCtr := ⟨83, Prob × Int, .cons codP (.one (codI .i64)), fun a => checkE a.1 = 0 ∧ 0 ≤ a.2, fun a => codP.put (wiM a.1 a.2)⟩
def wiL (p : Prob) (m : Int) (i : Nat) : List Off := (p.offers.take i).filter fun x => decide (bitI m x.bidder = 0)
def st83 (p : Prob) (l : List Off) : SStore := [.cells p.ss 27 20 false, .cells zss 27 20 false, .cells (bss p.supply p.opn p.cls ++ [.row (.i .i64) p.classes, .ow 3 l.length 8]) 27 20 false, .row .off l 43 true]
def Λ83 (a : Prob × Int) : Nat → LoopAnn
  | 6 => .inv Int (fun i => ⟨[(1, .si .i64 a.2), (2, .ptr 0 0 20), (4, .ptr 1 0 20), (5, .ptr 2 0 20), (6, .si .i64 i)], st83 a.1 (wiL a.1 a.2 i.toNat)⟩) (fun s => iS s 6)
    (fun i => 0 ≤ i ∧ i ≤ a.1.offers.length) (fun i => (a.1.offers.length - i).toNat) fun _ _ => .look
  | _ => .look
theorem h83 : Holds Try.prog r83 := by
  refine con (L := [r24]) r83 F83 Λ83 (OwnOK.none _) (by simpa using h24) (by kernel_rfl) (by kernel_rfl) (fun _ => rfl) ?_
  rintro ⟨p, m⟩ ⟨hc, hm⟩
  simp only at hc hm
  refine vcOf (True ∧ (decide (checkE p ≠ (0 : Int)) = true → (SV.agg [SV.il .i64 0, SV.il .i64 0, SV.il .i64 0, SV.il .i64 0, SV.il .i64 0, SV.il .i64 0, SV.il .i64 0, SV.il .i64 0, SV.il .i64 0, SV.il .i64 0, SV.il .i64 0, SV.il .i64 0, SV.il .i64 0, SV.il .i64 0, SV.il .i64 0, SV.il .i64 0, SV.il .i64 0, SV.il .i64 0, SV.row (SId.i .i64) [], SV.row (SId.i .i64) []]).same (SV.agg (Prob.ss (wiM p m)))) ∧ (decide (checkE p ≠ (0 : Int)) = false → ((((SV.si .i64 m).same (SV.si .i64 m) ∧ (SV.ptr 0 0 20).same (SV.ptr 0 0 20) ∧ (SV.ptr 1 0 20).same (SV.ptr 1 0 20) ∧ (SV.ptr 2 0 20).same (SV.ptr 2 0 20) ∧ (SV.il .i64 0).same (SV.si .i64 0) ∧ True) ∧ (SObj.cells (Prob.ss p) 27 20 false).same (SObj.cells (Prob.ss p) 27 20 false) ∧ (SObj.cells [SV.il .i64 0, SV.il .i64 0, SV.il .i64 0, SV.il .i64 0, SV.il .i64 0, SV.il .i64 0, SV.il .i64 0, SV.il .i64 0, SV.il .i64 0, SV.il .i64 0, SV.il .i64 0, SV.il .i64 0, SV.il .i64 0, SV.il .i64 0, SV.il .i64 0, SV.il .i64 0, SV.il .i64 0, SV.il .i64 0, SV.sc (Value.slice none 0 0), SV.sc (Value.slice none 0 0)] 27 20 false).same (SObj.cells [SV.il .i64 0, SV.il .i64 0, SV.il .i64 0, SV.il .i64 0, SV.il .i64 0, SV.il .i64 0, SV.il .i64 0, SV.il .i64 0, SV.il .i64 0, SV.il .i64 0, SV.il .i64 0, SV.il .i64 0, SV.il .i64 0, SV.il .i64 0, SV.il .i64 0, SV.il .i64 0, SV.il .i64 0, SV.il .i64 0, SV.sc (Value.slice none 0 0), SV.sc (Value.slice none 0 0)] 27 20 false) ∧ (SObj.cells [SV.si .i64 p.supply.a0, SV.si .i64 p.supply.a1, SV.si .i64 p.supply.a2, SV.si .i64 p.supply.a3, SV.si .i64 p.supply.a4, SV.si .i64 p.supply.a5, SV.si .i64 p.opn.a0, SV.si .i64 p.opn.a1, SV.si .i64 p.opn.a2, SV.si .i64 p.opn.a3, SV.si .i64 p.opn.a4, SV.si .i64 p.opn.a5, SV.si .i64 p.cls.a0, SV.si .i64 p.cls.a1, SV.si .i64 p.cls.a2, SV.si .i64 p.cls.a3, SV.si .i64 p.cls.a4, SV.si .i64 p.cls.a5, SV.row (SId.i .i64) p.classes, SV.ow 3 0 8] 27 20 false).same (SObj.cells [SV.si .i64 p.supply.a0, SV.si .i64 p.supply.a1, SV.si .i64 p.supply.a2, SV.si .i64 p.supply.a3, SV.si .i64 p.supply.a4, SV.si .i64 p.supply.a5, SV.si .i64 p.opn.a0, SV.si .i64 p.opn.a1, SV.si .i64 p.opn.a2, SV.si .i64 p.opn.a3, SV.si .i64 p.opn.a4, SV.si .i64 p.opn.a5, SV.si .i64 p.cls.a0, SV.si .i64 p.cls.a1, SV.si .i64 p.cls.a2, SV.si .i64 p.cls.a3, SV.si .i64 p.cls.a4, SV.si .i64 p.cls.a5, SV.row (SId.i .i64) p.classes, SV.ow 3 (wiL p m 0).length 8] 27 20 false) ∧ (SObj.row SId.off [] 43 true).same (SObj.row SId.off (wiL p m 0) 43 true) ∧ True) ∧ (0 : Int) ≤ (0 : Int) ∧ (0 : Int) ≤ (↑p.offers.length : Int)) ∧ ∀ (x : Int), (0 : Int) ≤ x ∧ x ≤ (↑p.offers.length : Int) → (decide (x < (↑p.offers.length : Int)) = true → (0 : Int) ≤ x ∧ x < (↑p.offers.length : Int) ∧ x.toNat < p.offers.length ∧ inR .u64 (nthD p.offers x.toNat SId.off.dflt).bidder ∧ (0 : Int) ≤ (nthD p.offers x.toNat SId.off.dflt).bidder ∧ (nthD p.offers x.toNat SId.off.dflt).bidder ≤ (64 : Int) ∧ (decide (binK.andI .i64 (m / (2 : Int) ^ (nthD p.offers x.toNat SId.off.dflt).bidder.toNat) (1 : Int) = (0 : Int)) = true → (0 : Int) ≤ x ∧ x < (↑p.offers.length : Int) ∧ x.toNat < p.offers.length ∧ 1 = 1 ∧ (wiL p m x.toNat).length = (wiL p m x.toNat).length ∧ ((wiL p m x.toNat).length + 1) * 64 ≤ 140737488355328 ∧ (wiL p m x.toNat).length + 1 ≤ 1000000000000 ∧ inR .i64 (x + (1 : Int)) ∧ (((SV.si .i64 m).same (SV.si .i64 m) ∧ (SV.ptr 0 0 20).same (SV.ptr 0 0 20) ∧ (SV.ptr 1 0 20).same (SV.ptr 1 0 20) ∧ (SV.ptr 2 0 20).same (SV.ptr 2 0 20) ∧ (SV.si .i64 (x + (1 : Int))).same (SV.si .i64 (x + (1 : Int))) ∧ True) ∧ (SObj.cells (Prob.ss p) 27 20 false).same (SObj.cells (Prob.ss p) 27 20 false) ∧ (SObj.cells [SV.il .i64 0, SV.il .i64 0, SV.il .i64 0, SV.il .i64 0, SV.il .i64 0, SV.il .i64 0, SV.il .i64 0, SV.il .i64 0, SV.il .i64 0, SV.il .i64 0, SV.il .i64 0, SV.il .i64 0, SV.il .i64 0, SV.il .i64 0, SV.il .i64 0, SV.il .i64 0, SV.il .i64 0, SV.il .i64 0, SV.sc (Value.slice none 0 0), SV.sc (Value.slice none 0 0)] 27 20 false).same (SObj.cells [SV.il .i64 0, SV.il .i64 0, SV.il .i64 0, SV.il .i64 0, SV.il .i64 0, SV.il .i64 0, SV.il .i64 0, SV.il .i64 0, SV.il .i64 0, SV.il .i64 0, SV.il .i64 0, SV.il .i64 0, SV.il .i64 0, SV.il .i64 0, SV.il .i64 0, SV.il .i64 0, SV.il .i64 0, SV.il .i64 0, SV.sc (Value.slice none 0 0), SV.sc (Value.slice none 0 0)] 27 20 false) ∧ (SObj.cells [SV.si .i64 p.supply.a0, SV.si .i64 p.supply.a1, SV.si .i64 p.supply.a2, SV.si .i64 p.supply.a3, SV.si .i64 p.supply.a4, SV.si .i64 p.supply.a5, SV.si .i64 p.opn.a0, SV.si .i64 p.opn.a1, SV.si .i64 p.opn.a2, SV.si .i64 p.opn.a3, SV.si .i64 p.opn.a4, SV.si .i64 p.opn.a5, SV.si .i64 p.cls.a0, SV.si .i64 p.cls.a1, SV.si .i64 p.cls.a2, SV.si .i64 p.cls.a3, SV.si .i64 p.cls.a4, SV.si .i64 p.cls.a5, SV.row (SId.i .i64) p.classes, SV.ow 3 (wiL p m x.toNat ++ [nthD p.offers x.toNat SId.off.dflt]).length 8] 27 20 false).same (SObj.cells [SV.si .i64 p.supply.a0, SV.si .i64 p.supply.a1, SV.si .i64 p.supply.a2, SV.si .i64 p.supply.a3, SV.si .i64 p.supply.a4, SV.si .i64 p.supply.a5, SV.si .i64 p.opn.a0, SV.si .i64 p.opn.a1, SV.si .i64 p.opn.a2, SV.si .i64 p.opn.a3, SV.si .i64 p.opn.a4, SV.si .i64 p.opn.a5, SV.si .i64 p.cls.a0, SV.si .i64 p.cls.a1, SV.si .i64 p.cls.a2, SV.si .i64 p.cls.a3, SV.si .i64 p.cls.a4, SV.si .i64 p.cls.a5, SV.row (SId.i .i64) p.classes, SV.ow 3 (wiL p m (x + (1 : Int)).toNat).length 8] 27 20 false) ∧ (SObj.row SId.off (wiL p m x.toNat ++ [nthD p.offers x.toNat SId.off.dflt]) 43 true).same (SObj.row SId.off (wiL p m (x + (1 : Int)).toNat) 43 true) ∧ True) ∧ ((0 : Int) ≤ x + (1 : Int) ∧ x + (1 : Int) ≤ (↑p.offers.length : Int)) ∧ ((↑p.offers.length : Int) - (x + (1 : Int))).toNat < ((↑p.offers.length : Int) - x).toNat) ∧ (decide (binK.andI .i64 (m / (2 : Int) ^ (nthD p.offers x.toNat SId.off.dflt).bidder.toNat) (1 : Int) = (0 : Int)) = false → inR .i64 (x + (1 : Int)) ∧ (((SV.si .i64 m).same (SV.si .i64 m) ∧ (SV.ptr 0 0 20).same (SV.ptr 0 0 20) ∧ (SV.ptr 1 0 20).same (SV.ptr 1 0 20) ∧ (SV.ptr 2 0 20).same (SV.ptr 2 0 20) ∧ (SV.si .i64 (x + (1 : Int))).same (SV.si .i64 (x + (1 : Int))) ∧ True) ∧ (SObj.cells (Prob.ss p) 27 20 false).same (SObj.cells (Prob.ss p) 27 20 false) ∧ (SObj.cells [SV.il .i64 0, SV.il .i64 0, SV.il .i64 0, SV.il .i64 0, SV.il .i64 0, SV.il .i64 0, SV.il .i64 0, SV.il .i64 0, SV.il .i64 0, SV.il .i64 0, SV.il .i64 0, SV.il .i64 0, SV.il .i64 0, SV.il .i64 0, SV.il .i64 0, SV.il .i64 0, SV.il .i64 0, SV.il .i64 0, SV.sc (Value.slice none 0 0), SV.sc (Value.slice none 0 0)] 27 20 false).same (SObj.cells [SV.il .i64 0, SV.il .i64 0, SV.il .i64 0, SV.il .i64 0, SV.il .i64 0, SV.il .i64 0, SV.il .i64 0, SV.il .i64 0, SV.il .i64 0, SV.il .i64 0, SV.il .i64 0, SV.il .i64 0, SV.il .i64 0, SV.il .i64 0, SV.il .i64 0, SV.il .i64 0, SV.il .i64 0, SV.il .i64 0, SV.sc (Value.slice none 0 0), SV.sc (Value.slice none 0 0)] 27 20 false) ∧ (SObj.cells [SV.si .i64 p.supply.a0, SV.si .i64 p.supply.a1, SV.si .i64 p.supply.a2, SV.si .i64 p.supply.a3, SV.si .i64 p.supply.a4, SV.si .i64 p.supply.a5, SV.si .i64 p.opn.a0, SV.si .i64 p.opn.a1, SV.si .i64 p.opn.a2, SV.si .i64 p.opn.a3, SV.si .i64 p.opn.a4, SV.si .i64 p.opn.a5, SV.si .i64 p.cls.a0, SV.si .i64 p.cls.a1, SV.si .i64 p.cls.a2, SV.si .i64 p.cls.a3, SV.si .i64 p.cls.a4, SV.si .i64 p.cls.a5, SV.row (SId.i .i64) p.classes, SV.ow 3 (wiL p m x.toNat).length 8] 27 20 false).same (SObj.cells [SV.si .i64 p.supply.a0, SV.si .i64 p.supply.a1, SV.si .i64 p.supply.a2, SV.si .i64 p.supply.a3, SV.si .i64 p.supply.a4, SV.si .i64 p.supply.a5, SV.si .i64 p.opn.a0, SV.si .i64 p.opn.a1, SV.si .i64 p.opn.a2, SV.si .i64 p.opn.a3, SV.si .i64 p.opn.a4, SV.si .i64 p.opn.a5, SV.si .i64 p.cls.a0, SV.si .i64 p.cls.a1, SV.si .i64 p.cls.a2, SV.si .i64 p.cls.a3, SV.si .i64 p.cls.a4, SV.si .i64 p.cls.a5, SV.row (SId.i .i64) p.classes, SV.ow 3 (wiL p m (x + (1 : Int)).toNat).length 8] 27 20 false) ∧ (SObj.row SId.off (wiL p m x.toNat) 43 true).same (SObj.row SId.off (wiL p m (x + (1 : Int)).toNat) 43 true) ∧ True) ∧ ((0 : Int) ≤ x + (1 : Int) ∧ x + (1 : Int) ≤ (↑p.offers.length : Int)) ∧ ((↑p.offers.length : Int) - (x + (1 : Int))).toNat < ((↑p.offers.length : Int) - x).toNat)) ∧ (decide (x < (↑p.offers.length : Int)) = false → (wiL p m x.toNat).length = (wiL p m x.toNat).length ∧ (SV.agg [SV.si .i64 p.supply.a0, SV.si .i64 p.supply.a1, SV.si .i64 p.supply.a2, SV.si .i64 p.supply.a3, SV.si .i64 p.supply.a4, SV.si .i64 p.supply.a5, SV.si .i64 p.opn.a0, SV.si .i64 p.opn.a1, SV.si .i64 p.opn.a2, SV.si .i64 p.opn.a3, SV.si .i64 p.opn.a4, SV.si .i64 p.opn.a5, SV.si .i64 p.cls.a0, SV.si .i64 p.cls.a1, SV.si .i64 p.cls.a2, SV.si .i64 p.cls.a3, SV.si .i64 p.cls.a4, SV.si .i64 p.cls.a5, SV.row (SId.i .i64) p.classes, SV.row SId.off (wiL p m x.toNat)]).same (SV.agg (Prob.ss (wiM p m)))))) (by kernel_rfl) ?_
  simp only [decide_eq_true_eq, decide_eq_false_iff_not, same_il_si, same_si_si, same_si_il, same_il_il, same_sb_sb, same_bl_sb, same_row, same_tup2, same_tup3, same_nil, same_row_nil, same_rfl, osame_rfl, inR_i64, eq_self, true_and, and_true, Bool.and_eq_true, Bool.not_eq_true', Bool.not_eq_false']
  have hg := good_of hc
  have h160 := hg.2.1
  have ccong : ∀ {a b : Nat} {A : List SV}, a = b → (SObj.cells (A ++ [.row (.i .i64) p.classes, .ow 3 a 8]) 27 20 false).same (SObj.cells (A ++ [.row (.i .i64) p.classes, .ow 3 b 8]) 27 20 false) := by rintro _ _ _ rfl; rfl
  have hoff : ∀ {a b : List Off}, a = b → (SObj.row .off a 43 true).same (SObj.row .off b 43 true) := by rintro _ _ rfl; rfl
  have hr0 : wiL p m 0 = [] := by simp [wiL]
  have hrl : ∀ n, (wiL p m n).length ≤ 160 := fun n => by
    have h1 := List.length_filter_le (fun x : Off => decide (bitI m x.bidder = 0)) (p.offers.take n)
    simp only [List.length_take] at h1
    unfold wiL
    omega
  refine ⟨fun h => absurd hc h, fun _ => ⟨⟨⟨ccong (A := bss p.supply p.opn p.cls) (by simp [hr0]), hoff hr0.symm⟩, by omega, by omega⟩, ?_⟩⟩
  rintro i ⟨i0, i1⟩
  refine ⟨fun ilt => ?_, fun ige => ?_⟩
  · have hv := hg.2.2.2.2 _ (nthD_mem (d := SId.off.dflt) (show i.toNat < p.offers.length by omega))
    have hl := hrl i.toNat
    have h8 := hg.1
    have hs : wiL p m (i + 1).toNat = wiL p m i.toNat ++ (if bitI m (nthD p.offers i.toNat SId.off.dflt).bidder = 0 then [nthD p.offers i.toNat SId.off.dflt] else []) := by
      unfold wiL
      rw [take_nth (d := SId.off.dflt) i0 ilt, List.filter_append]
      congr 1
      by_cases h : bitI m (nthD p.offers i.toNat SId.off.dflt).bidder = 0
      · rw [if_pos h, List.filter_cons, if_pos (by simp [h])]; rfl
      · rw [if_neg h, List.filter_cons, if_neg (by simpa using h)]; rfl
    have hbit : binK.andI .i64 (m / 2 ^ (nthD p.offers i.toNat SId.off.dflt).bidder.toNat) 1 = bitI m (nthD p.offers i.toNat SId.off.dflt).bidder := rfl
    rw [hbit]
    refine ⟨i0, ilt, by omega, u64_ok hv.1 (by omega), by omega, by omega, fun hb => ?_, fun hb => ?_⟩
    · rw [if_pos hb] at hs
      rw [hs]
      exact ⟨i0, ilt, by omega, by omega, by omega, by omega, ⟨ccong (A := bss p.supply p.opn p.cls) rfl, hoff rfl⟩, by omega, by omega⟩
    · rw [if_neg hb, List.append_nil] at hs
      rw [hs]
      exact ⟨by omega, ⟨ccong (A := bss p.supply p.opn p.cls) rfl, hoff rfl⟩, by omega, by omega⟩
  · have hi : i.toNat = p.offers.length := by omega
    have hq : wiL p m i.toNat = (wiM p m).offers := by unfold wiL wiM; rw [hi, List.take_length]; rfl
    rw [hq]
    exact rfl

def pivS (p : Prob) (b : Int) : Bool := if checkE p ≠ 0 then false else if b < 0 ∨ (p.classes.length : Int) ≤ b then false else decide (worthS p (delI (allM p) b) < topS p)
def pivE (p : Prob) (b : Int) : Int := if checkE p ≠ 0 then checkE p else if b < 0 ∨ (p.classes.length : Int) ≤ b then 6 else 0
def r33 : SCtr := ⟨33, Prob × Int, .cons codP (.one (codI .i64)), fun _ => True, fun a => .tup [.sb (pivS a.1 a.2), .si .i64 (pivE a.1 a.2)]⟩
theorem h33 : Holds Try.prog r33 := by
  refine con (L := [r79, r76, r80, r81]) r33 F33 (fun _ _ => .look) (OwnOK.none _) (by simpa using ⟨h79, h76, h80, h81⟩) (by kernel_rfl) (by kernel_rfl) (fun _ => rfl) ?_
  rintro ⟨p, b⟩ _
  refine vcOf (True ∧ (decide (checkE p ≠ (0 : Int)) = true → (SV.tup [SV.bl false, SV.si .i64 (checkE p)]).same (SV.tup [SV.sb (pivS p b), SV.si .i64 (pivE p b)])) ∧ (decide (checkE p ≠ (0 : Int)) = false → (decide (b < (0 : Int)) = true → (SV.tup [SV.bl false, SV.il .i64 6]).same (SV.tup [SV.sb (pivS p b), SV.si .i64 (pivE p b)])) ∧ (decide (b < (0 : Int)) = false → (decide ((↑p.classes.length : Int) ≤ b) = true → (SV.tup [SV.bl false, SV.il .i64 6]).same (SV.tup [SV.sb (pivS p b), SV.si .i64 (pivE p b)])) ∧ (decide ((↑p.classes.length : Int) ≤ b) = false → p.classes.length ≤ 8 ∧ (0 : Int) ≤ b ∧ b ≤ (64 : Int) ∧ inR .i64 ((1 : Int) * (2 : Int) ^ b.toNat) ∧ True ∧ (decide (faultE p (binK.andNotI .i64 (allM p) ((1 : Int) * (2 : Int) ^ b.toNat)) = (0 : Int)) = true → p.classes.length ≤ 8 ∧ (SV.tup [SV.sb (decide (worthS p (binK.andNotI .i64 (allM p) ((1 : Int) * (2 : Int) ^ b.toNat)) < topS p)), SV.si .i64 (faultE p (binK.andNotI .i64 (allM p) ((1 : Int) * (2 : Int) ^ b.toNat)))]).same (SV.tup [SV.sb (pivS p b), SV.si .i64 (pivE p b)])) ∧ (decide (faultE p (binK.andNotI .i64 (allM p) ((1 : Int) * (2 : Int) ^ b.toNat)) = (0 : Int)) = false → (SV.tup [SV.bl false, SV.si .i64 (faultE p (binK.andNotI .i64 (allM p) ((1 : Int) * (2 : Int) ^ b.toNat)))]).same (SV.tup [SV.sb (pivS p b), SV.si .i64 (pivE p b)])))))) (by kernel_rfl) ?_
  simp only [decide_eq_true_eq, decide_eq_false_iff_not, same_il_si, same_si_si, same_si_il, same_il_il, same_sb_sb, same_bl_sb, same_row, same_tup2, same_tup3, same_nil, same_row_nil, same_rfl, osame_rfl, inR_i64, eq_self, true_and, and_true, Bool.and_eq_true, Bool.not_eq_true', Bool.not_eq_false']
  refine ⟨fun h => by simp [pivS, pivE, h], fun h => ⟨fun hb => by simp [pivS, pivE, h, hb], fun hb => ⟨fun hn => by simp [pivS, pivE, h, hn], fun hn => ?_⟩⟩⟩
  have hc : checkE p = 0 := Classical.not_not.1 h
  have hg := good_of hc
  have h8 := hg.1
  have hd : binK.andNotI .i64 (allM p) (1 * 2 ^ b.toNat) = delI (allM p) b := by rw [Int.one_mul]; rfl
  obtain ⟨d0, d1⟩ := del_bd hg (show 0 ≤ b by omega) (show b < p.classes.length by omega)
  have hf : faultE p (delI (allM p) b) = 0 := by unfold faultE; rw [if_neg (by simp [hc]), if_neg (by omega)]
  have h2 : (2 : Int) ^ b.toNat ≤ 2 ^ 8 := by
    have := Nat.pow_le_pow_right (n := 2) (by decide) (show b.toNat ≤ 8 by omega)
    exact_mod_cast this
  have h3 : (0 : Int) < 2 ^ b.toNat := by exact_mod_cast Nat.two_pow_pos b.toNat
  rw [hd]
  refine ⟨by omega, by omega, by omega, by omega, fun hz => ⟨by omega, ?_⟩, fun hz => absurd hf hz⟩
  rw [hf]
  unfold pivS pivE
  rw [if_neg (by simp [hc]), if_neg (by omega), if_neg (by simp [hc]), if_neg (by omega)]
  exact ⟨rfl, rfl⟩

theorem bit_two {b k : Int} (h0 : 0 ≤ b) (h1 : b < 8) (k0 : 0 ≤ k) (k1 : k < 8) : bitI (1 * 2 ^ b.toNat) k = 0 ↔ k ≠ b := by
  have hb : b = 0 ∨ b = 1 ∨ b = 2 ∨ b = 3 ∨ b = 4 ∨ b = 5 ∨ b = 6 ∨ b = 7 := by omega
  have hk : k = 0 ∨ k = 1 ∨ k = 2 ∨ k = 3 ∨ k = 4 ∨ k = 5 ∨ k = 6 ∨ k = 7 := by omega
  rcases hb with rfl | rfl | rfl | rfl | rfl | rfl | rfl | rfl <;> rcases hk with rfl | rfl | rfl | rfl | rfl | rfl | rfl | rfl <;> decide

theorem wi_two {p : Prob} (hg : Good p) {b : Int} (h0 : 0 ≤ b) (h1 : b < p.classes.length) : wiM p (1 * 2 ^ b.toNat) = qP p b := by
  unfold wiM qP
  congr 1
  refine List.filter_congr fun x hx => ?_
  have hv := hg.2.2.2.2 x hx
  have h8 := hg.1
  simp only [decide_eq_decide]
  exact bit_two h0 (by omega) hv.1 (by omega)

def r34 : SCtr := ⟨34, Prob × Int, .cons codP (.one (codI .i64)), fun a => a.1.classes.length ≤ 8 ∧ a.1.offers.length ≤ 9, fun a => .tup [.sb (pivS a.1 a.2), .si .i64 (pivE a.1 a.2)]⟩
theorem h34 : Holds Try.prog r34 := by
  refine con (L := [r24, r83, r82]) r34 F34 (fun _ _ => .look) (OwnOK.none _) (by simpa using ⟨h24, h83, h82⟩) (by kernel_rfl) (by kernel_rfl) (fun _ => rfl) ?_
  rintro ⟨p, b⟩ ⟨h8, h9⟩
  simp only at h8 h9
  refine vcOf (True ∧ (decide (checkE p ≠ (0 : Int)) = true → (SV.tup [SV.bl false, SV.si .i64 (checkE p)]).same (SV.tup [SV.sb (pivS p b), SV.si .i64 (pivE p b)])) ∧ (decide (checkE p ≠ (0 : Int)) = false → (decide (b < (0 : Int)) = true → (SV.tup [SV.bl false, SV.il .i64 6]).same (SV.tup [SV.sb (pivS p b), SV.si .i64 (pivE p b)])) ∧ (decide (b < (0 : Int)) = false → (decide ((↑p.classes.length : Int) ≤ b) = true → (SV.tup [SV.bl false, SV.il .i64 6]).same (SV.tup [SV.sb (pivS p b), SV.si .i64 (pivE p b)])) ∧ (decide ((↑p.classes.length : Int) ≤ b) = false → inR .u64 b ∧ (0 : Int) ≤ b ∧ b ≤ (64 : Int) ∧ inR .i64 ((1 : Int) * (2 : Int) ^ b.toNat) ∧ (checkE p = (0 : Int) ∧ (0 : Int) ≤ (1 : Int) * (2 : Int) ^ b.toNat) ∧ (checkE (wiM p ((1 : Int) * (2 : Int) ^ b.toNat)) = (0 : Int) ∧ (wiM p ((1 : Int) * (2 : Int) ^ b.toNat)).offers.length ≤ 9) ∧ (checkE p = (0 : Int) ∧ p.offers.length ≤ 9) ∧ (SV.tup [SV.sb (decide (mostR (wiM p ((1 : Int) * (2 : Int) ^ b.toNat)) < mostR p)), SV.il .i64 0]).same (SV.tup [SV.sb (pivS p b), SV.si .i64 (pivE p b)]))))) (by kernel_rfl) ?_
  simp only [decide_eq_true_eq, decide_eq_false_iff_not, same_il_si, same_si_si, same_si_il, same_il_il, same_sb_sb, same_bl_sb, same_row, same_tup2, same_tup3, same_nil, same_row_nil, same_rfl, osame_rfl, inR_i64, eq_self, true_and, and_true, Bool.and_eq_true, Bool.not_eq_true', Bool.not_eq_false']
  refine ⟨fun h => by simp [pivS, pivE, h], fun h => ⟨fun hb => by simp [pivS, pivE, h, hb], fun hb => ⟨fun hn => by simp [pivS, pivE, h, hn], fun hn => ?_⟩⟩⟩
  have hc : checkE p = 0 := Classical.not_not.1 h
  have hg := good_of hc
  have h2 : (2 : Int) ^ b.toNat ≤ 2 ^ 8 := by
    have := Nat.pow_le_pow_right (n := 2) (by decide) (show b.toNat ≤ 8 by omega)
    exact_mod_cast this
  have h3 : (0 : Int) < 2 ^ b.toNat := by exact_mod_cast Nat.two_pow_pos b.toNat
  have hq := check_filter (p := p) (f := fun x => decide (x.bidder ≠ b)) hc
  have hlen := List.length_filter_le (fun x : Off => decide (x.bidder ≠ b)) p.offers
  rw [wi_two hg (show 0 ≤ b by omega) (show b < p.classes.length by omega), most_eq (p := qP p b) hq, most_eq hc, top_del hc (show 0 ≤ b by omega) (show b < p.classes.length by omega)]
  refine ⟨u64_ok (by omega) (by omega), by omega, by omega, by omega, ⟨hc, by omega⟩, ⟨hq, ?_⟩, ⟨hc, h9⟩, ?_, ?_⟩
  · show (p.offers.filter _).length ≤ 9
    omega
  · unfold pivS; rw [if_neg (by simp [hc]), if_neg (by omega)]
  · unfold pivE; rw [if_neg (by simp [hc]), if_neg (by omega)]

def r28 : SCtr := ⟨28, Prob, .one codP, fun _ => True, fun p => .sb (decide (p.classes.length ≤ 8 ∧ p.offers.length ≤ 9))⟩
theorem h28 : Holds Try.prog r28 := by
  refine con (L := []) r28 F28 (fun _ _ => .look) (OwnOK.none _) (by simp) (by kernel_rfl) (by kernel_rfl) (fun _ => rfl) ?_
  intro (p : Prob) _
  refine vcOf ((decide ((↑p.classes.length : Int) ≤ (8 : Int)) = true → (SV.sb (decide ((↑p.offers.length : Int) ≤ (9 : Int)))).same (SV.sb (decide (p.classes.length ≤ 8 ∧ p.offers.length ≤ 9)))) ∧ (decide ((↑p.classes.length : Int) ≤ (8 : Int)) = false → (SV.bl false).same (SV.sb (decide (p.classes.length ≤ 8 ∧ p.offers.length ≤ 9))))) (by kernel_rfl) ?_
  simp only [decide_eq_true_eq, decide_eq_false_iff_not, same_il_si, same_si_si, same_si_il, same_il_il, same_sb_sb, same_bl_sb, same_row, same_tup2, same_tup3, same_nil, same_row_nil, same_rfl, osame_rfl, inR_i64, eq_self, true_and, and_true, Bool.and_eq_true, Bool.not_eq_true', Bool.not_eq_false']
  refine ⟨fun h => ?_, fun h => ?_⟩
  · rw [decide_eq_decide]; omega
  · symm
    rw [decide_eq_false_iff_not]; omega
end Go.Vi
/-
  Contracts: the best task without an offer.
  Conditions: none.
-/
set_option maxRecDepth 100000
set_option maxHeartbeats 4000000
set_option linter.unusedSimpArgs false
set_option linter.unusedVariables false
namespace Go.Vi
open Go.Proofs.Ytigbjjkijfkeeaa.Ir
open Go.Proofs

def r30 : SCtr := ⟨30, Prob × Int, .cons codP (.one (codI .i64)), fun _ => True, fun a => .tup [codA.put (rivS a.1 a.2), .si .i64 (markE a.1 a.2)]⟩
def b30 (a : Prob × Int) : Alloc := bestI (delO a.1 a.2) (allM (delO a.1 a.2))
def l30 (a : Prob × Int) (i : Nat) : List Int := ((b30 a).chosen.take i).map (phi a.2) ++ (b30 a).chosen.drop i
def Λ30 (a : Prob × Int) : Nat → LoopAnn
  | 9 => .inv Int (fun i => ⟨[(1, .si .i64 a.2), (4, .ptr 1 0 2), (8, .ptr 3 0 2), (36, .ow 4 (l30 a i.toNat).length 1), (37, .si .i64 (b30 a).chosen.length), (38, .si .i64 i)],
      [.cells a.1.ss 27 20 false, .cells [.sc (.slice none 0 0), .il .i64 0] 31 2 false, .cells (delO a.1 a.2).ss 101 20 false, .cells [.ow 4 (l30 a i.toNat).length 1, .si .i64 (b30 a).value] 31 2 false, .row (.i .i64) (l30 a i.toNat) 3 false]⟩) (fun s => iS s 38)
    (fun i => 0 ≤ i ∧ i ≤ (b30 a).chosen.length) (fun i => ((b30 a).chosen.length - i).toNat) fun _ _ => .look
  | _ => .look
theorem l30_len {a : Prob × Int} {i : Nat} : (l30 a i).length = (b30 a).chosen.length := by simp [l30]; omega
theorem l30_zero {a : Prob × Int} : l30 a 0 = (b30 a).chosen := by simp [l30]
theorem l30_all {a : Prob × Int} {i : Nat} (h : i = (b30 a).chosen.length) : l30 a i = (b30 a).chosen.map (phi a.2) := by subst h; simp [l30]
theorem set_mid {α : Type} {a b : List α} {x y : α} : (a ++ x :: b).set a.length y = a ++ y :: b := by simp
theorem set_self {l : List Int} {i : Nat} (h : i < l.length) : l.set i (nthD l i 0) = l := by rw [nthD_eq h]; exact List.set_getElem_self h
theorem l30_nth {a : Prob × Int} {i : Nat} (h : i < (b30 a).chosen.length) : nthD (l30 a i) i 0 = nthD (b30 a).chosen i 0 ∧
    l30 a (i + 1) = (l30 a i).set i (phi a.2 (nthD (b30 a).chosen i 0)) := by
  unfold l30 nthD
  generalize (b30 a).chosen = c at *
  have hl : ((c.take i).map (phi a.2)).length = i := by simp; omega
  have hd : c.drop i = c[i] :: c.drop (i + 1) := List.drop_eq_getElem_cons h
  refine ⟨?_, ?_⟩
  · rw [List.getElem?_append_right (by omega), hl, hd]
    simp [h]
  · rw [hd]
    have h2 := set_mid (a := (c.take i).map (phi a.2)) (b := c.drop (i + 1)) (x := c[i]) (y := phi a.2 (c[i]?.getD 0))
    rw [hl] at h2
    rw [h2, List.take_succ_eq_append_getElem h, List.map_append]
    simp [h]
theorem h30 : Holds Try.prog r30 := by
  refine con (L := [r73, r74, r76]) (W := ownT [r75]) r30 F30 Λ30 (ownT_ok (by simpa using h75)) (by simpa using ⟨h73, h74, h76⟩) (by kernel_rfl) (by kernel_rfl) (fun _ => rfl) ?_
  rintro ⟨p, k⟩ _
  refine vcOf (True ∧ (decide (markE p k ≠ (0 : Int)) = true → (SV.tup [SV.agg [SV.row (SId.i .i64) [], SV.il .i64 0], SV.si .i64 (markE p k)]).same (SV.tup [SV.agg [SV.row (SId.i .i64) (rivS p k).chosen, SV.si .i64 (rivS p k).value], SV.si .i64 (markE p k)])) ∧ (decide (markE p k ≠ (0 : Int)) = false → (p.offers.length ≤ 160 ∧ (0 : Int) ≤ k ∧ k < (↑p.offers.length : Int)) ∧ (delO p k).classes.length ≤ 8 ∧ faultE (delO p k) (allM (delO p k)) = (0 : Int) ∧ (false = true → (SV.tup [SV.agg [SV.row (SId.i .i64) [], SV.il .i64 0], SV.si .i64 0]).same (SV.tup [SV.agg [SV.row (SId.i .i64) (rivS p k).chosen, SV.si .i64 (rivS p k).value], SV.si .i64 (markE p k)])) ∧ (false = false → ((((SV.si .i64 k).same (SV.si .i64 k) ∧ (SV.ptr 1 0 2).same (SV.ptr 1 0 2) ∧ (SV.ptr 3 0 2).same (SV.ptr 3 0 2) ∧ (SV.ow 4 (bestI (delO p k) (allM (delO p k))).chosen.length 1).same (SV.ow 4 (l30 (p, k) 0).length 1) ∧ (SV.si .i64 (↑(bestI (delO p k) (allM (delO p k))).chosen.length : Int)).same (SV.si .i64 (↑(b30 (p, k)).chosen.length : Int)) ∧ (SV.il .i64 0).same (SV.si .i64 0) ∧ True) ∧ (SObj.cells (Prob.ss p) 27 20 false).same (SObj.cells (Prob.ss p) 27 20 false) ∧ (SObj.cells [SV.sc (Value.slice none 0 0), SV.il .i64 0] 31 2 false).same (SObj.cells [SV.sc (Value.slice none 0 0), SV.il .i64 0] 31 2 false) ∧ (SObj.cells (Prob.ss (delO p k)) 101 20 false).same (SObj.cells (Prob.ss (delO p k)) 101 20 false) ∧ (SObj.cells [SV.ow 4 (bestI (delO p k) (allM (delO p k))).chosen.length 1, SV.si .i64 (bestI (delO p k) (allM (delO p k))).value] 31 2 false).same (SObj.cells [SV.ow 4 (l30 (p, k) 0).length 1, SV.si .i64 (b30 (p, k)).value] 31 2 false) ∧ (SObj.row (SId.i .i64) (bestI (delO p k) (allM (delO p k))).chosen 3 false).same (SObj.row (SId.i .i64) (l30 (p, k) 0) 3 false) ∧ True) ∧ (0 : Int) ≤ (0 : Int) ∧ (0 : Int) ≤ (↑(b30 (p, k)).chosen.length : Int)) ∧ ∀ (x : Int), (0 : Int) ≤ x ∧ x ≤ (↑(b30 (p, k)).chosen.length : Int) → (decide (x < (↑(b30 (p, k)).chosen.length : Int)) = true → (l30 (p, k) x.toNat).length = (l30 (p, k) x.toNat).length ∧ (0 : Int) ≤ x ∧ x < (↑(l30 (p, k) x.toNat).length : Int) ∧ (l30 (p, k) x.toNat).length = (l30 (p, k) x.toNat).length ∧ x.toNat < (l30 (p, k) x.toNat).length ∧ (decide (k ≤ nthD (l30 (p, k) x.toNat) x.toNat (0 : Int)) = true → inR .i64 (nthD (l30 (p, k) x.toNat) x.toNat (0 : Int) + (1 : Int)) ∧ (l30 (p, k) x.toNat).length = (l30 (p, k) x.toNat).length ∧ (0 : Int) ≤ x ∧ x < (↑(l30 (p, k) x.toNat).length : Int) ∧ (l30 (p, k) x.toNat).length = (l30 (p, k) x.toNat).length ∧ x.toNat < (l30 (p, k) x.toNat).length ∧ inR .i64 (x + (1 : Int)) ∧ (((SV.si .i64 k).same (SV.si .i64 k) ∧ (SV.ptr 1 0 2).same (SV.ptr 1 0 2) ∧ (SV.ptr 3 0 2).same (SV.ptr 3 0 2) ∧ (SV.ow 4 (l30 (p, k) x.toNat).length 1).same (SV.ow 4 (l30 (p, k) (x + (1 : Int)).toNat).length 1) ∧ (SV.si .i64 (↑(b30 (p, k)).chosen.length : Int)).same (SV.si .i64 (↑(b30 (p, k)).chosen.length : Int)) ∧ (SV.si .i64 (x + (1 : Int))).same (SV.si .i64 (x + (1 : Int))) ∧ True) ∧ (SObj.cells (Prob.ss p) 27 20 false).same (SObj.cells (Prob.ss p) 27 20 false) ∧ (SObj.cells [SV.sc (Value.slice none 0 0), SV.il .i64 0] 31 2 false).same (SObj.cells [SV.sc (Value.slice none 0 0), SV.il .i64 0] 31 2 false) ∧ (SObj.cells (Prob.ss (delO p k)) 101 20 false).same (SObj.cells (Prob.ss (delO p k)) 101 20 false) ∧ (SObj.cells [SV.ow 4 (l30 (p, k) x.toNat).length 1, SV.si .i64 (b30 (p, k)).value] 31 2 false).same (SObj.cells [SV.ow 4 (l30 (p, k) (x + (1 : Int)).toNat).length 1, SV.si .i64 (b30 (p, k)).value] 31 2 false) ∧ (SObj.row (SId.i .i64) ((l30 (p, k) x.toNat).set x.toNat (nthD (l30 (p, k) x.toNat) x.toNat (0 : Int) + (1 : Int))) 3 false).same (SObj.row (SId.i .i64) (l30 (p, k) (x + (1 : Int)).toNat) 3 false) ∧ True) ∧ ((0 : Int) ≤ x + (1 : Int) ∧ x + (1 : Int) ≤ (↑(b30 (p, k)).chosen.length : Int)) ∧ ((↑(b30 (p, k)).chosen.length : Int) - (x + (1 : Int))).toNat < ((↑(b30 (p, k)).chosen.length : Int) - x).toNat) ∧ (decide (k ≤ nthD (l30 (p, k) x.toNat) x.toNat (0 : Int)) = false → inR .i64 (x + (1 : Int)) ∧ (((SV.si .i64 k).same (SV.si .i64 k) ∧ (SV.ptr 1 0 2).same (SV.ptr 1 0 2) ∧ (SV.ptr 3 0 2).same (SV.ptr 3 0 2) ∧ (SV.ow 4 (l30 (p, k) x.toNat).length 1).same (SV.ow 4 (l30 (p, k) (x + (1 : Int)).toNat).length 1) ∧ (SV.si .i64 (↑(b30 (p, k)).chosen.length : Int)).same (SV.si .i64 (↑(b30 (p, k)).chosen.length : Int)) ∧ (SV.si .i64 (x + (1 : Int))).same (SV.si .i64 (x + (1 : Int))) ∧ True) ∧ (SObj.cells (Prob.ss p) 27 20 false).same (SObj.cells (Prob.ss p) 27 20 false) ∧ (SObj.cells [SV.sc (Value.slice none 0 0), SV.il .i64 0] 31 2 false).same (SObj.cells [SV.sc (Value.slice none 0 0), SV.il .i64 0] 31 2 false) ∧ (SObj.cells (Prob.ss (delO p k)) 101 20 false).same (SObj.cells (Prob.ss (delO p k)) 101 20 false) ∧ (SObj.cells [SV.ow 4 (l30 (p, k) x.toNat).length 1, SV.si .i64 (b30 (p, k)).value] 31 2 false).same (SObj.cells [SV.ow 4 (l30 (p, k) (x + (1 : Int)).toNat).length 1, SV.si .i64 (b30 (p, k)).value] 31 2 false) ∧ (SObj.row (SId.i .i64) (l30 (p, k) x.toNat) 3 false).same (SObj.row (SId.i .i64) (l30 (p, k) (x + (1 : Int)).toNat) 3 false) ∧ True) ∧ ((0 : Int) ≤ x + (1 : Int) ∧ x + (1 : Int) ≤ (↑(b30 (p, k)).chosen.length : Int)) ∧ ((↑(b30 (p, k)).chosen.length : Int) - (x + (1 : Int))).toNat < ((↑(b30 (p, k)).chosen.length : Int) - x).toNat)) ∧ (decide (x < (↑(b30 (p, k)).chosen.length : Int)) = false → (l30 (p, k) x.toNat).length = (l30 (p, k) x.toNat).length ∧ (SV.tup [SV.agg [SV.row (SId.i .i64) (l30 (p, k) x.toNat), SV.si .i64 (b30 (p, k)).value], SV.il .i64 0]).same (SV.tup [SV.agg [SV.row (SId.i .i64) (rivS p k).chosen, SV.si .i64 (rivS p k).value], SV.si .i64 (markE p k)]))))) (by kernel_rfl) ?_
  simp only [decide_eq_true_eq, decide_eq_false_iff_not, same_il_si, same_si_si, same_si_il, same_il_il, same_sb_sb, same_bl_sb, same_row, same_tup2, same_tup3, same_nil, same_row_nil, same_rfl, osame_rfl, inR_i64, eq_self, true_and, and_true, Bool.and_eq_true, Bool.not_eq_true', Bool.not_eq_false']
  have zal : ∀ {a : Alloc}, a = ⟨[], 0⟩ → (SV.agg [.row (.i .i64) [], .il .i64 0]).same (SV.agg [.row (.i .i64) a.chosen, .si .i64 a.value]) := by rintro _ rfl; rfl
  refine ⟨fun h => zal (by unfold rivS; rw [if_neg h]), fun h => ?_⟩
  have hz : markE p k = 0 := Classical.not_not.1 h
  obtain ⟨hc, k0, k1⟩ := mark_zero hz
  have hg := good_of hc
  have h160 := hg.2.1
  have h8 := hg.1
  have hcq := del_check hc k0 k1
  have hgq := good_of hcq
  obtain ⟨⟨m0, m1⟩, m2⟩ := all_bd hgq
  have hf : faultE (delO p k) (allM (delO p k)) = 0 := by unfold faultE; rw [if_neg (by simp [hcq]), if_neg (by omega)]
  obtain ⟨b1, b2, b3, b4⟩ := best_list hcq
  have hlen := lists_len hcq ((lists_mem hcq).2 b2)
  have hb : bestI (delO p k) (allM (delO p k)) = b30 (p, k) := rfl
  rw [hb] at b1 b2 b3 b4 hlen ⊢
  have hq160 := hgq.2.1
  have hcong : ∀ {a b : Nat} {v : Int}, a = b → (SObj.cells [.ow 4 a 1, .si .i64 v] 31 2 false).same (SObj.cells [.ow 4 b 1, .si .i64 v] 31 2 false) := by rintro _ _ _ rfl; rfl
  have hrow : ∀ {a b : List Int}, a = b → (SObj.row (.i .i64) a 3 false).same (SObj.row (.i .i64) b 3 false) := by rintro _ _ rfl; rfl
  have how : ∀ {a b : Nat}, a = b → (SV.ow 4 a 1).same (SV.ow 4 b 1) := by rintro _ _ rfl; rfl
  refine ⟨⟨h160, k0, k1⟩, hgq.1, hf, fun h => absurd h (by decide), fun _ => ⟨⟨⟨⟨how l30_len.symm, rfl⟩, hcong l30_len.symm, hrow l30_zero.symm⟩, by omega, by omega⟩, ?_⟩⟩
  rintro i ⟨i0, i1⟩
  refine ⟨fun ilt => ?_, fun ige => ?_⟩
  · obtain ⟨n1, n2⟩ := l30_nth (a := (p, k)) (i := i.toNat) (by omega)
    have hm := b2.1.2 _ (nthD_mem (d := (0 : Int)) (show i.toNat < (b30 (p, k)).chosen.length by omega))
    have hl := @l30_len (p, k) i.toNat
    have hl2 := @l30_len (p, k) (i + 1).toNat
    rw [show i.toNat + 1 = (i + 1).toNat by omega] at n2
    rw [n1]
    generalize nthD (b30 (p, k)).chosen i.toNat 0 = x at *
    refine ⟨i0, by omega, by omega, fun hx => ⟨by omega, i0, by omega, by omega, by omega, ⟨how (by omega), hcong (by omega), hrow ?_⟩, by omega, by omega⟩, fun hx => ⟨by omega, ⟨how (by omega), hcong (by omega), hrow ?_⟩, by omega, by omega⟩⟩
    · rw [n2]; unfold phi; rw [if_pos hx]
    · rw [n2]; unfold phi; rw [if_neg hx, ← n1, set_self (by omega)]
  · have hi : i.toNat = (b30 (p, k)).chosen.length := by omega
    rw [l30_all hi, hz]
    unfold rivS
    rw [if_pos hz]
    exact ⟨rfl, rfl⟩
end Go.Vi
/-
  Contracts: the statements about the pivotal bidders and the rival tasks.
  Conditions: none.
-/
set_option maxRecDepth 100000
set_option maxHeartbeats 4000000
set_option linter.unusedSimpArgs false
set_option linter.unusedVariables false
namespace Go.Vi
open Go.Proofs.Ytigbjjkijfkeeaa.Ir
open Go.Proofs

def r72 : SCtr := ⟨72, Unit, .nil, fun _ => True, fun _ => codP.put three⟩
theorem h72 : Holds Try.prog r72 := by
  refine con (L := []) r72 F72 (fun _ _ => .look) (OwnOK.none _) (by simp) (by kernel_rfl) (by kernel_rfl) (fun _ => rfl) ?_
  intro _ _
  refine vcOf ((SV.agg [SV.il .i64 1, SV.il .i64 1, SV.il .i64 0, SV.il .i64 0, SV.il .i64 0, SV.il .i64 0, SV.il .i64 1, SV.il .i64 1, SV.il .i64 0, SV.il .i64 0, SV.il .i64 0, SV.il .i64 0, SV.il .i64 0, SV.il .i64 0, SV.il .i64 0, SV.il .i64 0, SV.il .i64 0, SV.il .i64 0, SV.row (SId.i .i64) [(0 : Int), (0 : Int), (0 : Int)], SV.row SId.off [Off.mk (0 : Int) (Bun.mk (1 : Int) (1 : Int) (0 : Int) (0 : Int) (0 : Int) (0 : Int)) (10 : Int), Off.mk (1 : Int) (Bun.mk (1 : Int) (0 : Int) (0 : Int) (0 : Int) (0 : Int) (0 : Int)) (6 : Int), Off.mk (2 : Int) (Bun.mk (0 : Int) (1 : Int) (0 : Int) (0 : Int) (0 : Int) (0 : Int)) (6 : Int)]]).same (SV.agg (Prob.ss three))) (by kernel_rfl) ?_
  rfl

def Q6 : List SCtr := [r72, r37, r30, r33, r32]
theorem hQ6 : ∀ c ∈ Q6, Holds Try.prog c := by
  simp only [Q6, List.forall_mem_cons, List.not_mem_nil, false_implies, implies_true, and_true]
  exact ⟨h72, h37, h30, h33, h32⟩

def r29 : SCtr := ⟨29, Unit, .nil, fun _ => True, fun _ => .sb true⟩
theorem h29 : Holds Try.prog r29 := by
  refine con (L := Q6) r29 F29 (fun _ _ => .look) (OwnOK.none _) hQ6 (by kernel_rfl) (by kernel_rfl) (fun _ => rfl) ?_
  intro _ _
  refine vcOf (True ∧ True ∧ True ∧ True ∧ True ∧ True ∧ True ∧ True ∧ (true = true → (true = true → (0 : Int) ≤ (0 : Int) ∧ (0 : Int) < (3 : Int) ∧ 0 < (marsS three).length ∧ (true = true → (0 : Int) ≤ (1 : Int) ∧ (1 : Int) < (3 : Int) ∧ 1 < (marsS three).length ∧ (true = true → (0 : Int) ≤ (2 : Int) ∧ (2 : Int) < (3 : Int) ∧ 2 < (marsS three).length ∧ (true = true → (true = true → (true = true → ((rivS three (0 : Int)).chosen.length ≤ 1000000000000 ∧ 2 ≤ 1000000000000) ∧ (true = true → (true = true → ((!pivS three (0 : Int)) = true → (true = true → (SV.sb (pivS three (1 : Int))).same (SV.sb true)) ∧ (true = false → (SV.bl false).same (SV.sb true))) ∧ ((!pivS three (0 : Int)) = false → (SV.bl false).same (SV.sb true))) ∧ (true = false → (SV.bl false).same (SV.sb true))) ∧ (true = false → (SV.bl false).same (SV.sb true))) ∧ (true = false → (SV.bl false).same (SV.sb true))) ∧ (true = false → (SV.bl false).same (SV.sb true))) ∧ (true = false → (SV.bl false).same (SV.sb true))) ∧ (true = false → (SV.bl false).same (SV.sb true))) ∧ (true = false → (SV.bl false).same (SV.sb true))) ∧ (true = false → (SV.bl false).same (SV.sb true))) ∧ (true = false → (SV.bl false).same (SV.sb true))) (by kernel_rfl) ?_
  simp only [decide_eq_true_eq, decide_eq_false_iff_not, same_il_si, same_si_si, same_si_il, same_il_il, same_sb_sb, same_bl_sb, same_row, same_tup2, same_tup3, same_nil, same_row_nil, same_rfl, osame_rfl, inR_i64, eq_self, true_and, and_true, Bool.and_eq_true, Bool.not_eq_true', Bool.not_eq_false']
  have e1 : marsS three = [12, 4, 4] := by kernel_rfl
  have e2 : rivS three 0 = ⟨[1, 2], 12⟩ := by kernel_rfl
  have e3 : checkE three = 0 := by kernel_rfl
  have e4 : markE three 0 = 0 := by kernel_rfl
  have e5 : pivS three 0 = false := by kernel_rfl
  have e6 : pivS three 1 = true := by kernel_rfl
  have e7 : pivE three 0 = 0 := by kernel_rfl
  have e8 : pivE three 1 = 0 := by kernel_rfl
  simp [e1, e2, e3, e4, e5, e6, e7, e8]

def r7 : SCtr := ⟨7, Prob × Int, .cons codP (.one (codI .i64)), fun _ => True, fun _ => .sb true⟩
theorem h7 : Holds Try.prog r7 := by
  refine con (L := [r28, r30, r31, r32, r29]) r7 F7 (fun _ _ => .look) (OwnOK.none _) (by simpa using ⟨h28, h30, h31, h32, h29⟩) (by kernel_rfl) (by kernel_rfl) (fun _ => rfl) ?_
  rintro ⟨p, k⟩ _
  refine vcOf (True ∧ ((!decide (p.classes.length ≤ 8 ∧ p.offers.length ≤ 9)) = true → True ∧ (SV.sb true).same (SV.sb true)) ∧ ((!decide (p.classes.length ≤ 8 ∧ p.offers.length ≤ 9)) = false → True ∧ p.offers.length ≤ 9 ∧ (decide ((rivS p k).value = (rivA p k).value) = true → ((rivS p k).chosen.length ≤ 1000000000000 ∧ (rivA p k).chosen.length ≤ 1000000000000) ∧ (decide (cmpL (rivS p k).chosen (rivA p k).chosen = (0 : Int)) = true → (decide (markE p k = markE p k) = true → True ∧ (SV.sb true).same (SV.sb true)) ∧ (decide (markE p k = markE p k) = false → (SV.bl false).same (SV.sb true))) ∧ (decide (cmpL (rivS p k).chosen (rivA p k).chosen = (0 : Int)) = false → (SV.bl false).same (SV.sb true))) ∧ (decide ((rivS p k).value = (rivA p k).value) = false → (SV.bl false).same (SV.sb true)))) (by kernel_rfl) ?_
  simp only [decide_eq_true_eq, decide_eq_false_iff_not, same_il_si, same_si_si, same_si_il, same_il_il, same_sb_sb, same_bl_sb, same_row, same_tup2, same_tup3, same_nil, same_row_nil, same_rfl, osame_rfl, inR_i64, eq_self, true_and, and_true, Bool.and_eq_true, Bool.not_eq_true', Bool.not_eq_false']
  have hl : (rivA p k).chosen.length ≤ 1000 := by
    rw [← riv_eq]
    unfold rivS
    split
    · rename_i hz
      obtain ⟨hc, k0, k1⟩ := mark_zero hz
      have hcq := del_check hc k0 k1
      have h := lists_len hcq ((lists_mem hcq).2 (best_list hcq).2.1)
      have hall : allM (delO p k) = allM p := rfl
      rw [hall] at h
      simp only [List.length_map]
      omega
    · simp
  rw [riv_eq]
  refine ⟨fun _ => trivial, fun h => ⟨h.2, fun _ => ⟨⟨by omega, by omega⟩, fun _ => ⟨fun _ => trivial, fun h => absurd trivial h⟩, fun h => absurd (cmp_self _) h⟩, fun h => absurd rfl h⟩⟩

def r8 : SCtr := ⟨8, Prob × Int, .cons codP (.one (codI .i64)), fun _ => True, fun _ => .sb true⟩
theorem h8 : Holds Try.prog r8 := by
  refine con (L := [r28, r33, r34, r29]) r8 F8 (fun _ _ => .look) (OwnOK.none _) (by simpa using ⟨h28, h33, h34, h29⟩) (by kernel_rfl) (by kernel_rfl) (fun _ => rfl) ?_
  rintro ⟨p, k⟩ _
  refine vcOf (True ∧ ((!decide (p.classes.length ≤ 8 ∧ p.offers.length ≤ 9)) = true → True ∧ (SV.sb true).same (SV.sb true)) ∧ ((!decide (p.classes.length ≤ 8 ∧ p.offers.length ≤ 9)) = false → True ∧ (p.classes.length ≤ 8 ∧ p.offers.length ≤ 9) ∧ ((pivS p k == pivS p k) = true → (decide (pivE p k = pivE p k) = true → True ∧ (SV.sb true).same (SV.sb true)) ∧ (decide (pivE p k = pivE p k) = false → (SV.bl false).same (SV.sb true))) ∧ ((pivS p k == pivS p k) = false → (SV.bl false).same (SV.sb true)))) (by kernel_rfl) ?_
  simp only [decide_eq_true_eq, decide_eq_false_iff_not, same_il_si, same_si_si, same_si_il, same_il_il, same_sb_sb, same_bl_sb, same_row, same_tup2, same_tup3, same_nil, same_row_nil, same_rfl, osame_rfl, inR_i64, eq_self, true_and, and_true, Bool.and_eq_true, Bool.not_eq_true', Bool.not_eq_false']
  refine ⟨fun _ => trivial, fun h => ⟨h, fun _ => ⟨fun _ => trivial, fun h => absurd trivial h⟩, fun h => ?_⟩⟩
  simp at h

end Go.Vi

/-
  Contracts: whether offers satisfy all rows.
  Conditions: none.
-/
import Derived.Test.YtigbjjkijfkeeaaK2
set_option maxRecDepth 100000
set_option linter.unusedSimpArgs false
set_option linter.unusedVariables false
namespace Go.Vi
open Go.Proofs.Ytigbjjkijfkeeaa.Ir
open Go.Proofs

def L2 : List SCtr := [r156, r157, r158]
theorem hL2 : ∀ c ∈ L2, Holds Try.prog c := by
  simp only [L2, List.forall_mem_cons, List.not_mem_nil, false_implies, implies_true, and_true]
  exact ⟨h156, h157, h158⟩

def sumS (p : Prob) (l : List Off) (r : Int) : Int := (l.map (coefS p r)).sum
def fitsB (p : Prob) (l : List Off) : Bool := (List.range (p.classes.length + 12)).all fun r => decide (sumS p l r ≤ boundS p r)

def r134 : SCtr := ⟨134, Prob × List Off, .cons codP (.one (codR .off)), fun a => a.1.classes.length ≤ 8 ∧ a.2.length ≤ 1000 ∧ (∀ x ∈ a.2, 0 ≤ x.bidder ∧ x.bidder < a.1.classes.length ∧ x.want.ok = true), fun a => .sb (fitsB a.1 a.2)⟩

def Λ134 (a : Prob × List Off) : Nat → LoopAnn
  | 3 => .inv Int (fun i => ⟨[(1, .row .off a.2), (2, .ptr 0 0 20), (5, .fn (.func 156) [] []), (11, .si .i64 (nrows a.1)), (12, .si .i64 i)], [.cells a.1.ss 148 20 false]⟩) (fun s => iS s 12)
    (fun i => 0 ≤ i ∧ i ≤ nrows a.1 ∧ ∀ r : Nat, r < i → sumS a.1 a.2 r ≤ boundS a.1 r) (fun i => (nrows a.1 - i).toNat)
    fun i => fun
      | 7 => .inv (Int × Int) (fun x => ⟨[(1, .row .off a.2), (2, .ptr 0 0 20), (5, .fn (.func 156) [] []), (6, .si .i64 i), (7, .si .i64 x.2), (11, .si .i64 (nrows a.1)), (12, .si .i64 i), (15, .row .off a.2), (16, .si .i64 a.2.length), (17, .si .i64 x.1)], [.cells a.1.ss 148 20 false]⟩)
        (fun s => (iS s 17, iS s 7))
        (fun x => 0 ≤ x.1 ∧ x.1 ≤ a.2.length ∧ x.2 = sumS a.1 (a.2.take x.1.toNat) i) (fun x => (a.2.length - x.1).toNat) fun _ _ => .look
      | _ => .look
  | _ => .look

theorem bun_nth {b : Bun} (h : b.ok = true) (k : Nat) : 0 ≤ nthD [b.a0, b.a1, b.a2, b.a3, b.a4, b.a5] k 0 ∧ nthD [b.a0, b.a1, b.a2, b.a3, b.a4, b.a5] k 0 ≤ 4 := by
  have := Bun.ok_iff.1 h
  match k with
  | 0 | 1 | 2 | 3 | 4 | 5 => simp [nthD]; omega
  | k + 6 => simp [nthD]

theorem coef_bd {p : Prob} {r : Int} {o : Off} (h : o.want.ok = true) : 0 ≤ coefS p r o ∧ coefS p r o ≤ 4 := by
  unfold coefS
  have h1 := bun_nth h (r - p.classes.length).toNat
  have h2 := bun_nth h (r - p.classes.length - 6).toNat
  (repeat' split) <;> omega

theorem sum_bd {p : Prob} {r : Int} : ∀ {l : List Off}, (∀ x ∈ l, x.want.ok = true) → 0 ≤ sumS p l r ∧ sumS p l r ≤ 4 * l.length
  | [], _ => by simp [sumS]
  | x :: l, h => by
    have h1 := @coef_bd p r x (h x (by simp))
    have h2 := @sum_bd p r l fun y hy => h y (by simp [hy])
    simp only [sumS, List.map_cons, List.sum_cons, List.length_cons] at h2 ⊢
    omega

theorem nthD_mem {α : Type} {l : List α} {i : Nat} {d : α} (h : i < l.length) : nthD l i d ∈ l := by rw [nthD_eq h]; exact List.getElem_mem h

theorem take_nth {α : Type} {l : List α} {i : Int} {d : α} (h0 : 0 ≤ i) (h : i < l.length) : l.take (i + 1).toNat = l.take i.toNat ++ [nthD l i.toNat d] := by
  rw [show (i + 1).toNat = i.toNat + 1 from by omega, nthD_eq (by omega), List.take_succ_eq_append_getElem (by omega)]

theorem sum_take {p : Prob} {r : Int} {l : List Off} {i : Int} {d : Off} (h0 : 0 ≤ i) (h : i < l.length) : sumS p (l.take (i + 1).toNat) r = sumS p (l.take i.toNat) r + coefS p r (nthD l i.toNat d) := by
  rw [take_nth (d := d) h0 h]
  simp [sumS]

theorem fits_iff {p : Prob} {l : List Off} : fitsB p l = true ↔ ∀ r : Nat, r < nrows p → sumS p l r ≤ boundS p r := by
  simp only [fitsB, nrows, List.all_eq_true, List.mem_range, decide_eq_true_eq]
  constructor
  · intro h r hr; exact h r (by omega)
  · intro h r hr; exact h r (by omega)

theorem h134 : Holds Try.prog r134 := by
  refine con (L := L2) r134 F134 Λ134 (OwnOK.none _) hL2 (by kernel_rfl) (by kernel_rfl) (fun _ => rfl) ?_
  rintro ⟨p, l⟩ ⟨hp, hl, hb⟩
  simp only at hp hl hb
  refine vcOf (p.classes.length ≤ (8 : Nat) ∧ ((((SV.row SId.off l).same (SV.row SId.off l) ∧ (SV.ptr (0 : Nat) (0 : Nat) (20 : Nat)).same (SV.ptr (0 : Nat) (0 : Nat) (20 : Nat)) ∧ (SV.fn (Fn.func (156 : Nat)) [] []).same (SV.fn (Fn.func (156 : Nat)) [] []) ∧ (SV.si IntKind.i64 (nrows p)).same (SV.si IntKind.i64 (nrows p)) ∧ (SV.il IntKind.i64 (0 : Int)).same (SV.si IntKind.i64 (0 : Int)) ∧ True) ∧ (SObj.cells [SV.si IntKind.i64 p.supply.a0, SV.si IntKind.i64 p.supply.a1, SV.si IntKind.i64 p.supply.a2, SV.si IntKind.i64 p.supply.a3, SV.si IntKind.i64 p.supply.a4, SV.si IntKind.i64 p.supply.a5, SV.si IntKind.i64 p.opn.a0, SV.si IntKind.i64 p.opn.a1, SV.si IntKind.i64 p.opn.a2, SV.si IntKind.i64 p.opn.a3, SV.si IntKind.i64 p.opn.a4, SV.si IntKind.i64 p.opn.a5, SV.si IntKind.i64 p.cls.a0, SV.si IntKind.i64 p.cls.a1, SV.si IntKind.i64 p.cls.a2, SV.si IntKind.i64 p.cls.a3, SV.si IntKind.i64 p.cls.a4, SV.si IntKind.i64 p.cls.a5, SV.row (SId.i IntKind.i64) p.classes, SV.row SId.off p.offers] (148 : Nat) (20 : Nat) false).same (SObj.cells [SV.si IntKind.i64 p.supply.a0, SV.si IntKind.i64 p.supply.a1, SV.si IntKind.i64 p.supply.a2, SV.si IntKind.i64 p.supply.a3, SV.si IntKind.i64 p.supply.a4, SV.si IntKind.i64 p.supply.a5, SV.si IntKind.i64 p.opn.a0, SV.si IntKind.i64 p.opn.a1, SV.si IntKind.i64 p.opn.a2, SV.si IntKind.i64 p.opn.a3, SV.si IntKind.i64 p.opn.a4, SV.si IntKind.i64 p.opn.a5, SV.si IntKind.i64 p.cls.a0, SV.si IntKind.i64 p.cls.a1, SV.si IntKind.i64 p.cls.a2, SV.si IntKind.i64 p.cls.a3, SV.si IntKind.i64 p.cls.a4, SV.si IntKind.i64 p.cls.a5, SV.row (SId.i IntKind.i64) p.classes, SV.row SId.off p.offers] (148 : Nat) (20 : Nat) false) ∧ True) ∧ (0 : Int) ≤ (0 : Int) ∧ (0 : Int) ≤ nrows p ∧ ∀ (r : Nat), ↑r < (0 : Int) → sumS p l ↑r ≤ boundS p ↑r) ∧ ∀ (x : Int), ((0 : Int) ≤ x ∧ x ≤ nrows p ∧ ∀ (r : Nat), ↑r < x → sumS p l ↑r ≤ boundS p ↑r) → (decide (x < nrows p) = true → ((((SV.row SId.off l).same (SV.row SId.off l) ∧ (SV.ptr (0 : Nat) (0 : Nat) (20 : Nat)).same (SV.ptr (0 : Nat) (0 : Nat) (20 : Nat)) ∧ (SV.fn (Fn.func (156 : Nat)) [] []).same (SV.fn (Fn.func (156 : Nat)) [] []) ∧ (SV.si IntKind.i64 x).same (SV.si IntKind.i64 x) ∧ (SV.il IntKind.i64 (0 : Int)).same (SV.si IntKind.i64 (0 : Int)) ∧ (SV.si IntKind.i64 (nrows p)).same (SV.si IntKind.i64 (nrows p)) ∧ (SV.si IntKind.i64 x).same (SV.si IntKind.i64 x) ∧ (SV.row SId.off l).same (SV.row SId.off l) ∧ (SV.si IntKind.i64 ↑l.length).same (SV.si IntKind.i64 ↑l.length) ∧ (SV.il IntKind.i64 (0 : Int)).same (SV.si IntKind.i64 (0 : Int)) ∧ True) ∧ (SObj.cells [SV.si IntKind.i64 p.supply.a0, SV.si IntKind.i64 p.supply.a1, SV.si IntKind.i64 p.supply.a2, SV.si IntKind.i64 p.supply.a3, SV.si IntKind.i64 p.supply.a4, SV.si IntKind.i64 p.supply.a5, SV.si IntKind.i64 p.opn.a0, SV.si IntKind.i64 p.opn.a1, SV.si IntKind.i64 p.opn.a2, SV.si IntKind.i64 p.opn.a3, SV.si IntKind.i64 p.opn.a4, SV.si IntKind.i64 p.opn.a5, SV.si IntKind.i64 p.cls.a0, SV.si IntKind.i64 p.cls.a1, SV.si IntKind.i64 p.cls.a2, SV.si IntKind.i64 p.cls.a3, SV.si IntKind.i64 p.cls.a4, SV.si IntKind.i64 p.cls.a5, SV.row (SId.i IntKind.i64) p.classes, SV.row SId.off p.offers] (148 : Nat) (20 : Nat) false).same (SObj.cells [SV.si IntKind.i64 p.supply.a0, SV.si IntKind.i64 p.supply.a1, SV.si IntKind.i64 p.supply.a2, SV.si IntKind.i64 p.supply.a3, SV.si IntKind.i64 p.supply.a4, SV.si IntKind.i64 p.supply.a5, SV.si IntKind.i64 p.opn.a0, SV.si IntKind.i64 p.opn.a1, SV.si IntKind.i64 p.opn.a2, SV.si IntKind.i64 p.opn.a3, SV.si IntKind.i64 p.opn.a4, SV.si IntKind.i64 p.opn.a5, SV.si IntKind.i64 p.cls.a0, SV.si IntKind.i64 p.cls.a1, SV.si IntKind.i64 p.cls.a2, SV.si IntKind.i64 p.cls.a3, SV.si IntKind.i64 p.cls.a4, SV.si IntKind.i64 p.cls.a5, SV.row (SId.i IntKind.i64) p.classes, SV.row SId.off p.offers] (148 : Nat) (20 : Nat) false) ∧ True) ∧ (0 : Int) ≤ (0 : Int) ∧ (0 : Int) ≤ ↑l.length ∧ (0 : Int) = sumS p [] x) ∧ ∀ (x_1 : Int × Int), (0 : Int) ≤ x_1.fst ∧ x_1.fst ≤ ↑l.length ∧ x_1.snd = sumS p (List.take x_1.fst.toNat l) x → (decide (x_1.fst < ↑l.length) = true → (0 : Int) ≤ x_1.fst ∧ x_1.fst < ↑l.length ∧ x_1.fst.toNat < l.length ∧ (p.classes.length ≤ (8 : Nat) ∧ (0 : Int) ≤ x ∧ x < nrows p ∧ (0 : Int) ≤ (nthD l x_1.fst.toNat SId.off.dflt).bidder ∧ (nthD l x_1.fst.toNat SId.off.dflt).bidder < ↑p.classes.length) ∧ inR IntKind.i64 (x_1.snd + coefS p x (nthD l x_1.fst.toNat SId.off.dflt)) ∧ inR IntKind.i64 (x_1.fst + (1 : Int)) ∧ (((SV.row SId.off l).same (SV.row SId.off l) ∧ (SV.ptr (0 : Nat) (0 : Nat) (20 : Nat)).same (SV.ptr (0 : Nat) (0 : Nat) (20 : Nat)) ∧ (SV.fn (Fn.func (156 : Nat)) [] []).same (SV.fn (Fn.func (156 : Nat)) [] []) ∧ (SV.si IntKind.i64 x).same (SV.si IntKind.i64 x) ∧ (SV.si IntKind.i64 (x_1.snd + coefS p x (nthD l x_1.fst.toNat SId.off.dflt))).same (SV.si IntKind.i64 (x_1.snd + coefS p x (nthD l x_1.fst.toNat SId.off.dflt))) ∧ (SV.si IntKind.i64 (nrows p)).same (SV.si IntKind.i64 (nrows p)) ∧ (SV.si IntKind.i64 x).same (SV.si IntKind.i64 x) ∧ (SV.row SId.off l).same (SV.row SId.off l) ∧ (SV.si IntKind.i64 ↑l.length).same (SV.si IntKind.i64 ↑l.length) ∧ (SV.si IntKind.i64 (x_1.fst + (1 : Int))).same (SV.si IntKind.i64 (x_1.fst + (1 : Int))) ∧ True) ∧ (SObj.cells [SV.si IntKind.i64 p.supply.a0, SV.si IntKind.i64 p.supply.a1, SV.si IntKind.i64 p.supply.a2, SV.si IntKind.i64 p.supply.a3, SV.si IntKind.i64 p.supply.a4, SV.si IntKind.i64 p.supply.a5, SV.si IntKind.i64 p.opn.a0, SV.si IntKind.i64 p.opn.a1, SV.si IntKind.i64 p.opn.a2, SV.si IntKind.i64 p.opn.a3, SV.si IntKind.i64 p.opn.a4, SV.si IntKind.i64 p.opn.a5, SV.si IntKind.i64 p.cls.a0, SV.si IntKind.i64 p.cls.a1, SV.si IntKind.i64 p.cls.a2, SV.si IntKind.i64 p.cls.a3, SV.si IntKind.i64 p.cls.a4, SV.si IntKind.i64 p.cls.a5, SV.row (SId.i IntKind.i64) p.classes, SV.row SId.off p.offers] (148 : Nat) (20 : Nat) false).same (SObj.cells [SV.si IntKind.i64 p.supply.a0, SV.si IntKind.i64 p.supply.a1, SV.si IntKind.i64 p.supply.a2, SV.si IntKind.i64 p.supply.a3, SV.si IntKind.i64 p.supply.a4, SV.si IntKind.i64 p.supply.a5, SV.si IntKind.i64 p.opn.a0, SV.si IntKind.i64 p.opn.a1, SV.si IntKind.i64 p.opn.a2, SV.si IntKind.i64 p.opn.a3, SV.si IntKind.i64 p.opn.a4, SV.si IntKind.i64 p.opn.a5, SV.si IntKind.i64 p.cls.a0, SV.si IntKind.i64 p.cls.a1, SV.si IntKind.i64 p.cls.a2, SV.si IntKind.i64 p.cls.a3, SV.si IntKind.i64 p.cls.a4, SV.si IntKind.i64 p.cls.a5, SV.row (SId.i IntKind.i64) p.classes, SV.row SId.off p.offers] (148 : Nat) (20 : Nat) false) ∧ True) ∧ ((0 : Int) ≤ x_1.fst + (1 : Int) ∧ x_1.fst + (1 : Int) ≤ ↑l.length ∧ x_1.snd + coefS p x (nthD l x_1.fst.toNat SId.off.dflt) = sumS p (List.take (x_1.fst + (1 : Int)).toNat l) x) ∧ (↑l.length - (x_1.fst + (1 : Int))).toNat < (↑l.length - x_1.fst).toNat) ∧ (decide (x_1.fst < ↑l.length) = false → (p.classes.length ≤ (8 : Nat) ∧ (0 : Int) ≤ x ∧ x < nrows p) ∧ (decide (boundS p x < x_1.snd) = true → (SV.bl false).same (SV.sb (fitsB p l))) ∧ (decide (boundS p x < x_1.snd) = false → inR IntKind.i64 (x + (1 : Int)) ∧ (((SV.row SId.off l).same (SV.row SId.off l) ∧ (SV.ptr (0 : Nat) (0 : Nat) (20 : Nat)).same (SV.ptr (0 : Nat) (0 : Nat) (20 : Nat)) ∧ (SV.fn (Fn.func (156 : Nat)) [] []).same (SV.fn (Fn.func (156 : Nat)) [] []) ∧ (SV.si IntKind.i64 (nrows p)).same (SV.si IntKind.i64 (nrows p)) ∧ (SV.si IntKind.i64 (x + (1 : Int))).same (SV.si IntKind.i64 (x + (1 : Int))) ∧ True) ∧ (SObj.cells [SV.si IntKind.i64 p.supply.a0, SV.si IntKind.i64 p.supply.a1, SV.si IntKind.i64 p.supply.a2, SV.si IntKind.i64 p.supply.a3, SV.si IntKind.i64 p.supply.a4, SV.si IntKind.i64 p.supply.a5, SV.si IntKind.i64 p.opn.a0, SV.si IntKind.i64 p.opn.a1, SV.si IntKind.i64 p.opn.a2, SV.si IntKind.i64 p.opn.a3, SV.si IntKind.i64 p.opn.a4, SV.si IntKind.i64 p.opn.a5, SV.si IntKind.i64 p.cls.a0, SV.si IntKind.i64 p.cls.a1, SV.si IntKind.i64 p.cls.a2, SV.si IntKind.i64 p.cls.a3, SV.si IntKind.i64 p.cls.a4, SV.si IntKind.i64 p.cls.a5, SV.row (SId.i IntKind.i64) p.classes, SV.row SId.off p.offers] (148 : Nat) (20 : Nat) false).same (SObj.cells [SV.si IntKind.i64 p.supply.a0, SV.si IntKind.i64 p.supply.a1, SV.si IntKind.i64 p.supply.a2, SV.si IntKind.i64 p.supply.a3, SV.si IntKind.i64 p.supply.a4, SV.si IntKind.i64 p.supply.a5, SV.si IntKind.i64 p.opn.a0, SV.si IntKind.i64 p.opn.a1, SV.si IntKind.i64 p.opn.a2, SV.si IntKind.i64 p.opn.a3, SV.si IntKind.i64 p.opn.a4, SV.si IntKind.i64 p.opn.a5, SV.si IntKind.i64 p.cls.a0, SV.si IntKind.i64 p.cls.a1, SV.si IntKind.i64 p.cls.a2, SV.si IntKind.i64 p.cls.a3, SV.si IntKind.i64 p.cls.a4, SV.si IntKind.i64 p.cls.a5, SV.row (SId.i IntKind.i64) p.classes, SV.row SId.off p.offers] (148 : Nat) (20 : Nat) false) ∧ True) ∧ ((0 : Int) ≤ x + (1 : Int) ∧ x + (1 : Int) ≤ nrows p ∧ ∀ (r : Nat), ↑r < x + (1 : Int) → sumS p l ↑r ≤ boundS p ↑r) ∧ (nrows p - (x + (1 : Int))).toNat < (nrows p - x).toNat))) ∧ (decide (x < nrows p) = false → (SV.bl true).same (SV.sb (fitsB p l)))) (by kernel_rfl) ?_
  simp only [decide_eq_true_eq, decide_eq_false_iff_not, same_il_si, same_si_si, same_si_il, same_il_il, same_sb_sb, same_bl_sb, same_row, same_tup2, same_tup3, same_nil, same_row_nil, same_rfl, osame_rfl, inR_i64, eq_self, true_and, and_true, Bool.and_eq_true, Bool.not_eq_true', Bool.not_eq_false']
  have hn : nrows p = p.classes.length + 12 := rfl
  have ho : ∀ x ∈ l, x.want.ok = true := fun x hx => (hb x hx).2.2
  refine ⟨hp, ⟨by omega, by omega, fun r hr => by omega⟩, ?_⟩
  rintro i ⟨hi0, hi1, hi⟩
  refine ⟨fun hlt => ⟨⟨by omega, by omega, by simp [sumS]⟩, ?_⟩, ?_⟩
  · rintro ⟨j, s⟩ ⟨hj0, hj1, hs⟩
    simp only at hj0 hj1 hs ⊢
    have hsb := @sum_bd p i (l.take j.toNat) fun x hx => ho x (List.mem_of_mem_take hx)
    have hlen : (l.take j.toNat).length ≤ l.length := by simp; omega
    refine ⟨fun hjl => ?_, fun hjl => ?_⟩
    · have hm := hb _ (nthD_mem (d := SId.off.dflt) (show j.toNat < l.length by omega))
      have hc := @coef_bd p i _ hm.2.2
      have hst := @sum_take p i l j SId.off.dflt hj0 hjl
      refine ⟨by omega, by omega, by omega, ⟨hp, by omega, by omega, hm.1, hm.2.1⟩, by omega, by omega, ⟨by omega, by omega, by omega⟩, by omega⟩
    · have : j.toNat = l.length := by omega
      rw [this, List.take_length] at hs
      refine ⟨⟨hp, by omega, by omega⟩, fun hgt => ?_, fun hle => ⟨by omega, ⟨by omega, by omega, fun r hr => ?_⟩, by omega⟩⟩
      · symm
        rw [Bool.eq_false_iff]
        intro hf
        have := fits_iff.1 hf i.toNat (by omega)
        rw [show ((i.toNat : Nat) : Int) = i from by omega] at this
        omega
      · by_cases hr2 : (r : Int) < i
        · exact hi r hr2
        · have : (r : Int) = i := by omega
          rw [this]
          omega
  · intro hge
    symm
    exact fits_iff.2 fun r hr => hi r (by omega)

end Go.Vi

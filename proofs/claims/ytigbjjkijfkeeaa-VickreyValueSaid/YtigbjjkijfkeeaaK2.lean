/-
  Contracts: the rows of a problem.
  Conditions: none.
-/
import Derived.Test.YtigbjjkijfkeeaaK1
set_option maxRecDepth 100000
set_option linter.unusedSimpArgs false
set_option linter.unusedVariables false
namespace Go.Vi
open Go.Proofs.Ytigbjjkijfkeeaa.Ir
open Go.Proofs

def Bun.l (b : Bun) : List Int := [b.a0, b.a1, b.a2, b.a3, b.a4, b.a5]

def nrows (p : Prob) : Int := p.classes.length + 12

def boundS (p : Prob) (r : Int) : Int :=
  if r - p.classes.length < 0 then 1
  else if r - p.classes.length < 6 then nthD [p.supply.a0, p.supply.a1, p.supply.a2, p.supply.a3, p.supply.a4, p.supply.a5] (r - p.classes.length).toNat 0
  else nthD [p.opn.a0, p.opn.a1, p.opn.a2, p.opn.a3, p.opn.a4, p.opn.a5] (r - p.classes.length - 6).toNat 0

def coefS (p : Prob) (r : Int) (o : Off) : Int :=
  if r - p.classes.length < 0 then (if o.bidder = r then 1 else 0)
  else if r - p.classes.length < 6 then nthD [o.want.a0, o.want.a1, o.want.a2, o.want.a3, o.want.a4, o.want.a5] (r - p.classes.length).toNat 0
  else if nthD [p.cls.a0, p.cls.a1, p.cls.a2, p.cls.a3, p.cls.a4, p.cls.a5] (r - p.classes.length - 6).toNat 0 = 0 ∨ nthD [p.cls.a0, p.cls.a1, p.cls.a2, p.cls.a3, p.cls.a4, p.cls.a5] (r - p.classes.length - 6).toNat 0 = nthD p.classes o.bidder.toNat 0 then 0
  else nthD [o.want.a0, o.want.a1, o.want.a2, o.want.a3, o.want.a4, o.want.a5] (r - p.classes.length - 6).toNat 0

def r157 : SCtr := ⟨157, Prob, .one codP, fun p => p.classes.length ≤ 8, fun p => .si .i64 (nrows p)⟩
def r158 : SCtr := ⟨158, Prob × Int, .cons codP (.one (codI .i64)), fun a => a.1.classes.length ≤ 8 ∧ 0 ≤ a.2 ∧ a.2 < nrows a.1, fun a => .si .i64 (boundS a.1 a.2)⟩
def r156 : SCtr := ⟨156, Prob × Int × Off, .cons codP (.cons (codI .i64) (.one (codE .off))), fun a => a.1.classes.length ≤ 8 ∧ 0 ≤ a.2.1 ∧ a.2.1 < nrows a.1 ∧ 0 ≤ a.2.2.bidder ∧ a.2.2.bidder < a.1.classes.length, fun a => .si .i64 (coefS a.1 a.2.1 a.2.2)⟩

theorem h157 : Holds Try.prog r157 := by
  refine con (L := []) r157 F157 (fun _ _ => .unroll 7) (OwnOK.none _) (by simp) (by kernel_rfl) (by kernel_rfl) (fun _ => rfl) ?_
  intro p (hp : p.classes.length ≤ 8)
  refine vcOf (inR IntKind.i64 (↑p.classes.length + (12 : Int)) ∧ (SV.si IntKind.i64 (↑p.classes.length + (12 : Int))).same (SV.si IntKind.i64 (nrows p))) (by kernel_rfl) ?_
  simp only [decide_eq_true_eq, decide_eq_false_iff_not, same_il_si, same_si_si, same_si_il, same_il_il, same_sb_sb, same_bl_sb, same_row, same_tup2, same_tup3, same_nil, same_row_nil, same_rfl, osame_rfl, inR_i64, eq_self, true_and, and_true, Bool.and_eq_true, Bool.not_eq_true', Bool.not_eq_false', nrows]
  omega
theorem h158 : Holds Try.prog r158 := by
  refine con (L := []) r158 F158 (fun _ _ => .unroll 7) (OwnOK.none _) (by simp) (by kernel_rfl) (by kernel_rfl) (fun _ => rfl) ?_
  rintro ⟨p, r⟩ ⟨hp, h1, h2⟩
  simp only [nrows] at hp h1 h2
  refine vcOf (inR IntKind.i64 (r - ↑p.classes.length) ∧ (decide (r - ↑p.classes.length < (0 : Int)) = true → (SV.il IntKind.i64 (1 : Int)).same (SV.si IntKind.i64 (boundS p r))) ∧ (decide (r - ↑p.classes.length < (0 : Int)) = false → (decide (r - ↑p.classes.length < (6 : Int)) = true → (0 : Int) ≤ r - ↑p.classes.length ∧ r - ↑p.classes.length < (6 : Int) ∧ (r - ↑p.classes.length).toNat < (6 : Nat) ∧ (SV.si IntKind.i64 (nthD [p.supply.a0, p.supply.a1, p.supply.a2, p.supply.a3, p.supply.a4, p.supply.a5] (r - ↑p.classes.length).toNat (0 : Int))).same (SV.si IntKind.i64 (boundS p r))) ∧ (decide (r - ↑p.classes.length < (6 : Int)) = false → inR IntKind.i64 (r - ↑p.classes.length - (6 : Int)) ∧ (0 : Int) ≤ r - ↑p.classes.length - (6 : Int) ∧ r - ↑p.classes.length - (6 : Int) < (6 : Int) ∧ (r - ↑p.classes.length - (6 : Int)).toNat < (6 : Nat) ∧ (SV.si IntKind.i64 (nthD [p.opn.a0, p.opn.a1, p.opn.a2, p.opn.a3, p.opn.a4, p.opn.a5] (r - ↑p.classes.length - (6 : Int)).toNat (0 : Int))).same (SV.si IntKind.i64 (boundS p r))))) (by kernel_rfl) ?_
  simp only [decide_eq_true_eq, decide_eq_false_iff_not, same_il_si, same_si_si, same_si_il, same_il_il, same_sb_sb, same_bl_sb, same_row, same_tup2, same_tup3, same_nil, same_row_nil, same_rfl, osame_rfl, inR_i64, eq_self, true_and, and_true, Bool.and_eq_true, Bool.not_eq_true', Bool.not_eq_false']
  repeat' (first | refine And.intro ?_ ?_ | intro _)
  all_goals first
    | trivial
    | omega
    | (simp only [boundS]; (repeat' split) <;> first | rfl | omega)
theorem h156 : Holds Try.prog r156 := by
  refine con (L := []) r156 F156 (fun _ _ => .unroll 7) (OwnOK.none _) (by simp) (by kernel_rfl) (by kernel_rfl) (fun _ => rfl) ?_
  rintro ⟨p, r, x⟩ ⟨hp, h1, h2, h3, h4⟩
  simp only [nrows] at hp h1 h2 h3 h4
  refine vcOf (inR IntKind.i64 (r - ↑p.classes.length) ∧ (decide (r - ↑p.classes.length < (0 : Int)) = true → (decide (x.bidder = r) = true → (SV.il IntKind.i64 (1 : Int)).same (SV.si IntKind.i64 (coefS p r x))) ∧ (decide (x.bidder = r) = false → (decide (r - ↑p.classes.length < (0 : Int)) = true → (SV.il IntKind.i64 (0 : Int)).same (SV.si IntKind.i64 (coefS p r x))) ∧ (decide (r - ↑p.classes.length < (0 : Int)) = false → (decide (r - ↑p.classes.length < (6 : Int)) = true → (0 : Int) ≤ r - ↑p.classes.length ∧ r - ↑p.classes.length < (6 : Int) ∧ (r - ↑p.classes.length).toNat < (6 : Nat) ∧ (SV.si IntKind.i64 (nthD [x.want.a0, x.want.a1, x.want.a2, x.want.a3, x.want.a4, x.want.a5] (r - ↑p.classes.length).toNat (0 : Int))).same (SV.si IntKind.i64 (coefS p r x))) ∧ (decide (r - ↑p.classes.length < (6 : Int)) = false → inR IntKind.i64 (r - ↑p.classes.length - (6 : Int)) ∧ (0 : Int) ≤ r - ↑p.classes.length - (6 : Int) ∧ r - ↑p.classes.length - (6 : Int) < (6 : Int) ∧ (r - ↑p.classes.length - (6 : Int)).toNat < (6 : Nat) ∧ (decide (nthD [p.cls.a0, p.cls.a1, p.cls.a2, p.cls.a3, p.cls.a4, p.cls.a5] (r - ↑p.classes.length - (6 : Int)).toNat (0 : Int) = (0 : Int)) = true → (SV.il IntKind.i64 (0 : Int)).same (SV.si IntKind.i64 (coefS p r x))) ∧ (decide (nthD [p.cls.a0, p.cls.a1, p.cls.a2, p.cls.a3, p.cls.a4, p.cls.a5] (r - ↑p.classes.length - (6 : Int)).toNat (0 : Int) = (0 : Int)) = false → (0 : Int) ≤ r - ↑p.classes.length - (6 : Int) ∧ r - ↑p.classes.length - (6 : Int) < (6 : Int) ∧ (r - ↑p.classes.length - (6 : Int)).toNat < (6 : Nat) ∧ (0 : Int) ≤ x.bidder ∧ x.bidder < ↑p.classes.length ∧ x.bidder.toNat < p.classes.length ∧ (decide (nthD [p.cls.a0, p.cls.a1, p.cls.a2, p.cls.a3, p.cls.a4, p.cls.a5] (r - ↑p.classes.length - (6 : Int)).toNat (0 : Int) = nthD p.classes x.bidder.toNat (0 : Int)) = true → (SV.il IntKind.i64 (0 : Int)).same (SV.si IntKind.i64 (coefS p r x))) ∧ (decide (nthD [p.cls.a0, p.cls.a1, p.cls.a2, p.cls.a3, p.cls.a4, p.cls.a5] (r - ↑p.classes.length - (6 : Int)).toNat (0 : Int) = nthD p.classes x.bidder.toNat (0 : Int)) = false → (0 : Int) ≤ r - ↑p.classes.length - (6 : Int) ∧ r - ↑p.classes.length - (6 : Int) < (6 : Int) ∧ (r - ↑p.classes.length - (6 : Int)).toNat < (6 : Nat) ∧ (SV.si IntKind.i64 (nthD [x.want.a0, x.want.a1, x.want.a2, x.want.a3, x.want.a4, x.want.a5] (r - ↑p.classes.length - (6 : Int)).toNat (0 : Int))).same (SV.si IntKind.i64 (coefS p r x)))))))) ∧ (decide (r - ↑p.classes.length < (0 : Int)) = false → (decide (r - ↑p.classes.length < (0 : Int)) = true → (SV.il IntKind.i64 (0 : Int)).same (SV.si IntKind.i64 (coefS p r x))) ∧ (decide (r - ↑p.classes.length < (0 : Int)) = false → (decide (r - ↑p.classes.length < (6 : Int)) = true → (0 : Int) ≤ r - ↑p.classes.length ∧ r - ↑p.classes.length < (6 : Int) ∧ (r - ↑p.classes.length).toNat < (6 : Nat) ∧ (SV.si IntKind.i64 (nthD [x.want.a0, x.want.a1, x.want.a2, x.want.a3, x.want.a4, x.want.a5] (r - ↑p.classes.length).toNat (0 : Int))).same (SV.si IntKind.i64 (coefS p r x))) ∧ (decide (r - ↑p.classes.length < (6 : Int)) = false → inR IntKind.i64 (r - ↑p.classes.length - (6 : Int)) ∧ (0 : Int) ≤ r - ↑p.classes.length - (6 : Int) ∧ r - ↑p.classes.length - (6 : Int) < (6 : Int) ∧ (r - ↑p.classes.length - (6 : Int)).toNat < (6 : Nat) ∧ (decide (nthD [p.cls.a0, p.cls.a1, p.cls.a2, p.cls.a3, p.cls.a4, p.cls.a5] (r - ↑p.classes.length - (6 : Int)).toNat (0 : Int) = (0 : Int)) = true → (SV.il IntKind.i64 (0 : Int)).same (SV.si IntKind.i64 (coefS p r x))) ∧ (decide (nthD [p.cls.a0, p.cls.a1, p.cls.a2, p.cls.a3, p.cls.a4, p.cls.a5] (r - ↑p.classes.length - (6 : Int)).toNat (0 : Int) = (0 : Int)) = false → (0 : Int) ≤ r - ↑p.classes.length - (6 : Int) ∧ r - ↑p.classes.length - (6 : Int) < (6 : Int) ∧ (r - ↑p.classes.length - (6 : Int)).toNat < (6 : Nat) ∧ (0 : Int) ≤ x.bidder ∧ x.bidder < ↑p.classes.length ∧ x.bidder.toNat < p.classes.length ∧ (decide (nthD [p.cls.a0, p.cls.a1, p.cls.a2, p.cls.a3, p.cls.a4, p.cls.a5] (r - ↑p.classes.length - (6 : Int)).toNat (0 : Int) = nthD p.classes x.bidder.toNat (0 : Int)) = true → (SV.il IntKind.i64 (0 : Int)).same (SV.si IntKind.i64 (coefS p r x))) ∧ (decide (nthD [p.cls.a0, p.cls.a1, p.cls.a2, p.cls.a3, p.cls.a4, p.cls.a5] (r - ↑p.classes.length - (6 : Int)).toNat (0 : Int) = nthD p.classes x.bidder.toNat (0 : Int)) = false → (0 : Int) ≤ r - ↑p.classes.length - (6 : Int) ∧ r - ↑p.classes.length - (6 : Int) < (6 : Int) ∧ (r - ↑p.classes.length - (6 : Int)).toNat < (6 : Nat) ∧ (SV.si IntKind.i64 (nthD [x.want.a0, x.want.a1, x.want.a2, x.want.a3, x.want.a4, x.want.a5] (r - ↑p.classes.length - (6 : Int)).toNat (0 : Int))).same (SV.si IntKind.i64 (coefS p r x)))))))) (by kernel_rfl) ?_
  simp only [decide_eq_true_eq, decide_eq_false_iff_not, same_il_si, same_si_si, same_si_il, same_il_il, same_sb_sb, same_bl_sb, same_row, same_tup2, same_tup3, same_nil, same_row_nil, same_rfl, osame_rfl, inR_i64, eq_self, true_and, and_true, Bool.and_eq_true, Bool.not_eq_true', Bool.not_eq_false']
  repeat' (first | refine And.intro ?_ ?_ | intro _)
  all_goals first
    | trivial
    | omega
    | (simp only [coefS]; (repeat' split) <;> first | rfl | omega)

end Go.Vi

/-
  Contracts: bundles.
  Conditions: none.
-/
import Derived.Test.YtigbjjkijfkeeaaSxBase
import Derived.KernelRfl
set_option maxRecDepth 100000
set_option linter.unusedSimpArgs false
set_option linter.unusedVariables false
namespace Go.Vi
open Go.Proofs.Ytigbjjkijfkeeaa.Ir
open Go.Proofs

@[simp] theorem same_si_si {k k' : IntKind} {a b : Int} : (SV.si k a).same (.si k' b) ↔ k = k' ∧ a = b := by simp [SV.same, SV.g]
@[simp] theorem same_il_si {k k' : IntKind} {a b : Int} : (SV.il k a).same (.si k' b) ↔ k = k' ∧ a = b := by simp [SV.same, SV.g]
@[simp] theorem same_sb_sb {a b : Bool} : (SV.sb a).same (.sb b) ↔ a = b := by simp [SV.same, SV.g]
@[simp] theorem same_bl_sb {a b : Bool} : (SV.bl a).same (.sb b) ↔ a = b := by simp [SV.same, SV.g]
@[simp] theorem same_row {s : SId} {a b : List s.T} : (SV.row s a).same (.row s b) ↔ a = b := by
  constructor
  · intro h; simp only [SV.same, SV.g, AV.sl.injEq] at h; exact flatA_inj s h.1 h.2
  · rintro rfl; rfl

@[simp] theorem same_si_il {k k' : IntKind} {a b : Int} : (SV.si k a).same (.il k' b) ↔ k = k' ∧ a = b := by simp [SV.same, SV.g]
@[simp] theorem same_il_il {k k' : IntKind} {a b : Int} : (SV.il k a).same (.il k' b) ↔ k = k' ∧ a = b := by simp [SV.same, SV.g]
theorem same_rfl {v : SV} : v.same v ↔ True := iff_true_intro rfl
theorem osame_rfl {v : SObj} : v.same v ↔ True := iff_true_intro rfl
theorem same_tup2 {a b c d : SV} : (SV.tup [a, b]).same (.tup [c, d]) ↔ a.same c ∧ b.same d := by simp [SV.same, SV.g, gL]
theorem same_tup3 {a b c d e f : SV} : (SV.tup [a, b, c]).same (.tup [d, e, f]) ↔ a.same d ∧ b.same e ∧ c.same f := by simp [SV.same, SV.g, gL]
theorem same_nil {s t : SId} : (SV.row s []).same (.row t []) ↔ True := iff_true_intro (by simp [SV.same, SV.g, flatA])
theorem same_row_nil {s : SId} {l : List s.T} : (SV.row (.i .i64) []).same (.row s l) ↔ l = [] := by
  constructor
  · intro h; simp only [SV.same, SV.g, AV.sl.injEq] at h; simpa using h.1.symm
  · rintro rfl; exact same_nil.2 trivial
theorem bun_eq {a b : Bun} : a = b ↔ a.a0 = b.a0 ∧ a.a1 = b.a1 ∧ a.a2 = b.a2 ∧ a.a3 = b.a3 ∧ a.a4 = b.a4 ∧ a.a5 = b.a5 := by
  obtain ⟨a0, a1, a2, a3, a4, a5⟩ := a
  obtain ⟨b0, b1, b2, b3, b4, b5⟩ := b
  simp only [Bun.mk.injEq]
@[simp] theorem inR_i64 {n : Int} : inR .i64 n ↔ -9223372036854775808 ≤ n ∧ n ≤ 9223372036854775807 := Iff.rfl

def Bun.ok (b : Bun) : Bool := [b.a0, b.a1, b.a2, b.a3, b.a4, b.a5].all fun n => decide (0 ≤ n) && decide (n ≤ 4)

theorem Bun.ok_iff {b : Bun} : b.ok = true ↔ (0 ≤ b.a0 ∧ b.a0 ≤ 4) ∧ (0 ≤ b.a1 ∧ b.a1 ≤ 4) ∧ (0 ≤ b.a2 ∧ b.a2 ≤ 4) ∧ (0 ≤ b.a3 ∧ b.a3 ≤ 4) ∧ (0 ≤ b.a4 ∧ b.a4 ≤ 4) ∧ (0 ≤ b.a5 ∧ b.a5 ≤ 4) := by
  simp [Bun.ok]

def r146 : SCtr := ⟨146, Bun, .one (codE .bun), fun _ => True, fun b => .si .i64 (if b.ok = true then 0 else 4)⟩

theorem h146 : Holds Try.prog r146 := by
  refine con (L := []) r146 F146 (fun _ _ => .unroll 7) (OwnOK.none _) (by simp) (by kernel_rfl) (by kernel_rfl) (fun _ => rfl) ?_
  intro b _
  refine vcOf ((decide (b.a0 < (0 : Int)) = true → (SV.il IntKind.i64 (4 : Int)).same (SV.si IntKind.i64 (if Bun.ok b = true then (0 : Int) else (4 : Int)))) ∧ (decide (b.a0 < (0 : Int)) = false → (decide ((4 : Int) < b.a0) = true → (SV.il IntKind.i64 (4 : Int)).same (SV.si IntKind.i64 (if Bun.ok b = true then (0 : Int) else (4 : Int)))) ∧ (decide ((4 : Int) < b.a0) = false → (decide (b.a1 < (0 : Int)) = true → (SV.il IntKind.i64 (4 : Int)).same (SV.si IntKind.i64 (if Bun.ok b = true then (0 : Int) else (4 : Int)))) ∧ (decide (b.a1 < (0 : Int)) = false → (decide ((4 : Int) < b.a1) = true → (SV.il IntKind.i64 (4 : Int)).same (SV.si IntKind.i64 (if Bun.ok b = true then (0 : Int) else (4 : Int)))) ∧ (decide ((4 : Int) < b.a1) = false → (decide (b.a2 < (0 : Int)) = true → (SV.il IntKind.i64 (4 : Int)).same (SV.si IntKind.i64 (if Bun.ok b = true then (0 : Int) else (4 : Int)))) ∧ (decide (b.a2 < (0 : Int)) = false → (decide ((4 : Int) < b.a2) = true → (SV.il IntKind.i64 (4 : Int)).same (SV.si IntKind.i64 (if Bun.ok b = true then (0 : Int) else (4 : Int)))) ∧ (decide ((4 : Int) < b.a2) = false → (decide (b.a3 < (0 : Int)) = true → (SV.il IntKind.i64 (4 : Int)).same (SV.si IntKind.i64 (if Bun.ok b = true then (0 : Int) else (4 : Int)))) ∧ (decide (b.a3 < (0 : Int)) = false → (decide ((4 : Int) < b.a3) = true → (SV.il IntKind.i64 (4 : Int)).same (SV.si IntKind.i64 (if Bun.ok b = true then (0 : Int) else (4 : Int)))) ∧ (decide ((4 : Int) < b.a3) = false → (decide (b.a4 < (0 : Int)) = true → (SV.il IntKind.i64 (4 : Int)).same (SV.si IntKind.i64 (if Bun.ok b = true then (0 : Int) else (4 : Int)))) ∧ (decide (b.a4 < (0 : Int)) = false → (decide ((4 : Int) < b.a4) = true → (SV.il IntKind.i64 (4 : Int)).same (SV.si IntKind.i64 (if Bun.ok b = true then (0 : Int) else (4 : Int)))) ∧ (decide ((4 : Int) < b.a4) = false → (decide (b.a5 < (0 : Int)) = true → (SV.il IntKind.i64 (4 : Int)).same (SV.si IntKind.i64 (if Bun.ok b = true then (0 : Int) else (4 : Int)))) ∧ (decide (b.a5 < (0 : Int)) = false → (decide ((4 : Int) < b.a5) = true → (SV.il IntKind.i64 (4 : Int)).same (SV.si IntKind.i64 (if Bun.ok b = true then (0 : Int) else (4 : Int)))) ∧ (decide ((4 : Int) < b.a5) = false → (SV.il IntKind.i64 (0 : Int)).same (SV.si IntKind.i64 (if Bun.ok b = true then (0 : Int) else (4 : Int)))))))))))))))) (by kernel_rfl) ?_
  have hb := @Bun.ok_iff b
  by_cases h : b.ok = true
  · have h2 := hb.1 h
    simp only [decide_eq_true_eq, decide_eq_false_iff_not, same_il_si, eq_self, true_and, h, if_true]
    repeat' (first | refine And.intro ?_ ?_ | intro _)
    all_goals first | trivial | omega | (exfalso; omega)
  · have h2 := mt hb.2 h
    simp only [decide_eq_true_eq, decide_eq_false_iff_not, same_il_si, eq_self, true_and, h]
    simp only [Bool.false_eq_true, if_false]
    repeat' (first | refine And.intro ?_ ?_ | intro _)
    all_goals first | trivial | omega | (exfalso; omega)

end Go.Vi

/-
  Contracts: the examples of the chapter.
  Conditions: none.
-/
import Derived.Test.YtigbjjkijfkeeaaKC
set_option maxRecDepth 100000
set_option maxHeartbeats 4000000
set_option linter.unusedSimpArgs false
set_option linter.unusedVariables false
namespace Go.Vi
open Go.Proofs.Ytigbjjkijfkeeaa.Ir
open Go.Proofs

def fewB (p : Prob) (n : Int) : Bool := decide ((p.offers.length : Int) ≤ n) && decide ((p.classes.length : Int) ≤ 8)

def r59 : SCtr := ⟨59, Prob × Int, .cons codP (.one (codI .i64)), fun _ => True, fun a => .sb (fewB a.1 a.2)⟩
theorem h59 : Holds Try.prog r59 := by
  refine con (L := []) r59 F59 (fun _ _ => .look) (OwnOK.none _) (by simp) (by kernel_rfl) (by kernel_rfl) (fun _ => rfl) ?_
  rintro ⟨p, n⟩ _
  refine vcOf ((decide ((↑p.offers.length : Int) ≤ n) = true → (SV.sb (decide ((↑p.classes.length : Int) ≤ (8 : Int)))).same (SV.sb (fewB p n))) ∧ (decide ((↑p.offers.length : Int) ≤ n) = false → (SV.bl false).same (SV.sb (fewB p n)))) (by kernel_rfl) ?_
  simp only [decide_eq_true_eq, decide_eq_false_iff_not, same_il_si, same_si_si, same_si_il, same_il_il, same_sb_sb, same_bl_sb, same_row, same_tup2, same_tup3, same_nil, same_row_nil, same_rfl, osame_rfl, inR_i64, eq_self, true_and, and_true, Bool.and_eq_true, Bool.not_eq_true', Bool.not_eq_false', fewB]
  by_cases h1 : (p.offers.length : Int) ≤ n <;> simp [h1]

def r15 : SCtr := ⟨15, Prob, .one codP, fun _ => True, fun a => .sb (fewB a 10)⟩
theorem h15 : Holds Try.prog r15 := by
  refine con (L := [r59]) r15 F15 (fun _ _ => .look) (OwnOK.none _) (by simpa using h59) (by kernel_rfl) (by kernel_rfl) (fun _ => rfl) ?_
  intro (p : Prob) _
  refine vcOf (True ∧ (SV.sb (fewB p (10 : Int))).same (SV.sb (fewB p (10 : Int)))) (by kernel_rfl) ?_
  simp only [decide_eq_true_eq, decide_eq_false_iff_not, same_il_si, same_si_si, same_si_il, same_il_il, same_sb_sb, same_bl_sb, same_row, same_tup2, same_tup3, same_nil, same_row_nil, same_rfl, osame_rfl, inR_i64, eq_self, true_and, and_true, Bool.and_eq_true, Bool.not_eq_true', Bool.not_eq_false']

def three : Prob := ⟨⟨1, 1, 0, 0, 0, 0⟩, ⟨1, 1, 0, 0, 0, 0⟩, Bun.zero, [0, 0, 0], [⟨0, ⟨1, 1, 0, 0, 0, 0⟩, 10⟩, ⟨1, ⟨1, 0, 0, 0, 0, 0⟩, 6⟩, ⟨2, ⟨0, 1, 0, 0, 0, 0⟩, 6⟩]⟩
def r60 : SCtr := ⟨60, Unit, .nil, fun _ => True, fun _ => codP.put three⟩
theorem h60 : Holds Try.prog r60 := by
  refine con (L := []) r60 F60 (fun _ _ => .look) (OwnOK.none _) (by simp) (by kernel_rfl) (by kernel_rfl) (fun _ => rfl) ?_
  intro _ _
  refine vcOf ((SV.agg [SV.il IntKind.i64 (1 : Int), SV.il IntKind.i64 (1 : Int), SV.il IntKind.i64 (0 : Int), SV.il IntKind.i64 (0 : Int), SV.il IntKind.i64 (0 : Int), SV.il IntKind.i64 (0 : Int), SV.il IntKind.i64 (1 : Int), SV.il IntKind.i64 (1 : Int), SV.il IntKind.i64 (0 : Int), SV.il IntKind.i64 (0 : Int), SV.il IntKind.i64 (0 : Int), SV.il IntKind.i64 (0 : Int), SV.il IntKind.i64 (0 : Int), SV.il IntKind.i64 (0 : Int), SV.il IntKind.i64 (0 : Int), SV.il IntKind.i64 (0 : Int), SV.il IntKind.i64 (0 : Int), SV.il IntKind.i64 (0 : Int), SV.row (SId.i IntKind.i64) [(0 : Int), (0 : Int), (0 : Int)], SV.row SId.off [Off.mk (0 : Int) (Bun.mk (1 : Int) (1 : Int) (0 : Int) (0 : Int) (0 : Int) (0 : Int)) (10 : Int), Off.mk (1 : Int) (Bun.mk (1 : Int) (0 : Int) (0 : Int) (0 : Int) (0 : Int) (0 : Int)) (6 : Int), Off.mk (2 : Int) (Bun.mk (0 : Int) (1 : Int) (0 : Int) (0 : Int) (0 : Int) (0 : Int)) (6 : Int)]]).same (SV.agg [SV.si IntKind.i64 three.supply.a0, SV.si IntKind.i64 three.supply.a1, SV.si IntKind.i64 three.supply.a2, SV.si IntKind.i64 three.supply.a3, SV.si IntKind.i64 three.supply.a4, SV.si IntKind.i64 three.supply.a5, SV.si IntKind.i64 three.opn.a0, SV.si IntKind.i64 three.opn.a1, SV.si IntKind.i64 three.opn.a2, SV.si IntKind.i64 three.opn.a3, SV.si IntKind.i64 three.opn.a4, SV.si IntKind.i64 three.opn.a5, SV.si IntKind.i64 three.cls.a0, SV.si IntKind.i64 three.cls.a1, SV.si IntKind.i64 three.cls.a2, SV.si IntKind.i64 three.cls.a3, SV.si IntKind.i64 three.cls.a4, SV.si IntKind.i64 three.cls.a5, SV.row (SId.i IntKind.i64) three.classes, SV.row SId.off three.offers])) (by kernel_rfl) ?_
  rfl

def LF : List SCtr := [r59, r15, r60, r17, r19, r21, r23]
theorem hLF : ∀ c ∈ LF, Holds Try.prog c := by
  simp only [LF, List.forall_mem_cons, List.not_mem_nil, false_implies, implies_true, and_true]
  exact ⟨h59, h15, h60, h17, h19, h21, h23⟩

def r16 : SCtr := ⟨16, Unit, .nil, fun _ => True, fun _ => .sb true⟩
theorem h16 : Holds Try.prog r16 := by
  refine con (L := LF) r16 F16 (fun _ _ => .look) (OwnOK.none _) hLF (by kernel_rfl) (by kernel_rfl) (fun _ => rfl) ?_
  intro _ _
  refine vcOf (True ∧ (2 : Nat) ≤ (1000000000000 : Nat) ∧ (2 : Nat) ≤ (1000000000000 : Nat) ∧ (2 : Nat) ≤ (1000000000000 : Nat) ∧ (1 : Nat) ≤ (1000000000000 : Nat) ∧ (2 : Nat) ≤ (1000000000000 : Nat) ∧ (2 : Nat) ≤ (1000000000000 : Nat) ∧ (true = true → (paysS three [(1 : Int), (2 : Int)]).length ≤ (1000000000000 : Nat) ∧ (sameB (paysS three [(1 : Int), (2 : Int)]) [(0 : Int), (4 : Int), (4 : Int)] = true → (true = true → (discsS three [(1 : Int), (2 : Int)]).length ≤ (1000000000000 : Nat) ∧ (sameB (discsS three [(1 : Int), (2 : Int)]) [(0 : Int), (2 : Int), (2 : Int)] = true → (true = true → (true = true → (true = true → (true = true → (SV.sb true).same (SV.sb true)) ∧ (true = false → (SV.bl false).same (SV.sb true))) ∧ (true = false → (SV.bl false).same (SV.sb true))) ∧ (true = false → (SV.bl false).same (SV.sb true))) ∧ (true = false → (SV.bl false).same (SV.sb true))) ∧ (sameB (discsS three [(1 : Int), (2 : Int)]) [(0 : Int), (2 : Int), (2 : Int)] = false → (SV.bl false).same (SV.sb true))) ∧ (true = false → (SV.bl false).same (SV.sb true))) ∧ (sameB (paysS three [(1 : Int), (2 : Int)]) [(0 : Int), (4 : Int), (4 : Int)] = false → (SV.bl false).same (SV.sb true))) ∧ (true = false → (SV.bl false).same (SV.sb true))) (by kernel_rfl) ?_
  simp only [decide_eq_true_eq, decide_eq_false_iff_not, same_il_si, same_si_si, same_si_il, same_il_il, same_sb_sb, same_bl_sb, same_row, same_tup2, same_tup3, same_nil, same_row_nil, same_rfl, osame_rfl, inR_i64, eq_self, true_and, and_true, Bool.and_eq_true, Bool.not_eq_true', Bool.not_eq_false']
  have e1 : paysS three [1, 2] = [0, 4, 4] := by kernel_rfl
  have e2 : discsS three [1, 2] = [0, 2, 2] := by kernel_rfl
  simp [e1, e2, sameB]

def LG : List SCtr := r16 :: LF
theorem hLG : ∀ c ∈ LG, Holds Try.prog c := by
  simp only [LG, List.forall_mem_cons]
  exact ⟨h16, hLF⟩

def r5 : SCtr := ⟨5, Prob × Alloc, .cons codP (.one codA), fun _ => True, fun _ => .sb true⟩
theorem h5 : Holds Try.prog r5 := by
  refine con (L := LG) r5 F5 (fun _ _ => .look) (OwnOK.none _) hLG (by kernel_rfl) (by kernel_rfl) (fun _ => rfl) ?_
  rintro ⟨p, ⟨c, v⟩⟩ _
  refine vcOf (True ∧ ((!fewB p (10 : Int)) = true → True ∧ (SV.sb true).same (SV.sb true)) ∧ ((!fewB p (10 : Int)) = false → (decide ((20 : Int) < (↑c.length : Int)) = true → True ∧ (SV.sb true).same (SV.sb true)) ∧ (decide ((20 : Int) < (↑c.length : Int)) = false → c.length ≤ (1000000000000 : Nat) ∧ c.length ≤ (1000000000000 : Nat) ∧ (decide (openE p c = openE p c) = true → (paysS p c).length ≤ (1000000000000 : Nat) ∧ (sameB (paysS p c) (paysS p c) = true → True ∧ (SV.sb true).same (SV.sb true)) ∧ (sameB (paysS p c) (paysS p c) = false → (SV.bl false).same (SV.sb true))) ∧ (decide (openE p c = openE p c) = false → (SV.bl false).same (SV.sb true))))) (by kernel_rfl) ?_
  simp only [decide_eq_true_eq, decide_eq_false_iff_not, same_il_si, same_si_si, same_si_il, same_il_il, same_sb_sb, same_bl_sb, same_row, same_tup2, same_tup3, same_nil, same_row_nil, same_rfl, osame_rfl, inR_i64, eq_self, true_and, and_true, Bool.and_eq_true, Bool.not_eq_true', Bool.not_eq_false']
  have e1 : sameB (paysS p c) (paysS p c) = true := by simp [sameB]
  have hl : (paysS p c).length ≤ 1000000000000 := by
    unfold paysS
    split
    · rename_i h
      have := (open_ok h).2.2.1
      rw [eachL_len]
      omega
    · simp
  refine ⟨fun _ => trivial, fun _ => ⟨fun _ => trivial, fun h => ⟨by omega, by omega, fun _ => ⟨hl, fun _ => trivial, fun h2 => ?_⟩, fun h2 => absurd trivial h2⟩⟩⟩
  rw [e1] at h2
  cases h2

end Go.Vi

/-
  Contracts: Vickrey payments.
  Conditions: none.
-/
import Derived.Test.YtigbjjkijfkeeaaTP07
import Derived.KernelRfl
set_option linter.unusedVariables false
set_option linter.unusedSimpArgs false
set_option maxRecDepth 100000
set_option maxHeartbeats 4000000
set_option linter.unusedSimpArgs false
set_option linter.unusedVariables false
namespace Go.Vi
open Go.Proofs.Ytigbjjkijfkeeaa.Ir
open Go.Proofs

def LD : List SCtr := r66 :: LC
theorem hLD : ∀ c ∈ LD, Holds Try.prog c := by
  simp only [LD, List.forall_mem_cons]
  exact ⟨h66, hLC⟩

def Λ62 (a : Deal × (Bool × Deal)) : Nat → LoopAnn
  | 3 => .inv Int (fun i => ⟨[(1, codF.put a.2), (5, .ow 1 (eachL a.2 i.toNat).length 1), (9, .si .i64 a.1.values.length), (10, .si .i64 i)], [.cells [.si .i64 a.1.p.supply.a0, .si .i64 a.1.p.supply.a1, .si .i64 a.1.p.supply.a2, .si .i64 a.1.p.supply.a3, .si .i64 a.1.p.supply.a4, .si .i64 a.1.p.supply.a5,
       .si .i64 a.1.p.opn.a0, .si .i64 a.1.p.opn.a1, .si .i64 a.1.p.opn.a2, .si .i64 a.1.p.opn.a3, .si .i64 a.1.p.opn.a4, .si .i64 a.1.p.opn.a5,
       .si .i64 a.1.p.cls.a0, .si .i64 a.1.p.cls.a1, .si .i64 a.1.p.cls.a2, .si .i64 a.1.p.cls.a3, .si .i64 a.1.p.cls.a4, .si .i64 a.1.p.cls.a5,
       .row (.i .i64) a.1.p.classes, .row .off a.1.p.offers, .row (.i .i64) a.1.values, .si .i64 a.1.all, .si .i64 a.1.worth] 86 23 false, .row (.i .i64) (eachL a.2 i.toNat) 2 true]⟩)
    (fun s => iS s 10) (fun i => 0 ≤ i ∧ i ≤ a.1.values.length) (fun i => (a.1.values.length - i).toNat) fun _ _ => .look
  | _ => .look

theorem eachL_len {a : Bool × Deal} {n : Nat} : (eachL a n).length = n := by simp [eachL]
theorem eachL_succ {a : Bool × Deal} {i : Int} (h : 0 ≤ i) : eachL a (i + 1).toNat = eachL a i.toNat ++ [eachF a i] := by
  unfold eachL
  rw [show (i + 1).toNat = i.toNat + 1 from by omega, List.range_succ, List.map_append]
  simp only [List.map_cons, List.map_nil, show ((i.toNat : Nat) : Int) = i from by omega]

theorem deal_n {d : Deal} (h : DealOk d) : d.values.length ≤ 8 := by
  rw [h.2.1]
  exact (good_of h.1).1

theorem h62 : Holds Try.prog r62 := by
  refine con (L := LD) r62 F62 Λ62 (OwnOK.none _) hLD (by kernel_rfl) (by kernel_rfl) (fun _ => rfl) ?_
  have hrow : ∀ {x y : List Int}, x = y → (SObj.row (.i .i64) x 2 true).same (SObj.row (.i .i64) y 2 true) := by rintro _ _ rfl; rfl
  have how : ∀ {x y : Nat}, x = y → (SV.ow 1 x 1).same (SV.ow 1 y 1) := by rintro _ _ rfl; rfl
  rintro ⟨d, k, e⟩ ⟨hd, hn⟩
  simp only at hd hn
  have h8 := deal_n hd
  cases k with
  | false =>
    refine vcOf (((((SV.fn (Fn.func 63) [SV.agg [SV.si .i64 e.p.supply.a0, SV.si .i64 e.p.supply.a1, SV.si .i64 e.p.supply.a2, SV.si .i64 e.p.supply.a3, SV.si .i64 e.p.supply.a4, SV.si .i64 e.p.supply.a5, SV.si .i64 e.p.opn.a0, SV.si .i64 e.p.opn.a1, SV.si .i64 e.p.opn.a2, SV.si .i64 e.p.opn.a3, SV.si .i64 e.p.opn.a4, SV.si .i64 e.p.opn.a5, SV.si .i64 e.p.cls.a0, SV.si .i64 e.p.cls.a1, SV.si .i64 e.p.cls.a2, SV.si .i64 e.p.cls.a3, SV.si .i64 e.p.cls.a4, SV.si .i64 e.p.cls.a5, SV.row (SId.i .i64) e.p.classes, SV.row SId.off e.p.offers, SV.row (SId.i .i64) e.values, SV.si .i64 e.all, SV.si .i64 e.worth]] []).same (SV.fn (Fn.func 63) [SV.agg [SV.si .i64 e.p.supply.a0, SV.si .i64 e.p.supply.a1, SV.si .i64 e.p.supply.a2, SV.si .i64 e.p.supply.a3, SV.si .i64 e.p.supply.a4, SV.si .i64 e.p.supply.a5, SV.si .i64 e.p.opn.a0, SV.si .i64 e.p.opn.a1, SV.si .i64 e.p.opn.a2, SV.si .i64 e.p.opn.a3, SV.si .i64 e.p.opn.a4, SV.si .i64 e.p.opn.a5, SV.si .i64 e.p.cls.a0, SV.si .i64 e.p.cls.a1, SV.si .i64 e.p.cls.a2, SV.si .i64 e.p.cls.a3, SV.si .i64 e.p.cls.a4, SV.si .i64 e.p.cls.a5, SV.row (SId.i .i64) e.p.classes, SV.row SId.off e.p.offers, SV.row (SId.i .i64) e.values, SV.si .i64 e.all, SV.si .i64 e.worth]] []) ∧ (SV.ow 1 0 1).same (SV.ow 1 (eachL (false, e) 0).length 1) ∧ (SV.si .i64 (↑d.values.length : Int)).same (SV.si .i64 (↑d.values.length : Int)) ∧ (SV.il .i64 0).same (SV.si .i64 0) ∧ True) ∧ (SObj.cells [SV.si .i64 d.p.supply.a0, SV.si .i64 d.p.supply.a1, SV.si .i64 d.p.supply.a2, SV.si .i64 d.p.supply.a3, SV.si .i64 d.p.supply.a4, SV.si .i64 d.p.supply.a5, SV.si .i64 d.p.opn.a0, SV.si .i64 d.p.opn.a1, SV.si .i64 d.p.opn.a2, SV.si .i64 d.p.opn.a3, SV.si .i64 d.p.opn.a4, SV.si .i64 d.p.opn.a5, SV.si .i64 d.p.cls.a0, SV.si .i64 d.p.cls.a1, SV.si .i64 d.p.cls.a2, SV.si .i64 d.p.cls.a3, SV.si .i64 d.p.cls.a4, SV.si .i64 d.p.cls.a5, SV.row (SId.i .i64) d.p.classes, SV.row SId.off d.p.offers, SV.row (SId.i .i64) d.values, SV.si .i64 d.all, SV.si .i64 d.worth] 86 23 false).same (SObj.cells [SV.si .i64 d.p.supply.a0, SV.si .i64 d.p.supply.a1, SV.si .i64 d.p.supply.a2, SV.si .i64 d.p.supply.a3, SV.si .i64 d.p.supply.a4, SV.si .i64 d.p.supply.a5, SV.si .i64 d.p.opn.a0, SV.si .i64 d.p.opn.a1, SV.si .i64 d.p.opn.a2, SV.si .i64 d.p.opn.a3, SV.si .i64 d.p.opn.a4, SV.si .i64 d.p.opn.a5, SV.si .i64 d.p.cls.a0, SV.si .i64 d.p.cls.a1, SV.si .i64 d.p.cls.a2, SV.si .i64 d.p.cls.a3, SV.si .i64 d.p.cls.a4, SV.si .i64 d.p.cls.a5, SV.row (SId.i .i64) d.p.classes, SV.row SId.off d.p.offers, SV.row (SId.i .i64) d.values, SV.si .i64 d.all, SV.si .i64 d.worth] 86 23 false) ∧ (SObj.row (SId.i .i64) [] 2 true).same (SObj.row (SId.i .i64) (eachL (false, e) 0) 2 true) ∧ True) ∧ (0 : Int) ≤ (0 : Int) ∧ (0 : Int) ≤ (↑d.values.length : Int)) ∧ ∀ (x : Int), (0 : Int) ≤ x ∧ x ≤ (↑d.values.length : Int) → (decide (x < (↑d.values.length : Int)) = true → (DealOk e ∧ (0 : Int) ≤ x ∧ x < (↑e.values.length : Int)) ∧ (eachL (false, e) x.toNat).length = (eachL (false, e) x.toNat).length ∧ ((eachL (false, e) x.toNat).length + 1) * 8 ≤ 140737488355328 ∧ (eachL (false, e) x.toNat).length + 1 ≤ 1000000000000 ∧ inR .i64 (x + (1 : Int)) ∧ (((SV.fn (Fn.func 63) [SV.agg [SV.si .i64 e.p.supply.a0, SV.si .i64 e.p.supply.a1, SV.si .i64 e.p.supply.a2, SV.si .i64 e.p.supply.a3, SV.si .i64 e.p.supply.a4, SV.si .i64 e.p.supply.a5, SV.si .i64 e.p.opn.a0, SV.si .i64 e.p.opn.a1, SV.si .i64 e.p.opn.a2, SV.si .i64 e.p.opn.a3, SV.si .i64 e.p.opn.a4, SV.si .i64 e.p.opn.a5, SV.si .i64 e.p.cls.a0, SV.si .i64 e.p.cls.a1, SV.si .i64 e.p.cls.a2, SV.si .i64 e.p.cls.a3, SV.si .i64 e.p.cls.a4, SV.si .i64 e.p.cls.a5, SV.row (SId.i .i64) e.p.classes, SV.row SId.off e.p.offers, SV.row (SId.i .i64) e.values, SV.si .i64 e.all, SV.si .i64 e.worth]] []).same (SV.fn (Fn.func 63) [SV.agg [SV.si .i64 e.p.supply.a0, SV.si .i64 e.p.supply.a1, SV.si .i64 e.p.supply.a2, SV.si .i64 e.p.supply.a3, SV.si .i64 e.p.supply.a4, SV.si .i64 e.p.supply.a5, SV.si .i64 e.p.opn.a0, SV.si .i64 e.p.opn.a1, SV.si .i64 e.p.opn.a2, SV.si .i64 e.p.opn.a3, SV.si .i64 e.p.opn.a4, SV.si .i64 e.p.opn.a5, SV.si .i64 e.p.cls.a0, SV.si .i64 e.p.cls.a1, SV.si .i64 e.p.cls.a2, SV.si .i64 e.p.cls.a3, SV.si .i64 e.p.cls.a4, SV.si .i64 e.p.cls.a5, SV.row (SId.i .i64) e.p.classes, SV.row SId.off e.p.offers, SV.row (SId.i .i64) e.values, SV.si .i64 e.all, SV.si .i64 e.worth]] []) ∧ (SV.ow 1 (eachL (false, e) x.toNat ++ [payS e x]).length 1).same (SV.ow 1 (eachL (false, e) (x + (1 : Int)).toNat).length 1) ∧ (SV.si .i64 (↑d.values.length : Int)).same (SV.si .i64 (↑d.values.length : Int)) ∧ (SV.si .i64 (x + (1 : Int))).same (SV.si .i64 (x + (1 : Int))) ∧ True) ∧ (SObj.cells [SV.si .i64 d.p.supply.a0, SV.si .i64 d.p.supply.a1, SV.si .i64 d.p.supply.a2, SV.si .i64 d.p.supply.a3, SV.si .i64 d.p.supply.a4, SV.si .i64 d.p.supply.a5, SV.si .i64 d.p.opn.a0, SV.si .i64 d.p.opn.a1, SV.si .i64 d.p.opn.a2, SV.si .i64 d.p.opn.a3, SV.si .i64 d.p.opn.a4, SV.si .i64 d.p.opn.a5, SV.si .i64 d.p.cls.a0, SV.si .i64 d.p.cls.a1, SV.si .i64 d.p.cls.a2, SV.si .i64 d.p.cls.a3, SV.si .i64 d.p.cls.a4, SV.si .i64 d.p.cls.a5, SV.row (SId.i .i64) d.p.classes, SV.row SId.off d.p.offers, SV.row (SId.i .i64) d.values, SV.si .i64 d.all, SV.si .i64 d.worth] 86 23 false).same (SObj.cells [SV.si .i64 d.p.supply.a0, SV.si .i64 d.p.supply.a1, SV.si .i64 d.p.supply.a2, SV.si .i64 d.p.supply.a3, SV.si .i64 d.p.supply.a4, SV.si .i64 d.p.supply.a5, SV.si .i64 d.p.opn.a0, SV.si .i64 d.p.opn.a1, SV.si .i64 d.p.opn.a2, SV.si .i64 d.p.opn.a3, SV.si .i64 d.p.opn.a4, SV.si .i64 d.p.opn.a5, SV.si .i64 d.p.cls.a0, SV.si .i64 d.p.cls.a1, SV.si .i64 d.p.cls.a2, SV.si .i64 d.p.cls.a3, SV.si .i64 d.p.cls.a4, SV.si .i64 d.p.cls.a5, SV.row (SId.i .i64) d.p.classes, SV.row SId.off d.p.offers, SV.row (SId.i .i64) d.values, SV.si .i64 d.all, SV.si .i64 d.worth] 86 23 false) ∧ (SObj.row (SId.i .i64) (eachL (false, e) x.toNat ++ [payS e x]) 2 true).same (SObj.row (SId.i .i64) (eachL (false, e) (x + (1 : Int)).toNat) 2 true) ∧ True) ∧ ((0 : Int) ≤ x + (1 : Int) ∧ x + (1 : Int) ≤ (↑d.values.length : Int)) ∧ ((↑d.values.length : Int) - (x + (1 : Int))).toNat < ((↑d.values.length : Int) - x).toNat) ∧ (decide (x < (↑d.values.length : Int)) = false → (eachL (false, e) x.toNat).length = (eachL (false, e) x.toNat).length ∧ (SV.row (SId.i .i64) (eachL (false, e) x.toNat)).same (SV.row (SId.i .i64) (eachL (false, e) d.values.length)))) (by kernel_rfl) ?_
    simp only [decide_eq_true_eq, decide_eq_false_iff_not, same_il_si, same_si_si, same_si_il, same_il_il, same_sb_sb, same_bl_sb, same_row, same_tup2, same_tup3, same_nil, same_row_nil, same_rfl, osame_rfl, inR_i64, eq_self, true_and, and_true, Bool.and_eq_true, Bool.not_eq_true', Bool.not_eq_false']
    refine ⟨⟨⟨how rfl, hrow rfl⟩, by omega, by omega⟩, ?_⟩
    rintro i ⟨hi0, hi1⟩
    have hL := @eachL_len (false, e) i.toNat
    refine ⟨fun hlt => ⟨⟨hd, hi0, by omega⟩, by omega, by omega, by omega, ⟨how (by rw [eachL_succ hi0]; rfl), hrow (eachL_succ hi0).symm⟩, by omega, by omega⟩, fun hge => ?_⟩
    rw [show i.toNat = d.values.length from by omega]
  | true =>
    refine vcOf (((((SV.fn (Fn.func 66) [SV.agg [SV.si .i64 e.p.supply.a0, SV.si .i64 e.p.supply.a1, SV.si .i64 e.p.supply.a2, SV.si .i64 e.p.supply.a3, SV.si .i64 e.p.supply.a4, SV.si .i64 e.p.supply.a5, SV.si .i64 e.p.opn.a0, SV.si .i64 e.p.opn.a1, SV.si .i64 e.p.opn.a2, SV.si .i64 e.p.opn.a3, SV.si .i64 e.p.opn.a4, SV.si .i64 e.p.opn.a5, SV.si .i64 e.p.cls.a0, SV.si .i64 e.p.cls.a1, SV.si .i64 e.p.cls.a2, SV.si .i64 e.p.cls.a3, SV.si .i64 e.p.cls.a4, SV.si .i64 e.p.cls.a5, SV.row (SId.i .i64) e.p.classes, SV.row SId.off e.p.offers, SV.row (SId.i .i64) e.values, SV.si .i64 e.all, SV.si .i64 e.worth]] []).same (SV.fn (Fn.func 66) [SV.agg [SV.si .i64 e.p.supply.a0, SV.si .i64 e.p.supply.a1, SV.si .i64 e.p.supply.a2, SV.si .i64 e.p.supply.a3, SV.si .i64 e.p.supply.a4, SV.si .i64 e.p.supply.a5, SV.si .i64 e.p.opn.a0, SV.si .i64 e.p.opn.a1, SV.si .i64 e.p.opn.a2, SV.si .i64 e.p.opn.a3, SV.si .i64 e.p.opn.a4, SV.si .i64 e.p.opn.a5, SV.si .i64 e.p.cls.a0, SV.si .i64 e.p.cls.a1, SV.si .i64 e.p.cls.a2, SV.si .i64 e.p.cls.a3, SV.si .i64 e.p.cls.a4, SV.si .i64 e.p.cls.a5, SV.row (SId.i .i64) e.p.classes, SV.row SId.off e.p.offers, SV.row (SId.i .i64) e.values, SV.si .i64 e.all, SV.si .i64 e.worth]] []) ∧ (SV.ow 1 0 1).same (SV.ow 1 (eachL (true, e) 0).length 1) ∧ (SV.si .i64 (↑d.values.length : Int)).same (SV.si .i64 (↑d.values.length : Int)) ∧ (SV.il .i64 0).same (SV.si .i64 0) ∧ True) ∧ (SObj.cells [SV.si .i64 d.p.supply.a0, SV.si .i64 d.p.supply.a1, SV.si .i64 d.p.supply.a2, SV.si .i64 d.p.supply.a3, SV.si .i64 d.p.supply.a4, SV.si .i64 d.p.supply.a5, SV.si .i64 d.p.opn.a0, SV.si .i64 d.p.opn.a1, SV.si .i64 d.p.opn.a2, SV.si .i64 d.p.opn.a3, SV.si .i64 d.p.opn.a4, SV.si .i64 d.p.opn.a5, SV.si .i64 d.p.cls.a0, SV.si .i64 d.p.cls.a1, SV.si .i64 d.p.cls.a2, SV.si .i64 d.p.cls.a3, SV.si .i64 d.p.cls.a4, SV.si .i64 d.p.cls.a5, SV.row (SId.i .i64) d.p.classes, SV.row SId.off d.p.offers, SV.row (SId.i .i64) d.values, SV.si .i64 d.all, SV.si .i64 d.worth] 86 23 false).same (SObj.cells [SV.si .i64 d.p.supply.a0, SV.si .i64 d.p.supply.a1, SV.si .i64 d.p.supply.a2, SV.si .i64 d.p.supply.a3, SV.si .i64 d.p.supply.a4, SV.si .i64 d.p.supply.a5, SV.si .i64 d.p.opn.a0, SV.si .i64 d.p.opn.a1, SV.si .i64 d.p.opn.a2, SV.si .i64 d.p.opn.a3, SV.si .i64 d.p.opn.a4, SV.si .i64 d.p.opn.a5, SV.si .i64 d.p.cls.a0, SV.si .i64 d.p.cls.a1, SV.si .i64 d.p.cls.a2, SV.si .i64 d.p.cls.a3, SV.si .i64 d.p.cls.a4, SV.si .i64 d.p.cls.a5, SV.row (SId.i .i64) d.p.classes, SV.row SId.off d.p.offers, SV.row (SId.i .i64) d.values, SV.si .i64 d.all, SV.si .i64 d.worth] 86 23 false) ∧ (SObj.row (SId.i .i64) [] 2 true).same (SObj.row (SId.i .i64) (eachL (true, e) 0) 2 true) ∧ True) ∧ (0 : Int) ≤ (0 : Int) ∧ (0 : Int) ≤ (↑d.values.length : Int)) ∧ ∀ (x : Int), (0 : Int) ≤ x ∧ x ≤ (↑d.values.length : Int) → (decide (x < (↑d.values.length : Int)) = true → (DealOk e ∧ (0 : Int) ≤ x ∧ x < (↑e.values.length : Int)) ∧ (eachL (true, e) x.toNat).length = (eachL (true, e) x.toNat).length ∧ ((eachL (true, e) x.toNat).length + 1) * 8 ≤ 140737488355328 ∧ (eachL (true, e) x.toNat).length + 1 ≤ 1000000000000 ∧ inR .i64 (x + (1 : Int)) ∧ (((SV.fn (Fn.func 66) [SV.agg [SV.si .i64 e.p.supply.a0, SV.si .i64 e.p.supply.a1, SV.si .i64 e.p.supply.a2, SV.si .i64 e.p.supply.a3, SV.si .i64 e.p.supply.a4, SV.si .i64 e.p.supply.a5, SV.si .i64 e.p.opn.a0, SV.si .i64 e.p.opn.a1, SV.si .i64 e.p.opn.a2, SV.si .i64 e.p.opn.a3, SV.si .i64 e.p.opn.a4, SV.si .i64 e.p.opn.a5, SV.si .i64 e.p.cls.a0, SV.si .i64 e.p.cls.a1, SV.si .i64 e.p.cls.a2, SV.si .i64 e.p.cls.a3, SV.si .i64 e.p.cls.a4, SV.si .i64 e.p.cls.a5, SV.row (SId.i .i64) e.p.classes, SV.row SId.off e.p.offers, SV.row (SId.i .i64) e.values, SV.si .i64 e.all, SV.si .i64 e.worth]] []).same (SV.fn (Fn.func 66) [SV.agg [SV.si .i64 e.p.supply.a0, SV.si .i64 e.p.supply.a1, SV.si .i64 e.p.supply.a2, SV.si .i64 e.p.supply.a3, SV.si .i64 e.p.supply.a4, SV.si .i64 e.p.supply.a5, SV.si .i64 e.p.opn.a0, SV.si .i64 e.p.opn.a1, SV.si .i64 e.p.opn.a2, SV.si .i64 e.p.opn.a3, SV.si .i64 e.p.opn.a4, SV.si .i64 e.p.opn.a5, SV.si .i64 e.p.cls.a0, SV.si .i64 e.p.cls.a1, SV.si .i64 e.p.cls.a2, SV.si .i64 e.p.cls.a3, SV.si .i64 e.p.cls.a4, SV.si .i64 e.p.cls.a5, SV.row (SId.i .i64) e.p.classes, SV.row SId.off e.p.offers, SV.row (SId.i .i64) e.values, SV.si .i64 e.all, SV.si .i64 e.worth]] []) ∧ (SV.ow 1 (eachL (true, e) x.toNat ++ [discS e x]).length 1).same (SV.ow 1 (eachL (true, e) (x + (1 : Int)).toNat).length 1) ∧ (SV.si .i64 (↑d.values.length : Int)).same (SV.si .i64 (↑d.values.length : Int)) ∧ (SV.si .i64 (x + (1 : Int))).same (SV.si .i64 (x + (1 : Int))) ∧ True) ∧ (SObj.cells [SV.si .i64 d.p.supply.a0, SV.si .i64 d.p.supply.a1, SV.si .i64 d.p.supply.a2, SV.si .i64 d.p.supply.a3, SV.si .i64 d.p.supply.a4, SV.si .i64 d.p.supply.a5, SV.si .i64 d.p.opn.a0, SV.si .i64 d.p.opn.a1, SV.si .i64 d.p.opn.a2, SV.si .i64 d.p.opn.a3, SV.si .i64 d.p.opn.a4, SV.si .i64 d.p.opn.a5, SV.si .i64 d.p.cls.a0, SV.si .i64 d.p.cls.a1, SV.si .i64 d.p.cls.a2, SV.si .i64 d.p.cls.a3, SV.si .i64 d.p.cls.a4, SV.si .i64 d.p.cls.a5, SV.row (SId.i .i64) d.p.classes, SV.row SId.off d.p.offers, SV.row (SId.i .i64) d.values, SV.si .i64 d.all, SV.si .i64 d.worth] 86 23 false).same (SObj.cells [SV.si .i64 d.p.supply.a0, SV.si .i64 d.p.supply.a1, SV.si .i64 d.p.supply.a2, SV.si .i64 d.p.supply.a3, SV.si .i64 d.p.supply.a4, SV.si .i64 d.p.supply.a5, SV.si .i64 d.p.opn.a0, SV.si .i64 d.p.opn.a1, SV.si .i64 d.p.opn.a2, SV.si .i64 d.p.opn.a3, SV.si .i64 d.p.opn.a4, SV.si .i64 d.p.opn.a5, SV.si .i64 d.p.cls.a0, SV.si .i64 d.p.cls.a1, SV.si .i64 d.p.cls.a2, SV.si .i64 d.p.cls.a3, SV.si .i64 d.p.cls.a4, SV.si .i64 d.p.cls.a5, SV.row (SId.i .i64) d.p.classes, SV.row SId.off d.p.offers, SV.row (SId.i .i64) d.values, SV.si .i64 d.all, SV.si .i64 d.worth] 86 23 false) ∧ (SObj.row (SId.i .i64) (eachL (true, e) x.toNat ++ [discS e x]) 2 true).same (SObj.row (SId.i .i64) (eachL (true, e) (x + (1 : Int)).toNat) 2 true) ∧ True) ∧ ((0 : Int) ≤ x + (1 : Int) ∧ x + (1 : Int) ≤ (↑d.values.length : Int)) ∧ ((↑d.values.length : Int) - (x + (1 : Int))).toNat < ((↑d.values.length : Int) - x).toNat) ∧ (decide (x < (↑d.values.length : Int)) = false → (eachL (true, e) x.toNat).length = (eachL (true, e) x.toNat).length ∧ (SV.row (SId.i .i64) (eachL (true, e) x.toNat)).same (SV.row (SId.i .i64) (eachL (true, e) d.values.length)))) (by kernel_rfl) ?_
    simp only [decide_eq_true_eq, decide_eq_false_iff_not, same_il_si, same_si_si, same_si_il, same_il_il, same_sb_sb, same_bl_sb, same_row, same_tup2, same_tup3, same_nil, same_row_nil, same_rfl, osame_rfl, inR_i64, eq_self, true_and, and_true, Bool.and_eq_true, Bool.not_eq_true', Bool.not_eq_false']
    refine ⟨⟨⟨how rfl, hrow rfl⟩, by omega, by omega⟩, ?_⟩
    rintro i ⟨hi0, hi1⟩
    have hL := @eachL_len (true, e) i.toNat
    refine ⟨fun hlt => ⟨⟨hd, hi0, by omega⟩, by omega, by omega, by omega, ⟨how (by rw [eachL_succ hi0]; rfl), hrow (eachL_succ hi0).symm⟩, by omega, by omega⟩, fun hge => ?_⟩
    rw [show i.toNat = d.values.length from by omega]

theorem setV_bd {p : Prob} (hg : Good p) : ∀ {c : List Int} {v : List Int}, (∀ i ∈ c, 0 ≤ i ∧ i < p.offers.length) → (∀ x ∈ v, 0 ≤ x ∧ x ≤ 1000000) → ∀ x ∈ c.foldl (setV p) v, 0 ≤ x ∧ x ≤ 1000000
  | [], v, _, hv => hv
  | i :: c, v, hc, hv => by
    simp only [List.foldl_cons]
    refine setV_bd hg (fun j hj => hc j (by simp [hj])) ?_
    intro x hx
    unfold setV at hx
    rcases List.mem_or_eq_of_mem_set hx with h | h
    · exact hv x h
    · have hi := hc i (by simp)
      have := hg.2.2.2.2 _ (nthD_mem (d := SId.off.dflt) (show i.toNat < p.offers.length by omega))
      rw [h]
      omega

theorem open_ok {p : Prob} {c : List Int} (h : openE p c = 0) : DealOk (openD p c) ∧ openD p c = ⟨p, valsS p c, allM p, sumC p c⟩ ∧ Good p := by
  have hz : feasE p c = 0 := by
    unfold openE at h
    split at h
    · rename_i h1; exact absurd h h1
    · rename_i h1; exact Classical.not_not.1 h1
  have hck : checkE p = 0 := by
    unfold feasE at hz
    split at hz
    · rename_i h1; exact absurd hz h1
    · rename_i h1; exact Classical.not_not.1 h1
  have hpk : pickOk p c = true := by
    unfold feasE at hz
    rw [if_neg (by simp [hck])] at hz
    split at hz
    · cases hz
    · rename_i h1; simpa using h1
  have hg := good_of hck
  obtain ⟨r, hr⟩ := Option.isSome_iff_exists.1 hpk
  obtain ⟨hr1, hidx⟩ := pick_idx (by omega) hr
  have hcl : c.length ≤ 160 := by
    have h1 := pick_len (by omega) hr
    have h2 := hg.2.1
    rcases h1 with h1 | rfl
    · omega
    · simp at hr1; omega
  have hd : openD p c = ⟨p, valsS p c, allM p, sumC p c⟩ := by simp [openD, h]
  have hs := sum_bd2 hg (c := c) (s := 0) hidx (by omega)
  change 0 ≤ sumC p c ∧ sumC p c ≤ _ at hs
  refine ⟨?_, hd, hg⟩
  rw [hd]
  exact ⟨hck, valsS_len, rfl, setV_bd hg hidx (fun x hx => by have := List.eq_of_mem_replicate hx; omega), by simp only; omega, by simp only; omega⟩

def LE : List SCtr := r62 :: LD
theorem hLE : ∀ c ∈ LE, Holds Try.prog c := by
  simp only [LE, List.forall_mem_cons]
  exact ⟨h62, hLD⟩

def paysS (p : Prob) (c : List Int) : List Int := if openE p c = 0 then eachL (false, openD p c) p.classes.length else []
def discsS (p : Prob) (c : List Int) : List Int := if openE p c = 0 then eachL (true, openD p c) p.classes.length else []

def r17 : SCtr := ⟨17, Prob × Alloc, .cons codP (.one codA), fun a => a.2.chosen.length ≤ 1000000000000, fun a => .tup [.row (.i .i64) (paysS a.1 a.2.chosen), .si .i64 (openE a.1 a.2.chosen)]⟩
theorem h17 : Holds Try.prog r17 := by
  refine con (L := LE) r17 F17 (fun _ _ => .look) (OwnOK.none _) hLE (by kernel_rfl) (by kernel_rfl) (fun _ => rfl) ?_
  rintro ⟨p, ⟨c, v⟩⟩ (hc : c.length ≤ 1000000000000)
  refine vcOf (c.length ≤ 1000000000000 ∧ (decide (openE p c ≠ (0 : Int)) = true → (SV.tup [SV.row (SId.i .i64) [], SV.si .i64 (openE p c)]).same (SV.tup [SV.row (SId.i .i64) (paysS p c), SV.si .i64 (openE p c)])) ∧ (decide (openE p c ≠ (0 : Int)) = false → (DealOk (openD p c) ∧ (openD p c).values.length = (openD p c).values.length) ∧ (SV.tup [SV.row (SId.i .i64) (eachL (false, openD p c) (openD p c).values.length), SV.il .i64 0]).same (SV.tup [SV.row (SId.i .i64) (paysS p c), SV.si .i64 (openE p c)]))) (by kernel_rfl) ?_
  simp only [decide_eq_true_eq, decide_eq_false_iff_not, same_il_si, same_si_si, same_si_il, same_il_il, same_sb_sb, same_bl_sb, same_row, same_tup2, same_tup3, same_nil, same_row_nil, same_rfl, osame_rfl, inR_i64, eq_self, true_and, and_true, Bool.and_eq_true, Bool.not_eq_true', Bool.not_eq_false']
  refine ⟨hc, fun h => by simp [paysS, h], fun h => ?_⟩
  have hz : openE p c = 0 := Classical.not_not.1 h
  obtain ⟨h1, h2, h3⟩ := open_ok hz
  refine ⟨h1, ?_, hz.symm⟩
  rw [h1.2.1, h2]
  simp [paysS, hz, h2]

def r19 : SCtr := ⟨19, Prob × Alloc, .cons codP (.one codA), fun a => a.2.chosen.length ≤ 1000000000000, fun a => .tup [.row (.i .i64) (discsS a.1 a.2.chosen), .si .i64 (openE a.1 a.2.chosen)]⟩
theorem h19 : Holds Try.prog r19 := by
  refine con (L := LE) r19 F19 (fun _ _ => .look) (OwnOK.none _) hLE (by kernel_rfl) (by kernel_rfl) (fun _ => rfl) ?_
  rintro ⟨p, ⟨c, v⟩⟩ (hc : c.length ≤ 1000000000000)
  refine vcOf (c.length ≤ 1000000000000 ∧ (decide (openE p c ≠ (0 : Int)) = true → (SV.tup [SV.row (SId.i .i64) [], SV.si .i64 (openE p c)]).same (SV.tup [SV.row (SId.i .i64) (discsS p c), SV.si .i64 (openE p c)])) ∧ (decide (openE p c ≠ (0 : Int)) = false → (DealOk (openD p c) ∧ (openD p c).values.length = (openD p c).values.length) ∧ (SV.tup [SV.row (SId.i .i64) (eachL (true, openD p c) (openD p c).values.length), SV.il .i64 0]).same (SV.tup [SV.row (SId.i .i64) (discsS p c), SV.si .i64 (openE p c)]))) (by kernel_rfl) ?_
  simp only [decide_eq_true_eq, decide_eq_false_iff_not, same_il_si, same_si_si, same_si_il, same_il_il, same_sb_sb, same_bl_sb, same_row, same_tup2, same_tup3, same_nil, same_row_nil, same_rfl, osame_rfl, inR_i64, eq_self, true_and, and_true, Bool.and_eq_true, Bool.not_eq_true', Bool.not_eq_false']
  refine ⟨hc, fun h => by simp [discsS, h], fun h => ?_⟩
  have hz : openE p c = 0 := Classical.not_not.1 h
  obtain ⟨h1, h2, h3⟩ := open_ok hz
  refine ⟨h1, ?_, hz.symm⟩
  rw [h1.2.1, h2]
  simp [discsS, hz, h2]

def extE (p : Prob) (c : List Int) (b : Int) : Int := if openE p c ≠ 0 then openE p c else if b < 0 ∨ p.classes.length ≤ b then 6 else 0
def extS (p : Prob) (c : List Int) (b : Int) : Int := if extE p c b = 0 then payS (openD p c) b else 0

def r21 : SCtr := ⟨21, Prob × Alloc × Int, .cons codP (.cons codA (.one (codI .i64))), fun a => a.2.1.chosen.length ≤ 1000000000000, fun a => .tup [.si .i64 (extS a.1 a.2.1.chosen a.2.2), .si .i64 (extE a.1 a.2.1.chosen a.2.2)]⟩
theorem h21 : Holds Try.prog r21 := by
  refine con (L := LE) r21 F21 (fun _ _ => .look) (OwnOK.none _) hLE (by kernel_rfl) (by kernel_rfl) (fun _ => rfl) ?_
  rintro ⟨p, ⟨c, v⟩, b⟩ (hc : c.length ≤ 1000000000000)
  refine vcOf (c.length ≤ 1000000000000 ∧ (decide (openE p c ≠ (0 : Int)) = true → (SV.tup [SV.il .i64 0, SV.si .i64 (openE p c)]).same (SV.tup [SV.si .i64 (extS p c b), SV.si .i64 (extE p c b)])) ∧ (decide (openE p c ≠ (0 : Int)) = false → (decide (b < (0 : Int)) = true → (SV.tup [SV.il .i64 0, SV.il .i64 6]).same (SV.tup [SV.si .i64 (extS p c b), SV.si .i64 (extE p c b)])) ∧ (decide (b < (0 : Int)) = false → (decide ((↑(openD p c).values.length : Int) ≤ b) = true → (SV.tup [SV.il .i64 0, SV.il .i64 6]).same (SV.tup [SV.si .i64 (extS p c b), SV.si .i64 (extE p c b)])) ∧ (decide ((↑(openD p c).values.length : Int) ≤ b) = false → (DealOk (openD p c) ∧ (0 : Int) ≤ b ∧ b < (↑(openD p c).values.length : Int)) ∧ (SV.tup [SV.si .i64 (payS (openD p c) b), SV.il .i64 0]).same (SV.tup [SV.si .i64 (extS p c b), SV.si .i64 (extE p c b)]))))) (by kernel_rfl) ?_
  simp only [decide_eq_true_eq, decide_eq_false_iff_not, same_il_si, same_si_si, same_si_il, same_il_il, same_sb_sb, same_bl_sb, same_row, same_tup2, same_tup3, same_nil, same_row_nil, same_rfl, osame_rfl, inR_i64, eq_self, true_and, and_true, Bool.and_eq_true, Bool.not_eq_true', Bool.not_eq_false']
  refine ⟨hc, fun h => by simp [extS, extE, h], fun h => ?_⟩
  have hz : openE p c = 0 := Classical.not_not.1 h
  obtain ⟨h1, h2, h3⟩ := open_ok hz
  have hl : (openD p c).values.length = p.classes.length := by rw [h1.2.1, h2]
  rw [hl]
  refine ⟨fun hb => ?_, fun hb => ⟨fun hb2 => ?_, fun hb2 => ⟨⟨h1, by omega, by omega⟩, ?_⟩⟩⟩
  · have : extE p c b = 6 := by simp [extE, hz, hb]
    exact ⟨by simp [extS, this], this.symm⟩
  · have : extE p c b = 6 := by simp [extE, hz, hb2]
    exact ⟨by simp [extS, this], this.symm⟩
  · have : extE p c b = 0 := by simp only [extE, hz, ne_eq, not_true, if_false, if_neg (show ¬ (b < 0 ∨ (p.classes.length : Int) ≤ b) by omega)]
    exact ⟨by simp [extS, this], this.symm⟩

def sameB (a b : List Int) : Bool := decide (a = b)
/-- Equal lists of amounts. -/
def r23 : SCtr := ⟨23, List Int × List Int, .cons (codR (.i .i64)) (.one (codR (.i .i64))), fun a => a.1.length ≤ 1000000000000, fun a => .sb (sameB a.1 a.2)⟩
def Λ23 (a : List Int × List Int) : Nat → LoopAnn
  | 4 => .inv Int (fun i => ⟨[(0, .row (.i .i64) a.1), (1, .row (.i .i64) a.2), (5, .si .i64 i)], []⟩) (fun s => iS s 5) (fun i => 0 ≤ i ∧ i ≤ a.1.length ∧ ∀ k : Nat, k < i → nthD a.1 k 0 = nthD a.2 k 0) (fun i => (a.1.length - i).toNat) fun _ _ => .look
  | _ => .look

theorem h23 : Holds Try.prog r23 := by
  refine con (L := LE) r23 F23 Λ23 (OwnOK.none _) hLE (by kernel_rfl) (by kernel_rfl) (fun _ => rfl) ?_
  rintro ⟨a, b⟩ (h : a.length ≤ 1000000000000)
  refine vcOf ((decide ((↑a.length : Int) ≠ (↑b.length : Int)) = true → (SV.bl false).same (SV.sb (sameB a b))) ∧ (decide ((↑a.length : Int) ≠ (↑b.length : Int)) = false → ((((SV.row (SId.i .i64) a).same (SV.row (SId.i .i64) a) ∧ (SV.row (SId.i .i64) b).same (SV.row (SId.i .i64) b) ∧ (SV.il .i64 0).same (SV.si .i64 0) ∧ True) ∧ True) ∧ (0 : Int) ≤ (0 : Int) ∧ (0 : Int) ≤ (↑a.length : Int) ∧ ∀ (k : Nat), (↑k : Int) < (0 : Int) → nthD a k (0 : Int) = nthD b k (0 : Int)) ∧ ∀ (x : Int), ((0 : Int) ≤ x ∧ x ≤ (↑a.length : Int) ∧ ∀ (k : Nat), (↑k : Int) < x → nthD a k (0 : Int) = nthD b k (0 : Int)) → (decide (x < (↑a.length : Int)) = true → (0 : Int) ≤ x ∧ x < (↑a.length : Int) ∧ x.toNat < a.length ∧ (0 : Int) ≤ x ∧ x < (↑b.length : Int) ∧ x.toNat < b.length ∧ (decide (nthD a x.toNat (0 : Int) ≠ nthD b x.toNat (0 : Int)) = true → (SV.bl false).same (SV.sb (sameB a b))) ∧ (decide (nthD a x.toNat (0 : Int) ≠ nthD b x.toNat (0 : Int)) = false → inR .i64 (x + (1 : Int)) ∧ (((SV.row (SId.i .i64) a).same (SV.row (SId.i .i64) a) ∧ (SV.row (SId.i .i64) b).same (SV.row (SId.i .i64) b) ∧ (SV.si .i64 (x + (1 : Int))).same (SV.si .i64 (x + (1 : Int))) ∧ True) ∧ True) ∧ ((0 : Int) ≤ x + (1 : Int) ∧ x + (1 : Int) ≤ (↑a.length : Int) ∧ ∀ (k : Nat), (↑k : Int) < x + (1 : Int) → nthD a k (0 : Int) = nthD b k (0 : Int)) ∧ ((↑a.length : Int) - (x + (1 : Int))).toNat < ((↑a.length : Int) - x).toNat)) ∧ (decide (x < (↑a.length : Int)) = false → (SV.bl true).same (SV.sb (sameB a b))))) (by kernel_rfl) ?_
  simp only [decide_eq_true_eq, decide_eq_false_iff_not, same_il_si, same_si_si, same_si_il, same_il_il, same_sb_sb, same_bl_sb, same_row, same_tup2, same_tup3, same_nil, same_row_nil, same_rfl, osame_rfl, inR_i64, eq_self, true_and, and_true, Bool.and_eq_true, Bool.not_eq_true', Bool.not_eq_false']
  refine ⟨fun h1 => ?_, fun h1 => ⟨⟨by omega, by omega, fun k hk => by omega⟩, ?_⟩⟩
  · have : a ≠ b := fun e => h1 (by rw [e])
    simp [sameB, this]
  rintro i ⟨hi0, hi1, hi⟩
  have hl : a.length = b.length := by omega
  refine ⟨fun hlt => ⟨hi0, hlt, by omega, hi0, by omega, by omega, fun hne => ?_, fun heq => ⟨by omega, ⟨by omega, by omega, ?_⟩, by omega⟩⟩, fun hge => ?_⟩
  · have : a ≠ b := fun e => hne (by rw [e])
    simp [sameB, this]
  · intro k hk
    by_cases hk2 : (k : Int) < i
    · exact hi k hk2
    · rw [show k = i.toNat from by omega]
      exact Classical.not_not.1 heq
  · have : a = b := List.ext_getElem hl fun k h1 h2 => by
      have := hi k (by omega)
      rwa [nthD_eq h1, nthD_eq h2] at this
    simp [sameB, this]

end Go.Vi
/-
  Contracts: the examples of the chapter.
  Conditions: none.
-/
set_option maxRecDepth 100000
set_option maxHeartbeats 4000000
set_option linter.unusedSimpArgs false
set_option linter.unusedVariables false
namespace Go.Vi
open Go.Proofs.Ytigbjjkijfkeeaa.Ir
open Go.Proofs

def fewB (p : Prob) (n : Int) : Bool := decide ((p.offers.length : Int) ≤ n) && decide ((p.classes.length : Int) ≤ 8)

def r59 : SCtr := ⟨59, Prob × Int, .cons codP (.one (codI .i64)), fun _ => True, fun a => .sb (fewB a.1 a.2)⟩
theorem h59 : Holds Try.prog r59 := by
  refine con (L := []) r59 F59 (fun _ _ => .look) (OwnOK.none _) (by simp) (by kernel_rfl) (by kernel_rfl) (fun _ => rfl) ?_
  rintro ⟨p, n⟩ _
  refine vcOf ((decide ((↑p.offers.length : Int) ≤ n) = true → (SV.sb (decide ((↑p.classes.length : Int) ≤ (8 : Int)))).same (SV.sb (fewB p n))) ∧ (decide ((↑p.offers.length : Int) ≤ n) = false → (SV.bl false).same (SV.sb (fewB p n)))) (by kernel_rfl) ?_
  simp only [decide_eq_true_eq, decide_eq_false_iff_not, same_il_si, same_si_si, same_si_il, same_il_il, same_sb_sb, same_bl_sb, same_row, same_tup2, same_tup3, same_nil, same_row_nil, same_rfl, osame_rfl, inR_i64, eq_self, true_and, and_true, Bool.and_eq_true, Bool.not_eq_true', Bool.not_eq_false', fewB]
  by_cases h1 : (p.offers.length : Int) ≤ n <;> simp [h1]

def r15 : SCtr := ⟨15, Prob, .one codP, fun _ => True, fun a => .sb (fewB a 10)⟩
theorem h15 : Holds Try.prog r15 := by
  refine con (L := [r59]) r15 F15 (fun _ _ => .look) (OwnOK.none _) (by simpa using h59) (by kernel_rfl) (by kernel_rfl) (fun _ => rfl) ?_
  intro (p : Prob) _
  refine vcOf (True ∧ (SV.sb (fewB p (10 : Int))).same (SV.sb (fewB p (10 : Int)))) (by kernel_rfl) ?_
  simp only [decide_eq_true_eq, decide_eq_false_iff_not, same_il_si, same_si_si, same_si_il, same_il_il, same_sb_sb, same_bl_sb, same_row, same_tup2, same_tup3, same_nil, same_row_nil, same_rfl, osame_rfl, inR_i64, eq_self, true_and, and_true, Bool.and_eq_true, Bool.not_eq_true', Bool.not_eq_false']

def three : Prob := ⟨⟨1, 1, 0, 0, 0, 0⟩, ⟨1, 1, 0, 0, 0, 0⟩, Bun.zero, [0, 0, 0], [⟨0, ⟨1, 1, 0, 0, 0, 0⟩, 10⟩, ⟨1, ⟨1, 0, 0, 0, 0, 0⟩, 6⟩, ⟨2, ⟨0, 1, 0, 0, 0, 0⟩, 6⟩]⟩
def r60 : SCtr := ⟨60, Unit, .nil, fun _ => True, fun _ => codP.put three⟩
theorem h60 : Holds Try.prog r60 := by
  refine con (L := []) r60 F60 (fun _ _ => .look) (OwnOK.none _) (by simp) (by kernel_rfl) (by kernel_rfl) (fun _ => rfl) ?_
  intro _ _
  refine vcOf ((SV.agg [SV.il .i64 1, SV.il .i64 1, SV.il .i64 0, SV.il .i64 0, SV.il .i64 0, SV.il .i64 0, SV.il .i64 1, SV.il .i64 1, SV.il .i64 0, SV.il .i64 0, SV.il .i64 0, SV.il .i64 0, SV.il .i64 0, SV.il .i64 0, SV.il .i64 0, SV.il .i64 0, SV.il .i64 0, SV.il .i64 0, SV.row (SId.i .i64) [(0 : Int), (0 : Int), (0 : Int)], SV.row SId.off [Off.mk (0 : Int) (Bun.mk (1 : Int) (1 : Int) (0 : Int) (0 : Int) (0 : Int) (0 : Int)) (10 : Int), Off.mk (1 : Int) (Bun.mk (1 : Int) (0 : Int) (0 : Int) (0 : Int) (0 : Int) (0 : Int)) (6 : Int), Off.mk (2 : Int) (Bun.mk (0 : Int) (1 : Int) (0 : Int) (0 : Int) (0 : Int) (0 : Int)) (6 : Int)]]).same (SV.agg (Prob.ss three))) (by kernel_rfl) ?_
  rfl

def LF : List SCtr := [r59, r15, r60, r17, r19, r21, r23]
theorem hLF : ∀ c ∈ LF, Holds Try.prog c := by
  simp only [LF, List.forall_mem_cons, List.not_mem_nil, false_implies, implies_true, and_true]
  exact ⟨h59, h15, h60, h17, h19, h21, h23⟩

def r16 : SCtr := ⟨16, Unit, .nil, fun _ => True, fun _ => .sb true⟩
theorem h16 : Holds Try.prog r16 := by
  refine con (L := LF) r16 F16 (fun _ _ => .look) (OwnOK.none _) hLF (by kernel_rfl) (by kernel_rfl) (fun _ => rfl) ?_
  intro _ _
  refine vcOf (True ∧ 2 ≤ 1000000000000 ∧ 2 ≤ 1000000000000 ∧ 2 ≤ 1000000000000 ∧ 1 ≤ 1000000000000 ∧ 2 ≤ 1000000000000 ∧ 2 ≤ 1000000000000 ∧ (true = true → (paysS three [(1 : Int), (2 : Int)]).length ≤ 1000000000000 ∧ (sameB (paysS three [(1 : Int), (2 : Int)]) [(0 : Int), (4 : Int), (4 : Int)] = true → (true = true → (discsS three [(1 : Int), (2 : Int)]).length ≤ 1000000000000 ∧ (sameB (discsS three [(1 : Int), (2 : Int)]) [(0 : Int), (2 : Int), (2 : Int)] = true → (true = true → (true = true → (true = true → (true = true → (SV.sb true).same (SV.sb true)) ∧ (true = false → (SV.bl false).same (SV.sb true))) ∧ (true = false → (SV.bl false).same (SV.sb true))) ∧ (true = false → (SV.bl false).same (SV.sb true))) ∧ (true = false → (SV.bl false).same (SV.sb true))) ∧ (sameB (discsS three [(1 : Int), (2 : Int)]) [(0 : Int), (2 : Int), (2 : Int)] = false → (SV.bl false).same (SV.sb true))) ∧ (true = false → (SV.bl false).same (SV.sb true))) ∧ (sameB (paysS three [(1 : Int), (2 : Int)]) [(0 : Int), (4 : Int), (4 : Int)] = false → (SV.bl false).same (SV.sb true))) ∧ (true = false → (SV.bl false).same (SV.sb true))) (by kernel_rfl) ?_
  simp only [decide_eq_true_eq, decide_eq_false_iff_not, same_il_si, same_si_si, same_si_il, same_il_il, same_sb_sb, same_bl_sb, same_row, same_tup2, same_tup3, same_nil, same_row_nil, same_rfl, osame_rfl, inR_i64, eq_self, true_and, and_true, Bool.and_eq_true, Bool.not_eq_true', Bool.not_eq_false']
  have e1 : paysS three [1, 2] = [0, 4, 4] := by kernel_rfl
  have e2 : discsS three [1, 2] = [0, 2, 2] := by kernel_rfl
  simp [e1, e2, sameB]

def LG : List SCtr := r16 :: LF
theorem hLG : ∀ c ∈ LG, Holds Try.prog c := by
  simp only [LG, List.forall_mem_cons]
  exact ⟨h16, hLF⟩

def r5 : SCtr := ⟨5, Prob × Alloc, .cons codP (.one codA), fun _ => True, fun _ => .sb true⟩
theorem h5 : Holds Try.prog r5 := by
  refine con (L := LG) r5 F5 (fun _ _ => .look) (OwnOK.none _) hLG (by kernel_rfl) (by kernel_rfl) (fun _ => rfl) ?_
  rintro ⟨p, ⟨c, v⟩⟩ _
  refine vcOf (True ∧ ((!fewB p (10 : Int)) = true → True ∧ (SV.sb true).same (SV.sb true)) ∧ ((!fewB p (10 : Int)) = false → (decide ((20 : Int) < (↑c.length : Int)) = true → True ∧ (SV.sb true).same (SV.sb true)) ∧ (decide ((20 : Int) < (↑c.length : Int)) = false → c.length ≤ 1000000000000 ∧ c.length ≤ 1000000000000 ∧ (decide (openE p c = openE p c) = true → (paysS p c).length ≤ 1000000000000 ∧ (sameB (paysS p c) (paysS p c) = true → True ∧ (SV.sb true).same (SV.sb true)) ∧ (sameB (paysS p c) (paysS p c) = false → (SV.bl false).same (SV.sb true))) ∧ (decide (openE p c = openE p c) = false → (SV.bl false).same (SV.sb true))))) (by kernel_rfl) ?_
  simp only [decide_eq_true_eq, decide_eq_false_iff_not, same_il_si, same_si_si, same_si_il, same_il_il, same_sb_sb, same_bl_sb, same_row, same_tup2, same_tup3, same_nil, same_row_nil, same_rfl, osame_rfl, inR_i64, eq_self, true_and, and_true, Bool.and_eq_true, Bool.not_eq_true', Bool.not_eq_false']
  have e1 : sameB (paysS p c) (paysS p c) = true := by simp [sameB]
  have hl : (paysS p c).length ≤ 1000000000000 := by
    unfold paysS
    split
    · rename_i h
      have := (open_ok h).2.2.1
      rw [eachL_len]
      omega
    · simp
  refine ⟨fun _ => trivial, fun _ => ⟨fun _ => trivial, fun h => ⟨by omega, by omega, fun _ => ⟨hl, fun _ => trivial, fun h2 => ?_⟩, fun h2 => absurd trivial h2⟩⟩⟩
  rw [e1] at h2
  cases h2

end Go.Vi
/-
  Contracts: the reference's problem.
  Conditions: none.
-/
set_option maxRecDepth 100000
set_option maxHeartbeats 4000000
set_option linter.unusedSimpArgs false
set_option linter.unusedVariables false
namespace Go.Vi
open Go.Proofs.Ytigbjjkijfkeeaa.Ir
open Go.Proofs

def r68 : SCtr := ⟨68, Bun, .one (codE .bun), fun _ => True, fun b => .sb b.ok⟩

theorem h68 : Holds Try.prog r68 := by
  refine con (L := []) r68 F68 (fun _ _ => .unroll 7) (OwnOK.none _) (by simp) (by kernel_rfl) (by kernel_rfl) (fun _ => rfl) ?_
  intro b _
  refine vcOf ((decide (b.a0 < (0 : Int)) = true → (SV.bl false).same (SV.sb (Bun.ok b))) ∧ (decide (b.a0 < (0 : Int)) = false → (decide ((4 : Int) < b.a0) = true → (SV.bl false).same (SV.sb (Bun.ok b))) ∧ (decide ((4 : Int) < b.a0) = false → (decide (b.a1 < (0 : Int)) = true → (SV.bl false).same (SV.sb (Bun.ok b))) ∧ (decide (b.a1 < (0 : Int)) = false → (decide ((4 : Int) < b.a1) = true → (SV.bl false).same (SV.sb (Bun.ok b))) ∧ (decide ((4 : Int) < b.a1) = false → (decide (b.a2 < (0 : Int)) = true → (SV.bl false).same (SV.sb (Bun.ok b))) ∧ (decide (b.a2 < (0 : Int)) = false → (decide ((4 : Int) < b.a2) = true → (SV.bl false).same (SV.sb (Bun.ok b))) ∧ (decide ((4 : Int) < b.a2) = false → (decide (b.a3 < (0 : Int)) = true → (SV.bl false).same (SV.sb (Bun.ok b))) ∧ (decide (b.a3 < (0 : Int)) = false → (decide ((4 : Int) < b.a3) = true → (SV.bl false).same (SV.sb (Bun.ok b))) ∧ (decide ((4 : Int) < b.a3) = false → (decide (b.a4 < (0 : Int)) = true → (SV.bl false).same (SV.sb (Bun.ok b))) ∧ (decide (b.a4 < (0 : Int)) = false → (decide ((4 : Int) < b.a4) = true → (SV.bl false).same (SV.sb (Bun.ok b))) ∧ (decide ((4 : Int) < b.a4) = false → (decide (b.a5 < (0 : Int)) = true → (SV.bl false).same (SV.sb (Bun.ok b))) ∧ (decide (b.a5 < (0 : Int)) = false → (decide ((4 : Int) < b.a5) = true → (SV.bl false).same (SV.sb (Bun.ok b))) ∧ (decide ((4 : Int) < b.a5) = false → (SV.bl true).same (SV.sb (Bun.ok b))))))))))))))) (by kernel_rfl) ?_
  have hb := @Bun.ok_iff b
  by_cases h : b.ok = true
  · have h2 := hb.1 h
    simp only [decide_eq_true_eq, decide_eq_false_iff_not, same_bl_sb, eq_self, true_and, h, if_true]
    repeat' (first | refine And.intro ?_ ?_ | intro _)
    all_goals first | trivial | omega | (exfalso; omega)
  · have h2 := mt hb.2 h
    have h3 : b.ok = false := by simpa using h
    simp only [decide_eq_true_eq, decide_eq_false_iff_not, same_bl_sb, eq_self, true_and, h3]
    repeat' (first | refine And.intro ?_ ?_ | intro _)
    all_goals first | trivial | omega | (exfalso; omega)

/-- The reference's coefficient: a bidder that is none is never outside. -/
def coefR (p : Prob) (r : Int) (o : Off) : Int :=
  if r - p.classes.length < 0 then (if o.bidder = r then 1 else 0)
  else if r - p.classes.length < 6 then nthD [o.want.a0, o.want.a1, o.want.a2, o.want.a3, o.want.a4, o.want.a5] (r - p.classes.length).toNat 0
  else if nthD [p.cls.a0, p.cls.a1, p.cls.a2, p.cls.a3, p.cls.a4, p.cls.a5] (r - p.classes.length - 6).toNat 0 = 0 ∨ p.classes.length ≤ o.bidder ∨ nthD [p.cls.a0, p.cls.a1, p.cls.a2, p.cls.a3, p.cls.a4, p.cls.a5] (r - p.classes.length - 6).toNat 0 = nthD p.classes o.bidder.toNat 0 then 0
  else nthD [o.want.a0, o.want.a1, o.want.a2, o.want.a3, o.want.a4, o.want.a5] (r - p.classes.length - 6).toNat 0

theorem coefR_eq {p : Prob} {r : Int} {o : Off} (h : o.bidder < p.classes.length) : coefR p r o = coefS p r o := by
  unfold coefR coefS
  have : ¬ (p.classes.length : Int) ≤ o.bidder := by omega
  simp only [this, false_or]

def r110 : SCtr := ⟨110, Prob × Int × Off, .cons codP (.cons (codI .i64) (.one (codE .off))), fun a => a.1.classes.length ≤ 8 ∧ 0 ≤ a.2.1 ∧ a.2.1 < nrows a.1 ∧ 0 ≤ a.2.2.bidder,
  fun a => .tup [.si .i64 (coefR a.1 a.2.1 a.2.2), .si .i64 (boundS a.1 a.2.1)]⟩

theorem h110 : Holds Try.prog r110 := by
  refine con (L := []) r110 F110 (fun _ _ => .unroll 7) (OwnOK.none _) (by simp) (by kernel_rfl) (by kernel_rfl) (fun _ => rfl) ?_
  rintro ⟨p, r, x⟩ ⟨hp, h1, h2, h3⟩
  simp only [nrows] at hp h1 h2 h3
  refine vcOf ((decide (r < (↑p.classes.length : Int)) = true → (decide (x.bidder = r) = true → (SV.tup [SV.il .i64 1, SV.il .i64 1]).same (SV.tup [SV.si .i64 (coefR p r x), SV.si .i64 (boundS p r)])) ∧ (decide (x.bidder = r) = false → (SV.tup [SV.il .i64 0, SV.il .i64 1]).same (SV.tup [SV.si .i64 (coefR p r x), SV.si .i64 (boundS p r)]))) ∧ (decide (r < (↑p.classes.length : Int)) = false → inR .i64 ((↑p.classes.length : Int) + (6 : Int)) ∧ (decide (r < (↑p.classes.length : Int) + (6 : Int)) = true → inR .i64 (r - (↑p.classes.length : Int)) ∧ (0 : Int) ≤ r - (↑p.classes.length : Int) ∧ r - (↑p.classes.length : Int) < (6 : Int) ∧ (r - (↑p.classes.length : Int)).toNat < 6 ∧ inR .i64 (r - (↑p.classes.length : Int)) ∧ (0 : Int) ≤ r - (↑p.classes.length : Int) ∧ r - (↑p.classes.length : Int) < (6 : Int) ∧ (r - (↑p.classes.length : Int)).toNat < 6 ∧ (SV.tup [SV.si .i64 (nthD [x.want.a0, x.want.a1, x.want.a2, x.want.a3, x.want.a4, x.want.a5] (r - (↑p.classes.length : Int)).toNat (0 : Int)), SV.si .i64 (nthD [p.supply.a0, p.supply.a1, p.supply.a2, p.supply.a3, p.supply.a4, p.supply.a5] (r - (↑p.classes.length : Int)).toNat (0 : Int))]).same (SV.tup [SV.si .i64 (coefR p r x), SV.si .i64 (boundS p r)])) ∧ (decide (r < (↑p.classes.length : Int) + (6 : Int)) = false → inR .i64 (r - (↑p.classes.length : Int)) ∧ inR .i64 (r - (↑p.classes.length : Int) - (6 : Int)) ∧ (0 : Int) ≤ r - (↑p.classes.length : Int) - (6 : Int) ∧ r - (↑p.classes.length : Int) - (6 : Int) < (6 : Int) ∧ (r - (↑p.classes.length : Int) - (6 : Int)).toNat < 6 ∧ (decide (nthD [p.cls.a0, p.cls.a1, p.cls.a2, p.cls.a3, p.cls.a4, p.cls.a5] (r - (↑p.classes.length : Int) - (6 : Int)).toNat (0 : Int) ≠ (0 : Int)) = true → (decide (x.bidder < (↑p.classes.length : Int)) = true → (0 : Int) ≤ r - (↑p.classes.length : Int) - (6 : Int) ∧ r - (↑p.classes.length : Int) - (6 : Int) < (6 : Int) ∧ (r - (↑p.classes.length : Int) - (6 : Int)).toNat < 6 ∧ (0 : Int) ≤ x.bidder ∧ x.bidder < (↑p.classes.length : Int) ∧ x.bidder.toNat < p.classes.length ∧ (decide (nthD [p.cls.a0, p.cls.a1, p.cls.a2, p.cls.a3, p.cls.a4, p.cls.a5] (r - (↑p.classes.length : Int) - (6 : Int)).toNat (0 : Int) ≠ nthD p.classes x.bidder.toNat (0 : Int)) = true → (0 : Int) ≤ r - (↑p.classes.length : Int) - (6 : Int) ∧ r - (↑p.classes.length : Int) - (6 : Int) < (6 : Int) ∧ (r - (↑p.classes.length : Int) - (6 : Int)).toNat < 6 ∧ (0 : Int) ≤ r - (↑p.classes.length : Int) - (6 : Int) ∧ r - (↑p.classes.length : Int) - (6 : Int) < (6 : Int) ∧ (r - (↑p.classes.length : Int) - (6 : Int)).toNat < 6 ∧ (SV.tup [SV.si .i64 (nthD [x.want.a0, x.want.a1, x.want.a2, x.want.a3, x.want.a4, x.want.a5] (r - (↑p.classes.length : Int) - (6 : Int)).toNat (0 : Int)), SV.si .i64 (nthD [p.opn.a0, p.opn.a1, p.opn.a2, p.opn.a3, p.opn.a4, p.opn.a5] (r - (↑p.classes.length : Int) - (6 : Int)).toNat (0 : Int))]).same (SV.tup [SV.si .i64 (coefR p r x), SV.si .i64 (boundS p r)])) ∧ (decide (nthD [p.cls.a0, p.cls.a1, p.cls.a2, p.cls.a3, p.cls.a4, p.cls.a5] (r - (↑p.classes.length : Int) - (6 : Int)).toNat (0 : Int) ≠ nthD p.classes x.bidder.toNat (0 : Int)) = false → (0 : Int) ≤ r - (↑p.classes.length : Int) - (6 : Int) ∧ r - (↑p.classes.length : Int) - (6 : Int) < (6 : Int) ∧ (r - (↑p.classes.length : Int) - (6 : Int)).toNat < 6 ∧ (SV.tup [SV.il .i64 0, SV.si .i64 (nthD [p.opn.a0, p.opn.a1, p.opn.a2, p.opn.a3, p.opn.a4, p.opn.a5] (r - (↑p.classes.length : Int) - (6 : Int)).toNat (0 : Int))]).same (SV.tup [SV.si .i64 (coefR p r x), SV.si .i64 (boundS p r)]))) ∧ (decide (x.bidder < (↑p.classes.length : Int)) = false → (0 : Int) ≤ r - (↑p.classes.length : Int) - (6 : Int) ∧ r - (↑p.classes.length : Int) - (6 : Int) < (6 : Int) ∧ (r - (↑p.classes.length : Int) - (6 : Int)).toNat < 6 ∧ (SV.tup [SV.il .i64 0, SV.si .i64 (nthD [p.opn.a0, p.opn.a1, p.opn.a2, p.opn.a3, p.opn.a4, p.opn.a5] (r - (↑p.classes.length : Int) - (6 : Int)).toNat (0 : Int))]).same (SV.tup [SV.si .i64 (coefR p r x), SV.si .i64 (boundS p r)]))) ∧ (decide (nthD [p.cls.a0, p.cls.a1, p.cls.a2, p.cls.a3, p.cls.a4, p.cls.a5] (r - (↑p.classes.length : Int) - (6 : Int)).toNat (0 : Int) ≠ (0 : Int)) = false → (0 : Int) ≤ r - (↑p.classes.length : Int) - (6 : Int) ∧ r - (↑p.classes.length : Int) - (6 : Int) < (6 : Int) ∧ (r - (↑p.classes.length : Int) - (6 : Int)).toNat < 6 ∧ (SV.tup [SV.il .i64 0, SV.si .i64 (nthD [p.opn.a0, p.opn.a1, p.opn.a2, p.opn.a3, p.opn.a4, p.opn.a5] (r - (↑p.classes.length : Int) - (6 : Int)).toNat (0 : Int))]).same (SV.tup [SV.si .i64 (coefR p r x), SV.si .i64 (boundS p r)]))))) (by kernel_rfl) ?_
  simp only [decide_eq_true_eq, decide_eq_false_iff_not, same_il_si, same_si_si, same_si_il, same_il_il, same_sb_sb, same_bl_sb, same_row, same_tup2, same_tup3, same_nil, same_row_nil, same_rfl, osame_rfl, inR_i64, eq_self, true_and, and_true, Bool.and_eq_true, Bool.not_eq_true', Bool.not_eq_false']
  have b1 : r - p.classes.length < 0 → boundS p r = 1 := fun h => by unfold boundS; rw [if_pos h]
  have b2 : ¬ r - p.classes.length < 0 → r - p.classes.length < 6 → boundS p r = nthD [p.supply.a0, p.supply.a1, p.supply.a2, p.supply.a3, p.supply.a4, p.supply.a5] (r - p.classes.length).toNat 0 := fun h h' => by unfold boundS; rw [if_neg h, if_pos h']
  have b3 : ¬ r - p.classes.length < 0 → ¬ r - p.classes.length < 6 → boundS p r = nthD [p.opn.a0, p.opn.a1, p.opn.a2, p.opn.a3, p.opn.a4, p.opn.a5] (r - p.classes.length - 6).toNat 0 := fun h h' => by unfold boundS; rw [if_neg h, if_neg h']
  have c1 : r - p.classes.length < 0 → coefR p r x = if x.bidder = r then 1 else 0 := fun h => by unfold coefR; rw [if_pos h]
  have c2 : ¬ r - p.classes.length < 0 → r - p.classes.length < 6 → coefR p r x = nthD [x.want.a0, x.want.a1, x.want.a2, x.want.a3, x.want.a4, x.want.a5] (r - p.classes.length).toNat 0 := fun h h' => by unfold coefR; rw [if_neg h, if_pos h']
  have c3 := fun (h : ¬ r - p.classes.length < 0) (h' : ¬ r - p.classes.length < 6) => (show coefR p r x = _ by unfold coefR; rw [if_neg h, if_neg h'])
  refine ⟨fun ha => ?_, fun ha => ⟨by omega, fun hb => ?_, fun hb => ?_⟩⟩
  · rw [b1 (by omega), c1 (by omega)]
    exact ⟨fun h => by simp [h], fun h => by simp [h]⟩
  · rw [b2 (by omega) (by omega), c2 (by omega) (by omega)]
    refine ⟨by omega, by omega, by omega, by omega, by omega, by omega, by omega, by omega, rfl, rfl⟩
  · rw [b3 (by omega) (by omega), c3 (by omega) (by omega)]
    refine ⟨by omega, by omega, by omega, by omega, by omega, fun h4 => ⟨fun h5 => ⟨by omega, by omega, by omega, by omega, by omega, by omega, fun h6 => ⟨by omega, by omega, by omega, by omega, by omega, by omega, (if_neg (by omega)).symm, rfl⟩, fun h6 => ⟨by omega, by omega, by omega, (if_pos (by omega)).symm, rfl⟩⟩, fun h5 => ⟨by omega, by omega, by omega, (if_pos (by omega)).symm, rfl⟩⟩, fun h4 => ⟨by omega, by omega, by omega, (if_pos (by omega)).symm, rfl⟩⟩

def M1 : List SCtr := [r110, r68]
theorem hM1 : ∀ c ∈ M1, Holds Try.prog c := by
  simp only [M1, List.forall_mem_cons, List.not_mem_nil, false_implies, implies_true, and_true]
  exact ⟨h110, h68⟩

def r69 : SCtr := ⟨69, Prob × List Off, .cons codP (.one (codR .off)), fun a => a.1.classes.length ≤ 8 ∧ a.2.length ≤ 1000 ∧ (∀ x ∈ a.2, 0 ≤ x.bidder ∧ x.bidder < a.1.classes.length ∧ x.want.ok = true), fun a => .sb (fitsB a.1 a.2)⟩
def Λ69 (a : Prob × List Off) : Nat → LoopAnn
  | 2 => .inv Int (fun i => ⟨[(1, .row .off a.2), (2, .ptr 0 0 20), (5, .si .i64 i)], [.cells a.1.ss 27 20 false]⟩) (fun s => iS s 5)
    (fun i => 0 ≤ i ∧ i ≤ nrows a.1 ∧ ∀ r : Nat, r < i → sumS a.1 a.2 r ≤ boundS a.1 r) (fun i => (nrows a.1 - i).toNat)
    fun i => fun
      | 6 => .inv (Int × Int) (fun x => ⟨[(1, .row .off a.2), (2, .ptr 0 0 20), (5, .si .i64 i), (6, .si .i64 x.2), (7, .si .i64 x.1)], [.cells a.1.ss 27 20 false]⟩)
        (fun s => (iS s 7, iS s 6))
        (fun x => 0 ≤ x.1 ∧ x.1 ≤ a.2.length ∧ x.2 = sumS a.1 (a.2.take x.1.toNat) i) (fun x => (a.2.length - x.1).toNat) fun _ _ => .look
      | _ => .look
  | _ => .look

theorem h69 : Holds Try.prog r69 := by
  refine con (L := M1) r69 F69 Λ69 (OwnOK.none _) hM1 (by kernel_rfl) (by kernel_rfl) (fun _ => rfl) ?_
  rintro ⟨p, l⟩ ⟨hp, hl, hb⟩
  simp only at hp hl hb
  refine vcOf (((((SV.row SId.off l).same (SV.row SId.off l) ∧ (SV.ptr 0 0 20).same (SV.ptr 0 0 20) ∧ (SV.il .i64 0).same (SV.si .i64 0) ∧ True) ∧ (SObj.cells (Prob.ss p) 27 20 false).same (SObj.cells (Prob.ss p) 27 20 false) ∧ True) ∧ (0 : Int) ≤ (0 : Int) ∧ (0 : Int) ≤ nrows p ∧ ∀ (r : Nat), (↑r : Int) < (0 : Int) → sumS p l (↑r : Int) ≤ boundS p (↑r : Int)) ∧ ∀ (x : Int), ((0 : Int) ≤ x ∧ x ≤ nrows p ∧ ∀ (r : Nat), (↑r : Int) < x → sumS p l (↑r : Int) ≤ boundS p (↑r : Int)) → inR .i64 ((↑p.classes.length : Int) + (12 : Int)) ∧ (decide (x < (↑p.classes.length : Int) + (12 : Int)) = true → ((((SV.row SId.off l).same (SV.row SId.off l) ∧ (SV.ptr 0 0 20).same (SV.ptr 0 0 20) ∧ (SV.si .i64 x).same (SV.si .i64 x) ∧ (SV.il .i64 0).same (SV.si .i64 0) ∧ (SV.il .i64 0).same (SV.si .i64 0) ∧ True) ∧ (SObj.cells (Prob.ss p) 27 20 false).same (SObj.cells (Prob.ss p) 27 20 false) ∧ True) ∧ (0 : Int) ≤ (0 : Int) ∧ (0 : Int) ≤ (↑l.length : Int) ∧ (0 : Int) = sumS p [] x) ∧ ∀ (x_1 : Int × Int), (0 : Int) ≤ x_1.fst ∧ x_1.fst ≤ (↑l.length : Int) ∧ x_1.snd = sumS p (List.take x_1.fst.toNat l) x → (decide (x_1.fst < (↑l.length : Int)) = true → (0 : Int) ≤ x_1.fst ∧ x_1.fst < (↑l.length : Int) ∧ x_1.fst.toNat < l.length ∧ (p.classes.length ≤ 8 ∧ (0 : Int) ≤ x ∧ x < nrows p ∧ (0 : Int) ≤ (nthD l x_1.fst.toNat SId.off.dflt).bidder) ∧ inR .i64 (x_1.snd + coefR p x (nthD l x_1.fst.toNat SId.off.dflt)) ∧ inR .i64 (x_1.fst + (1 : Int)) ∧ (((SV.row SId.off l).same (SV.row SId.off l) ∧ (SV.ptr 0 0 20).same (SV.ptr 0 0 20) ∧ (SV.si .i64 x).same (SV.si .i64 x) ∧ (SV.si .i64 (x_1.snd + coefR p x (nthD l x_1.fst.toNat SId.off.dflt))).same (SV.si .i64 (x_1.snd + coefR p x (nthD l x_1.fst.toNat SId.off.dflt))) ∧ (SV.si .i64 (x_1.fst + (1 : Int))).same (SV.si .i64 (x_1.fst + (1 : Int))) ∧ True) ∧ (SObj.cells (Prob.ss p) 27 20 false).same (SObj.cells (Prob.ss p) 27 20 false) ∧ True) ∧ ((0 : Int) ≤ x_1.fst + (1 : Int) ∧ x_1.fst + (1 : Int) ≤ (↑l.length : Int) ∧ x_1.snd + coefR p x (nthD l x_1.fst.toNat SId.off.dflt) = sumS p (List.take (x_1.fst + (1 : Int)).toNat l) x) ∧ ((↑l.length : Int) - (x_1.fst + (1 : Int))).toNat < ((↑l.length : Int) - x_1.fst).toNat) ∧ (decide (x_1.fst < (↑l.length : Int)) = false → (p.classes.length ≤ 8 ∧ (0 : Int) ≤ x ∧ x < nrows p ∧ (0 : Int) ≤ (0 : Int)) ∧ (decide (boundS p x < x_1.snd) = true → (SV.bl false).same (SV.sb (fitsB p l))) ∧ (decide (boundS p x < x_1.snd) = false → inR .i64 (x + (1 : Int)) ∧ (((SV.row SId.off l).same (SV.row SId.off l) ∧ (SV.ptr 0 0 20).same (SV.ptr 0 0 20) ∧ (SV.si .i64 (x + (1 : Int))).same (SV.si .i64 (x + (1 : Int))) ∧ True) ∧ (SObj.cells (Prob.ss p) 27 20 false).same (SObj.cells (Prob.ss p) 27 20 false) ∧ True) ∧ ((0 : Int) ≤ x + (1 : Int) ∧ x + (1 : Int) ≤ nrows p ∧ ∀ (r : Nat), (↑r : Int) < x + (1 : Int) → sumS p l (↑r : Int) ≤ boundS p (↑r : Int)) ∧ (nrows p - (x + (1 : Int))).toNat < (nrows p - x).toNat))) ∧ (decide (x < (↑p.classes.length : Int) + (12 : Int)) = false → (SV.bl true).same (SV.sb (fitsB p l)))) (by kernel_rfl) ?_
  simp only [decide_eq_true_eq, decide_eq_false_iff_not, same_il_si, same_si_si, same_si_il, same_il_il, same_sb_sb, same_bl_sb, same_row, same_tup2, same_tup3, same_nil, same_row_nil, same_rfl, osame_rfl, inR_i64, eq_self, true_and, and_true, Bool.and_eq_true, Bool.not_eq_true', Bool.not_eq_false']
  have hn : nrows p = p.classes.length + 12 := rfl
  have ho : ∀ x ∈ l, x.want.ok = true := fun x hx => (hb x hx).2.2
  refine ⟨⟨by omega, by omega, fun r hr => by omega⟩, ?_⟩
  rintro i ⟨hi0, hi1, hi⟩
  refine ⟨by omega, fun hlt => ⟨⟨by omega, by omega, by simp [sumS]⟩, ?_⟩, ?_⟩
  · rintro ⟨j, s⟩ ⟨hj0, hj1, hs⟩
    simp only at hj0 hj1 hs ⊢
    have hsb := @sum_bd p i (l.take j.toNat) fun x hx => ho x (List.mem_of_mem_take hx)
    have hlen : (l.take j.toNat).length ≤ l.length := by simp; omega
    refine ⟨fun hjl => ?_, fun hjl => ?_⟩
    · have hm := hb _ (nthD_mem (d := SId.off.dflt) (show j.toNat < l.length by omega))
      have hc := @coef_bd p i _ hm.2.2
      have hst := @sum_take p i l j SId.off.dflt hj0 hjl
      rw [coefR_eq hm.2.1]
      refine ⟨by omega, by omega, by omega, ⟨hp, by omega, by omega, hm.1⟩, by omega, by omega, ⟨by omega, by omega, by omega⟩, by omega⟩
    · have : j.toNat = l.length := by omega
      rw [this, List.take_length] at hs
      refine ⟨⟨hp, by omega, by omega, by omega⟩, fun hgt => ?_, fun hle => ⟨by omega, ⟨by omega, by omega, fun r hr => ?_⟩, by omega⟩⟩
      · symm
        rw [Bool.eq_false_iff]
        intro hf
        have := fits_iff.1 hf i.toNat (by omega)
        rw [show ((i.toNat : Nat) : Int) = i from by omega] at this
        omega
      · by_cases hr2 : (r : Int) < i
        · exact hi r hr2
        · have : (r : Int) = i := by omega
          rw [this]
          omega
  · intro hge
    symm
    exact fits_iff.2 fun r hr => hi r (by omega)

def r24 : SCtr := ⟨24, Prob, .one codP, fun p => True, fun p => .si .i64 (checkE p)⟩
def Λ24 (p : Prob) : Nat → LoopAnn
  | 11 => .inv Int (fun k => ⟨[(1, .ptr 0 0 20), (4, .si .i64 k)], [.cells p.ss 27 20 false]⟩) (fun s => iS s 4) (fun k => 0 ≤ k ∧ k ≤ p.classes.length ∧ ∀ c ∈ p.classes.take k.toNat, 0 ≤ c ∧ c ≤ 4) (fun k => (p.classes.length - k).toNat) fun _ _ => .look
  | 16 => .inv Int (fun i => ⟨[(1, .ptr 0 0 20), (5, .si .i64 i)], [.cells p.ss 27 20 false]⟩) (fun s => iS s 5)
    (fun i => 0 ≤ i ∧ i ≤ p.offers.length ∧ checkL p [] p.offers = checkL p ((p.offers.take i.toNat).map Off.key) (p.offers.drop i.toNat)) (fun i => (p.offers.length - i).toNat)
    fun i => fun
      | 26 => .inv Int (fun k => ⟨[(1, .ptr 0 0 20), (5, .si .i64 i), (6, .ptr 1 0 8), (7, .si .i64 k)], [.cells p.ss 27 20 false, .cells (encS .off (nthD p.offers i.toNat SId.off.dflt)) 43 8 false]⟩) (fun s => iS s 7)
        (fun k => 0 ≤ k ∧ k ≤ i ∧ ∀ j : Nat, j < k → (nthD p.offers j SId.off.dflt).key ≠ (nthD p.offers i.toNat SId.off.dflt).key) (fun k => (i - k).toNat) fun _ _ => .look
      | _ => .look
  | 4 => .inv Int (fun k => ⟨[(1, .ptr 0 0 20), (3, .si .i64 k)], [.cells p.ss 27 20 false]⟩) (fun s => iS s 3) (fun k => 0 ≤ k ∧ k ≤ 6 ∧ ∀ j : Nat, j < k → prodOk p j) (fun k => (6 - k).toNat) fun _ _ => .look
  | _ => .look

theorem bun_z {b : Bun} : (decide (b.a0 = 0) && (decide (b.a1 = 0) && (decide (b.a2 = 0) && (decide (b.a3 = 0) && (decide (b.a4 = 0) && (decide (b.a5 = 0) && true)))))) = decide (b = Bun.zero) := by
  rw [Bool.eq_iff_iff]
  simp [bun_eq, Bun.zero]
theorem bun_d {b c : Bun} : (decide (b.a0 = c.a0) && (decide (b.a1 = c.a1) && (decide (b.a2 = c.a2) && (decide (b.a3 = c.a3) && (decide (b.a4 = c.a4) && (decide (b.a5 = c.a5) && true)))))) = decide (b = c) := by
  rw [Bool.eq_iff_iff]
  simp [bun_eq]
theorem mem_take_nth {α : Type} {l : List α} {i : Int} {d x : α} (h1 : i ≤ l.length) (h : x ∈ l.take i.toNat) : ∃ j : Nat, (j : Int) < i ∧ nthD l j d = x := by
  obtain ⟨j, hj, rfl⟩ := List.mem_iff_getElem.1 h
  have hj2 := hj
  simp only [List.length_take] at hj2
  refine ⟨j, by omega, ?_⟩
  rw [nthD_eq (by omega), List.getElem_take]

theorem h24 : Holds Try.prog r24 := by
  refine con (L := r69 :: M1) r24 F24 Λ24 (OwnOK.none _) (by simp only [List.forall_mem_cons]; exact ⟨h69, hM1⟩) (by kernel_rfl) (by kernel_rfl) (fun _ => rfl) ?_
  intro p _
  refine vcOf (True ∧ ((!p.supply.ok) = true → (SV.il .i64 4).same (SV.si .i64 (checkE p))) ∧ ((!p.supply.ok) = false → ((((SV.ptr 0 0 20).same (SV.ptr 0 0 20) ∧ (SV.il .i64 0).same (SV.si .i64 0) ∧ True) ∧ (SObj.cells (Prob.ss p) 27 20 false).same (SObj.cells (Prob.ss p) 27 20 false) ∧ True) ∧ (0 : Int) ≤ (0 : Int) ∧ (0 : Int) ≤ (6 : Int) ∧ ∀ (j : Nat), (↑j : Int) < (0 : Int) → prodOk p j) ∧ ∀ (x : Int), ((0 : Int) ≤ x ∧ x ≤ (6 : Int) ∧ ∀ (j : Nat), (↑j : Int) < x → prodOk p j) → (decide (x < (6 : Int)) = true → (0 : Int) ≤ x ∧ x < (6 : Int) ∧ x.toNat < 6 ∧ (decide (nthD [p.cls.a0, p.cls.a1, p.cls.a2, p.cls.a3, p.cls.a4, p.cls.a5] x.toNat (0 : Int) < (0 : Int)) = true → (SV.il .i64 4).same (SV.si .i64 (checkE p))) ∧ (decide (nthD [p.cls.a0, p.cls.a1, p.cls.a2, p.cls.a3, p.cls.a4, p.cls.a5] x.toNat (0 : Int) < (0 : Int)) = false → (0 : Int) ≤ x ∧ x < (6 : Int) ∧ x.toNat < 6 ∧ (decide ((4 : Int) < nthD [p.cls.a0, p.cls.a1, p.cls.a2, p.cls.a3, p.cls.a4, p.cls.a5] x.toNat (0 : Int)) = true → (SV.il .i64 4).same (SV.si .i64 (checkE p))) ∧ (decide ((4 : Int) < nthD [p.cls.a0, p.cls.a1, p.cls.a2, p.cls.a3, p.cls.a4, p.cls.a5] x.toNat (0 : Int)) = false → (0 : Int) ≤ x ∧ x < (6 : Int) ∧ x.toNat < 6 ∧ (decide (nthD [p.opn.a0, p.opn.a1, p.opn.a2, p.opn.a3, p.opn.a4, p.opn.a5] x.toNat (0 : Int) < (0 : Int)) = true → (SV.il .i64 4).same (SV.si .i64 (checkE p))) ∧ (decide (nthD [p.opn.a0, p.opn.a1, p.opn.a2, p.opn.a3, p.opn.a4, p.opn.a5] x.toNat (0 : Int) < (0 : Int)) = false → (0 : Int) ≤ x ∧ x < (6 : Int) ∧ x.toNat < 6 ∧ (0 : Int) ≤ x ∧ x < (6 : Int) ∧ x.toNat < 6 ∧ (decide (nthD [p.supply.a0, p.supply.a1, p.supply.a2, p.supply.a3, p.supply.a4, p.supply.a5] x.toNat (0 : Int) < nthD [p.opn.a0, p.opn.a1, p.opn.a2, p.opn.a3, p.opn.a4, p.opn.a5] x.toNat (0 : Int)) = true → (SV.il .i64 4).same (SV.si .i64 (checkE p))) ∧ (decide (nthD [p.supply.a0, p.supply.a1, p.supply.a2, p.supply.a3, p.supply.a4, p.supply.a5] x.toNat (0 : Int) < nthD [p.opn.a0, p.opn.a1, p.opn.a2, p.opn.a3, p.opn.a4, p.opn.a5] x.toNat (0 : Int)) = false → (0 : Int) ≤ x ∧ x < (6 : Int) ∧ x.toNat < 6 ∧ (decide (nthD [p.cls.a0, p.cls.a1, p.cls.a2, p.cls.a3, p.cls.a4, p.cls.a5] x.toNat (0 : Int) = (0 : Int)) = true → (0 : Int) ≤ x ∧ x < (6 : Int) ∧ x.toNat < 6 ∧ (0 : Int) ≤ x ∧ x < (6 : Int) ∧ x.toNat < 6 ∧ (decide (nthD [p.opn.a0, p.opn.a1, p.opn.a2, p.opn.a3, p.opn.a4, p.opn.a5] x.toNat (0 : Int) ≠ nthD [p.supply.a0, p.supply.a1, p.supply.a2, p.supply.a3, p.supply.a4, p.supply.a5] x.toNat (0 : Int)) = true → (SV.il .i64 4).same (SV.si .i64 (checkE p))) ∧ (decide (nthD [p.opn.a0, p.opn.a1, p.opn.a2, p.opn.a3, p.opn.a4, p.opn.a5] x.toNat (0 : Int) ≠ nthD [p.supply.a0, p.supply.a1, p.supply.a2, p.supply.a3, p.supply.a4, p.supply.a5] x.toNat (0 : Int)) = false → inR .i64 (x + (1 : Int)) ∧ (((SV.ptr 0 0 20).same (SV.ptr 0 0 20) ∧ (SV.si .i64 (x + (1 : Int))).same (SV.si .i64 (x + (1 : Int))) ∧ True) ∧ (SObj.cells (Prob.ss p) 27 20 false).same (SObj.cells (Prob.ss p) 27 20 false) ∧ True) ∧ ((0 : Int) ≤ x + (1 : Int) ∧ x + (1 : Int) ≤ (6 : Int) ∧ ∀ (j : Nat), (↑j : Int) < x + (1 : Int) → prodOk p j) ∧ ((6 : Int) - (x + (1 : Int))).toNat < ((6 : Int) - x).toNat)) ∧ (decide (nthD [p.cls.a0, p.cls.a1, p.cls.a2, p.cls.a3, p.cls.a4, p.cls.a5] x.toNat (0 : Int) = (0 : Int)) = false → inR .i64 (x + (1 : Int)) ∧ (((SV.ptr 0 0 20).same (SV.ptr 0 0 20) ∧ (SV.si .i64 (x + (1 : Int))).same (SV.si .i64 (x + (1 : Int))) ∧ True) ∧ (SObj.cells (Prob.ss p) 27 20 false).same (SObj.cells (Prob.ss p) 27 20 false) ∧ True) ∧ ((0 : Int) ≤ x + (1 : Int) ∧ x + (1 : Int) ≤ (6 : Int) ∧ ∀ (j : Nat), (↑j : Int) < x + (1 : Int) → prodOk p j) ∧ ((6 : Int) - (x + (1 : Int))).toNat < ((6 : Int) - x).toNat)))))) ∧ (decide (x < (6 : Int)) = false → (decide ((8 : Int) < (↑p.classes.length : Int)) = true → (SV.il .i64 3).same (SV.si .i64 (checkE p))) ∧ (decide ((8 : Int) < (↑p.classes.length : Int)) = false → (decide ((160 : Int) < (↑p.offers.length : Int)) = true → (SV.il .i64 3).same (SV.si .i64 (checkE p))) ∧ (decide ((160 : Int) < (↑p.offers.length : Int)) = false → ((((SV.ptr 0 0 20).same (SV.ptr 0 0 20) ∧ (SV.il .i64 0).same (SV.si .i64 0) ∧ True) ∧ (SObj.cells (Prob.ss p) 27 20 false).same (SObj.cells (Prob.ss p) 27 20 false) ∧ True) ∧ (0 : Int) ≤ (0 : Int) ∧ (0 : Int) ≤ (↑p.classes.length : Int) ∧ ∀ (c : Int), c ∈ [] → (0 : Int) ≤ c ∧ c ≤ (4 : Int)) ∧ ∀ (x : Int), ((0 : Int) ≤ x ∧ x ≤ (↑p.classes.length : Int) ∧ ∀ (c : Int), c ∈ List.take x.toNat p.classes → (0 : Int) ≤ c ∧ c ≤ (4 : Int)) → (decide (x < (↑p.classes.length : Int)) = true → (0 : Int) ≤ x ∧ x < (↑p.classes.length : Int) ∧ x.toNat < p.classes.length ∧ (decide (nthD p.classes x.toNat (0 : Int) < (0 : Int)) = true → (SV.il .i64 4).same (SV.si .i64 (checkE p))) ∧ (decide (nthD p.classes x.toNat (0 : Int) < (0 : Int)) = false → (0 : Int) ≤ x ∧ x < (↑p.classes.length : Int) ∧ x.toNat < p.classes.length ∧ (decide ((4 : Int) < nthD p.classes x.toNat (0 : Int)) = true → (SV.il .i64 4).same (SV.si .i64 (checkE p))) ∧ (decide ((4 : Int) < nthD p.classes x.toNat (0 : Int)) = false → inR .i64 (x + (1 : Int)) ∧ (((SV.ptr 0 0 20).same (SV.ptr 0 0 20) ∧ (SV.si .i64 (x + (1 : Int))).same (SV.si .i64 (x + (1 : Int))) ∧ True) ∧ (SObj.cells (Prob.ss p) 27 20 false).same (SObj.cells (Prob.ss p) 27 20 false) ∧ True) ∧ ((0 : Int) ≤ x + (1 : Int) ∧ x + (1 : Int) ≤ (↑p.classes.length : Int) ∧ ∀ (c : Int), c ∈ List.take (x + (1 : Int)).toNat p.classes → (0 : Int) ≤ c ∧ c ≤ (4 : Int)) ∧ ((↑p.classes.length : Int) - (x + (1 : Int))).toNat < ((↑p.classes.length : Int) - x).toNat))) ∧ (decide (x < (↑p.classes.length : Int)) = false → ((((SV.ptr 0 0 20).same (SV.ptr 0 0 20) ∧ (SV.il .i64 0).same (SV.si .i64 0) ∧ True) ∧ (SObj.cells (Prob.ss p) 27 20 false).same (SObj.cells (Prob.ss p) 27 20 false) ∧ True) ∧ (0 : Int) ≤ (0 : Int) ∧ (0 : Int) ≤ (↑p.offers.length : Int) ∧ checkL p [] p.offers = checkL p [] p.offers) ∧ ∀ (x : Int), (0 : Int) ≤ x ∧ x ≤ (↑p.offers.length : Int) ∧ checkL p [] p.offers = checkL p (List.map Off.key (List.take x.toNat p.offers)) (List.drop x.toNat p.offers) → (decide (x < (↑p.offers.length : Int)) = true → (0 : Int) ≤ x ∧ x < (↑p.offers.length : Int) ∧ x.toNat < p.offers.length ∧ (decide ((nthD p.offers x.toNat SId.off.dflt).bidder < (0 : Int)) = true → (SV.il .i64 6).same (SV.si .i64 (checkE p))) ∧ (decide ((nthD p.offers x.toNat SId.off.dflt).bidder < (0 : Int)) = false → (decide ((↑p.classes.length : Int) ≤ (nthD p.offers x.toNat SId.off.dflt).bidder) = true → (SV.il .i64 6).same (SV.si .i64 (checkE p))) ∧ (decide ((↑p.classes.length : Int) ≤ (nthD p.offers x.toNat SId.off.dflt).bidder) = false → (decide ((nthD p.offers x.toNat SId.off.dflt).value < (1 : Int)) = true → (SV.il .i64 4).same (SV.si .i64 (checkE p))) ∧ (decide ((nthD p.offers x.toNat SId.off.dflt).value < (1 : Int)) = false → (decide ((1000000 : Int) < (nthD p.offers x.toNat SId.off.dflt).value) = true → (SV.il .i64 4).same (SV.si .i64 (checkE p))) ∧ (decide ((1000000 : Int) < (nthD p.offers x.toNat SId.off.dflt).value) = false → True ∧ ((!(nthD p.offers x.toNat SId.off.dflt).want.ok) = true → (SV.il .i64 4).same (SV.si .i64 (checkE p))) ∧ ((!(nthD p.offers x.toNat SId.off.dflt).want.ok) = false → ((decide ((nthD p.offers x.toNat SId.off.dflt).want.a0 = (0 : Int)) && (decide ((nthD p.offers x.toNat SId.off.dflt).want.a1 = (0 : Int)) && (decide ((nthD p.offers x.toNat SId.off.dflt).want.a2 = (0 : Int)) && (decide ((nthD p.offers x.toNat SId.off.dflt).want.a3 = (0 : Int)) && (decide ((nthD p.offers x.toNat SId.off.dflt).want.a4 = (0 : Int)) && (decide ((nthD p.offers x.toNat SId.off.dflt).want.a5 = (0 : Int)) && true)))))) = true → (SV.il .i64 4).same (SV.si .i64 (checkE p))) ∧ ((decide ((nthD p.offers x.toNat SId.off.dflt).want.a0 = (0 : Int)) && (decide ((nthD p.offers x.toNat SId.off.dflt).want.a1 = (0 : Int)) && (decide ((nthD p.offers x.toNat SId.off.dflt).want.a2 = (0 : Int)) && (decide ((nthD p.offers x.toNat SId.off.dflt).want.a3 = (0 : Int)) && (decide ((nthD p.offers x.toNat SId.off.dflt).want.a4 = (0 : Int)) && (decide ((nthD p.offers x.toNat SId.off.dflt).want.a5 = (0 : Int)) && true)))))) = false → (p.classes.length ≤ 8 ∧ 1 ≤ 1000 ∧ ∀ (x_1 : Off), x_1 ∈ [nthD p.offers x.toNat SId.off.dflt] → (0 : Int) ≤ x_1.bidder ∧ x_1.bidder < (↑p.classes.length : Int) ∧ x_1.want.ok = true) ∧ ((!fitsB p [nthD p.offers x.toNat SId.off.dflt]) = true → (SV.il .i64 14).same (SV.si .i64 (checkE p))) ∧ ((!fitsB p [nthD p.offers x.toNat SId.off.dflt]) = false → ((((SV.ptr 0 0 20).same (SV.ptr 0 0 20) ∧ (SV.si .i64 x).same (SV.si .i64 x) ∧ (SV.ptr 1 0 8).same (SV.ptr 1 0 8) ∧ (SV.il .i64 0).same (SV.si .i64 0) ∧ True) ∧ (SObj.cells (Prob.ss p) 27 20 false).same (SObj.cells (Prob.ss p) 27 20 false) ∧ (SObj.cells [SV.si .i64 (nthD p.offers x.toNat SId.off.dflt).bidder, SV.si .i64 (nthD p.offers x.toNat SId.off.dflt).want.a0, SV.si .i64 (nthD p.offers x.toNat SId.off.dflt).want.a1, SV.si .i64 (nthD p.offers x.toNat SId.off.dflt).want.a2, SV.si .i64 (nthD p.offers x.toNat SId.off.dflt).want.a3, SV.si .i64 (nthD p.offers x.toNat SId.off.dflt).want.a4, SV.si .i64 (nthD p.offers x.toNat SId.off.dflt).want.a5, SV.si .i64 (nthD p.offers x.toNat SId.off.dflt).value] 43 8 false).same (SObj.cells [SV.si .i64 (nthD p.offers x.toNat SId.off.dflt).bidder, SV.si .i64 (nthD p.offers x.toNat SId.off.dflt).want.a0, SV.si .i64 (nthD p.offers x.toNat SId.off.dflt).want.a1, SV.si .i64 (nthD p.offers x.toNat SId.off.dflt).want.a2, SV.si .i64 (nthD p.offers x.toNat SId.off.dflt).want.a3, SV.si .i64 (nthD p.offers x.toNat SId.off.dflt).want.a4, SV.si .i64 (nthD p.offers x.toNat SId.off.dflt).want.a5, SV.si .i64 (nthD p.offers x.toNat SId.off.dflt).value] 43 8 false) ∧ True) ∧ (0 : Int) ≤ (0 : Int) ∧ (0 : Int) ≤ x ∧ ∀ (j : Nat), (↑j : Int) < (0 : Int) → (nthD p.offers j SId.off.dflt).key ≠ (nthD p.offers x.toNat SId.off.dflt).key) ∧ ∀ (x_1 : Int), ((0 : Int) ≤ x_1 ∧ x_1 ≤ x ∧ ∀ (j : Nat), (↑j : Int) < x_1 → (nthD p.offers j SId.off.dflt).key ≠ (nthD p.offers x.toNat SId.off.dflt).key) → (decide (x_1 < x) = true → (0 : Int) ≤ x_1 ∧ x_1 < (↑p.offers.length : Int) ∧ x_1.toNat < p.offers.length ∧ (decide ((nthD p.offers x_1.toNat SId.off.dflt).bidder = (nthD p.offers x.toNat SId.off.dflt).bidder) = true → (0 : Int) ≤ x_1 ∧ x_1 < (↑p.offers.length : Int) ∧ x_1.toNat < p.offers.length ∧ ((decide ((nthD p.offers x_1.toNat SId.off.dflt).want.a0 = (nthD p.offers x.toNat SId.off.dflt).want.a0) && (decide ((nthD p.offers x_1.toNat SId.off.dflt).want.a1 = (nthD p.offers x.toNat SId.off.dflt).want.a1) && (decide ((nthD p.offers x_1.toNat SId.off.dflt).want.a2 = (nthD p.offers x.toNat SId.off.dflt).want.a2) && (decide ((nthD p.offers x_1.toNat SId.off.dflt).want.a3 = (nthD p.offers x.toNat SId.off.dflt).want.a3) && (decide ((nthD p.offers x_1.toNat SId.off.dflt).want.a4 = (nthD p.offers x.toNat SId.off.dflt).want.a4) && (decide ((nthD p.offers x_1.toNat SId.off.dflt).want.a5 = (nthD p.offers x.toNat SId.off.dflt).want.a5) && true)))))) = true → (SV.il .i64 7).same (SV.si .i64 (checkE p))) ∧ ((decide ((nthD p.offers x_1.toNat SId.off.dflt).want.a0 = (nthD p.offers x.toNat SId.off.dflt).want.a0) && (decide ((nthD p.offers x_1.toNat SId.off.dflt).want.a1 = (nthD p.offers x.toNat SId.off.dflt).want.a1) && (decide ((nthD p.offers x_1.toNat SId.off.dflt).want.a2 = (nthD p.offers x.toNat SId.off.dflt).want.a2) && (decide ((nthD p.offers x_1.toNat SId.off.dflt).want.a3 = (nthD p.offers x.toNat SId.off.dflt).want.a3) && (decide ((nthD p.offers x_1.toNat SId.off.dflt).want.a4 = (nthD p.offers x.toNat SId.off.dflt).want.a4) && (decide ((nthD p.offers x_1.toNat SId.off.dflt).want.a5 = (nthD p.offers x.toNat SId.off.dflt).want.a5) && true)))))) = false → inR .i64 (x_1 + (1 : Int)) ∧ (((SV.ptr 0 0 20).same (SV.ptr 0 0 20) ∧ (SV.si .i64 x).same (SV.si .i64 x) ∧ (SV.ptr 1 0 8).same (SV.ptr 1 0 8) ∧ (SV.si .i64 (x_1 + (1 : Int))).same (SV.si .i64 (x_1 + (1 : Int))) ∧ True) ∧ (SObj.cells (Prob.ss p) 27 20 false).same (SObj.cells (Prob.ss p) 27 20 false) ∧ (SObj.cells [SV.si .i64 (nthD p.offers x.toNat SId.off.dflt).bidder, SV.si .i64 (nthD p.offers x.toNat SId.off.dflt).want.a0, SV.si .i64 (nthD p.offers x.toNat SId.off.dflt).want.a1, SV.si .i64 (nthD p.offers x.toNat SId.off.dflt).want.a2, SV.si .i64 (nthD p.offers x.toNat SId.off.dflt).want.a3, SV.si .i64 (nthD p.offers x.toNat SId.off.dflt).want.a4, SV.si .i64 (nthD p.offers x.toNat SId.off.dflt).want.a5, SV.si .i64 (nthD p.offers x.toNat SId.off.dflt).value] 43 8 false).same (SObj.cells [SV.si .i64 (nthD p.offers x.toNat SId.off.dflt).bidder, SV.si .i64 (nthD p.offers x.toNat SId.off.dflt).want.a0, SV.si .i64 (nthD p.offers x.toNat SId.off.dflt).want.a1, SV.si .i64 (nthD p.offers x.toNat SId.off.dflt).want.a2, SV.si .i64 (nthD p.offers x.toNat SId.off.dflt).want.a3, SV.si .i64 (nthD p.offers x.toNat SId.off.dflt).want.a4, SV.si .i64 (nthD p.offers x.toNat SId.off.dflt).want.a5, SV.si .i64 (nthD p.offers x.toNat SId.off.dflt).value] 43 8 false) ∧ True) ∧ ((0 : Int) ≤ x_1 + (1 : Int) ∧ x_1 + (1 : Int) ≤ x ∧ ∀ (j : Nat), (↑j : Int) < x_1 + (1 : Int) → (nthD p.offers j SId.off.dflt).key ≠ (nthD p.offers x.toNat SId.off.dflt).key) ∧ (x - (x_1 + (1 : Int))).toNat < (x - x_1).toNat)) ∧ (decide ((nthD p.offers x_1.toNat SId.off.dflt).bidder = (nthD p.offers x.toNat SId.off.dflt).bidder) = false → inR .i64 (x_1 + (1 : Int)) ∧ (((SV.ptr 0 0 20).same (SV.ptr 0 0 20) ∧ (SV.si .i64 x).same (SV.si .i64 x) ∧ (SV.ptr 1 0 8).same (SV.ptr 1 0 8) ∧ (SV.si .i64 (x_1 + (1 : Int))).same (SV.si .i64 (x_1 + (1 : Int))) ∧ True) ∧ (SObj.cells (Prob.ss p) 27 20 false).same (SObj.cells (Prob.ss p) 27 20 false) ∧ (SObj.cells [SV.si .i64 (nthD p.offers x.toNat SId.off.dflt).bidder, SV.si .i64 (nthD p.offers x.toNat SId.off.dflt).want.a0, SV.si .i64 (nthD p.offers x.toNat SId.off.dflt).want.a1, SV.si .i64 (nthD p.offers x.toNat SId.off.dflt).want.a2, SV.si .i64 (nthD p.offers x.toNat SId.off.dflt).want.a3, SV.si .i64 (nthD p.offers x.toNat SId.off.dflt).want.a4, SV.si .i64 (nthD p.offers x.toNat SId.off.dflt).want.a5, SV.si .i64 (nthD p.offers x.toNat SId.off.dflt).value] 43 8 false).same (SObj.cells [SV.si .i64 (nthD p.offers x.toNat SId.off.dflt).bidder, SV.si .i64 (nthD p.offers x.toNat SId.off.dflt).want.a0, SV.si .i64 (nthD p.offers x.toNat SId.off.dflt).want.a1, SV.si .i64 (nthD p.offers x.toNat SId.off.dflt).want.a2, SV.si .i64 (nthD p.offers x.toNat SId.off.dflt).want.a3, SV.si .i64 (nthD p.offers x.toNat SId.off.dflt).want.a4, SV.si .i64 (nthD p.offers x.toNat SId.off.dflt).want.a5, SV.si .i64 (nthD p.offers x.toNat SId.off.dflt).value] 43 8 false) ∧ True) ∧ ((0 : Int) ≤ x_1 + (1 : Int) ∧ x_1 + (1 : Int) ≤ x ∧ ∀ (j : Nat), (↑j : Int) < x_1 + (1 : Int) → (nthD p.offers j SId.off.dflt).key ≠ (nthD p.offers x.toNat SId.off.dflt).key) ∧ (x - (x_1 + (1 : Int))).toNat < (x - x_1).toNat)) ∧ (decide (x_1 < x) = false → inR .i64 (x + (1 : Int)) ∧ (((SV.ptr 0 0 20).same (SV.ptr 0 0 20) ∧ (SV.si .i64 (x + (1 : Int))).same (SV.si .i64 (x + (1 : Int))) ∧ True) ∧ (SObj.cells (Prob.ss p) 27 20 false).same (SObj.cells (Prob.ss p) 27 20 false) ∧ True) ∧ ((0 : Int) ≤ x + (1 : Int) ∧ x + (1 : Int) ≤ (↑p.offers.length : Int) ∧ checkL p [] p.offers = checkL p (List.map Off.key (List.take (x + (1 : Int)).toNat p.offers)) (List.drop (x + (1 : Int)).toNat p.offers)) ∧ ((↑p.offers.length : Int) - (x + (1 : Int))).toNat < ((↑p.offers.length : Int) - x).toNat))))))))) ∧ (decide (x < (↑p.offers.length : Int)) = false → (SV.il .i64 0).same (SV.si .i64 (checkE p))))))))) (by kernel_rfl) ?_
  simp only [bun_z, bun_d]
  simp only [decide_eq_true_eq, decide_eq_false_iff_not, same_il_si, same_si_si, same_si_il, same_il_il, same_sb_sb, same_bl_sb, same_row, same_tup2, same_tup3, same_nil, same_row_nil, same_rfl, osame_rfl, inR_i64, eq_self, true_and, and_true, Bool.and_eq_true, Bool.not_eq_true', Bool.not_eq_false']
  have e4 : frameE p = 4 → (4 : Int) = checkE p := fun h => by simp [checkE, h]
  have e3 : frameE p = 3 → (3 : Int) = checkE p := fun h => by simp [checkE, h]
  refine ⟨fun hs => e4 (frame_sup hs), fun hs => ⟨⟨by omega, by omega, fun j hj => by omega⟩, ?_⟩⟩
  rintro k ⟨hk0, hk1, hk⟩
  refine ⟨fun hlt => ?_, fun hge => ?_⟩
  · have bad : ¬ prodOk p k.toNat → (4 : Int) = checkE p := fun h => e4 (frame_prod hs (by omega) h)
    have nxt : prodOk p k.toNat → ∀ (j : Nat), (j : Int) < k + 1 → prodOk p j := fun h j hj => by
      by_cases hj2 : (j : Int) < k
      · exact hk j hj2
      · rw [show j = k.toNat from by omega]; exact h
    repeat' (first | refine And.intro ?_ ?_ | intro _)
    all_goals first
      | omega
      | exact bad fun hh => by have h2 := prodOk_iff.1 hh; omega
      | exact nxt (prodOk_iff.2 (by omega)) _ (by assumption)
  · have hall : ∀ j : Nat, j < 6 → prodOk p j := fun j hj => hk j (by omega)
    refine ⟨fun h => e3 (frame_len hs hall (.inl (by omega))), fun h8 => ⟨fun h => e3 (frame_len hs hall (.inr (by omega))), fun h160 => ⟨⟨by omega, by omega, by simp⟩, ?_⟩⟩⟩
    rintro i ⟨hi0, hi1, hi⟩
    refine ⟨fun hlt => ?_, fun hge => ?_⟩
    · have hm := nthD_mem (d := 0) (show i.toNat < p.classes.length by omega)
      refine ⟨by omega, by omega, by omega, fun h => e4 (frame_cls hs hall (by omega) hm (by omega)), fun h1 => ⟨by omega, by omega, by omega, fun h => e4 (frame_cls hs hall (by omega) hm (by omega)), fun h2 => ⟨by omega, ⟨by omega, by omega, ?_⟩, by omega⟩⟩⟩
      exact mem_take_next hi0 hlt hi (by omega)
    · rw [show i.toNat = p.classes.length from by omega, List.take_length] at hi
      have hz : frameE p = 0 := frame_ok hs hall (by omega) hi
      have ce : checkE p = checkL p [] p.offers := by simp [checkE, hz]
      refine ⟨⟨by omega, by omega⟩, ?_⟩
      rintro i ⟨hi0, hi1, hi⟩
      refine ⟨fun hlt => ?_, fun hge => ?_⟩
      · rw [drop_nth (d := SId.off.dflt) hi0 hlt] at hi
        generalize hx : nthD p.offers i.toNat SId.off.dflt = x at hi ⊢
        have oe : ∀ c : Int, c ≠ 0 → offerE p x = c → c = checkE p := fun c hc h => by
          rw [ce, hi]
          simp only [checkL, h]
          rw [if_pos hc]
        have se : ∀ c : Int, c ≠ 0 → simpleE p.classes.length x = c → c = checkE p := fun c hc h => oe c hc (by
          unfold offerE
          rw [if_pos (by omega), h])
        refine ⟨by omega, by omega, by omega, fun h1 => ?_, fun h1 => ⟨fun h2 => ?_, fun h2 => ⟨fun h3 => ?_, fun h3 => ⟨fun h4 => ?_, fun h4 => ⟨fun h5 => ?_, fun h5 => ⟨fun h6 => ?_, fun h6 => ?_⟩⟩⟩⟩⟩⟩
        · exact se 6 (by decide) (by unfold simpleE; rw [if_pos (by omega)])
        · exact se 6 (by decide) (by unfold simpleE; rw [if_pos (by omega)])
        · exact se 4 (by decide) (by unfold simpleE; rw [if_neg (by omega), if_pos (by omega)])
        · exact se 4 (by decide) (by unfold simpleE; rw [if_neg (by omega), if_pos (by omega)])
        · exact se 4 (by decide) (by unfold simpleE; rw [if_neg (by omega), if_neg (by omega), h5]; rfl)
        · have hs0 : simpleE p.classes.length x = 0 := by unfold simpleE; rw [if_neg (by omega), if_neg (by omega), h5]; rfl
          exact oe 4 (by decide) (by simp [offerE, hs0, h6])
        · have hs0 : simpleE p.classes.length x = 0 := by unfold simpleE; rw [if_neg (by omega), if_neg (by omega), h5]; rfl
          refine ⟨⟨by omega, by omega, fun y hy => ?_⟩, fun h7 => ?_, fun h7 => ⟨⟨by omega, by omega, fun j hj => by omega⟩, ?_⟩⟩
          · rw [List.mem_singleton.1 hy]
            exact ⟨by omega, by omega, h5⟩
          · exact oe 14 (by decide) (by simp [offerE, hs0, h6, h7])
          · have ho0 : offerE p x = 0 := by simp [offerE, hs0, h6, h7]
            rintro k ⟨hk0, hk1, hk⟩
            have hnx : (nthD p.offers k.toNat SId.off.dflt).key ≠ x.key → ∀ j : Nat, (j : Int) < k + 1 → (nthD p.offers j SId.off.dflt).key ≠ x.key := fun h j hj => by
              by_cases hj2 : (j : Int) < k
              · exact hk j hj2
              · rw [show j = k.toNat from by omega]; exact h
            refine ⟨fun hlt2 => ⟨by omega, by omega, by omega, fun h8 => ⟨by omega, by omega, by omega, fun h9 => ?_, fun h9 => ⟨by omega, ⟨by omega, by omega, ?_⟩, by omega⟩⟩, fun h8 => ⟨by omega, ⟨by omega, by omega, ?_⟩, by omega⟩⟩, fun hge2 => ⟨by omega, ⟨by omega, by omega, ?_⟩, by omega⟩⟩
            · have hk9 : (nthD p.offers k.toNat SId.off.dflt).key = x.key := by
                show BKey.mk _ _ = BKey.mk _ _
                rw [h8, h9]
              have hmem : x.key ∈ (p.offers.take i.toNat).map Off.key := by
                rw [← hk9]
                refine List.mem_map.2 ⟨_, ?_, rfl⟩
                rw [nthD_eq (by omega)]
                exact List.mem_take_iff_getElem.2 ⟨k.toNat, by omega, rfl⟩
              rw [ce, hi]
              simp only [checkL, ho0, ne_eq, not_true, if_false, if_pos hmem]
            · refine hnx fun e => h9 ?_
              injection e
            · refine hnx fun e => h8 ?_
              injection e
            · have hnm : x.key ∉ (p.offers.take i.toNat).map Off.key := by
                intro hmem
                obtain ⟨o, ho, he⟩ := List.mem_map.1 hmem
                obtain ⟨j, hj, rfl⟩ := mem_take_nth (d := SId.off.dflt) hi1 ho
                exact hk j (by omega) he
              rw [hi, take_nth (d := SId.off.dflt) hi0 hlt, hx]
              simp only [checkL, ho0, ne_eq, not_true, if_false, if_neg hnm, List.map_append, List.map_cons, List.map_nil]
      · rw [show i.toNat = p.offers.length from by omega, List.drop_length] at hi
        rw [ce, hi]
        rfl

end Go.Vi
/-
  Contracts: the reference's feasible lists.
  Conditions: none.
-/
set_option maxRecDepth 100000
set_option maxHeartbeats 4000000
set_option linter.unusedSimpArgs false
set_option linter.unusedVariables false
namespace Go.Vi
open Go.Proofs.Ytigbjjkijfkeeaa.Ir
open Go.Proofs

def M2 : List SCtr := r24 :: r69 :: M1
theorem hM2 : ∀ c ∈ M2, Holds Try.prog c := by
  simp only [M2, List.forall_mem_cons]
  exact ⟨h24, h69, hM1⟩

def r109 : SCtr := ⟨109, Prob × List Int, .cons codP (.one (codR (.i .i64))), fun a => a.2.length ≤ 1000000000000, fun a => .tup [.row .off (pickL a.1 a.2), .sb (pickOk a.1 a.2)]⟩
def lastI (c : List Int) (i : Int) : Int := if i = 0 then -1 else nthD c (i - 1).toNat 0
def Λ109 (a : Prob × List Int) : Nat → LoopAnn
  | 3 => .inv (Int × List Off) (fun x => ⟨[(1, .row (.i .i64) a.2), (2, .ptr 0 0 20), (6, .ow 1 x.2.length 8), (7, .si .i64 x.1)],
      [.cells a.1.ss 27 20 false, .row .off x.2 43 true]⟩) (fun s => (iS s 7, oS .off s 1))
    (fun x => 0 ≤ x.1 ∧ x.1 ≤ a.2.length ∧ x.2.length = x.1 ∧ -1 ≤ lastI a.2 x.1 ∧ pickGo a.1.offers (-1) a.2 = (pickGo a.1.offers (lastI a.2 x.1) (a.2.drop x.1.toNat)).map (x.2 ++ ·)) (fun x => (a.2.length - x.1).toNat) fun _ _ => .look
  | _ => .look

theorem h109 : Holds Try.prog r109 := by
  refine con (L := M2) r109 F109 Λ109 (OwnOK.none _) hM2 (by kernel_rfl) (by kernel_rfl) (fun _ => rfl) ?_
  rintro ⟨p, c⟩ (hc : c.length ≤ 1000000000000)
  refine vcOf (((((SV.row (SId.i .i64) c).same (SV.row (SId.i .i64) c) ∧ (SV.ptr 0 0 20).same (SV.ptr 0 0 20) ∧ (SV.ow 1 0 8).same (SV.ow 1 0 8) ∧ (SV.il .i64 0).same (SV.si .i64 0) ∧ True) ∧ (SObj.cells (Prob.ss p) 27 20 false).same (SObj.cells (Prob.ss p) 27 20 false) ∧ (SObj.row SId.off [] 43 true).same (SObj.row SId.off [] 43 true) ∧ True) ∧ (0 : Int) ≤ (0 : Int) ∧ (0 : Int) ≤ (↑c.length : Int) ∧ (0 : Int) = (0 : Int) ∧ (-1 : Int) ≤ lastI c (0 : Int) ∧ pickGo p.offers (-1 : Int) c = Option.map (fun x ↦ ((0 : Int), []).snd ++ x) (pickGo p.offers (lastI c (0 : Int)) c)) ∧ ∀ (x : Int × List Off), (0 : Int) ≤ x.fst ∧ x.fst ≤ (↑c.length : Int) ∧ (↑x.snd.length : Int) = x.fst ∧ (-1 : Int) ≤ lastI c x.fst ∧ pickGo p.offers (-1 : Int) c = Option.map (fun x_1 ↦ x.snd ++ x_1) (pickGo p.offers (lastI c x.fst) (List.drop x.fst.toNat c)) → (decide (x.fst < (↑c.length : Int)) = true → (0 : Int) ≤ x.fst ∧ x.fst < (↑c.length : Int) ∧ x.fst.toNat < c.length ∧ (decide (nthD c x.fst.toNat (0 : Int) < (0 : Int)) = true → (SV.tup [SV.row (SId.i .i64) [], SV.bl false]).same (SV.tup [SV.row SId.off (pickL p c), SV.sb (pickOk p c)])) ∧ (decide (nthD c x.fst.toNat (0 : Int) < (0 : Int)) = false → (0 : Int) ≤ x.fst ∧ x.fst < (↑c.length : Int) ∧ x.fst.toNat < c.length ∧ (decide ((↑p.offers.length : Int) ≤ nthD c x.fst.toNat (0 : Int)) = true → (SV.tup [SV.row (SId.i .i64) [], SV.bl false]).same (SV.tup [SV.row SId.off (pickL p c), SV.sb (pickOk p c)])) ∧ (decide ((↑p.offers.length : Int) ≤ nthD c x.fst.toNat (0 : Int)) = false → (decide ((0 : Int) < x.fst) = true → (0 : Int) ≤ x.fst ∧ x.fst < (↑c.length : Int) ∧ x.fst.toNat < c.length ∧ inR .i64 (x.fst - (1 : Int)) ∧ (0 : Int) ≤ x.fst - (1 : Int) ∧ x.fst - (1 : Int) < (↑c.length : Int) ∧ (x.fst - (1 : Int)).toNat < c.length ∧ (decide (nthD c x.fst.toNat (0 : Int) ≤ nthD c (x.fst - (1 : Int)).toNat (0 : Int)) = true → (SV.tup [SV.row (SId.i .i64) [], SV.bl false]).same (SV.tup [SV.row SId.off (pickL p c), SV.sb (pickOk p c)])) ∧ (decide (nthD c x.fst.toNat (0 : Int) ≤ nthD c (x.fst - (1 : Int)).toNat (0 : Int)) = false → (0 : Int) ≤ x.fst ∧ x.fst < (↑c.length : Int) ∧ x.fst.toNat < c.length ∧ (0 : Int) ≤ nthD c x.fst.toNat (0 : Int) ∧ nthD c x.fst.toNat (0 : Int) < (↑p.offers.length : Int) ∧ (nthD c x.fst.toNat (0 : Int)).toNat < p.offers.length ∧ x.snd.length = x.snd.length ∧ (x.snd.length + 1) * 64 ≤ 140737488355328 ∧ x.snd.length + 1 ≤ 1000000000000 ∧ inR .i64 (x.fst + (1 : Int)) ∧ (((SV.row (SId.i .i64) c).same (SV.row (SId.i .i64) c) ∧ (SV.ptr 0 0 20).same (SV.ptr 0 0 20) ∧ (SV.ow 1 (x.snd ++ [nthD p.offers (nthD c x.fst.toNat (0 : Int)).toNat SId.off.dflt]).length 8).same (SV.ow 1 (x.snd ++ [nthD p.offers (nthD c x.fst.toNat (0 : Int)).toNat SId.off.dflt]).length 8) ∧ (SV.si .i64 (x.fst + (1 : Int))).same (SV.si .i64 (x.fst + (1 : Int))) ∧ True) ∧ (SObj.cells (Prob.ss p) 27 20 false).same (SObj.cells (Prob.ss p) 27 20 false) ∧ (SObj.row SId.off (x.snd ++ [nthD p.offers (nthD c x.fst.toNat (0 : Int)).toNat SId.off.dflt]) 43 true).same (SObj.row SId.off (x.snd ++ [nthD p.offers (nthD c x.fst.toNat (0 : Int)).toNat SId.off.dflt]) 43 true) ∧ True) ∧ ((0 : Int) ≤ x.fst + (1 : Int) ∧ x.fst + (1 : Int) ≤ (↑c.length : Int) ∧ (↑(x.snd ++ [nthD p.offers (nthD c x.fst.toNat (0 : Int)).toNat SId.off.dflt]).length : Int) = x.fst + (1 : Int) ∧ (-1 : Int) ≤ lastI c (x.fst + (1 : Int)) ∧ pickGo p.offers (-1 : Int) c = Option.map (fun x_1 ↦ (x.fst + (1 : Int), x.snd ++ [nthD p.offers (nthD c x.fst.toNat (0 : Int)).toNat SId.off.dflt]).snd ++ x_1) (pickGo p.offers (lastI c (x.fst + (1 : Int))) (List.drop (x.fst + (1 : Int)).toNat c))) ∧ ((↑c.length : Int) - (x.fst + (1 : Int))).toNat < ((↑c.length : Int) - x.fst).toNat)) ∧ (decide ((0 : Int) < x.fst) = false → (0 : Int) ≤ x.fst ∧ x.fst < (↑c.length : Int) ∧ x.fst.toNat < c.length ∧ (0 : Int) ≤ nthD c x.fst.toNat (0 : Int) ∧ nthD c x.fst.toNat (0 : Int) < (↑p.offers.length : Int) ∧ (nthD c x.fst.toNat (0 : Int)).toNat < p.offers.length ∧ x.snd.length = x.snd.length ∧ (x.snd.length + 1) * 64 ≤ 140737488355328 ∧ x.snd.length + 1 ≤ 1000000000000 ∧ inR .i64 (x.fst + (1 : Int)) ∧ (((SV.row (SId.i .i64) c).same (SV.row (SId.i .i64) c) ∧ (SV.ptr 0 0 20).same (SV.ptr 0 0 20) ∧ (SV.ow 1 (x.snd ++ [nthD p.offers (nthD c x.fst.toNat (0 : Int)).toNat SId.off.dflt]).length 8).same (SV.ow 1 (x.snd ++ [nthD p.offers (nthD c x.fst.toNat (0 : Int)).toNat SId.off.dflt]).length 8) ∧ (SV.si .i64 (x.fst + (1 : Int))).same (SV.si .i64 (x.fst + (1 : Int))) ∧ True) ∧ (SObj.cells (Prob.ss p) 27 20 false).same (SObj.cells (Prob.ss p) 27 20 false) ∧ (SObj.row SId.off (x.snd ++ [nthD p.offers (nthD c x.fst.toNat (0 : Int)).toNat SId.off.dflt]) 43 true).same (SObj.row SId.off (x.snd ++ [nthD p.offers (nthD c x.fst.toNat (0 : Int)).toNat SId.off.dflt]) 43 true) ∧ True) ∧ ((0 : Int) ≤ x.fst + (1 : Int) ∧ x.fst + (1 : Int) ≤ (↑c.length : Int) ∧ (↑(x.snd ++ [nthD p.offers (nthD c x.fst.toNat (0 : Int)).toNat SId.off.dflt]).length : Int) = x.fst + (1 : Int) ∧ (-1 : Int) ≤ lastI c (x.fst + (1 : Int)) ∧ pickGo p.offers (-1 : Int) c = Option.map (fun x_1 ↦ (x.fst + (1 : Int), x.snd ++ [nthD p.offers (nthD c x.fst.toNat (0 : Int)).toNat SId.off.dflt]).snd ++ x_1) (pickGo p.offers (lastI c (x.fst + (1 : Int))) (List.drop (x.fst + (1 : Int)).toNat c))) ∧ ((↑c.length : Int) - (x.fst + (1 : Int))).toNat < ((↑c.length : Int) - x.fst).toNat)))) ∧ (decide (x.fst < (↑c.length : Int)) = false → x.snd.length = x.snd.length ∧ (SV.tup [SV.row SId.off x.snd, SV.bl true]).same (SV.tup [SV.row SId.off (pickL p c), SV.sb (pickOk p c)]))) (by kernel_rfl) ?_
  simp only [decide_eq_true_eq, decide_eq_false_iff_not, same_il_si, same_si_si, same_si_il, same_il_il, same_sb_sb, same_bl_sb, same_row, same_tup2, same_tup3, same_nil, same_row_nil, same_rfl, osame_rfl, inR_i64, eq_self, true_and, and_true, Bool.and_eq_true, Bool.not_eq_true', Bool.not_eq_false']
  have hbad : pickGo p.offers (-1) c = none → (SV.row (.i .i64) []).same (SV.row .off (pickL p c)) ∧ false = pickOk p c := fun h => ⟨same_row_nil.2 (by simp [pickL, h]), by simp [pickOk, h]⟩
  refine ⟨⟨by omega, by omega, by simp [lastI], by simp [lastI]⟩, ?_⟩
  rintro ⟨i, out⟩ ⟨hi0, hi1, hlen, hla, hi⟩
  simp only at hi0 hi1 hlen hla hi ⊢
  refine ⟨fun hlt => ?_, fun hge => ?_⟩
  · rw [drop_nth (d := 0) hi0 hlt] at hi
    have hl1 : lastI c (i + 1) = nthD c i.toNat 0 := by unfold lastI; rw [if_neg (by omega), show i + 1 - 1 = i by omega]
    have hl2 : i ≠ 0 → lastI c i = nthD c (i - 1).toNat 0 := fun h => by unfold lastI; rw [if_neg h]
    have hl3 : i = 0 → lastI c i = -1 := fun h => by unfold lastI; rw [if_pos h]
    generalize hx : nthD c i.toNat 0 = x at hi hl1 ⊢
    simp only [pickGo] at hi
    have hgood : ¬ (x ≤ lastI c i ∨ p.offers.length ≤ x) → pickGo p.offers (-1) c = (pickGo p.offers (lastI c (i + 1)) (c.drop (i + 1).toNat)).map fun r => (out ++ [nthD p.offers x.toNat SId.off.dflt]) ++ r := fun h => by
      rw [if_neg h] at hi
      rw [hi, hl1, Option.map_map]
      congr 1
      funext r
      simp
    have bad : (x ≤ lastI c i ∨ p.offers.length ≤ x) → (SV.row (.i .i64) []).same (SV.row .off (pickL p c)) ∧ false = pickOk p c := fun h => hbad (by rw [hi, if_pos h]; rfl)
    have hlen2 : ((out ++ [nthD p.offers x.toNat SId.off.dflt]).length : Int) = i + 1 := by simp; omega
    refine ⟨by omega, by omega, by omega, fun h1 => bad (.inl (by omega)), fun h1 => ⟨by omega, by omega, by omega, fun h2 => bad (.inr (by omega)), fun h2 => ⟨fun h3 => ⟨by omega, by omega, by omega, by omega, by omega, by omega, by omega, fun h4 => bad (.inl (by rw [hl2 (by omega)]; omega)), fun h4 => ?_⟩, fun h3 => ?_⟩⟩⟩
    · have := hl2 (by omega)
      refine ⟨by omega, by omega, by omega, by omega, by omega, by omega, by omega, by omega, by omega, ⟨by omega, by omega, hlen2, by omega, hgood (by omega)⟩, by omega⟩
    · have := hl3 (by omega)
      refine ⟨by omega, by omega, by omega, by omega, by omega, by omega, by omega, by omega, by omega, ⟨by omega, by omega, hlen2, by omega, hgood (by omega)⟩, by omega⟩
  · rw [show i.toNat = c.length from by omega, List.drop_length] at hi
    simp only [pickGo, Option.map_some, List.append_nil] at hi
    exact ⟨by simp [pickL, hi], by simp [pickOk, hi]⟩

def M3 : List SCtr := r109 :: M2
theorem hM3 : ∀ c ∈ M3, Holds Try.prog c := by
  simp only [M3, List.forall_mem_cons]
  exact ⟨h109, hM2⟩

def r55 : SCtr := ⟨55, Prob × List Int, .cons codP (.one (codR (.i .i64))), fun a => a.2.length ≤ 1000000000000, fun a => .si .i64 (feasE a.1 a.2)⟩
theorem h55 : Holds Try.prog r55 := by
  refine con (L := M3) r55 F55 (fun p => fun _ => .look) (OwnOK.none _) hM3 (by kernel_rfl) (by kernel_rfl) (fun _ => rfl) ?_
  rintro ⟨p, c⟩ (hc : c.length ≤ 1000000000000)
  refine vcOf (True ∧ (decide (checkE p ≠ (0 : Int)) = true → (SV.si .i64 (checkE p)).same (SV.si .i64 (feasE p c))) ∧ (decide (checkE p ≠ (0 : Int)) = false → c.length ≤ 1000000000000 ∧ ((!pickOk p c) = true → (SV.il .i64 4).same (SV.si .i64 (feasE p c))) ∧ ((!pickOk p c) = false → (p.classes.length ≤ 8 ∧ (pickL p c).length ≤ 1000 ∧ ∀ (x : Off), x ∈ pickL p c → (0 : Int) ≤ x.bidder ∧ x.bidder < (↑p.classes.length : Int) ∧ x.want.ok = true) ∧ ((!fitsB p (pickL p c)) = true → (SV.il .i64 14).same (SV.si .i64 (feasE p c))) ∧ ((!fitsB p (pickL p c)) = false → (SV.il .i64 0).same (SV.si .i64 (feasE p c)))))) (by kernel_rfl) ?_
  simp only [decide_eq_true_eq, decide_eq_false_iff_not, same_il_si, same_si_si, same_si_il, same_il_il, same_sb_sb, same_bl_sb, same_row, same_tup2, same_tup3, same_nil, same_row_nil, same_rfl, osame_rfl, inR_i64, eq_self, true_and, and_true, Bool.and_eq_true, Bool.not_eq_true', Bool.not_eq_false']
  refine ⟨fun h => by simp [feasE, h], fun h => ?_⟩
  have hz : checkE p = 0 := Classical.not_not.1 h
  obtain ⟨hf, ho⟩ := check_zero hz
  obtain ⟨f1, f2, f3, f4, f5⟩ := frame_zero hf
  refine ⟨hc, fun h1 => by simp [feasE, hz, h1], fun h1 => ⟨⟨f3, ?_, ?_⟩, fun h2 => by simp [feasE, hz, h1, h2], fun h2 => by simp [feasE, hz, h1, h2]⟩⟩
  · unfold pickOk at h1
    obtain ⟨r, hr⟩ := Option.isSome_iff_exists.1 h1
    have := pick_len (by omega) hr
    simp only [pickL, hr, Option.getD_some]
    rcases this with h3 | rfl
    · omega
    · simp
  · unfold pickOk at h1
    obtain ⟨r, hr⟩ := Option.isSome_iff_exists.1 h1
    simp only [pickL, hr, Option.getD_some]
    intro x hx
    have hs := simple_zero (offer_zero (ho x (pick_mem (by omega) hr x hx))).1
    exact ⟨hs.1, hs.2.1, hs.2.2.2.2⟩

def sumV : List Off → Int
  | [] => 0
  | x :: l => x.value + sumV l
def valueS (p : Prob) (c : List Int) : Int := if checkE p = 0 then sumV (pickL p c) else 0

theorem sumV_append : ∀ {l m : List Off}, sumV (l ++ m) = sumV l + sumV m
  | [], m => by simp [sumV]
  | x :: l, m => by simp only [List.cons_append, sumV, @sumV_append l m]; omega
theorem sumV_take {l : List Off} {i : Int} (h0 : 0 ≤ i) (h : i < l.length) : sumV (l.take (i + 1).toNat) = sumV (l.take i.toNat) + (nthD l i.toNat SId.off.dflt).value := by
  rw [take_nth (d := SId.off.dflt) h0 h, sumV_append]
  simp [sumV]

def r58 : SCtr := ⟨58, Prob × List Int, .cons codP (.one (codR (.i .i64))), fun a => a.2.length ≤ 1000000000000, fun a => .si .i64 (valueS a.1 a.2)⟩
def Λ58 (a : Prob × List Int) : Nat → LoopAnn
  | 6 => .inv Int (fun i => ⟨[(5, .row .off (pickL a.1 a.2)), (7, .si .i64 (sumV ((pickL a.1 a.2).take i.toNat))), (8, .si .i64 i)], [.cells a.1.ss 27 20 false]⟩) (fun s => iS s 8)
    (fun i => 0 ≤ i ∧ i ≤ (pickL a.1 a.2).length) (fun i => ((pickL a.1 a.2).length - i).toNat) fun _ _ => .look
  | _ => .look

theorem picks_ok {p : Prob} {c : List Int} (h : checkE p = 0) : (pickL p c).length ≤ 160 ∧ ∀ x ∈ pickL p c, x ∈ p.offers := by
  have hg := good_of h
  unfold pickL
  cases hr : pickGo p.offers (-1) c with
  | none => simp
  | some r =>
    refine ⟨?_, fun x hx => pick_mem (by omega) hr x hx⟩
    have h1 := pick_len (by omega) hr
    have h2 := hg.2.1
    simp only [Option.getD_some]
    rcases h1 with h1 | rfl
    · omega
    · simp

theorem sum_val_bd {p : Prob} (hg : Good p) : ∀ {l : List Off}, (∀ x ∈ l, x ∈ p.offers) → 0 ≤ sumV l ∧ sumV l ≤ 1000000 * l.length
  | [], _ => by simp [sumV]
  | x :: l, h => by
    have h1 := hg.2.2.2.2 x (h x (by simp))
    have h2 := @sum_val_bd p hg l fun y hy => h y (by simp [hy])
    simp only [sumV, List.length_cons]
    omega

theorem h58 : Holds Try.prog r58 := by
  refine con (L := M3) r58 F58 Λ58 (OwnOK.none _) hM3 (by kernel_rfl) (by kernel_rfl) (fun _ => rfl) ?_
  rintro ⟨p, c⟩ (hc : c.length ≤ 1000000000000)
  refine vcOf (True ∧ (decide (checkE p ≠ (0 : Int)) = true → (SV.il .i64 0).same (SV.si .i64 (valueS p c))) ∧ (decide (checkE p ≠ (0 : Int)) = false → c.length ≤ 1000000000000 ∧ ((((SV.row SId.off (pickL p c)).same (SV.row SId.off (pickL p c)) ∧ (SV.il .i64 0).same (SV.si .i64 (sumV [])) ∧ (SV.il .i64 0).same (SV.si .i64 0) ∧ True) ∧ (SObj.cells (Prob.ss p) 27 20 false).same (SObj.cells (Prob.ss p) 27 20 false) ∧ True) ∧ (0 : Int) ≤ (0 : Int) ∧ (0 : Int) ≤ (↑(pickL p c).length : Int)) ∧ ∀ (x : Int), (0 : Int) ≤ x ∧ x ≤ (↑(pickL p c).length : Int) → (decide (x < (↑(pickL p c).length : Int)) = true → (0 : Int) ≤ x ∧ x < (↑(pickL p c).length : Int) ∧ x.toNat < (pickL p c).length ∧ inR .i64 (sumV (List.take x.toNat (pickL p c)) + (nthD (pickL p c) x.toNat SId.off.dflt).value) ∧ inR .i64 (x + (1 : Int)) ∧ (((SV.row SId.off (pickL p c)).same (SV.row SId.off (pickL p c)) ∧ (SV.si .i64 (sumV (List.take x.toNat (pickL p c)) + (nthD (pickL p c) x.toNat SId.off.dflt).value)).same (SV.si .i64 (sumV (List.take (x + (1 : Int)).toNat (pickL p c)))) ∧ (SV.si .i64 (x + (1 : Int))).same (SV.si .i64 (x + (1 : Int))) ∧ True) ∧ (SObj.cells (Prob.ss p) 27 20 false).same (SObj.cells (Prob.ss p) 27 20 false) ∧ True) ∧ ((0 : Int) ≤ x + (1 : Int) ∧ x + (1 : Int) ≤ (↑(pickL p c).length : Int)) ∧ ((↑(pickL p c).length : Int) - (x + (1 : Int))).toNat < ((↑(pickL p c).length : Int) - x).toNat) ∧ (decide (x < (↑(pickL p c).length : Int)) = false → (SV.si .i64 (sumV (List.take x.toNat (pickL p c)))).same (SV.si .i64 (valueS p c))))) (by kernel_rfl) ?_
  simp only [decide_eq_true_eq, decide_eq_false_iff_not, same_il_si, same_si_si, same_si_il, same_il_il, same_sb_sb, same_bl_sb, same_row, same_tup2, same_tup3, same_nil, same_row_nil, same_rfl, osame_rfl, inR_i64, eq_self, true_and, and_true, Bool.and_eq_true, Bool.not_eq_true', Bool.not_eq_false']
  refine ⟨fun h => by simp [valueS, h], fun h => ⟨hc, ⟨by simp [sumV], by omega⟩, ?_⟩⟩
  have hz : checkE p = 0 := Classical.not_not.1 h
  have hg := good_of hz
  obtain ⟨q1, q2⟩ := picks_ok (c := c) hz
  rintro i ⟨hi0, hi1⟩
  refine ⟨fun hlt => ?_, fun hge => ?_⟩
  · have hs := sumV_take hi0 hlt
    have hb := sum_val_bd hg (l := (pickL p c).take i.toNat) fun x hx => q2 x (List.mem_of_mem_take hx)
    have hb2 := sum_val_bd hg (l := (pickL p c).take (i + 1).toNat) fun x hx => q2 x (List.mem_of_mem_take hx)
    simp only [List.length_take] at hb hb2
    refine ⟨by omega, by omega, by omega, by omega, by omega, hs.symm, by omega, by omega⟩
  · rw [show i.toNat = (pickL p c).length from by omega, List.take_length]
    simp [valueS, hz]


def cmpL : List Int → List Int → Int
  | [], [] => 0
  | [], _ :: _ => -1
  | _ :: _, [] => 1
  | a :: l, b :: m => if a < b then -1 else if b < a then 1 else cmpL l m

def r32 : SCtr := ⟨32, List Int × List Int, .cons (codR (.i .i64)) (.one (codR (.i .i64))), fun a => a.1.length ≤ 1000000000000 ∧ a.2.length ≤ 1000000000000, fun a => .si .i64 (cmpL a.1 a.2)⟩
def Λ32 (a : List Int × List Int) : Nat → LoopAnn
  | 2 => .inv Int (fun i => ⟨[(0, .row (.i .i64) a.1), (1, .row (.i .i64) a.2), (5, .si .i64 i)], []⟩) (fun s => iS s 5)
    (fun i => 0 ≤ i ∧ i ≤ a.1.length ∧ i ≤ a.2.length ∧ cmpL a.1 a.2 = cmpL (a.1.drop i.toNat) (a.2.drop i.toNat)) (fun i => (a.1.length - i).toNat) fun _ _ => .look
  | _ => .look

theorem h32 : Holds Try.prog r32 := by
  refine con (L := []) r32 F32 Λ32 (OwnOK.none _) (by simp) (by kernel_rfl) (by kernel_rfl) (fun _ => rfl) ?_
  rintro ⟨a, b⟩ ⟨ha, hb⟩
  refine vcOf (((((SV.row (SId.i .i64) a).same (SV.row (SId.i .i64) a) ∧ (SV.row (SId.i .i64) b).same (SV.row (SId.i .i64) b) ∧ (SV.il .i64 0).same (SV.si .i64 0) ∧ True) ∧ True) ∧ (0 : Int) ≤ (0 : Int) ∧ (0 : Int) ≤ (↑a.length : Int) ∧ (0 : Int) ≤ (↑b.length : Int) ∧ cmpL a b = cmpL a b) ∧ ∀ (x : Int), (0 : Int) ≤ x ∧ x ≤ (↑a.length : Int) ∧ x ≤ (↑b.length : Int) ∧ cmpL a b = cmpL (List.drop x.toNat a) (List.drop x.toNat b) → (decide (x < (↑a.length : Int)) = true → (decide (x < (↑b.length : Int)) = true → (0 : Int) ≤ x ∧ x < (↑a.length : Int) ∧ x.toNat < a.length ∧ (0 : Int) ≤ x ∧ x < (↑b.length : Int) ∧ x.toNat < b.length ∧ (decide (nthD a x.toNat (0 : Int) < nthD b x.toNat (0 : Int)) = true → (SV.il .i64 (-1 : Int)).same (SV.si .i64 (cmpL a b))) ∧ (decide (nthD a x.toNat (0 : Int) < nthD b x.toNat (0 : Int)) = false → (0 : Int) ≤ x ∧ x < (↑a.length : Int) ∧ x.toNat < a.length ∧ (0 : Int) ≤ x ∧ x < (↑b.length : Int) ∧ x.toNat < b.length ∧ (decide (nthD b x.toNat (0 : Int) < nthD a x.toNat (0 : Int)) = true → (SV.il .i64 1).same (SV.si .i64 (cmpL a b))) ∧ (decide (nthD b x.toNat (0 : Int) < nthD a x.toNat (0 : Int)) = false → inR .i64 (x + (1 : Int)) ∧ (((SV.row (SId.i .i64) a).same (SV.row (SId.i .i64) a) ∧ (SV.row (SId.i .i64) b).same (SV.row (SId.i .i64) b) ∧ (SV.si .i64 (x + (1 : Int))).same (SV.si .i64 (x + (1 : Int))) ∧ True) ∧ True) ∧ ((0 : Int) ≤ x + (1 : Int) ∧ x + (1 : Int) ≤ (↑a.length : Int) ∧ x + (1 : Int) ≤ (↑b.length : Int) ∧ cmpL a b = cmpL (List.drop (x + (1 : Int)).toNat a) (List.drop (x + (1 : Int)).toNat b)) ∧ ((↑a.length : Int) - (x + (1 : Int))).toNat < ((↑a.length : Int) - x).toNat))) ∧ (decide (x < (↑b.length : Int)) = false → (decide ((↑a.length : Int) < (↑b.length : Int)) = true → (SV.il .i64 (-1 : Int)).same (SV.si .i64 (cmpL a b))) ∧ (decide ((↑a.length : Int) < (↑b.length : Int)) = false → (decide ((↑b.length : Int) < (↑a.length : Int)) = true → (SV.il .i64 1).same (SV.si .i64 (cmpL a b))) ∧ (decide ((↑b.length : Int) < (↑a.length : Int)) = false → (SV.il .i64 0).same (SV.si .i64 (cmpL a b)))))) ∧ (decide (x < (↑a.length : Int)) = false → (decide ((↑a.length : Int) < (↑b.length : Int)) = true → (SV.il .i64 (-1 : Int)).same (SV.si .i64 (cmpL a b))) ∧ (decide ((↑a.length : Int) < (↑b.length : Int)) = false → (decide ((↑b.length : Int) < (↑a.length : Int)) = true → (SV.il .i64 1).same (SV.si .i64 (cmpL a b))) ∧ (decide ((↑b.length : Int) < (↑a.length : Int)) = false → (SV.il .i64 0).same (SV.si .i64 (cmpL a b)))))) (by kernel_rfl) ?_
  simp only at ha hb
  simp only [decide_eq_true_eq, decide_eq_false_iff_not, same_il_si, same_si_si, same_si_il, same_il_il, same_sb_sb, same_bl_sb, same_row, same_tup2, same_tup3, same_nil, same_row_nil, same_rfl, osame_rfl, inR_i64, eq_self, true_and, and_true, Bool.and_eq_true, Bool.not_eq_true', Bool.not_eq_false']
  refine ⟨⟨by omega, by omega, by omega⟩, ?_⟩
  rintro i ⟨hi0, hia, hib, hi⟩
  refine ⟨fun h1 => ⟨fun h2 => ?_, fun h2 => ?_⟩, fun h1 => ?_⟩
  · rw [drop_nth (d := 0) hi0 h1, drop_nth (d := 0) hi0 h2] at hi
    simp only [cmpL] at hi
    refine ⟨by omega, by omega, by omega, by omega, by omega, by omega, fun h3 => ?_, fun h3 => ⟨by omega, by omega, by omega, by omega, by omega, by omega, fun h4 => ?_, fun h4 => ⟨by omega, ⟨by omega, by omega, by omega, ?_⟩, by omega⟩⟩⟩
    · rw [if_pos h3] at hi
      exact hi.symm
    · rw [if_neg h3, if_pos h4] at hi
      exact hi.symm
    · rw [if_neg h3, if_neg h4] at hi
      exact hi
  · rw [drop_nth (d := 0) hi0 h1, show i.toNat = b.length from by omega, List.drop_length] at hi
    simp only [cmpL] at hi
    refine ⟨by omega, fun h3 => ⟨by omega, by omega⟩⟩
  · rw [show i.toNat = a.length from by omega, List.drop_length] at hi
    refine ⟨fun h2 => ?_, fun h2 => ⟨fun h3 => by omega, fun h3 => ?_⟩⟩
    · rw [← Int.toNat_natCast a.length, drop_nth (d := 0) (by omega) h2] at hi
      exact hi.symm
    · rw [show a.length = b.length from by omega, List.drop_length] at hi
      exact hi.symm

/-- The sum of bundles. -/
def sumB (l : List Bun) : Bun := ⟨(l.map Bun.a0).sum, (l.map Bun.a1).sum, (l.map Bun.a2).sum, (l.map Bun.a3).sum, (l.map Bun.a4).sum, (l.map Bun.a5).sum⟩
def offsI (p : Prob) (l : List Int) : List Off := l.map fun i => nthD p.offers i.toNat SId.off.dflt
/-- Offers that can be accepted together. -/
def FeasL (p : Prob) (L : List Off) : Prop := (L.map Off.bidder).Nodup ∧ (sumB (L.map Off.want)).le p.supply = true ∧ (sumB (L.map (outS p))).le p.opn = true
instance (p : Prob) (L : List Off) : Decidable (FeasL p L) := by unfold FeasL; infer_instance
def ref23 (p : Prob) (l : List Int) : Bool := decide (FeasL p (offsI p l))
def Bun.add (a b : Bun) : Bun := ⟨a.a0 + b.a0, a.a1 + b.a1, a.a2 + b.a2, a.a3 + b.a3, a.a4 + b.a4, a.a5 + b.a5⟩
theorem sumB_append {l m : List Bun} : sumB (l ++ m) = (sumB l).add (sumB m) := by simp [sumB, Bun.add]
theorem sumB_cons {b : Bun} {l : List Bun} : sumB (b :: l) = b.add (sumB l) := by simp [sumB, Bun.add]
/-- Within 0 and n. -/
def Bun.bd (b : Bun) (n : Int) : Prop := (0 ≤ b.a0 ∧ b.a0 ≤ n) ∧ (0 ≤ b.a1 ∧ b.a1 ≤ n) ∧ (0 ≤ b.a2 ∧ b.a2 ≤ n) ∧ (0 ≤ b.a3 ∧ b.a3 ≤ n) ∧ (0 ≤ b.a4 ∧ b.a4 ≤ n) ∧ (0 ≤ b.a5 ∧ b.a5 ≤ n)
theorem sumB_bd : ∀ {l : List Bun}, (∀ b ∈ l, b.ok = true) → (sumB l).bd (4 * l.length)
  | [], _ => by simp [sumB, Bun.bd]
  | b :: l, h => by
    have h1 := Bun.ok_iff.1 (h b (by simp))
    have h2 := @sumB_bd l fun c hc => h c (by simp [hc])
    rw [sumB_cons]
    simp only [Bun.bd, Bun.add, List.length_cons] at h2 ⊢
    omega
theorem outS_ok {p : Prob} {x : Off} (h : x.want.ok = true) : (outS p x).ok = true := by
  have h1 := Bun.ok_iff.1 h
  rw [Bun.ok_iff]
  simp only [outS, outK, oc]
  refine ⟨?_, ?_, ?_, ?_, ?_, ?_⟩ <;> split <;> omega
theorem offs_ok {p : Prob} (hg : Good p) {l : List Int} (h : ∀ i ∈ l, 0 ≤ i ∧ i < p.offers.length) : ∀ x ∈ offsI p l, x ∈ p.offers := by
  intro x hx
  obtain ⟨i, hi, rfl⟩ := List.mem_map.1 hx
  have := h i hi
  exact nthD_mem (by omega)

end Go.Vi
/-
  Contracts: which offers fit together (the reference).
  Conditions: none.
-/
set_option maxRecDepth 100000
set_option maxHeartbeats 4000000
set_option linter.unusedSimpArgs false
set_option linter.unusedVariables false
namespace Go.Vi
open Go.Proofs.Ytigbjjkijfkeeaa.Ir
open Go.Proofs

end Go.Vi
/-
  Contracts: the best allocation (the reference).
  Conditions: none.
-/
set_option maxRecDepth 100000
set_option maxHeartbeats 4000000
set_option linter.unusedSimpArgs false
set_option linter.unusedVariables false
namespace Go.Vi
open Go.Proofs.Ytigbjjkijfkeeaa.Ir
open Go.Proofs

def better (a b : Alloc) : Alloc := if b.value < a.value ∨ a.value = b.value ∧ cmpL a.chosen b.chosen < 0 then a else b
def leftN (p : Prob) (i : Int) : Nat := (p.offers.length - i).toNat
theorem better_len {a b : Alloc} {n : Nat} (ha : a.chosen.length ≤ n) (hb : b.chosen.length ≤ n) : (better a b).chosen.length ≤ n := by
  unfold better
  split <;> assumption
end Go.Vi
/-
  Contracts: what a coalition's offers are worth (the reference).
  Conditions: none.
-/
set_option maxRecDepth 100000
set_option maxHeartbeats 4000000
set_option linter.unusedSimpArgs false
set_option linter.unusedVariables false
namespace Go.Vi
open Go.Proofs.Ytigbjjkijfkeeaa.Ir
open Go.Proofs

def hasB (m b : Int) : Bool := decide (binK.andI .i64 (m / 2 ^ b.toNat) 1 = 1)
def allR (p : Prob) (w : Int) (n : Nat) : Int := ((List.range n).map fun i : Nat => if (i : Int) ≠ w then (2 : Int) ^ i else 0).sum
theorem allR_succ (p : Prob) (w : Int) (n : Nat) : allR p w (n + 1) = allR p w n + if (n : Int) ≠ w then (2 : Int) ^ n else 0 := by
  unfold allR
  rw [List.range_succ, List.map_append]
  simp
theorem allR_bd (p : Prob) (w : Int) : ∀ n : Nat, 0 ≤ allR p w n ∧ allR p w n < 2 ^ n
  | 0 => by simp [allR]
  | n + 1 => by
    have h := allR_bd p w n
    rw [allR_succ, Int.pow_succ]
    split <;> omega
end Go.Vi
/-
  Contracts: Vickrey payments (the reference).
  Conditions: none.
-/
set_option maxRecDepth 100000
set_option maxHeartbeats 4000000
set_option linter.unusedSimpArgs false
set_option linter.unusedVariables false
namespace Go.Vi
open Go.Proofs.Ytigbjjkijfkeeaa.Ir
open Go.Proofs

theorem feas_ok {p : Prob} {c : List Int} (hz : feasE p c = 0) : checkE p = 0 ∧ pickOk p c = true ∧ Good p ∧ c.length ≤ 160 ∧ ∀ i ∈ c, 0 ≤ i ∧ i < p.offers.length := by
  have hck : checkE p = 0 := by
    unfold feasE at hz
    split at hz
    · rename_i h1; exact absurd hz h1
    · rename_i h1; exact Classical.not_not.1 h1
  have hpk : pickOk p c = true := by
    unfold feasE at hz
    rw [if_neg (by simp [hck])] at hz
    split at hz
    · cases hz
    · rename_i h1; simpa using h1
  have hg := good_of hck
  obtain ⟨r, hr⟩ := Option.isSome_iff_exists.1 hpk
  obtain ⟨hr1, hidx⟩ := pick_idx (by omega) hr
  refine ⟨hck, hpk, hg, ?_, hidx⟩
  have h1 := pick_len (by omega) hr
  have h2 := hg.2.1
  rcases h1 with h1 | rfl
  · omega
  · simp at hr1; omega

end Go.Vi
/-
  Contracts: Vickrey payments of all bidders (the reference).
  Conditions: none.
-/
set_option maxRecDepth 100000
set_option maxHeartbeats 4000000
set_option linter.unusedSimpArgs false
set_option linter.unusedVariables false
namespace Go.Vi
open Go.Proofs.Ytigbjjkijfkeeaa.Ir
open Go.Proofs

end Go.Vi
/-
  Plain law: the worth of a coalition by bidders is the greatest value of offers that fit together.
  Conditions: none.
-/
set_option maxRecDepth 100000
set_option maxHeartbeats 4000000
set_option linter.unusedSimpArgs false
set_option linter.unusedVariables false
namespace Go.Vi
open Go.Proofs

/-- Offers of different bidders of a list, within what is left. -/
structure FitL (p : Prob) (fs : List Int) (l o : Bun) (L : List Off) : Prop where
  nd : (L.map Off.bidder).Nodup
  mem : ∀ x ∈ L, x ∈ p.offers ∧ x.bidder ∈ fs
  w : (sumB (L.map Off.want)).le l = true
  o : (sumB (L.map (outS p))).le o = true

theorem fold_ge {p : Prob} {fs : List Int} {l o : Bun} : ∀ {xs : List Off} {v : Int}, v ≤ xs.foldl (stepV p fs l o) v ∧ ∀ x ∈ xs, x.want.le l = true → (outS p x).le o = true → x.value + valL p fs (l.sub x.want) (o.sub (outS p x)) ≤ xs.foldl (stepV p fs l o) v
  | [], v => by simp
  | y :: xs, v => by
    obtain ⟨h1, h2⟩ := @fold_ge p fs l o xs (stepV p fs l o v y)
    have hv : v ≤ stepV p fs l o v y := by
      unfold stepV
      split <;> omega
    refine ⟨by simp only [List.foldl_cons]; omega, fun x hx hw ho => ?_⟩
    simp only [List.foldl_cons]
    rcases List.mem_cons.1 hx with rfl | hx
    · have : x.value + valL p fs (l.sub x.want) (o.sub (outS p x)) ≤ stepV p fs l o v x := by
        unfold stepV
        rw [if_pos (by simp [hw, ho])]
        omega
      omega
    · exact h2 x hx hw ho

theorem fold_at {p : Prob} {fs : List Int} {l o : Bun} : ∀ {xs : List Off} {v : Int}, xs.foldl (stepV p fs l o) v = v ∨ ∃ x ∈ xs, x.want.le l = true ∧ (outS p x).le o = true ∧ xs.foldl (stepV p fs l o) v = x.value + valL p fs (l.sub x.want) (o.sub (outS p x))
  | [], v => by simp
  | y :: xs, v => by
    simp only [List.foldl_cons]
    rcases @fold_at p fs l o xs (stepV p fs l o v y) with h | ⟨x, hx, h1, h2, h3⟩
    · rw [h]
      unfold stepV
      split
      · rename_i hc
        simp only [Bool.and_eq_true] at hc
        by_cases hm : v ≤ y.value + valL p fs (l.sub y.want) (o.sub (outS p y))
        · exact .inr ⟨y, by simp, hc.1, hc.2, by omega⟩
        · left; omega
      · exact .inl rfl
    · exact .inr ⟨x, by simp [hx], h1, h2, h3⟩

theorem sumB_mid {x : Bun} {s t : List Bun} : sumB (s ++ x :: t) = x.add (sumB (s ++ t)) := by
  rw [sumB_append, sumB_append, sumB_cons]
  simp only [Bun.add, Bun.mk.injEq]
  omega
theorem sumV_mid {x : Off} {s t : List Off} : sumV (s ++ x :: t) = x.value + sumV (s ++ t) := by
  rw [sumV_append, sumV_append]
  simp only [sumV]
  omega

theorem fit_bd {p : Prob} (hg : Good p) {L : List Off} (h : ∀ x ∈ L, x ∈ p.offers) : (sumB (L.map Off.want)).bd (4 * L.length) ∧ (sumB (L.map (outS p))).bd (4 * L.length) := by
  have h1 : ∀ x ∈ L, x.want.ok = true := fun x hx => (hg.2.2.2.2 x (h x hx)).2.2.1
  have a := @sumB_bd (L.map Off.want) (fun b hb => by obtain ⟨x, hx, rfl⟩ := List.mem_map.1 hb; exact h1 x hx)
  have b := @sumB_bd (L.map (outS p)) (fun b hb => by obtain ⟨x, hx, rfl⟩ := List.mem_map.1 hb; exact outS_ok (h1 x hx))
  rw [List.length_map] at a b
  exact ⟨a, b⟩

theorem fit_le {p : Prob} (hg : Good p) : ∀ {fs : List Int} {l o : Bun} {L : List Off}, FitL p fs l o L → sumV L ≤ valL p fs l o
  | [], l, o, L, h => by
    have : L = [] := by
      cases L with
      | nil => rfl
      | cons x L => exact absurd (h.mem x (by simp)).2 (by simp)
    subst this
    simp [sumV, valL]
  | f :: fs, l, o, L, h => by
    obtain ⟨g1, g2⟩ := @fold_ge p fs l o (byB p f) (valL p fs l o)
    have hval : valL p (f :: fs) l o = (byB p f).foldl (stepV p fs l o) (valL p fs l o) := rfl
    rw [hval]
    by_cases hx : ∃ x ∈ L, x.bidder = f
    · obtain ⟨x, hx, hf⟩ := hx
      obtain ⟨s, t, rfl⟩ := List.append_of_mem hx
      obtain ⟨nd, mem, w, o'⟩ := h
      have hmx := mem x hx
      have hst : ∀ y ∈ s ++ t, y ∈ p.offers := fun y hy => (mem y (by simp only [List.mem_append, List.mem_cons] at hy ⊢; rcases hy with h | h <;> simp [h])).1
      obtain ⟨b1, b2⟩ := fit_bd hg hst
      rw [List.map_append, List.map_cons, sumB_mid, Bun.le_iff, ← List.map_append] at w o'
      simp only [Bun.add, Bun.bd] at w o' b1 b2
      have hw : x.want.le l = true := by rw [Bun.le_iff]; omega
      have ho : (outS p x).le o = true := by rw [Bun.le_iff]; omega
      have hg2 := g2 x (List.mem_filter.2 ⟨hmx.1, by simp [hf]⟩) hw ho
      rw [List.map_append, List.map_cons, List.nodup_append] at nd
      have hne : ∀ y ∈ s ++ t, y.bidder ≠ f := fun y hy => by
        rw [← hf]
        rcases List.mem_append.1 hy with hy | hy
        · exact nd.2.2 _ (List.mem_map_of_mem hy) _ (by simp)
        · intro e
          have := (List.nodup_cons.1 nd.2.1).1
          exact this (e ▸ List.mem_map_of_mem hy)
      have hrec : sumV (s ++ t) ≤ valL p fs (l.sub x.want) (o.sub (outS p x)) := fit_le hg
        { nd := by
            rw [List.map_append, List.nodup_append]
            exact ⟨nd.1, (List.nodup_cons.1 nd.2.1).2, fun a ha b hb => nd.2.2 a ha b (by simp [hb])⟩
          mem := fun y hy => by
            have h1 := mem y (by simp only [List.mem_append, List.mem_cons] at hy ⊢; rcases hy with h | h <;> simp [h])
            refine ⟨h1.1, ?_⟩
            rcases List.mem_cons.1 h1.2 with h2 | h2
            · exact absurd h2 (hne y hy)
            · exact h2
          w := by rw [Bun.le_iff]; simp only [Bun.sub]; omega
          o := by rw [Bun.le_iff]; simp only [Bun.sub]; omega }
      rw [sumV_mid]
      omega
    · have := fit_le hg (fs := fs) (l := l) (o := o) (L := L) ⟨h.nd, fun y hy => by
        have h1 := h.mem y hy
        refine ⟨h1.1, ?_⟩
        rcases List.mem_cons.1 h1.2 with h2 | h2
        · exact absurd ⟨y, hy, h2⟩ hx
        · exact h2, h.w, h.o⟩
      omega

theorem fit_at {p : Prob} (hg : Good p) : ∀ {fs : List Int} {l o : Bun}, fs.Nodup → Bun.zero.le l = true → Bun.zero.le o = true → ∃ L, FitL p fs l o L ∧ sumV L = valL p fs l o
  | [], l, o, _, hl, ho => ⟨[], ⟨by simp, by simp, hl, ho⟩, rfl⟩
  | f :: fs, l, o, hn, hl, ho => by
    have hn2 := List.nodup_cons.1 hn
    have hval : valL p (f :: fs) l o = (byB p f).foldl (stepV p fs l o) (valL p fs l o) := rfl
    rw [hval]
    rcases @fold_at p fs l o (byB p f) (valL p fs l o) with h | ⟨x, hx, h1, h2, h3⟩
    · rw [h]
      obtain ⟨L, hL, hv⟩ := fit_at hg (l := l) (o := o) hn2.2 hl ho
      exact ⟨L, ⟨hL.nd, fun y hy => ⟨(hL.mem y hy).1, by simp [(hL.mem y hy).2]⟩, hL.w, hL.o⟩, hv⟩
    · rw [h3]
      have w1 := Bun.le_iff.1 h1
      have w2 := Bun.le_iff.1 h2
      obtain ⟨L, hL, hv⟩ := fit_at hg (l := l.sub x.want) (o := o.sub (outS p x)) hn2.2 (by rw [Bun.le_iff]; simp only [Bun.zero, Bun.sub]; omega) (by rw [Bun.le_iff]; simp only [Bun.zero, Bun.sub]; omega)
      have hx2 := List.mem_filter.1 hx
      have hxf : x.bidder = f := by simpa using hx2.2
      refine ⟨x :: L, ⟨?_, ?_, ?_, ?_⟩, by simp only [sumV, hv]⟩
      · rw [List.map_cons, List.nodup_cons]
        refine ⟨fun hm => ?_, hL.nd⟩
        obtain ⟨y, hy, he⟩ := List.mem_map.1 hm
        exact hn2.1 (by rw [← hxf, ← he]; exact (hL.mem y hy).2)
      · intro y hy
        rcases List.mem_cons.1 hy with rfl | hy
        · exact ⟨hx2.1, by simp [hxf]⟩
        · exact ⟨(hL.mem y hy).1, by simp [(hL.mem y hy).2]⟩
      · have := Bun.le_iff.1 hL.w
        rw [List.map_cons, sumB_cons, Bun.le_iff]
        simp only [Bun.add, Bun.sub] at this ⊢
        omega
      · have := Bun.le_iff.1 hL.o
        rw [List.map_cons, sumB_cons, Bun.le_iff]
        simp only [Bun.add, Bun.sub] at this ⊢
        omega

end Go.Vi
/-
  Plain law: what the reference's search finds.
  Conditions: none.
-/
set_option maxRecDepth 100000
set_option maxHeartbeats 4000000
set_option linter.unusedSimpArgs false
set_option linter.unusedVariables false
namespace Go.Vi
open Go.Proofs

theorem offsI_append {p : Prob} {l m : List Int} : offsI p (l ++ m) = offsI p l ++ offsI p m := by simp [offsI]
theorem offsI_cons {p : Prob} {i : Int} {l : List Int} : offsI p (i :: l) = nthD p.offers i.toNat SId.off.dflt :: offsI p l := rfl

/-- Valid indices. -/
def IdxOk (p : Prob) (l : List Int) : Prop := ∀ i ∈ l, 0 ≤ i ∧ i < p.offers.length

theorem feas_pre {p : Prob} (hg : Good p) {L M : List Off} (hM : ∀ x ∈ M, x ∈ p.offers) (h : FeasL p (L ++ M)) : FeasL p L := by
  obtain ⟨b1, b2⟩ := fit_bd hg hM
  obtain ⟨h1, h2, h3⟩ := h
  rw [List.map_append, sumB_append, Bun.le_iff] at h2 h3
  simp only [Bun.add, Bun.bd] at h2 h3 b1 b2
  refine ⟨?_, ?_, ?_⟩
  · rw [List.map_append, List.nodup_append] at h1
    exact h1.1
  · rw [Bun.le_iff]; omega
  · rw [Bun.le_iff]; omega

/-- Increasing indices from 'i' on, below 'i + k'. -/
def IncR (i : Int) (k : Nat) (t : List Int) : Prop := t.Pairwise (· < ·) ∧ ∀ j ∈ t, i ≤ j ∧ j < i + k

end Go.Vi
/-
  Plain law: the reference's best allocation, and its worth by bidders.
  Conditions: none.
-/
set_option maxRecDepth 100000
set_option maxHeartbeats 4000000
set_option linter.unusedSimpArgs false
set_option linter.unusedVariables false
namespace Go.Vi
open Go.Proofs

theorem ref_nil {p : Prob} (hg : Good p) : ref23 p [] = true := by
  have h1 := Bun.ok_iff.1 hg.2.2.1
  have h2 := Bun.ok_iff.1 hg.2.2.2.1
  unfold ref23
  refine decide_eq_true ⟨by simp [offsI], ?_, ?_⟩
  · rw [Bun.le_iff]; simp [offsI, sumB]; omega
  · rw [Bun.le_iff]; simp [offsI, sumB]; omega

def memChk : Bool := (List.range 256).all fun m => [0, 1, 2, 3, 4, 5, 6, 7].all fun b : Int => hasB m b == decide (b ∈ memL m)
theorem mem_chk : memChk = true := by kernel_rfl
theorem has_mem {m b : Int} (h0 : 0 ≤ m) (h1 : m < 256) (h2 : 0 ≤ b) (h3 : b < 8) : hasB m b = decide (b ∈ memL m) := by
  have h := mem_chk
  simp only [memChk, List.all_eq_true, List.mem_range] at h
  have h := h m.toNat (by omega) b (by
    have : b = 0 ∨ b = 1 ∨ b = 2 ∨ b = 3 ∨ b = 4 ∨ b = 5 ∨ b = 6 ∨ b = 7 := by omega
    rcases this with rfl | rfl | rfl | rfl | rfl | rfl | rfl | rfl <;> simp)
  rw [show ((m.toNat : Nat) : Int) = m by omega] at h
  simpa using h

theorem inc_idx {p : Prob} {t : List Int} (h : IncR 0 p.offers.length t) : IdxOk p t := fun j hj => by
  have := h.2 j hj
  omega

theorem perm_V {L M : List Off} (h : L.Perm M) : sumV L = sumV M := by
  induction h with
  | nil => rfl
  | cons x _ ih => simp only [sumV]; omega
  | swap x y l => simp only [sumV]; omega
  | trans _ _ a b => omega
theorem perm_B {L M : List Bun} (h : L.Perm M) : sumB L = sumB M := by
  induction h with
  | nil => rfl
  | cons x _ ih => rw [sumB_cons, sumB_cons, ih]
  | swap x y l =>
    simp only [sumB_cons, Bun.add, Bun.mk.injEq]
    omega
  | trans _ _ a b => rw [a, b]
theorem perm_F {p : Prob} {L M : List Off} (h : L.Perm M) (hF : FeasL p L) : FeasL p M := by
  obtain ⟨h1, h2, h3⟩ := hF
  refine ⟨((h.map _).nodup_iff).1 h1, ?_, ?_⟩
  · rw [← perm_B (h.map _)]; exact h2
  · rw [← perm_B (h.map _)]; exact h3

theorem idx_filter (q : Off → Bool) : ∀ (O pre : List Off), ∃ t : List Int, t.Pairwise (· < ·) ∧ (∀ j ∈ t, (pre.length : Int) ≤ j ∧ j < pre.length + O.length) ∧ (t.map fun j => nthD (pre ++ O) j.toNat SId.off.dflt) = O.filter q
  | [], pre => ⟨[], by simp, by simp, by simp⟩
  | x :: O, pre => by
    obtain ⟨t, h1, h2, h3⟩ := idx_filter q O (pre ++ [x])
    have e : pre ++ [x] ++ O = pre ++ x :: O := by simp
    rw [e] at h3
    have hl : ((pre ++ [x]).length : Int) = pre.length + 1 := by simp
    have hr : ∀ j ∈ t, (pre.length : Int) + 1 ≤ j ∧ j < pre.length + 1 + O.length := fun j hj => by
      have := h2 j hj
      omega
    by_cases hq : q x = true
    · refine ⟨(pre.length : Int) :: t, List.pairwise_cons.2 ⟨fun j hj => by have := hr j hj; omega, h1⟩, fun j hj => ?_, ?_⟩
      · simp only [List.length_cons]
        rcases List.mem_cons.1 hj with rfl | hj
        · omega
        · have := hr j hj; omega
      · rw [List.map_cons, h3, List.filter_cons, if_pos hq]
        congr 1
        rw [nthD_eq (by simp)]
        simp
    · refine ⟨t, h1, fun j hj => ?_, ?_⟩
      · have := hr j hj
        simp only [List.length_cons]
        omega
      · rw [h3, List.filter_cons, if_neg hq]

theorem keys_nodup {p : Prob} : ∀ {l : List Off} {seen : List BKey}, checkL p seen l = 0 → (l.map Off.key).Nodup ∧ ∀ x ∈ l, x.key ∉ seen
  | [], _, _ => by simp
  | o :: r, seen, h => by
    simp only [checkL] at h
    split at h
    · rename_i h1; exact absurd h h1
    · split at h
      · cases h
      · rename_i h1 h2
        obtain ⟨k1, k2⟩ := keys_nodup h
        refine ⟨?_, fun x hx => ?_⟩
        · rw [List.map_cons, List.nodup_cons]
          refine ⟨fun hm => ?_, k1⟩
          obtain ⟨y, hy, he⟩ := List.mem_map.1 hm
          exact k2 y hy (by simp [he])
        · rcases List.mem_cons.1 hx with rfl | hx
          · exact h2
          · exact fun hm => k2 x hx (by simp [hm])

theorem nodup_of_map {α β : Type} (f : α → β) : ∀ {l : List α}, (l.map f).Nodup → l.Nodup
  | [], _ => by simp
  | x :: l, h => by
    rw [List.map_cons, List.nodup_cons] at h
    exact List.nodup_cons.2 ⟨fun hm => h.1 (List.mem_map_of_mem hm), nodup_of_map f h.2⟩

theorem offers_nodup {p : Prob} (h : checkE p = 0) : p.offers.Nodup := by
  unfold checkE at h
  split at h
  · rename_i h1; exact absurd h h1
  · exact nodup_of_map _ (keys_nodup h).1

theorem mem_nodup (m : Int) : (memL m).Nodup := by
  unfold memL
  exact List.Nodup.sublist List.filter_sublist (by decide)

end Go.Vi
/-
  Plain law: the two sides of the chapter agree.
  Conditions: none.
-/
set_option maxRecDepth 100000
set_option maxHeartbeats 4000000
set_option linter.unusedSimpArgs false
set_option linter.unusedVariables false
namespace Go.Vi
open Go.Proofs

def allChk : Bool := (List.range 9).all fun n => decide (allR Prob.zero (-1) n = 2 ^ n - 1) && (List.range n).all fun b => decide (allR Prob.zero b n = delI (2 ^ n - 1) b)
theorem all_chk : allChk = true := by kernel_rfl
theorem allR_d {p : Prob} (h : p.classes.length ≤ 8) {b : Int} (h0 : 0 ≤ b) (h1 : b < p.classes.length) : allR p b p.classes.length = delI (allM p) b := by
  have hk := all_chk
  simp only [allChk, List.all_eq_true, List.mem_range, Bool.and_eq_true, decide_eq_true_eq] at hk
  have := (hk p.classes.length (by omega)).2 b.toNat (by omega)
  rw [show ((b.toNat : Nat) : Int) = b by omega] at this
  exact this

end Go.Vi
/-
  Plain law: the errors of the two sides agree.
  Conditions: none.
-/
set_option maxRecDepth 100000
set_option maxHeartbeats 4000000
set_option linter.unusedSimpArgs false
set_option linter.unusedVariables false
namespace Go.Vi
open Go.Proofs

theorem sumC_go {p : Prob} : ∀ {c : List Int} {s : Int}, c.foldl (addV p) s = s + sumV (offsI p c)
  | [], s => by simp [offsI, sumV]
  | i :: c, s => by
    rw [List.foldl_cons, sumC_go, offsI_cons]
    simp only [sumV, addV]
    omega
theorem pick_offs {p : Prob} : ∀ {c : List Int} {last : Int} {r : List Off}, pickGo p.offers last c = some r → r = offsI p c
  | [], last, r, h => by simp [pickGo] at h; subst h; rfl
  | i :: c, last, r, h => by
    simp only [pickGo] at h
    split at h
    · cases h
    · obtain ⟨r', h2, rfl⟩ := Option.map_eq_some_iff.1 h
      rw [pick_offs h2, offsI_cons]
theorem value_sum {p : Prob} {c : List Int} (hz : feasE p c = 0) : valueS p c = sumC p c := by
  obtain ⟨q1, q2, hg, q4, q5⟩ := feas_ok hz
  obtain ⟨r, hr⟩ := Option.isSome_iff_exists.1 q2
  unfold valueS sumC
  rw [if_pos q1, sumC_go]
  simp only [pickL, hr, Option.getD_some, pick_offs hr]
  omega
end Go.Vi
/-
  Plain law: bidders of feasible lists are different.
  Conditions: none.
-/
set_option maxRecDepth 100000
set_option linter.unusedSimpArgs false
set_option linter.unusedVariables false
namespace Go.Vi
open Go.Proofs

theorem own_row {p : Prob} {x : Off} (h0 : 0 ≤ x.bidder) (h1 : x.bidder < p.classes.length) : coefS p x.bidder x = 1 := by
  unfold coefS
  rw [if_pos (by omega), if_pos rfl]
theorem sum_cons {p : Prob} {x : Off} {L : List Off} {r : Int} : sumS p (x :: L) r = coefS p r x + sumS p L r := by simp [sumS]
theorem sum_own {p : Prob} {r : Int} : ∀ {L : List Off}, (∀ x ∈ L, x.want.ok = true) → (∃ x ∈ L, x.bidder = r ∧ 0 ≤ r ∧ r < p.classes.length) → 1 ≤ sumS p L r
  | [], _, h => by obtain ⟨x, hx, _⟩ := h; cases hx
  | y :: L, hw, ⟨x, hx, hb, h0, h1⟩ => by
    have hy := @coef_bd p r y (hw y (by simp))
    have hs := @sum_bd p r L fun z hz => hw z (by simp [hz])
    rw [sum_cons]
    rcases List.mem_cons.1 hx with rfl | hx
    · have : coefS p r x = 1 := by rw [← hb]; exact own_row (by omega) (by omega)
      omega
    · have := @sum_own p r L (fun z hz => hw z (by simp [hz])) ⟨x, hx, hb, h0, h1⟩
      omega
theorem nd_of {p : Prob} : ∀ {L : List Off}, (∀ x ∈ L, x.want.ok = true ∧ 0 ≤ x.bidder ∧ x.bidder < p.classes.length) → (∀ r : Int, 0 ≤ r → r < p.classes.length → sumS p L r ≤ 1) → (L.map Off.bidder).Nodup
  | [], _, _ => by simp
  | x :: L, hw, hs => by
    have hx := hw x (by simp)
    rw [List.map_cons, List.nodup_cons]
    have hs2 : ∀ r : Int, 0 ≤ r → r < p.classes.length → sumS p L r ≤ 1 := fun r h0 h1 => by
      have := hs r h0 h1
      have := @coef_bd p r x hx.1
      rw [sum_cons] at *
      omega
    refine ⟨fun hm => ?_, nd_of (fun y hy => hw y (by simp [hy])) hs2⟩
    obtain ⟨y, hy, he⟩ := List.mem_map.1 hm
    have h1 := hs x.bidder hx.2.1 hx.2.2
    have h2 := @sum_own p x.bidder L (fun z hz => (hw z (by simp [hz])).1) ⟨y, hy, he, hx.2.1, hx.2.2⟩
    rw [sum_cons, own_row hx.2.1 hx.2.2] at h1
    omega

theorem feas_nd {p : Prob} {c : List Int} (hz : feasE p c = 0) : ((offsI p c).map Off.bidder).Nodup := by
  obtain ⟨q1, q2, hg, q4, q5⟩ := feas_ok hz
  obtain ⟨r, hr⟩ := Option.isSome_iff_exists.1 q2
  have hp : pickL p c = offsI p c := by simp only [pickL, hr, Option.getD_some, pick_offs hr]
  have hf : fitsB p (offsI p c) = true := by
    unfold feasE at hz
    rw [if_neg (by simp [q1]), if_neg (by simp [q2]), hp] at hz
    split at hz
    · cases hz
    · rename_i h1; simpa using h1
  refine nd_of (p := p) (fun x hx => ?_) fun r h0 h1 => ?_
  · have := hg.2.2.2.2 x (offs_ok hg q5 x hx)
    exact ⟨this.2.2.1, this.1, this.2.1⟩
  · have h2 := fits_iff.1 hf r.toNat (by unfold nrows; omega)
    rw [show ((r.toNat : Nat) : Int) = r by omega] at h2
    have h3 : boundS p r = 1 := by unfold boundS; rw [if_pos (by omega)]
    omega

end Go.Vi
/-
  Plain law: what a bidder has won.
  Conditions: none.
-/
set_option maxRecDepth 100000
set_option linter.unusedSimpArgs false
set_option linter.unusedVariables false
namespace Go.Vi
open Go.Proofs

end Go.Vi
/-
  Plain law: the payments of the two sides agree.
  Conditions: none.
-/
set_option maxRecDepth 100000
set_option linter.unusedSimpArgs false
set_option linter.unusedVariables false
namespace Go.Vi
open Go.Proofs

end Go.Vi
/-
  Plain law: the bounds of Vickrey payments at the best allocation.
  Conditions: none.
-/
set_option maxRecDepth 100000
set_option maxHeartbeats 4000000
set_option linter.unusedSimpArgs false
set_option linter.unusedVariables false
namespace Go.Vi
open Go.Proofs

/-- The parts of a bundle. -/
def Bun.at (b : Bun) (k : Nat) : Int := nthD [b.a0, b.a1, b.a2, b.a3, b.a4, b.a5] k 0

theorem at_le {a b : Bun} (h : a.le b = true) (k : Nat) : a.at k ≤ b.at k := by
  have := Bun.le_iff.1 h
  unfold Bun.at
  match k with
  | 0 | 1 | 2 | 3 | 4 | 5 => simp [nthD]; omega
  | k + 6 => simp [nthD]
theorem at_sum (k : Nat) : ∀ (l : List Bun), (sumB l).at k = (l.map fun b => b.at k).sum := by
  intro l
  unfold Bun.at sumB
  match k with
  | 0 | 1 | 2 | 3 | 4 | 5 => simp only [nthD, List.getElem?_cons_zero, List.getElem?_cons_succ, Option.getD_some]
  | k + 6 =>
    simp only [nthD, List.getElem?_cons_succ, List.getElem?_nil, Option.getD_none]
    induction l with
    | nil => rfl
    | cons b l ih => simp only [List.map_cons, List.sum_cons]; omega

theorem coef_w {p : Prob} {x : Off} {k : Nat} (hk : k < 6) : coefS p (p.classes.length + k) x = x.want.at k := by
  unfold coefS
  rw [if_neg (by omega), if_pos (by omega), show ((p.classes.length : Int) + k - p.classes.length).toNat = k by omega]
  rfl
theorem coef_o {p : Prob} {x : Off} {k : Nat} (hk : k < 6) : coefS p (p.classes.length + 6 + k) x = (outS p x).at k := by
  unfold coefS
  rw [if_neg (by omega), if_neg (by omega), show ((p.classes.length : Int) + 6 + k - p.classes.length - 6).toNat = k by omega]
  have : k = 0 ∨ k = 1 ∨ k = 2 ∨ k = 3 ∨ k = 4 ∨ k = 5 := by omega
  rcases this with rfl | rfl | rfl | rfl | rfl | rfl <;> simp [outS, outK, oc, clOf, Bun.at, nthD]
theorem bound_w {p : Prob} {k : Nat} (hk : k < 6) : boundS p (p.classes.length + k) = p.supply.at k := by
  unfold boundS
  rw [if_neg (by omega), if_pos (by omega), show ((p.classes.length : Int) + k - p.classes.length).toNat = k by omega]
  rfl
theorem bound_o {p : Prob} {k : Nat} (hk : k < 6) : boundS p (p.classes.length + 6 + k) = p.opn.at k := by
  unfold boundS
  rw [if_neg (by omega), if_neg (by omega), show ((p.classes.length : Int) + 6 + k - p.classes.length - 6).toNat = k by omega]
  rfl

theorem sum_bid {p : Prob} {r : Int} (h0 : 0 ≤ r) (h1 : r < p.classes.length) : ∀ {L : List Off}, (L.map Off.bidder).Nodup → sumS p L r ≤ 1 ∧ (r ∉ L.map Off.bidder → sumS p L r = 0)
  | [], _ => by simp [sumS]
  | x :: L, h => by
    rw [List.map_cons, List.nodup_cons] at h
    obtain ⟨k1, k2⟩ := sum_bid h0 h1 h.2
    have hc : coefS p r x = if x.bidder = r then 1 else 0 := by unfold coefS; rw [if_pos (by omega)]
    rw [sum_cons, hc]
    by_cases hb : x.bidder = r
    · rw [if_pos hb]
      have := k2 (hb ▸ h.1)
      refine ⟨by omega, fun hn => absurd (by simp [hb]) hn⟩
    · rw [if_neg hb]
      refine ⟨by omega, fun hn => ?_⟩
      have := k2 fun hm => hn (by simp [hm])
      omega

theorem fits_of {p : Prob} {L : List Off} (h : FeasL p L) : fitsB p L = true := by
  obtain ⟨h1, h2, h3⟩ := h
  refine fits_iff.2 fun r hr => ?_
  unfold nrows at hr
  by_cases ha : r < p.classes.length
  · have := (sum_bid (p := p) (r := r) (by omega) (by omega) h1).1
    have hb : boundS p r = 1 := by unfold boundS; rw [if_pos (by omega)]
    omega
  by_cases hb : r < p.classes.length + 6
  · obtain ⟨k, rfl⟩ : ∃ k : Nat, r = p.classes.length + k := ⟨r - p.classes.length, by omega⟩
    have hk : k < 6 := by omega
    have e : (((p.classes.length + k : Nat)) : Int) = p.classes.length + k := by omega
    rw [e, bound_w hk]
    have h4 := at_le h2 k
    rw [at_sum, List.map_map] at h4
    have : sumS p L (p.classes.length + k) = (L.map ((fun b => Bun.at b k) ∘ Off.want)).sum := by
      unfold sumS
      congr 1
      exact List.map_congr_left fun x _ => coef_w hk
    omega
  · obtain ⟨k, rfl⟩ : ∃ k : Nat, r = p.classes.length + 6 + k := ⟨r - p.classes.length - 6, by omega⟩
    have hk : k < 6 := by omega
    have e : (((p.classes.length + 6 + k : Nat)) : Int) = p.classes.length + 6 + k := by omega
    rw [e, bound_o hk]
    have h4 := at_le h3 k
    rw [at_sum, List.map_map] at h4
    have : sumS p L (p.classes.length + 6 + k) = (L.map ((fun b => Bun.at b k) ∘ outS p)).sum := by
      unfold sumS
      congr 1
      exact List.map_congr_left fun x _ => coef_o hk
    omega

theorem pick_inc {l : List Off} : ∀ {t : List Int} {last : Int}, t.Pairwise (· < ·) → (∀ j ∈ t, last < j ∧ j < l.length) → pickGo l last t = some (t.map fun i => nthD l i.toNat SId.off.dflt)
  | [], _, _, _ => rfl
  | i :: t, last, h, hj => by
    have h1 := hj i (by simp)
    have h2 := List.pairwise_cons.1 h
    unfold pickGo
    rw [if_neg (by omega), pick_inc h2.2 fun j hm => ⟨h2.1 j hm, (hj j (by simp [hm])).2⟩]
    rfl
theorem feas_of {p : Prob} (hc : checkE p = 0) {t : List Int} (ht : IncR 0 p.offers.length t) (hF : FeasL p (offsI p t)) : feasE p t = 0 := by
  have hp : pickGo p.offers (-1) t = some (offsI p t) := pick_inc ht.1 fun j hj => by have := ht.2 j hj; omega
  unfold feasE
  rw [if_neg (by simp [hc]), if_neg (by simp [pickOk, hp]), if_neg (by simp [pickL, hp, fits_of hF])]

def allBits : Bool := (List.range 9).all fun n => (List.range n).all fun b => hasB (2 ^ n - 1) b
theorem all_bits : allBits = true := by kernel_rfl
theorem has_all {p : Prob} (hg : Good p) {b : Int} (h0 : 0 ≤ b) (h1 : b < p.classes.length) : hasB (allM p) b = true := by
  have h := all_bits
  simp only [allBits, List.all_eq_true, List.mem_range] at h
  have := h p.classes.length (by have := hg.1; omega) b.toNat (by omega)
  rwa [show ((b.toNat : Nat) : Int) = b by omega] at this
def delBits : Bool := (List.range 9).all fun n => (List.range n).all fun b => (List.range 8).all fun x => decide ((x : Int) ∈ memL (delI (2 ^ n - 1) b)) == (decide (x < n) && decide (x ≠ b))
theorem del_bits : delBits = true := by kernel_rfl
theorem mem_del {p : Prob} (hg : Good p) {b x : Int} (h0 : 0 ≤ b) (h1 : b < p.classes.length) (hx0 : 0 ≤ x) (hx1 : x < p.classes.length) (hne : x ≠ b) : x ∈ memL (delI (allM p) b) := by
  have h := del_bits
  simp only [delBits, List.all_eq_true, List.mem_range] at h
  have h8 := hg.1
  have := h p.classes.length (by omega) b.toNat (by omega) x.toNat (by omega)
  rw [show ((b.toNat : Nat) : Int) = b by omega, show ((x.toNat : Nat) : Int) = x by omega] at this
  have e1 : decide (x.toNat < p.classes.length) = true := decide_eq_true (by omega)
  have e2 : decide (x.toNat ≠ b.toNat) = true := decide_eq_true (by omega)
  rw [e1, e2] at this
  simpa [allM] using this
theorem mem_all {p : Prob} (hg : Good p) {x : Int} (hx0 : 0 ≤ x) (hx1 : x < p.classes.length) : x ∈ memL (allM p) := by
  have h8 := hg.1
  have h2 := pow_n h8
  have := has_mem (m := allM p) (b := x) (by unfold allM; omega) (by unfold allM; omega) hx0 (by omega)
  rw [has_all hg hx0 hx1] at this
  exact of_decide_eq_true this.symm

theorem worthS_val {p : Prob} (hc : checkE p = 0) {m : Int} (h0 : 0 ≤ m) (h1 : m < 2 ^ p.classes.length) : worthS p m = valL p (memL m) p.supply p.opn := by
  unfold worthS
  rw [if_pos]
  · rfl
  · unfold faultE
    rw [if_neg (by simp [hc]), if_neg (by omega)]

theorem del_bd {p : Prob} (hg : Good p) {b : Int} (h0 : 0 ≤ b) (h1 : b < p.classes.length) : 0 ≤ delI (allM p) b ∧ delI (allM p) b < 2 ^ p.classes.length := by
  rw [← allR_d hg.1 h0 h1]
  exact allR_bd p b p.classes.length

end Go.Vi
/-
  Plain law: without the offers of a bidder that is not a winner, no payment is greater.
  Conditions: none.
-/
set_option maxRecDepth 100000
set_option maxHeartbeats 4000000
set_option linter.unusedSimpArgs false
set_option linter.unusedVariables false
namespace Go.Vi
open Go.Proofs

/-- The problem with some of its offers. -/
def offP (p : Prob) (l : List Off) : Prob := { p with offers := l }

theorem checkL_filter {p : Prob} {l0 : List Off} {f : Off → Bool} : ∀ {l : List Off} {s t : List BKey}, checkL p s l = 0 → (∀ k ∈ t, k ∈ s) → checkL (offP p l0) t (l.filter f) = 0
  | [], _, _, _, _ => rfl
  | o :: r, s, t, h, hs => by
    simp only [checkL] at h
    split at h
    · rename_i h1; exact absurd h h1
    · split at h
      · cases h
      · rename_i h1 h2
        have hn : o.key ∉ t := fun hm => h2 (hs _ hm)
        rw [List.filter_cons]
        split
        · unfold checkL
          rw [if_neg (show ¬ offerE (offP p l0) o ≠ 0 from h1), if_neg hn]
          exact checkL_filter h fun k hk => by
            rcases List.mem_append.1 hk with hk | hk
            · exact List.mem_append.2 (.inl (hs k hk))
            · exact List.mem_append.2 (.inr hk)
        · exact checkL_filter h fun k hk => List.mem_append.2 (.inl (hs k hk))

theorem check_filter {p : Prob} {f : Off → Bool} (h : checkE p = 0) : checkE (offP p (p.offers.filter f)) = 0 := by
  have hg := good_of h
  unfold checkE at h
  split at h
  · rename_i h1; exact absurd h h1
  · rename_i h1
    have hf : frameE p = 0 := Classical.not_not.1 h1
    obtain ⟨f1, f2, f3, f4, f5⟩ := frame_zero hf
    have hl := List.length_filter_le f p.offers
    have hq : frameE (offP p (p.offers.filter f)) = 0 := frame_ok (p := offP p (p.offers.filter f)) f1 (fun j hj => by have h := (prodOk_iff (p := p) (k := j)).1 (f2 j hj); exact prodOk_iff.2 h) (by simp only [offP]; omega) f5
    unfold checkE
    rw [if_neg (by simp [hq])]
    exact checkL_filter h (by simp)

/-- The problem and the list without a bidder. -/
def qP (p : Prob) (b : Int) : Prob := offP p (p.offers.filter fun x => decide (x.bidder ≠ b))
end Go.Vi
/-
  Plain law: the feasible lists of a problem.
  Conditions: none.
-/
set_option maxRecDepth 100000
set_option maxHeartbeats 4000000
set_option linter.unusedSimpArgs false
set_option linter.unusedVariables false
namespace Go.Vi
open Go.Proofs

theorem le_of_at {a b : Bun} (h : ∀ k, k < 6 → a.at k ≤ b.at k) : a.le b = true := by
  have h0 := h 0 (by omega)
  have h1 := h 1 (by omega)
  have h2 := h 2 (by omega)
  have h3 := h 3 (by omega)
  have h4 := h 4 (by omega)
  have h5 := h 5 (by omega)
  simp [Bun.at, nthD] at h0 h1 h2 h3 h4 h5
  rw [Bun.le_iff]
  exact ⟨h0, h1, h2, h3, h4, h5⟩

theorem feasL_of {p : Prob} {L : List Off} (hn : (L.map Off.bidder).Nodup) (hf : fitsB p L = true) : FeasL p L := by
  refine ⟨hn, le_of_at fun k hk => ?_, le_of_at fun k hk => ?_⟩
  · have h := fits_iff.1 hf (p.classes.length + k) (by unfold nrows; omega)
    rw [show (((p.classes.length + k : Nat)) : Int) = p.classes.length + k by omega, bound_w hk] at h
    rw [at_sum, List.map_map]
    have : sumS p L (p.classes.length + k) = (L.map ((fun b => Bun.at b k) ∘ Off.want)).sum := by
      unfold sumS
      congr 1
      exact List.map_congr_left fun x _ => coef_w hk
    omega
  · have h := fits_iff.1 hf (p.classes.length + 6 + k) (by unfold nrows; omega)
    rw [show (((p.classes.length + 6 + k : Nat)) : Int) = p.classes.length + 6 + k by omega, bound_o hk] at h
    rw [at_sum, List.map_map]
    have : sumS p L (p.classes.length + 6 + k) = (L.map ((fun b => Bun.at b k) ∘ outS p)).sum := by
      unfold sumS
      congr 1
      exact List.map_congr_left fun x _ => coef_o hk
    omega

theorem pick_some_inc {l : List Off} : ∀ {t : List Int} {last : Int} {r : List Off}, -1 ≤ last → pickGo l last t = some r → t.Pairwise (· < ·) ∧ ∀ j ∈ t, last < j ∧ j < l.length
  | [], _, _, _, _ => by simp
  | i :: t, last, r, hl, h => by
    simp only [pickGo] at h
    split at h
    · cases h
    · rename_i h1
      obtain ⟨r', h2, rfl⟩ := Option.map_eq_some_iff.1 h
      obtain ⟨k1, k2⟩ := pick_some_inc (by omega) h2
      refine ⟨List.pairwise_cons.2 ⟨fun j hj => (k2 j hj).1, k1⟩, fun j hj => ?_⟩
      rcases List.mem_cons.1 hj with rfl | hj
      · omega
      · have := k2 j hj; omega

/-- A list of indices that can be accepted. -/
def FeasI (p : Prob) (t : List Int) : Prop := IncR 0 p.offers.length t ∧ FeasL p (offsI p t)

theorem feas_iff {p : Prob} (hc : checkE p = 0) {t : List Int} : feasE p t = 0 ↔ FeasI p t := by
  refine ⟨fun h => ?_, fun h => feas_of hc h.1 h.2⟩
  have hn := feas_nd h
  obtain ⟨q1, q2, hg, q4, q5⟩ := feas_ok h
  obtain ⟨r, hr⟩ := Option.isSome_iff_exists.1 q2
  obtain ⟨k1, k2⟩ := pick_some_inc (by omega) hr
  have hp : pickL p t = offsI p t := by simp only [pickL, hr, Option.getD_some, pick_offs hr]
  have hf : fitsB p (offsI p t) = true := by
    unfold feasE at h
    rw [if_neg (by simp [q1]), if_neg (by simp [q2]), hp] at h
    split at h
    · cases h
    · rename_i h1; simpa using h1
  exact ⟨⟨k1, fun j hj => by have := k2 j hj; omega⟩, feasL_of hn hf⟩

theorem feasI_nil {p : Prob} (hg : Good p) : FeasI p [] := ⟨⟨by simp, by simp⟩, of_decide_eq_true (ref_nil hg)⟩

theorem feasI_pre {p : Prob} (hg : Good p) {l m : List Int} (h : FeasI p (l ++ m)) : FeasI p l := by
  obtain ⟨⟨h1, h2⟩, h3⟩ := h
  rw [offsI_append] at h3
  refine ⟨⟨(List.pairwise_append.1 h1).1, fun j hj => h2 j (by simp [hj])⟩, feas_pre hg (fun x hx => ?_) h3⟩
  exact offs_ok hg (l := m) (fun j hj => by have := h2 j (by simp [hj]); omega) x hx

theorem feasI_val {p : Prob} (hc : checkE p = 0) {t : List Int} (h : FeasI p t) : valueS p t = sumV (offsI p t) := by
  have hz := (feas_iff hc).2 h
  rw [value_sum hz]
  unfold sumC
  rw [sumC_go]
  omega

/-! ### the reference's lists -/

def lisL (p : Prob) : Nat → Int → List Int → List (List Int) → List (List Int)
  | 0, _, _, out => out
  | k + 1, i, c, out => lisL p k (i + 1) c (if feasE p (c ++ [i]) = 0 then lisL p k (i + 1) (c ++ [i]) (out ++ [c ++ [i]]) else out)
def listsR (p : Prob) : List (List Int) := lisL p p.offers.length 0 [] [[]]

theorem lis_len {p : Prob} : ∀ {k : Nat} {i : Int} {c : List Int} {out : List (List Int)}, (lisL p k i c out).length + 1 ≤ out.length + 2 ^ k
  | 0, _, _, out => by simp [lisL]
  | k + 1, i, c, out => by
    simp only [lisL]
    have h1 := @lis_len p k (i + 1) c (if feasE p (c ++ [i]) = 0 then lisL p k (i + 1) (c ++ [i]) (out ++ [c ++ [i]]) else out)
    have h2 := @lis_len p k (i + 1) (c ++ [i]) (out ++ [c ++ [i]])
    have h3 : (2 : Nat) ^ (k + 1) = 2 ^ k + 2 ^ k := by rw [Nat.pow_succ]; omega
    have h4 : 0 < (2 : Nat) ^ k := Nat.pow_pos (by decide)
    simp only [List.length_append, List.length_singleton] at h2
    by_cases hf : feasE p (c ++ [i]) = 0
    · rw [if_pos hf] at h1 ⊢; omega
    · rw [if_neg hf] at h1 ⊢; omega

theorem lis_mem {p : Prob} (hc : checkE p = 0) : ∀ {k : Nat} {i : Int} {c : List Int} {out : List (List Int)} {x : List Int}, x ∈ lisL p k i c out ↔ x ∈ out ∨ ∃ t, t ≠ [] ∧ IncR i k t ∧ FeasI p (c ++ t) ∧ x = c ++ t
  | 0, i, c, out, x => by
    simp only [lisL]
    refine ⟨.inl, fun h => ?_⟩
    rcases h with h | ⟨t, h1, h2, _⟩
    · exact h
    · cases t with
      | nil => exact absurd rfl h1
      | cons j t =>
        have := h2.2 j (by simp)
        omega
  | k + 1, i, c, out, x => by
    have hg := good_of hc
    simp only [lisL]
    rw [lis_mem hc]
    have wide : ∀ {t : List Int}, IncR (i + 1) k t → IncR i (k + 1) t := fun h => ⟨h.1, fun j hj => by have := h.2 j hj; omega⟩
    have cns : ∀ {t : List Int}, IncR (i + 1) k t → IncR i (k + 1) (i :: t) := fun h => ⟨List.pairwise_cons.2 ⟨fun j hj => by have := h.2 j hj; omega, h.1⟩, fun j hj => by
      rcases List.mem_cons.1 hj with rfl | hj
      · omega
      · have := h.2 j hj; omega⟩
    constructor
    · rintro (h | ⟨t, h1, h2, h3, h4⟩)
      · split at h
        · rename_i hf
          rw [lis_mem hc] at h
          rcases h with h | ⟨t, h1, h2, h3, h4⟩
          · rcases List.mem_append.1 h with h | h
            · exact .inl h
            · rw [List.mem_singleton] at h
              exact .inr ⟨[i], by simp, cns (t := []) ⟨by simp, by simp⟩, (feas_iff hc).1 hf, h⟩
          · exact .inr ⟨i :: t, by simp, cns h2, by simpa using h3, by simpa using h4⟩
        · exact .inl h
      · exact .inr ⟨t, h1, wide h2, h3, h4⟩
    · rintro (h | ⟨t, h1, h2, h3, h4⟩)
      · left
        split
        · rw [lis_mem hc]; left; simp [h]
        · exact h
      · cases t with
        | nil => exact absurd rfl h1
        | cons j t =>
          have hj := h2.2 j (by simp)
          have hp := List.pairwise_cons.1 h2.1
          by_cases hji : j = i
          · subst hji
            left
            have h5 : FeasI p ((c ++ [j]) ++ t) := by simpa using h3
            rw [if_pos ((feas_iff hc).2 (feasI_pre hg h5)), lis_mem hc]
            by_cases ht : t = []
            · subst ht
              left
              simp [h4]
            · right
              exact ⟨t, ht, ⟨hp.2, fun m hm => by have a := hp.1 m hm; have b := h2.2 m (by simp [hm]); omega⟩, h5, by simpa using h4⟩
          · right
            refine ⟨j :: t, by simp, ⟨h2.1, fun m hm => ?_⟩, h3, h4⟩
            have b := h2.2 m hm
            rcases List.mem_cons.1 hm with rfl | hm
            · omega
            · have a := hp.1 m hm; omega

theorem lists_mem {p : Prob} (hc : checkE p = 0) {t : List Int} : t ∈ listsR p ↔ FeasI p t := by
  unfold listsR
  rw [lis_mem hc]
  constructor
  · rintro (h | ⟨u, _, _, h, rfl⟩)
    · rw [List.mem_singleton] at h
      rw [h]
      exact feasI_nil (good_of hc)
    · simpa using h
  · intro h
    by_cases ht : t = []
    · left; simp [ht]
    · right
      exact ⟨t, ht, h.1, by simpa using h, by simp⟩

/-! ### worths -/

theorem worth_top {p : Prob} (hc : checkE p = 0) {L : List Off} (hL : FeasL p L) (hm : ∀ x ∈ L, x ∈ p.offers) : sumV L ≤ worthS p (allM p) := by
  have hg := good_of hc
  have h2 := pow_n hg.1
  rw [worthS_val hc (m := allM p) (by unfold allM; omega) (by unfold allM; omega)]
  refine fit_le hg ⟨hL.1, fun x hx => ?_, hL.2.1, hL.2.2⟩
  have := hg.2.2.2.2 x (hm x hx)
  exact ⟨hm x hx, mem_all hg this.1 this.2.1⟩

theorem worth_hit {p : Prob} (hc : checkE p = 0) : ∃ L, FeasL p L ∧ (∀ x ∈ L, x ∈ p.offers) ∧ sumV L = worthS p (allM p) := by
  have hg := good_of hc
  have h2 := pow_n hg.1
  rw [worthS_val hc (m := allM p) (by unfold allM; omega) (by unfold allM; omega)]
  have q1 := Bun.ok_iff.1 hg.2.2.1
  have q2 := Bun.ok_iff.1 hg.2.2.2.1
  obtain ⟨L, hL, hv⟩ := fit_at hg (mem_nodup (allM p)) (l := p.supply) (o := p.opn) (by rw [Bun.le_iff]; simp only [Bun.zero]; omega) (by rw [Bun.le_iff]; simp only [Bun.zero]; omega)
  exact ⟨L, ⟨hL.nd, hL.w, hL.o⟩, fun x hx => (hL.mem x hx).1, hv⟩

/-- Offers as a list of indices. -/
theorem to_idx {p : Prob} (hc : checkE p = 0) {L : List Off} (hL : FeasL p L) (hm : ∀ x ∈ L, x ∈ p.offers) : ∃ t, FeasI p t ∧ (offsI p t).Perm L := by
  have hn := offers_nodup hc
  obtain ⟨t, t1, t2, t3⟩ := idx_filter (fun x => decide (x ∈ L)) p.offers []
  have t4 : offsI p t = p.offers.filter fun x => decide (x ∈ L) := t3
  have hnd : (p.offers.filter fun x => decide (x ∈ L)).Nodup := List.Nodup.sublist List.filter_sublist hn
  have hperm : L.Perm (offsI p t) := by
    rw [t4]
    refine (List.perm_ext_iff_of_nodup (nodup_of_map _ hL.1) hnd).2 fun x => ?_
    rw [List.mem_filter, decide_eq_true_eq]
    exact ⟨fun hx => ⟨hm x hx, hx⟩, fun hx => hx.2⟩
  exact ⟨t, ⟨⟨t1, fun j hj => by have := t2 j hj; simp only [List.length_nil] at this; omega⟩, perm_F hperm hL⟩, hperm.symm⟩

end Go.Vi

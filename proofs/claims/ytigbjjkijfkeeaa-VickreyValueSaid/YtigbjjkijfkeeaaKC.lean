/-
  Contracts: Vickrey payments.
  Conditions: none.
-/
import Derived.Test.YtigbjjkijfkeeaaKB
set_option maxRecDepth 100000
set_option maxHeartbeats 4000000
set_option linter.unusedSimpArgs false
set_option linter.unusedVariables false
namespace Go.Vi
open Go.Proofs.Ytigbjjkijfkeeaa.Ir
open Go.Proofs

def LD : List SCtr := r66 :: LC
theorem hLD : ∀ c ∈ LD, Holds Try.prog c := by
  simp only [LD, List.forall_mem_cons]
  exact ⟨h66, hLC⟩

def Λ62 (a : Deal × (Bool × Deal)) : Nat → LoopAnn
  | 3 => .inv Int (fun i => ⟨[(1, codF.put a.2), (5, .ow 1 (eachL a.2 i.toNat).length 1), (9, .si .i64 a.1.values.length), (10, .si .i64 i)], [.cells [.si .i64 a.1.p.supply.a0, .si .i64 a.1.p.supply.a1, .si .i64 a.1.p.supply.a2, .si .i64 a.1.p.supply.a3, .si .i64 a.1.p.supply.a4, .si .i64 a.1.p.supply.a5,
       .si .i64 a.1.p.opn.a0, .si .i64 a.1.p.opn.a1, .si .i64 a.1.p.opn.a2, .si .i64 a.1.p.opn.a3, .si .i64 a.1.p.opn.a4, .si .i64 a.1.p.opn.a5,
       .si .i64 a.1.p.cls.a0, .si .i64 a.1.p.cls.a1, .si .i64 a.1.p.cls.a2, .si .i64 a.1.p.cls.a3, .si .i64 a.1.p.cls.a4, .si .i64 a.1.p.cls.a5,
       .row (.i .i64) a.1.p.classes, .row .off a.1.p.offers, .row (.i .i64) a.1.values, .si .i64 a.1.all, .si .i64 a.1.worth] 86 23 false, .row (.i .i64) (eachL a.2 i.toNat) 2 true]⟩)
    (fun s => iS s 10) (fun i => 0 ≤ i ∧ i ≤ a.1.values.length) (fun i => (a.1.values.length - i).toNat) fun _ _ => .look
  | _ => .look

theorem eachL_len {a : Bool × Deal} {n : Nat} : (eachL a n).length = n := by simp [eachL]
theorem eachL_succ {a : Bool × Deal} {i : Int} (h : 0 ≤ i) : eachL a (i + 1).toNat = eachL a i.toNat ++ [eachF a i] := by
  unfold eachL
  rw [show (i + 1).toNat = i.toNat + 1 from by omega, List.range_succ, List.map_append]
  simp only [List.map_cons, List.map_nil, show ((i.toNat : Nat) : Int) = i from by omega]

theorem deal_n {d : Deal} (h : DealOk d) : d.values.length ≤ 8 := by
  rw [h.2.1]
  exact (good_of h.1).1

theorem h62 : Holds Try.prog r62 := by
  refine con (L := LD) r62 F62 Λ62 (OwnOK.none _) hLD (by kernel_rfl) (by kernel_rfl) (fun _ => rfl) ?_
  have hrow : ∀ {x y : List Int}, x = y → (SObj.row (.i .i64) x 2 true).same (SObj.row (.i .i64) y 2 true) := by rintro _ _ rfl; rfl
  have how : ∀ {x y : Nat}, x = y → (SV.ow 1 x 1).same (SV.ow 1 y 1) := by rintro _ _ rfl; rfl
  rintro ⟨d, k, e⟩ ⟨hd, hn⟩
  simp only at hd hn
  have h8 := deal_n hd
  cases k with
  | false =>
    refine vcOf (((((SV.fn (Fn.func (63 : Nat)) [SV.agg [SV.si IntKind.i64 e.p.supply.a0, SV.si IntKind.i64 e.p.supply.a1, SV.si IntKind.i64 e.p.supply.a2, SV.si IntKind.i64 e.p.supply.a3, SV.si IntKind.i64 e.p.supply.a4, SV.si IntKind.i64 e.p.supply.a5, SV.si IntKind.i64 e.p.opn.a0, SV.si IntKind.i64 e.p.opn.a1, SV.si IntKind.i64 e.p.opn.a2, SV.si IntKind.i64 e.p.opn.a3, SV.si IntKind.i64 e.p.opn.a4, SV.si IntKind.i64 e.p.opn.a5, SV.si IntKind.i64 e.p.cls.a0, SV.si IntKind.i64 e.p.cls.a1, SV.si IntKind.i64 e.p.cls.a2, SV.si IntKind.i64 e.p.cls.a3, SV.si IntKind.i64 e.p.cls.a4, SV.si IntKind.i64 e.p.cls.a5, SV.row (SId.i IntKind.i64) e.p.classes, SV.row SId.off e.p.offers, SV.row (SId.i IntKind.i64) e.values, SV.si IntKind.i64 e.all, SV.si IntKind.i64 e.worth]] []).same (SV.fn (Fn.func (63 : Nat)) [SV.agg [SV.si IntKind.i64 e.p.supply.a0, SV.si IntKind.i64 e.p.supply.a1, SV.si IntKind.i64 e.p.supply.a2, SV.si IntKind.i64 e.p.supply.a3, SV.si IntKind.i64 e.p.supply.a4, SV.si IntKind.i64 e.p.supply.a5, SV.si IntKind.i64 e.p.opn.a0, SV.si IntKind.i64 e.p.opn.a1, SV.si IntKind.i64 e.p.opn.a2, SV.si IntKind.i64 e.p.opn.a3, SV.si IntKind.i64 e.p.opn.a4, SV.si IntKind.i64 e.p.opn.a5, SV.si IntKind.i64 e.p.cls.a0, SV.si IntKind.i64 e.p.cls.a1, SV.si IntKind.i64 e.p.cls.a2, SV.si IntKind.i64 e.p.cls.a3, SV.si IntKind.i64 e.p.cls.a4, SV.si IntKind.i64 e.p.cls.a5, SV.row (SId.i IntKind.i64) e.p.classes, SV.row SId.off e.p.offers, SV.row (SId.i IntKind.i64) e.values, SV.si IntKind.i64 e.all, SV.si IntKind.i64 e.worth]] []) ∧ (SV.ow (1 : Nat) (0 : Nat) (1 : Nat)).same (SV.ow (1 : Nat) (eachL (false, e) (0 : Nat)).length (1 : Nat)) ∧ (SV.si IntKind.i64 (↑d.values.length : Int)).same (SV.si IntKind.i64 (↑d.values.length : Int)) ∧ (SV.il IntKind.i64 (0 : Int)).same (SV.si IntKind.i64 (0 : Int)) ∧ True) ∧ (SObj.cells [SV.si IntKind.i64 d.p.supply.a0, SV.si IntKind.i64 d.p.supply.a1, SV.si IntKind.i64 d.p.supply.a2, SV.si IntKind.i64 d.p.supply.a3, SV.si IntKind.i64 d.p.supply.a4, SV.si IntKind.i64 d.p.supply.a5, SV.si IntKind.i64 d.p.opn.a0, SV.si IntKind.i64 d.p.opn.a1, SV.si IntKind.i64 d.p.opn.a2, SV.si IntKind.i64 d.p.opn.a3, SV.si IntKind.i64 d.p.opn.a4, SV.si IntKind.i64 d.p.opn.a5, SV.si IntKind.i64 d.p.cls.a0, SV.si IntKind.i64 d.p.cls.a1, SV.si IntKind.i64 d.p.cls.a2, SV.si IntKind.i64 d.p.cls.a3, SV.si IntKind.i64 d.p.cls.a4, SV.si IntKind.i64 d.p.cls.a5, SV.row (SId.i IntKind.i64) d.p.classes, SV.row SId.off d.p.offers, SV.row (SId.i IntKind.i64) d.values, SV.si IntKind.i64 d.all, SV.si IntKind.i64 d.worth] (86 : Nat) (23 : Nat) false).same (SObj.cells [SV.si IntKind.i64 d.p.supply.a0, SV.si IntKind.i64 d.p.supply.a1, SV.si IntKind.i64 d.p.supply.a2, SV.si IntKind.i64 d.p.supply.a3, SV.si IntKind.i64 d.p.supply.a4, SV.si IntKind.i64 d.p.supply.a5, SV.si IntKind.i64 d.p.opn.a0, SV.si IntKind.i64 d.p.opn.a1, SV.si IntKind.i64 d.p.opn.a2, SV.si IntKind.i64 d.p.opn.a3, SV.si IntKind.i64 d.p.opn.a4, SV.si IntKind.i64 d.p.opn.a5, SV.si IntKind.i64 d.p.cls.a0, SV.si IntKind.i64 d.p.cls.a1, SV.si IntKind.i64 d.p.cls.a2, SV.si IntKind.i64 d.p.cls.a3, SV.si IntKind.i64 d.p.cls.a4, SV.si IntKind.i64 d.p.cls.a5, SV.row (SId.i IntKind.i64) d.p.classes, SV.row SId.off d.p.offers, SV.row (SId.i IntKind.i64) d.values, SV.si IntKind.i64 d.all, SV.si IntKind.i64 d.worth] (86 : Nat) (23 : Nat) false) ∧ (SObj.row (SId.i IntKind.i64) [] (2 : Nat) true).same (SObj.row (SId.i IntKind.i64) (eachL (false, e) (0 : Nat)) (2 : Nat) true) ∧ True) ∧ (0 : Int) ≤ (0 : Int) ∧ (0 : Int) ≤ (↑d.values.length : Int)) ∧ ∀ (x : Int), (0 : Int) ≤ x ∧ x ≤ (↑d.values.length : Int) → (decide (x < (↑d.values.length : Int)) = true → (DealOk e ∧ (0 : Int) ≤ x ∧ x < (↑e.values.length : Int)) ∧ (eachL (false, e) x.toNat).length = (eachL (false, e) x.toNat).length ∧ ((eachL (false, e) x.toNat).length + (1 : Nat)) * (8 : Nat) ≤ (140737488355328 : Nat) ∧ (eachL (false, e) x.toNat).length + (1 : Nat) ≤ (1000000000000 : Nat) ∧ inR IntKind.i64 (x + (1 : Int)) ∧ (((SV.fn (Fn.func (63 : Nat)) [SV.agg [SV.si IntKind.i64 e.p.supply.a0, SV.si IntKind.i64 e.p.supply.a1, SV.si IntKind.i64 e.p.supply.a2, SV.si IntKind.i64 e.p.supply.a3, SV.si IntKind.i64 e.p.supply.a4, SV.si IntKind.i64 e.p.supply.a5, SV.si IntKind.i64 e.p.opn.a0, SV.si IntKind.i64 e.p.opn.a1, SV.si IntKind.i64 e.p.opn.a2, SV.si IntKind.i64 e.p.opn.a3, SV.si IntKind.i64 e.p.opn.a4, SV.si IntKind.i64 e.p.opn.a5, SV.si IntKind.i64 e.p.cls.a0, SV.si IntKind.i64 e.p.cls.a1, SV.si IntKind.i64 e.p.cls.a2, SV.si IntKind.i64 e.p.cls.a3, SV.si IntKind.i64 e.p.cls.a4, SV.si IntKind.i64 e.p.cls.a5, SV.row (SId.i IntKind.i64) e.p.classes, SV.row SId.off e.p.offers, SV.row (SId.i IntKind.i64) e.values, SV.si IntKind.i64 e.all, SV.si IntKind.i64 e.worth]] []).same (SV.fn (Fn.func (63 : Nat)) [SV.agg [SV.si IntKind.i64 e.p.supply.a0, SV.si IntKind.i64 e.p.supply.a1, SV.si IntKind.i64 e.p.supply.a2, SV.si IntKind.i64 e.p.supply.a3, SV.si IntKind.i64 e.p.supply.a4, SV.si IntKind.i64 e.p.supply.a5, SV.si IntKind.i64 e.p.opn.a0, SV.si IntKind.i64 e.p.opn.a1, SV.si IntKind.i64 e.p.opn.a2, SV.si IntKind.i64 e.p.opn.a3, SV.si IntKind.i64 e.p.opn.a4, SV.si IntKind.i64 e.p.opn.a5, SV.si IntKind.i64 e.p.cls.a0, SV.si IntKind.i64 e.p.cls.a1, SV.si IntKind.i64 e.p.cls.a2, SV.si IntKind.i64 e.p.cls.a3, SV.si IntKind.i64 e.p.cls.a4, SV.si IntKind.i64 e.p.cls.a5, SV.row (SId.i IntKind.i64) e.p.classes, SV.row SId.off e.p.offers, SV.row (SId.i IntKind.i64) e.values, SV.si IntKind.i64 e.all, SV.si IntKind.i64 e.worth]] []) ∧ (SV.ow (1 : Nat) (eachL (false, e) x.toNat ++ [payS e x]).length (1 : Nat)).same (SV.ow (1 : Nat) (eachL (false, e) (x + (1 : Int)).toNat).length (1 : Nat)) ∧ (SV.si IntKind.i64 (↑d.values.length : Int)).same (SV.si IntKind.i64 (↑d.values.length : Int)) ∧ (SV.si IntKind.i64 (x + (1 : Int))).same (SV.si IntKind.i64 (x + (1 : Int))) ∧ True) ∧ (SObj.cells [SV.si IntKind.i64 d.p.supply.a0, SV.si IntKind.i64 d.p.supply.a1, SV.si IntKind.i64 d.p.supply.a2, SV.si IntKind.i64 d.p.supply.a3, SV.si IntKind.i64 d.p.supply.a4, SV.si IntKind.i64 d.p.supply.a5, SV.si IntKind.i64 d.p.opn.a0, SV.si IntKind.i64 d.p.opn.a1, SV.si IntKind.i64 d.p.opn.a2, SV.si IntKind.i64 d.p.opn.a3, SV.si IntKind.i64 d.p.opn.a4, SV.si IntKind.i64 d.p.opn.a5, SV.si IntKind.i64 d.p.cls.a0, SV.si IntKind.i64 d.p.cls.a1, SV.si IntKind.i64 d.p.cls.a2, SV.si IntKind.i64 d.p.cls.a3, SV.si IntKind.i64 d.p.cls.a4, SV.si IntKind.i64 d.p.cls.a5, SV.row (SId.i IntKind.i64) d.p.classes, SV.row SId.off d.p.offers, SV.row (SId.i IntKind.i64) d.values, SV.si IntKind.i64 d.all, SV.si IntKind.i64 d.worth] (86 : Nat) (23 : Nat) false).same (SObj.cells [SV.si IntKind.i64 d.p.supply.a0, SV.si IntKind.i64 d.p.supply.a1, SV.si IntKind.i64 d.p.supply.a2, SV.si IntKind.i64 d.p.supply.a3, SV.si IntKind.i64 d.p.supply.a4, SV.si IntKind.i64 d.p.supply.a5, SV.si IntKind.i64 d.p.opn.a0, SV.si IntKind.i64 d.p.opn.a1, SV.si IntKind.i64 d.p.opn.a2, SV.si IntKind.i64 d.p.opn.a3, SV.si IntKind.i64 d.p.opn.a4, SV.si IntKind.i64 d.p.opn.a5, SV.si IntKind.i64 d.p.cls.a0, SV.si IntKind.i64 d.p.cls.a1, SV.si IntKind.i64 d.p.cls.a2, SV.si IntKind.i64 d.p.cls.a3, SV.si IntKind.i64 d.p.cls.a4, SV.si IntKind.i64 d.p.cls.a5, SV.row (SId.i IntKind.i64) d.p.classes, SV.row SId.off d.p.offers, SV.row (SId.i IntKind.i64) d.values, SV.si IntKind.i64 d.all, SV.si IntKind.i64 d.worth] (86 : Nat) (23 : Nat) false) ∧ (SObj.row (SId.i IntKind.i64) (eachL (false, e) x.toNat ++ [payS e x]) (2 : Nat) true).same (SObj.row (SId.i IntKind.i64) (eachL (false, e) (x + (1 : Int)).toNat) (2 : Nat) true) ∧ True) ∧ ((0 : Int) ≤ x + (1 : Int) ∧ x + (1 : Int) ≤ (↑d.values.length : Int)) ∧ ((↑d.values.length : Int) - (x + (1 : Int))).toNat < ((↑d.values.length : Int) - x).toNat) ∧ (decide (x < (↑d.values.length : Int)) = false → (eachL (false, e) x.toNat).length = (eachL (false, e) x.toNat).length ∧ (SV.row (SId.i IntKind.i64) (eachL (false, e) x.toNat)).same (SV.row (SId.i IntKind.i64) (eachL (false, e) d.values.length)))) (by kernel_rfl) ?_
    simp only [decide_eq_true_eq, decide_eq_false_iff_not, same_il_si, same_si_si, same_si_il, same_il_il, same_sb_sb, same_bl_sb, same_row, same_tup2, same_tup3, same_nil, same_row_nil, same_rfl, osame_rfl, inR_i64, eq_self, true_and, and_true, Bool.and_eq_true, Bool.not_eq_true', Bool.not_eq_false']
    refine ⟨⟨⟨how rfl, hrow rfl⟩, by omega, by omega⟩, ?_⟩
    rintro i ⟨hi0, hi1⟩
    have hL := @eachL_len (false, e) i.toNat
    refine ⟨fun hlt => ⟨⟨hd, hi0, by omega⟩, by omega, by omega, by omega, ⟨how (by rw [eachL_succ hi0]; rfl), hrow (eachL_succ hi0).symm⟩, by omega, by omega⟩, fun hge => ?_⟩
    rw [show i.toNat = d.values.length from by omega]
  | true =>
    refine vcOf (((((SV.fn (Fn.func (66 : Nat)) [SV.agg [SV.si IntKind.i64 e.p.supply.a0, SV.si IntKind.i64 e.p.supply.a1, SV.si IntKind.i64 e.p.supply.a2, SV.si IntKind.i64 e.p.supply.a3, SV.si IntKind.i64 e.p.supply.a4, SV.si IntKind.i64 e.p.supply.a5, SV.si IntKind.i64 e.p.opn.a0, SV.si IntKind.i64 e.p.opn.a1, SV.si IntKind.i64 e.p.opn.a2, SV.si IntKind.i64 e.p.opn.a3, SV.si IntKind.i64 e.p.opn.a4, SV.si IntKind.i64 e.p.opn.a5, SV.si IntKind.i64 e.p.cls.a0, SV.si IntKind.i64 e.p.cls.a1, SV.si IntKind.i64 e.p.cls.a2, SV.si IntKind.i64 e.p.cls.a3, SV.si IntKind.i64 e.p.cls.a4, SV.si IntKind.i64 e.p.cls.a5, SV.row (SId.i IntKind.i64) e.p.classes, SV.row SId.off e.p.offers, SV.row (SId.i IntKind.i64) e.values, SV.si IntKind.i64 e.all, SV.si IntKind.i64 e.worth]] []).same (SV.fn (Fn.func (66 : Nat)) [SV.agg [SV.si IntKind.i64 e.p.supply.a0, SV.si IntKind.i64 e.p.supply.a1, SV.si IntKind.i64 e.p.supply.a2, SV.si IntKind.i64 e.p.supply.a3, SV.si IntKind.i64 e.p.supply.a4, SV.si IntKind.i64 e.p.supply.a5, SV.si IntKind.i64 e.p.opn.a0, SV.si IntKind.i64 e.p.opn.a1, SV.si IntKind.i64 e.p.opn.a2, SV.si IntKind.i64 e.p.opn.a3, SV.si IntKind.i64 e.p.opn.a4, SV.si IntKind.i64 e.p.opn.a5, SV.si IntKind.i64 e.p.cls.a0, SV.si IntKind.i64 e.p.cls.a1, SV.si IntKind.i64 e.p.cls.a2, SV.si IntKind.i64 e.p.cls.a3, SV.si IntKind.i64 e.p.cls.a4, SV.si IntKind.i64 e.p.cls.a5, SV.row (SId.i IntKind.i64) e.p.classes, SV.row SId.off e.p.offers, SV.row (SId.i IntKind.i64) e.values, SV.si IntKind.i64 e.all, SV.si IntKind.i64 e.worth]] []) ∧ (SV.ow (1 : Nat) (0 : Nat) (1 : Nat)).same (SV.ow (1 : Nat) (eachL (true, e) (0 : Nat)).length (1 : Nat)) ∧ (SV.si IntKind.i64 (↑d.values.length : Int)).same (SV.si IntKind.i64 (↑d.values.length : Int)) ∧ (SV.il IntKind.i64 (0 : Int)).same (SV.si IntKind.i64 (0 : Int)) ∧ True) ∧ (SObj.cells [SV.si IntKind.i64 d.p.supply.a0, SV.si IntKind.i64 d.p.supply.a1, SV.si IntKind.i64 d.p.supply.a2, SV.si IntKind.i64 d.p.supply.a3, SV.si IntKind.i64 d.p.supply.a4, SV.si IntKind.i64 d.p.supply.a5, SV.si IntKind.i64 d.p.opn.a0, SV.si IntKind.i64 d.p.opn.a1, SV.si IntKind.i64 d.p.opn.a2, SV.si IntKind.i64 d.p.opn.a3, SV.si IntKind.i64 d.p.opn.a4, SV.si IntKind.i64 d.p.opn.a5, SV.si IntKind.i64 d.p.cls.a0, SV.si IntKind.i64 d.p.cls.a1, SV.si IntKind.i64 d.p.cls.a2, SV.si IntKind.i64 d.p.cls.a3, SV.si IntKind.i64 d.p.cls.a4, SV.si IntKind.i64 d.p.cls.a5, SV.row (SId.i IntKind.i64) d.p.classes, SV.row SId.off d.p.offers, SV.row (SId.i IntKind.i64) d.values, SV.si IntKind.i64 d.all, SV.si IntKind.i64 d.worth] (86 : Nat) (23 : Nat) false).same (SObj.cells [SV.si IntKind.i64 d.p.supply.a0, SV.si IntKind.i64 d.p.supply.a1, SV.si IntKind.i64 d.p.supply.a2, SV.si IntKind.i64 d.p.supply.a3, SV.si IntKind.i64 d.p.supply.a4, SV.si IntKind.i64 d.p.supply.a5, SV.si IntKind.i64 d.p.opn.a0, SV.si IntKind.i64 d.p.opn.a1, SV.si IntKind.i64 d.p.opn.a2, SV.si IntKind.i64 d.p.opn.a3, SV.si IntKind.i64 d.p.opn.a4, SV.si IntKind.i64 d.p.opn.a5, SV.si IntKind.i64 d.p.cls.a0, SV.si IntKind.i64 d.p.cls.a1, SV.si IntKind.i64 d.p.cls.a2, SV.si IntKind.i64 d.p.cls.a3, SV.si IntKind.i64 d.p.cls.a4, SV.si IntKind.i64 d.p.cls.a5, SV.row (SId.i IntKind.i64) d.p.classes, SV.row SId.off d.p.offers, SV.row (SId.i IntKind.i64) d.values, SV.si IntKind.i64 d.all, SV.si IntKind.i64 d.worth] (86 : Nat) (23 : Nat) false) ∧ (SObj.row (SId.i IntKind.i64) [] (2 : Nat) true).same (SObj.row (SId.i IntKind.i64) (eachL (true, e) (0 : Nat)) (2 : Nat) true) ∧ True) ∧ (0 : Int) ≤ (0 : Int) ∧ (0 : Int) ≤ (↑d.values.length : Int)) ∧ ∀ (x : Int), (0 : Int) ≤ x ∧ x ≤ (↑d.values.length : Int) → (decide (x < (↑d.values.length : Int)) = true → (DealOk e ∧ (0 : Int) ≤ x ∧ x < (↑e.values.length : Int)) ∧ (eachL (true, e) x.toNat).length = (eachL (true, e) x.toNat).length ∧ ((eachL (true, e) x.toNat).length + (1 : Nat)) * (8 : Nat) ≤ (140737488355328 : Nat) ∧ (eachL (true, e) x.toNat).length + (1 : Nat) ≤ (1000000000000 : Nat) ∧ inR IntKind.i64 (x + (1 : Int)) ∧ (((SV.fn (Fn.func (66 : Nat)) [SV.agg [SV.si IntKind.i64 e.p.supply.a0, SV.si IntKind.i64 e.p.supply.a1, SV.si IntKind.i64 e.p.supply.a2, SV.si IntKind.i64 e.p.supply.a3, SV.si IntKind.i64 e.p.supply.a4, SV.si IntKind.i64 e.p.supply.a5, SV.si IntKind.i64 e.p.opn.a0, SV.si IntKind.i64 e.p.opn.a1, SV.si IntKind.i64 e.p.opn.a2, SV.si IntKind.i64 e.p.opn.a3, SV.si IntKind.i64 e.p.opn.a4, SV.si IntKind.i64 e.p.opn.a5, SV.si IntKind.i64 e.p.cls.a0, SV.si IntKind.i64 e.p.cls.a1, SV.si IntKind.i64 e.p.cls.a2, SV.si IntKind.i64 e.p.cls.a3, SV.si IntKind.i64 e.p.cls.a4, SV.si IntKind.i64 e.p.cls.a5, SV.row (SId.i IntKind.i64) e.p.classes, SV.row SId.off e.p.offers, SV.row (SId.i IntKind.i64) e.values, SV.si IntKind.i64 e.all, SV.si IntKind.i64 e.worth]] []).same (SV.fn (Fn.func (66 : Nat)) [SV.agg [SV.si IntKind.i64 e.p.supply.a0, SV.si IntKind.i64 e.p.supply.a1, SV.si IntKind.i64 e.p.supply.a2, SV.si IntKind.i64 e.p.supply.a3, SV.si IntKind.i64 e.p.supply.a4, SV.si IntKind.i64 e.p.supply.a5, SV.si IntKind.i64 e.p.opn.a0, SV.si IntKind.i64 e.p.opn.a1, SV.si IntKind.i64 e.p.opn.a2, SV.si IntKind.i64 e.p.opn.a3, SV.si IntKind.i64 e.p.opn.a4, SV.si IntKind.i64 e.p.opn.a5, SV.si IntKind.i64 e.p.cls.a0, SV.si IntKind.i64 e.p.cls.a1, SV.si IntKind.i64 e.p.cls.a2, SV.si IntKind.i64 e.p.cls.a3, SV.si IntKind.i64 e.p.cls.a4, SV.si IntKind.i64 e.p.cls.a5, SV.row (SId.i IntKind.i64) e.p.classes, SV.row SId.off e.p.offers, SV.row (SId.i IntKind.i64) e.values, SV.si IntKind.i64 e.all, SV.si IntKind.i64 e.worth]] []) ∧ (SV.ow (1 : Nat) (eachL (true, e) x.toNat ++ [discS e x]).length (1 : Nat)).same (SV.ow (1 : Nat) (eachL (true, e) (x + (1 : Int)).toNat).length (1 : Nat)) ∧ (SV.si IntKind.i64 (↑d.values.length : Int)).same (SV.si IntKind.i64 (↑d.values.length : Int)) ∧ (SV.si IntKind.i64 (x + (1 : Int))).same (SV.si IntKind.i64 (x + (1 : Int))) ∧ True) ∧ (SObj.cells [SV.si IntKind.i64 d.p.supply.a0, SV.si IntKind.i64 d.p.supply.a1, SV.si IntKind.i64 d.p.supply.a2, SV.si IntKind.i64 d.p.supply.a3, SV.si IntKind.i64 d.p.supply.a4, SV.si IntKind.i64 d.p.supply.a5, SV.si IntKind.i64 d.p.opn.a0, SV.si IntKind.i64 d.p.opn.a1, SV.si IntKind.i64 d.p.opn.a2, SV.si IntKind.i64 d.p.opn.a3, SV.si IntKind.i64 d.p.opn.a4, SV.si IntKind.i64 d.p.opn.a5, SV.si IntKind.i64 d.p.cls.a0, SV.si IntKind.i64 d.p.cls.a1, SV.si IntKind.i64 d.p.cls.a2, SV.si IntKind.i64 d.p.cls.a3, SV.si IntKind.i64 d.p.cls.a4, SV.si IntKind.i64 d.p.cls.a5, SV.row (SId.i IntKind.i64) d.p.classes, SV.row SId.off d.p.offers, SV.row (SId.i IntKind.i64) d.values, SV.si IntKind.i64 d.all, SV.si IntKind.i64 d.worth] (86 : Nat) (23 : Nat) false).same (SObj.cells [SV.si IntKind.i64 d.p.supply.a0, SV.si IntKind.i64 d.p.supply.a1, SV.si IntKind.i64 d.p.supply.a2, SV.si IntKind.i64 d.p.supply.a3, SV.si IntKind.i64 d.p.supply.a4, SV.si IntKind.i64 d.p.supply.a5, SV.si IntKind.i64 d.p.opn.a0, SV.si IntKind.i64 d.p.opn.a1, SV.si IntKind.i64 d.p.opn.a2, SV.si IntKind.i64 d.p.opn.a3, SV.si IntKind.i64 d.p.opn.a4, SV.si IntKind.i64 d.p.opn.a5, SV.si IntKind.i64 d.p.cls.a0, SV.si IntKind.i64 d.p.cls.a1, SV.si IntKind.i64 d.p.cls.a2, SV.si IntKind.i64 d.p.cls.a3, SV.si IntKind.i64 d.p.cls.a4, SV.si IntKind.i64 d.p.cls.a5, SV.row (SId.i IntKind.i64) d.p.classes, SV.row SId.off d.p.offers, SV.row (SId.i IntKind.i64) d.values, SV.si IntKind.i64 d.all, SV.si IntKind.i64 d.worth] (86 : Nat) (23 : Nat) false) ∧ (SObj.row (SId.i IntKind.i64) (eachL (true, e) x.toNat ++ [discS e x]) (2 : Nat) true).same (SObj.row (SId.i IntKind.i64) (eachL (true, e) (x + (1 : Int)).toNat) (2 : Nat) true) ∧ True) ∧ ((0 : Int) ≤ x + (1 : Int) ∧ x + (1 : Int) ≤ (↑d.values.length : Int)) ∧ ((↑d.values.length : Int) - (x + (1 : Int))).toNat < ((↑d.values.length : Int) - x).toNat) ∧ (decide (x < (↑d.values.length : Int)) = false → (eachL (true, e) x.toNat).length = (eachL (true, e) x.toNat).length ∧ (SV.row (SId.i IntKind.i64) (eachL (true, e) x.toNat)).same (SV.row (SId.i IntKind.i64) (eachL (true, e) d.values.length)))) (by kernel_rfl) ?_
    simp only [decide_eq_true_eq, decide_eq_false_iff_not, same_il_si, same_si_si, same_si_il, same_il_il, same_sb_sb, same_bl_sb, same_row, same_tup2, same_tup3, same_nil, same_row_nil, same_rfl, osame_rfl, inR_i64, eq_self, true_and, and_true, Bool.and_eq_true, Bool.not_eq_true', Bool.not_eq_false']
    refine ⟨⟨⟨how rfl, hrow rfl⟩, by omega, by omega⟩, ?_⟩
    rintro i ⟨hi0, hi1⟩
    have hL := @eachL_len (true, e) i.toNat
    refine ⟨fun hlt => ⟨⟨hd, hi0, by omega⟩, by omega, by omega, by omega, ⟨how (by rw [eachL_succ hi0]; rfl), hrow (eachL_succ hi0).symm⟩, by omega, by omega⟩, fun hge => ?_⟩
    rw [show i.toNat = d.values.length from by omega]

theorem setV_bd {p : Prob} (hg : Good p) : ∀ {c : List Int} {v : List Int}, (∀ i ∈ c, 0 ≤ i ∧ i < p.offers.length) → (∀ x ∈ v, 0 ≤ x ∧ x ≤ 1000000) → ∀ x ∈ c.foldl (setV p) v, 0 ≤ x ∧ x ≤ 1000000
  | [], v, _, hv => hv
  | i :: c, v, hc, hv => by
    simp only [List.foldl_cons]
    refine setV_bd hg (fun j hj => hc j (by simp [hj])) ?_
    intro x hx
    unfold setV at hx
    rcases List.mem_or_eq_of_mem_set hx with h | h
    · exact hv x h
    · have hi := hc i (by simp)
      have := hg.2.2.2.2 _ (nthD_mem (d := SId.off.dflt) (show i.toNat < p.offers.length by omega))
      rw [h]
      omega

theorem open_ok {p : Prob} {c : List Int} (h : openE p c = 0) : DealOk (openD p c) ∧ openD p c = ⟨p, valsS p c, allM p, sumC p c⟩ ∧ Good p := by
  have hz : feasE p c = 0 := by
    unfold openE at h
    split at h
    · rename_i h1; exact absurd h h1
    · rename_i h1; exact Classical.not_not.1 h1
  have hck : checkE p = 0 := by
    unfold feasE at hz
    split at hz
    · rename_i h1; exact absurd hz h1
    · rename_i h1; exact Classical.not_not.1 h1
  have hpk : pickOk p c = true := by
    unfold feasE at hz
    rw [if_neg (by simp [hck])] at hz
    split at hz
    · cases hz
    · rename_i h1; simpa using h1
  have hg := good_of hck
  obtain ⟨r, hr⟩ := Option.isSome_iff_exists.1 hpk
  obtain ⟨hr1, hidx⟩ := pick_idx (by omega) hr
  have hcl : c.length ≤ 160 := by
    have h1 := pick_len (by omega) hr
    have h2 := hg.2.1
    rcases h1 with h1 | rfl
    · omega
    · simp at hr1; omega
  have hd : openD p c = ⟨p, valsS p c, allM p, sumC p c⟩ := by simp [openD, h]
  have hs := sum_bd2 hg (c := c) (s := 0) hidx (by omega)
  change 0 ≤ sumC p c ∧ sumC p c ≤ _ at hs
  refine ⟨?_, hd, hg⟩
  rw [hd]
  exact ⟨hck, valsS_len, rfl, setV_bd hg hidx (fun x hx => by have := List.eq_of_mem_replicate hx; omega), by simp only; omega, by simp only; omega⟩

def LE : List SCtr := r62 :: LD
theorem hLE : ∀ c ∈ LE, Holds Try.prog c := by
  simp only [LE, List.forall_mem_cons]
  exact ⟨h62, hLD⟩

def paysS (p : Prob) (c : List Int) : List Int := if openE p c = 0 then eachL (false, openD p c) p.classes.length else []
def discsS (p : Prob) (c : List Int) : List Int := if openE p c = 0 then eachL (true, openD p c) p.classes.length else []

def r17 : SCtr := ⟨17, Prob × Alloc, .cons codP (.one codA), fun a => a.2.chosen.length ≤ 1000000000000, fun a => .tup [.row (.i .i64) (paysS a.1 a.2.chosen), .si .i64 (openE a.1 a.2.chosen)]⟩
theorem h17 : Holds Try.prog r17 := by
  refine con (L := LE) r17 F17 (fun _ _ => .look) (OwnOK.none _) hLE (by kernel_rfl) (by kernel_rfl) (fun _ => rfl) ?_
  rintro ⟨p, ⟨c, v⟩⟩ (hc : c.length ≤ 1000000000000)
  refine vcOf (c.length ≤ (1000000000000 : Nat) ∧ (decide (openE p c ≠ (0 : Int)) = true → (SV.tup [SV.row (SId.i IntKind.i64) [], SV.si IntKind.i64 (openE p c)]).same (SV.tup [SV.row (SId.i IntKind.i64) (paysS p c), SV.si IntKind.i64 (openE p c)])) ∧ (decide (openE p c ≠ (0 : Int)) = false → (DealOk (openD p c) ∧ (openD p c).values.length = (openD p c).values.length) ∧ (SV.tup [SV.row (SId.i IntKind.i64) (eachL (false, openD p c) (openD p c).values.length), SV.il IntKind.i64 (0 : Int)]).same (SV.tup [SV.row (SId.i IntKind.i64) (paysS p c), SV.si IntKind.i64 (openE p c)]))) (by kernel_rfl) ?_
  simp only [decide_eq_true_eq, decide_eq_false_iff_not, same_il_si, same_si_si, same_si_il, same_il_il, same_sb_sb, same_bl_sb, same_row, same_tup2, same_tup3, same_nil, same_row_nil, same_rfl, osame_rfl, inR_i64, eq_self, true_and, and_true, Bool.and_eq_true, Bool.not_eq_true', Bool.not_eq_false']
  refine ⟨hc, fun h => by simp [paysS, h], fun h => ?_⟩
  have hz : openE p c = 0 := Classical.not_not.1 h
  obtain ⟨h1, h2, h3⟩ := open_ok hz
  refine ⟨h1, ?_, hz.symm⟩
  rw [h1.2.1, h2]
  simp [paysS, hz, h2]

def r19 : SCtr := ⟨19, Prob × Alloc, .cons codP (.one codA), fun a => a.2.chosen.length ≤ 1000000000000, fun a => .tup [.row (.i .i64) (discsS a.1 a.2.chosen), .si .i64 (openE a.1 a.2.chosen)]⟩
theorem h19 : Holds Try.prog r19 := by
  refine con (L := LE) r19 F19 (fun _ _ => .look) (OwnOK.none _) hLE (by kernel_rfl) (by kernel_rfl) (fun _ => rfl) ?_
  rintro ⟨p, ⟨c, v⟩⟩ (hc : c.length ≤ 1000000000000)
  refine vcOf (c.length ≤ (1000000000000 : Nat) ∧ (decide (openE p c ≠ (0 : Int)) = true → (SV.tup [SV.row (SId.i IntKind.i64) [], SV.si IntKind.i64 (openE p c)]).same (SV.tup [SV.row (SId.i IntKind.i64) (discsS p c), SV.si IntKind.i64 (openE p c)])) ∧ (decide (openE p c ≠ (0 : Int)) = false → (DealOk (openD p c) ∧ (openD p c).values.length = (openD p c).values.length) ∧ (SV.tup [SV.row (SId.i IntKind.i64) (eachL (true, openD p c) (openD p c).values.length), SV.il IntKind.i64 (0 : Int)]).same (SV.tup [SV.row (SId.i IntKind.i64) (discsS p c), SV.si IntKind.i64 (openE p c)]))) (by kernel_rfl) ?_
  simp only [decide_eq_true_eq, decide_eq_false_iff_not, same_il_si, same_si_si, same_si_il, same_il_il, same_sb_sb, same_bl_sb, same_row, same_tup2, same_tup3, same_nil, same_row_nil, same_rfl, osame_rfl, inR_i64, eq_self, true_and, and_true, Bool.and_eq_true, Bool.not_eq_true', Bool.not_eq_false']
  refine ⟨hc, fun h => by simp [discsS, h], fun h => ?_⟩
  have hz : openE p c = 0 := Classical.not_not.1 h
  obtain ⟨h1, h2, h3⟩ := open_ok hz
  refine ⟨h1, ?_, hz.symm⟩
  rw [h1.2.1, h2]
  simp [discsS, hz, h2]

def extE (p : Prob) (c : List Int) (b : Int) : Int := if openE p c ≠ 0 then openE p c else if b < 0 ∨ p.classes.length ≤ b then 6 else 0
def extS (p : Prob) (c : List Int) (b : Int) : Int := if extE p c b = 0 then payS (openD p c) b else 0

def r21 : SCtr := ⟨21, Prob × Alloc × Int, .cons codP (.cons codA (.one (codI .i64))), fun a => a.2.1.chosen.length ≤ 1000000000000, fun a => .tup [.si .i64 (extS a.1 a.2.1.chosen a.2.2), .si .i64 (extE a.1 a.2.1.chosen a.2.2)]⟩
theorem h21 : Holds Try.prog r21 := by
  refine con (L := LE) r21 F21 (fun _ _ => .look) (OwnOK.none _) hLE (by kernel_rfl) (by kernel_rfl) (fun _ => rfl) ?_
  rintro ⟨p, ⟨c, v⟩, b⟩ (hc : c.length ≤ 1000000000000)
  refine vcOf (c.length ≤ (1000000000000 : Nat) ∧ (decide (openE p c ≠ (0 : Int)) = true → (SV.tup [SV.il IntKind.i64 (0 : Int), SV.si IntKind.i64 (openE p c)]).same (SV.tup [SV.si IntKind.i64 (extS p c b), SV.si IntKind.i64 (extE p c b)])) ∧ (decide (openE p c ≠ (0 : Int)) = false → (decide (b < (0 : Int)) = true → (SV.tup [SV.il IntKind.i64 (0 : Int), SV.il IntKind.i64 (6 : Int)]).same (SV.tup [SV.si IntKind.i64 (extS p c b), SV.si IntKind.i64 (extE p c b)])) ∧ (decide (b < (0 : Int)) = false → (decide ((↑(openD p c).values.length : Int) ≤ b) = true → (SV.tup [SV.il IntKind.i64 (0 : Int), SV.il IntKind.i64 (6 : Int)]).same (SV.tup [SV.si IntKind.i64 (extS p c b), SV.si IntKind.i64 (extE p c b)])) ∧ (decide ((↑(openD p c).values.length : Int) ≤ b) = false → (DealOk (openD p c) ∧ (0 : Int) ≤ b ∧ b < (↑(openD p c).values.length : Int)) ∧ (SV.tup [SV.si IntKind.i64 (payS (openD p c) b), SV.il IntKind.i64 (0 : Int)]).same (SV.tup [SV.si IntKind.i64 (extS p c b), SV.si IntKind.i64 (extE p c b)]))))) (by kernel_rfl) ?_
  simp only [decide_eq_true_eq, decide_eq_false_iff_not, same_il_si, same_si_si, same_si_il, same_il_il, same_sb_sb, same_bl_sb, same_row, same_tup2, same_tup3, same_nil, same_row_nil, same_rfl, osame_rfl, inR_i64, eq_self, true_and, and_true, Bool.and_eq_true, Bool.not_eq_true', Bool.not_eq_false']
  refine ⟨hc, fun h => by simp [extS, extE, h], fun h => ?_⟩
  have hz : openE p c = 0 := Classical.not_not.1 h
  obtain ⟨h1, h2, h3⟩ := open_ok hz
  have hl : (openD p c).values.length = p.classes.length := by rw [h1.2.1, h2]
  rw [hl]
  refine ⟨fun hb => ?_, fun hb => ⟨fun hb2 => ?_, fun hb2 => ⟨⟨h1, by omega, by omega⟩, ?_⟩⟩⟩
  · have : extE p c b = 6 := by simp [extE, hz, hb]
    exact ⟨by simp [extS, this], this.symm⟩
  · have : extE p c b = 6 := by simp [extE, hz, hb2]
    exact ⟨by simp [extS, this], this.symm⟩
  · have : extE p c b = 0 := by simp only [extE, hz, ne_eq, not_true, if_false, if_neg (show ¬ (b < 0 ∨ (p.classes.length : Int) ≤ b) by omega)]
    exact ⟨by simp [extS, this], this.symm⟩

def sameB (a b : List Int) : Bool := decide (a = b)
/-- Equal lists of amounts. -/
def r23 : SCtr := ⟨23, List Int × List Int, .cons (codR (.i .i64)) (.one (codR (.i .i64))), fun a => a.1.length ≤ 1000000000000, fun a => .sb (sameB a.1 a.2)⟩
def Λ23 (a : List Int × List Int) : Nat → LoopAnn
  | 4 => .inv Int (fun i => ⟨[(0, .row (.i .i64) a.1), (1, .row (.i .i64) a.2), (5, .si .i64 i)], []⟩) (fun s => iS s 5) (fun i => 0 ≤ i ∧ i ≤ a.1.length ∧ ∀ k : Nat, k < i → nthD a.1 k 0 = nthD a.2 k 0) (fun i => (a.1.length - i).toNat) fun _ _ => .look
  | _ => .look

theorem h23 : Holds Try.prog r23 := by
  refine con (L := LE) r23 F23 Λ23 (OwnOK.none _) hLE (by kernel_rfl) (by kernel_rfl) (fun _ => rfl) ?_
  rintro ⟨a, b⟩ (h : a.length ≤ 1000000000000)
  refine vcOf ((decide ((↑a.length : Int) ≠ (↑b.length : Int)) = true → (SV.bl false).same (SV.sb (sameB a b))) ∧ (decide ((↑a.length : Int) ≠ (↑b.length : Int)) = false → ((((SV.row (SId.i IntKind.i64) a).same (SV.row (SId.i IntKind.i64) a) ∧ (SV.row (SId.i IntKind.i64) b).same (SV.row (SId.i IntKind.i64) b) ∧ (SV.il IntKind.i64 (0 : Int)).same (SV.si IntKind.i64 (0 : Int)) ∧ True) ∧ True) ∧ (0 : Int) ≤ (0 : Int) ∧ (0 : Int) ≤ (↑a.length : Int) ∧ ∀ (k : Nat), (↑k : Int) < (0 : Int) → nthD a k (0 : Int) = nthD b k (0 : Int)) ∧ ∀ (x : Int), ((0 : Int) ≤ x ∧ x ≤ (↑a.length : Int) ∧ ∀ (k : Nat), (↑k : Int) < x → nthD a k (0 : Int) = nthD b k (0 : Int)) → (decide (x < (↑a.length : Int)) = true → (0 : Int) ≤ x ∧ x < (↑a.length : Int) ∧ x.toNat < a.length ∧ (0 : Int) ≤ x ∧ x < (↑b.length : Int) ∧ x.toNat < b.length ∧ (decide (nthD a x.toNat (0 : Int) ≠ nthD b x.toNat (0 : Int)) = true → (SV.bl false).same (SV.sb (sameB a b))) ∧ (decide (nthD a x.toNat (0 : Int) ≠ nthD b x.toNat (0 : Int)) = false → inR IntKind.i64 (x + (1 : Int)) ∧ (((SV.row (SId.i IntKind.i64) a).same (SV.row (SId.i IntKind.i64) a) ∧ (SV.row (SId.i IntKind.i64) b).same (SV.row (SId.i IntKind.i64) b) ∧ (SV.si IntKind.i64 (x + (1 : Int))).same (SV.si IntKind.i64 (x + (1 : Int))) ∧ True) ∧ True) ∧ ((0 : Int) ≤ x + (1 : Int) ∧ x + (1 : Int) ≤ (↑a.length : Int) ∧ ∀ (k : Nat), (↑k : Int) < x + (1 : Int) → nthD a k (0 : Int) = nthD b k (0 : Int)) ∧ ((↑a.length : Int) - (x + (1 : Int))).toNat < ((↑a.length : Int) - x).toNat)) ∧ (decide (x < (↑a.length : Int)) = false → (SV.bl true).same (SV.sb (sameB a b))))) (by kernel_rfl) ?_
  simp only [decide_eq_true_eq, decide_eq_false_iff_not, same_il_si, same_si_si, same_si_il, same_il_il, same_sb_sb, same_bl_sb, same_row, same_tup2, same_tup3, same_nil, same_row_nil, same_rfl, osame_rfl, inR_i64, eq_self, true_and, and_true, Bool.and_eq_true, Bool.not_eq_true', Bool.not_eq_false']
  refine ⟨fun h1 => ?_, fun h1 => ⟨⟨by omega, by omega, fun k hk => by omega⟩, ?_⟩⟩
  · have : a ≠ b := fun e => h1 (by rw [e])
    simp [sameB, this]
  rintro i ⟨hi0, hi1, hi⟩
  have hl : a.length = b.length := by omega
  refine ⟨fun hlt => ⟨hi0, hlt, by omega, hi0, by omega, by omega, fun hne => ?_, fun heq => ⟨by omega, ⟨by omega, by omega, ?_⟩, by omega⟩⟩, fun hge => ?_⟩
  · have : a ≠ b := fun e => hne (by rw [e])
    simp [sameB, this]
  · intro k hk
    by_cases hk2 : (k : Int) < i
    · exact hi k hk2
    · rw [show k = i.toNat from by omega]
      exact Classical.not_not.1 heq
  · have : a = b := List.ext_getElem hl fun k h1 h2 => by
      have := hi k (by omega)
      rwa [nthD_eq h1, nthD_eq h2] at this
    simp [sameB, this]

end Go.Vi

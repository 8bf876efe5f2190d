/-
  Contract: the law VickreyBounds.
  Conditions: none.
-/
import Derived.Test.YtigbjjkijfkeeaaB10
set_option linter.unusedVariables false
set_option linter.unusedSimpArgs false
set_option maxRecDepth 100000
set_option maxHeartbeats 4000000
set_option linter.unusedSimpArgs false
set_option linter.unusedVariables false
namespace Go.Vi
open Go.Proofs.Ytigbjjkijfkeeaa.Ir
open Go.Proofs

def LJ : List SCtr := r24 :: r25 :: r26 :: r27 :: LG
theorem hLJ : ∀ c ∈ LJ, Holds Try.prog c := by
  simp only [LJ, List.forall_mem_cons]
  exact ⟨h24, h25, h26, h27, hLG⟩

def r4 : SCtr := ⟨4, Prob, .one codP, fun _ => True, fun _ => .sb true⟩
def st4 (p : Prob) : SStore := [.cells p.ss 27 20 false, .cells [.row (.i .i64) (bestA p).chosen, .si .i64 (bestA p).value] 31 2 false]
def Λ4 (p : Prob) : Nat → LoopAnn
  | 9 => .inv Int (fun i => ⟨[(1, .ptr 0 0 20), (3, .ptr 1 0 2), (4, .row (.i .i64) (paysS p (bestA p).chosen)), (6, .row (.i .i64) (discsS p (bestA p).chosen)), (8, .si .i64 i)], st4 p⟩) (fun s => iS s 8)
    (fun i => 0 ≤ i ∧ i ≤ p.classes.length) (fun i => (p.classes.length - i).toNat) fun i => fun
      | 13 => .inv (Int × Int) (fun x => ⟨[(1, .ptr 0 0 20), (3, .ptr 1 0 2), (4, .row (.i .i64) (paysS p (bestA p).chosen)), (6, .row (.i .i64) (discsS p (bestA p).chosen)), (8, .si .i64 i), (9, .si .i64 x.2), (10, .si .i64 x.1)], st4 p⟩) (fun s => (iS s 10, iS s 9))
        (fun x => 0 ≤ x.1 ∧ x.1 ≤ (bestA p).chosen.length ∧ x.2 = (wonS p ((bestA p).chosen.take x.1.toNat) i).1) (fun x => ((bestA p).chosen.length - x.1).toNat) fun _ _ => .look
      | _ => .look
  | _ => .look
theorem h4 : Holds Try.prog r4 := by
  refine con (L := LJ) r4 F4 Λ4 (OwnOK.none _) hLJ (by kernel_rfl) (by kernel_rfl) (fun _ => rfl) ?_
  intro (p : Prob) _
  refine vcOf (True ∧ ((!fewB p (10 : Int)) = true → True ∧ (SV.sb true).same (SV.sb true)) ∧ ((!fewB p (10 : Int)) = false → True ∧ (decide (checkE p ≠ (0 : Int)) = true → True ∧ (SV.sb true).same (SV.sb true)) ∧ (decide (checkE p ≠ (0 : Int)) = false → Good p ∧ (bestA p).chosen.length ≤ 1000000000000 ∧ (bestA p).chosen.length ≤ 1000000000000 ∧ (decide (openE p (bestA p).chosen ≠ (0 : Int)) = true → (SV.bl false).same (SV.sb true)) ∧ (decide (openE p (bestA p).chosen ≠ (0 : Int)) = false → (decide (openE p (bestA p).chosen ≠ (0 : Int)) = true → (SV.bl false).same (SV.sb true)) ∧ (decide (openE p (bestA p).chosen ≠ (0 : Int)) = false → (decide ((↑(paysS p (bestA p).chosen).length : Int) ≠ (↑p.classes.length : Int)) = true → (SV.bl false).same (SV.sb true)) ∧ (decide ((↑(paysS p (bestA p).chosen).length : Int) ≠ (↑p.classes.length : Int)) = false → (decide ((↑(discsS p (bestA p).chosen).length : Int) ≠ (↑p.classes.length : Int)) = true → (SV.bl false).same (SV.sb true)) ∧ (decide ((↑(discsS p (bestA p).chosen).length : Int) ≠ (↑p.classes.length : Int)) = false → ((((SV.ptr 0 0 20).same (SV.ptr 0 0 20) ∧ (SV.ptr 1 0 2).same (SV.ptr 1 0 2) ∧ (SV.row (SId.i .i64) (paysS p (bestA p).chosen)).same (SV.row (SId.i .i64) (paysS p (bestA p).chosen)) ∧ (SV.row (SId.i .i64) (discsS p (bestA p).chosen)).same (SV.row (SId.i .i64) (discsS p (bestA p).chosen)) ∧ (SV.il .i64 0).same (SV.si .i64 0) ∧ True) ∧ (SObj.cells (Prob.ss p) 27 20 false).same (SObj.cells (Prob.ss p) 27 20 false) ∧ (SObj.cells [SV.row (SId.i .i64) (bestA p).chosen, SV.si .i64 (bestA p).value] 31 2 false).same (SObj.cells [SV.row (SId.i .i64) (bestA p).chosen, SV.si .i64 (bestA p).value] 31 2 false) ∧ True) ∧ (0 : Int) ≤ (0 : Int) ∧ (0 : Int) ≤ (↑p.classes.length : Int)) ∧ ∀ (x : Int), (0 : Int) ≤ x ∧ x ≤ (↑p.classes.length : Int) → (decide (x < (↑(paysS p (bestA p).chosen).length : Int)) = true → ((((SV.ptr 0 0 20).same (SV.ptr 0 0 20) ∧ (SV.ptr 1 0 2).same (SV.ptr 1 0 2) ∧ (SV.row (SId.i .i64) (paysS p (bestA p).chosen)).same (SV.row (SId.i .i64) (paysS p (bestA p).chosen)) ∧ (SV.row (SId.i .i64) (discsS p (bestA p).chosen)).same (SV.row (SId.i .i64) (discsS p (bestA p).chosen)) ∧ (SV.si .i64 x).same (SV.si .i64 x) ∧ (SV.il .i64 0).same (SV.si .i64 0) ∧ (SV.il .i64 0).same (SV.si .i64 0) ∧ True) ∧ (SObj.cells (Prob.ss p) 27 20 false).same (SObj.cells (Prob.ss p) 27 20 false) ∧ (SObj.cells [SV.row (SId.i .i64) (bestA p).chosen, SV.si .i64 (bestA p).value] 31 2 false).same (SObj.cells [SV.row (SId.i .i64) (bestA p).chosen, SV.si .i64 (bestA p).value] 31 2 false) ∧ True) ∧ (0 : Int) ≤ (0 : Int) ∧ (0 : Int) ≤ (↑(bestA p).chosen.length : Int) ∧ (0 : Int) = (wonS p [] x).fst) ∧ ∀ (x_1 : Int × Int), (0 : Int) ≤ x_1.fst ∧ x_1.fst ≤ (↑(bestA p).chosen.length : Int) ∧ x_1.snd = (wonS p (List.take x_1.fst.toNat (bestA p).chosen) x).fst → (decide (x_1.fst < (↑(bestA p).chosen.length : Int)) = true → (0 : Int) ≤ x_1.fst ∧ x_1.fst < (↑(bestA p).chosen.length : Int) ∧ x_1.fst.toNat < (bestA p).chosen.length ∧ (0 : Int) ≤ nthD (bestA p).chosen x_1.fst.toNat (0 : Int) ∧ nthD (bestA p).chosen x_1.fst.toNat (0 : Int) < (↑p.offers.length : Int) ∧ (nthD (bestA p).chosen x_1.fst.toNat (0 : Int)).toNat < p.offers.length ∧ (decide ((nthD p.offers (nthD (bestA p).chosen x_1.fst.toNat (0 : Int)).toNat SId.off.dflt).bidder = x) = true → inR .i64 (x_1.fst + (1 : Int)) ∧ (((SV.ptr 0 0 20).same (SV.ptr 0 0 20) ∧ (SV.ptr 1 0 2).same (SV.ptr 1 0 2) ∧ (SV.row (SId.i .i64) (paysS p (bestA p).chosen)).same (SV.row (SId.i .i64) (paysS p (bestA p).chosen)) ∧ (SV.row (SId.i .i64) (discsS p (bestA p).chosen)).same (SV.row (SId.i .i64) (discsS p (bestA p).chosen)) ∧ (SV.si .i64 x).same (SV.si .i64 x) ∧ (SV.si .i64 (nthD p.offers (nthD (bestA p).chosen x_1.fst.toNat (0 : Int)).toNat SId.off.dflt).value).same (SV.si .i64 (nthD p.offers (nthD (bestA p).chosen x_1.fst.toNat (0 : Int)).toNat SId.off.dflt).value) ∧ (SV.si .i64 (x_1.fst + (1 : Int))).same (SV.si .i64 (x_1.fst + (1 : Int))) ∧ True) ∧ (SObj.cells (Prob.ss p) 27 20 false).same (SObj.cells (Prob.ss p) 27 20 false) ∧ (SObj.cells [SV.row (SId.i .i64) (bestA p).chosen, SV.si .i64 (bestA p).value] 31 2 false).same (SObj.cells [SV.row (SId.i .i64) (bestA p).chosen, SV.si .i64 (bestA p).value] 31 2 false) ∧ True) ∧ ((0 : Int) ≤ x_1.fst + (1 : Int) ∧ x_1.fst + (1 : Int) ≤ (↑(bestA p).chosen.length : Int) ∧ (nthD p.offers (nthD (bestA p).chosen x_1.fst.toNat (0 : Int)).toNat SId.off.dflt).value = (wonS p (List.take (x_1.fst + (1 : Int)).toNat (bestA p).chosen) x).fst) ∧ ((↑(bestA p).chosen.length : Int) - (x_1.fst + (1 : Int))).toNat < ((↑(bestA p).chosen.length : Int) - x_1.fst).toNat) ∧ (decide ((nthD p.offers (nthD (bestA p).chosen x_1.fst.toNat (0 : Int)).toNat SId.off.dflt).bidder = x) = false → inR .i64 (x_1.fst + (1 : Int)) ∧ (((SV.ptr 0 0 20).same (SV.ptr 0 0 20) ∧ (SV.ptr 1 0 2).same (SV.ptr 1 0 2) ∧ (SV.row (SId.i .i64) (paysS p (bestA p).chosen)).same (SV.row (SId.i .i64) (paysS p (bestA p).chosen)) ∧ (SV.row (SId.i .i64) (discsS p (bestA p).chosen)).same (SV.row (SId.i .i64) (discsS p (bestA p).chosen)) ∧ (SV.si .i64 x).same (SV.si .i64 x) ∧ (SV.si .i64 x_1.snd).same (SV.si .i64 x_1.snd) ∧ (SV.si .i64 (x_1.fst + (1 : Int))).same (SV.si .i64 (x_1.fst + (1 : Int))) ∧ True) ∧ (SObj.cells (Prob.ss p) 27 20 false).same (SObj.cells (Prob.ss p) 27 20 false) ∧ (SObj.cells [SV.row (SId.i .i64) (bestA p).chosen, SV.si .i64 (bestA p).value] 31 2 false).same (SObj.cells [SV.row (SId.i .i64) (bestA p).chosen, SV.si .i64 (bestA p).value] 31 2 false) ∧ True) ∧ ((0 : Int) ≤ x_1.fst + (1 : Int) ∧ x_1.fst + (1 : Int) ≤ (↑(bestA p).chosen.length : Int) ∧ x_1.snd = (wonS p (List.take (x_1.fst + (1 : Int)).toNat (bestA p).chosen) x).fst) ∧ ((↑(bestA p).chosen.length : Int) - (x_1.fst + (1 : Int))).toNat < ((↑(bestA p).chosen.length : Int) - x_1.fst).toNat)) ∧ (decide (x_1.fst < (↑(bestA p).chosen.length : Int)) = false → (0 : Int) ≤ x ∧ x < (↑(paysS p (bestA p).chosen).length : Int) ∧ x.toNat < (paysS p (bestA p).chosen).length ∧ (decide (nthD (paysS p (bestA p).chosen) x.toNat (0 : Int) < (0 : Int)) = true → (SV.bl false).same (SV.sb true)) ∧ (decide (nthD (paysS p (bestA p).chosen) x.toNat (0 : Int) < (0 : Int)) = false → (0 : Int) ≤ x ∧ x < (↑(paysS p (bestA p).chosen).length : Int) ∧ x.toNat < (paysS p (bestA p).chosen).length ∧ (decide (x_1.snd < nthD (paysS p (bestA p).chosen) x.toNat (0 : Int)) = true → (SV.bl false).same (SV.sb true)) ∧ (decide (x_1.snd < nthD (paysS p (bestA p).chosen) x.toNat (0 : Int)) = false → (0 : Int) ≤ x ∧ x < (↑(discsS p (bestA p).chosen).length : Int) ∧ x.toNat < (discsS p (bestA p).chosen).length ∧ p.classes.length ≤ 8 ∧ (Good p ∧ (0 : Int) ≤ allR p x p.classes.length ∧ allR p x p.classes.length < (256 : Int)) ∧ inR .i64 ((bestA p).value - worthR p (allR p x p.classes.length)) ∧ (decide (nthD (discsS p (bestA p).chosen) x.toNat (0 : Int) ≠ (bestA p).value - worthR p (allR p x p.classes.length)) = true → (SV.bl false).same (SV.sb true)) ∧ (decide (nthD (discsS p (bestA p).chosen) x.toNat (0 : Int) ≠ (bestA p).value - worthR p (allR p x p.classes.length)) = false → inR .i64 (x + (1 : Int)) ∧ (((SV.ptr 0 0 20).same (SV.ptr 0 0 20) ∧ (SV.ptr 1 0 2).same (SV.ptr 1 0 2) ∧ (SV.row (SId.i .i64) (paysS p (bestA p).chosen)).same (SV.row (SId.i .i64) (paysS p (bestA p).chosen)) ∧ (SV.row (SId.i .i64) (discsS p (bestA p).chosen)).same (SV.row (SId.i .i64) (discsS p (bestA p).chosen)) ∧ (SV.si .i64 (x + (1 : Int))).same (SV.si .i64 (x + (1 : Int))) ∧ True) ∧ (SObj.cells (Prob.ss p) 27 20 false).same (SObj.cells (Prob.ss p) 27 20 false) ∧ (SObj.cells [SV.row (SId.i .i64) (bestA p).chosen, SV.si .i64 (bestA p).value] 31 2 false).same (SObj.cells [SV.row (SId.i .i64) (bestA p).chosen, SV.si .i64 (bestA p).value] 31 2 false) ∧ True) ∧ ((0 : Int) ≤ x + (1 : Int) ∧ x + (1 : Int) ≤ (↑p.classes.length : Int)) ∧ ((↑p.classes.length : Int) - (x + (1 : Int))).toNat < ((↑p.classes.length : Int) - x).toNat))))) ∧ (decide (x < (↑(paysS p (bestA p).chosen).length : Int)) = false → True ∧ (SV.sb true).same (SV.sb true))))))))) (by kernel_rfl) ?_
  simp only [decide_eq_true_eq, decide_eq_false_iff_not, same_il_si, same_si_si, same_si_il, same_il_il, same_sb_sb, same_bl_sb, same_row, same_tup2, same_tup3, same_nil, same_row_nil, same_rfl, osame_rfl, inR_i64, eq_self, true_and, and_true, Bool.and_eq_true, Bool.not_eq_true', Bool.not_eq_false']
  refine ⟨fun _ => trivial, fun _ => ⟨fun _ => trivial, fun hc => ?_⟩⟩
  have hc : checkE p = 0 := Classical.not_not.1 hc
  have hg := good_of hc
  obtain ⟨ho, hF, ht, hv⟩ := best_open hc
  have hz : feasE p (bestA p).chosen = 0 := faultR_ok (openE_eq ▸ ho)
  have hi := inc_idx ht
  have hl : (bestA p).chosen.length ≤ 160 := (feas_ok hz).2.2.2.1
  have h8 := hg.1
  have pl : (paysS p (bestA p).chosen).length = p.classes.length := by simp [paysS, ho, eachL_len]
  have dl : (discsS p (bestA p).chosen).length = p.classes.length := by simp [discsS, ho, eachL_len]
  have pn : ∀ x : Int, 0 ≤ x → x < p.classes.length → nthD (paysS p (bestA p).chosen) x.toNat 0 = payS (openD p (bestA p).chosen) x := by
    intro x h0 h1
    rw [nthD_eq (by omega)]
    simp only [paysS, ho, if_true, eachL, List.getElem_map, List.getElem_range, eachF, show ((x.toNat : Nat) : Int) = x by omega]
  have dn : ∀ x : Int, 0 ≤ x → x < p.classes.length → nthD (discsS p (bestA p).chosen) x.toNat 0 = discS (openD p (bestA p).chosen) x := by
    intro x h0 h1
    rw [nthD_eq (by omega)]
    simp only [discsS, ho, if_true, eachL, List.getElem_map, List.getElem_range, eachF, show ((x.toNat : Nat) : Int) = x by omega]
  refine ⟨hg, by omega, by omega, fun h => absurd ho h, fun _ => ⟨fun h => absurd ho h, fun _ => ⟨fun h => absurd (by omega) h, fun _ => ⟨fun h => absurd (by omega) h, fun _ => ⟨⟨by omega, by omega⟩, ?_⟩⟩⟩⟩⟩
  rintro x ⟨hx0, hx1⟩
  refine ⟨fun hlt => ⟨⟨by omega, by omega, by simp [wonS]⟩, ?_⟩, fun _ => trivial⟩
  rw [pl] at hlt
  rintro ⟨k, own⟩ ⟨hk0, hk1, hk⟩
  simp only at hk0 hk1 hk ⊢
  refine ⟨fun hkl => ?_, fun hkl => ?_⟩
  · have hm := hi _ (nthD_mem (d := 0) (show k.toNat < (bestA p).chosen.length by omega))
    have hs := won_snoc (p := p) (c := (bestA p).chosen) (b := x) hk0 hkl
    refine ⟨hk0, hkl, by omega, hm.1, hm.2, by omega, fun hb => ⟨by omega, ⟨by omega, by omega, ?_⟩, by omega⟩, fun hb => ⟨by omega, ⟨by omega, by omega, ?_⟩, by omega⟩⟩
    · rw [hs]; unfold wonF; rw [if_pos hb]
    · rw [hs]; unfold wonF; rw [if_neg hb]; exact hk
  · rw [show k.toNat = (bestA p).chosen.length by omega, List.take_length] at hk
    obtain ⟨b1, b2, b3⟩ := best_pay hc hx0 hlt
    have hwb := worthR_bd hg (allR p x p.classes.length)
    have hbv : 0 ≤ (bestA p).value ∧ (bestA p).value ≤ 8000000 := by
      rw [← all_best hc]
      exact worth_bd p (allM p)
    have ha := allR_256 hg.1 x
    refine ⟨hx0, by omega, by omega, fun h => ?_, fun _ => ⟨hx0, by omega, by omega, fun h => ?_, fun _ => ⟨hx0, by omega, by omega, hg.1, ⟨hg, ha.1, ha.2⟩, ⟨by omega, by omega⟩, fun h => ?_, fun _ => ⟨⟨by omega, by omega⟩, ⟨by omega, by omega⟩, by omega⟩⟩⟩⟩
    · rw [pn x hx0 hlt] at h; omega
    · rw [pn x hx0 hlt] at h; omega
    · rw [dn x hx0 hlt, b3] at h; exact absurd rfl h

end Go.Vi

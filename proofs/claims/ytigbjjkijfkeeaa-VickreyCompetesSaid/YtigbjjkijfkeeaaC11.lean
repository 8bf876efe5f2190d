/-
  Contract: the law VickreyBounds.
  Conditions: none.
-/
import Derived.Test.YtigbjjkijfkeeaaC10
set_option linter.unusedVariables false
set_option linter.unusedSimpArgs false
set_option maxRecDepth 100000
set_option maxHeartbeats 4000000
set_option linter.unusedSimpArgs false
set_option linter.unusedVariables false
namespace Go.Vi
open Go.Proofs.Ytigbjjkijfkeeaa.Ir
open Go.Proofs

def LJ : List SCtr := r24 :: r25 :: r26 :: r27 :: LG
theorem hLJ : ∀ c ∈ LJ, Holds Try.prog c := by
  simp only [LJ, List.forall_mem_cons]
  exact ⟨h24, h25, h26, h27, hLG⟩

def r4 : SCtr := ⟨4, Prob, .one codP, fun _ => True, fun _ => .sb true⟩
def st4 (p : Prob) : SStore := [.cells p.ss 27 20 false, .cells [.row (.i .i64) (bestA p).chosen, .si .i64 (bestA p).value] 31 2 false]
def Λ4 (p : Prob) : Nat → LoopAnn
  | 9 => .inv Int (fun i => ⟨[(1, .ptr 0 0 20), (3, .ptr 1 0 2), (4, .row (.i .i64) (paysS p (bestA p).chosen)), (6, .row (.i .i64) (discsS p (bestA p).chosen)), (8, .si .i64 i)], st4 p⟩) (fun s => iS s 8)
    (fun i => 0 ≤ i ∧ i ≤ p.classes.length) (fun i => (p.classes.length - i).toNat) fun i => fun
      | 13 => .inv (Int × Int) (fun x => ⟨[(1, .ptr 0 0 20), (3, .ptr 1 0 2), (4, .row (.i .i64) (paysS p (bestA p).chosen)), (6, .row (.i .i64) (discsS p (bestA p).chosen)), (8, .si .i64 i), (9, .si .i64 x.2), (10, .si .i64 x.1)], st4 p⟩) (fun s => (iS s 10, iS s 9))
        (fun x => 0 ≤ x.1 ∧ x.1 ≤ (bestA p).chosen.length ∧ x.2 = (wonS p ((bestA p).chosen.take x.1.toNat) i).1) (fun x => ((bestA p).chosen.length - x.1).toNat) fun _ _ => .look
      | _ => .look
  | _ => .look
theorem h4 : Holds Try.prog r4 := by
  refine con (L := LJ) r4 F4 Λ4 (OwnOK.none _) hLJ (by kernel_rfl) (by kernel_rfl) (fun _ => rfl) ?_
  intro (p : Prob) _
  refine vcOf (True ∧ ((!fewB p (10 : Int)) = true → True ∧ (SV.sb true).same (SV.sb true)) ∧ ((!fewB p (10 : Int)) = false → True ∧ (decide (checkE p ≠ (0 : Int)) = true → True ∧ (SV.sb true).same (SV.sb true)) ∧ (decide (checkE p ≠ (0 : Int)) = false → Good p ∧ (bestA p).chosen.length ≤ 1000000000000 ∧ (bestA p).chosen.length ≤ 1000000000000 ∧ (decide (openE p (bestA p).chosen ≠ (0 : Int)) = true → (SV.bl false).same (SV.sb true)) ∧ (decide (openE p (bestA p).chosen ≠ (0 : Int)) = false → (decide (openE p (bestA p).chosen ≠ (0 : Int)) = true → (SV.bl false).same (SV.sb true)) ∧ (decide (openE p (bestA p).chosen ≠ (0 : Int)) = false → (decide ((↑(paysS p (bestA p).chosen).length : Int) ≠ (↑p.classes.length : Int)) = true → (SV.bl false).same (SV.sb true)) ∧ (decide ((↑(paysS p (bestA p).chosen).length : Int) ≠ (↑p.classes.length : Int)) = false → (decide ((↑(discsS p (bestA p).chosen).length : Int) ≠ (↑p.classes.length : Int)) = true → (SV.bl false).same (SV.sb true)) ∧ (decide ((↑(discsS p (bestA p).chosen).length : Int) ≠ (↑p.classes.length : Int)) = false → ((((SV.ptr 0 0 20).same (SV.ptr 0 0 20) ∧ (SV.ptr 1 0 2).same (SV.ptr 1 0 2) ∧ (SV.row (SId.i .i64) (paysS p (bestA p).chosen)).same (SV.row (SId.i .i64) (paysS p (bestA p).chosen)) ∧ (SV.row (SId.i .i64) (discsS p (bestA p).chosen)).same (SV.row (SId.i .i64) (discsS p (bestA p).chosen)) ∧ (SV.il .i64 0).same (SV.si .i64 0) ∧ True) ∧ (SObj.cells (Prob.ss p) 27 20 false).same (SObj.cells (Prob.ss p) 27 20 false) ∧ (SObj.cells [SV.row (SId.i .i64) (bestA p).chosen, SV.si .i64 (bestA p).value] 31 2 false).same (SObj.cells [SV.row (SId.i .i64) (bestA p).chosen, SV.si .i64 (bestA p).value] 31 2 false) ∧ True) ∧ (0 : Int) ≤ (0 : Int) ∧ (0 : Int) ≤ (↑p.classes.length : Int)) ∧ ∀ (x : Int), (0 : Int) ≤ x ∧ x ≤ (↑p.classes.length : Int) → (decide (x < (↑(paysS p (bestA p).chosen).length : Int)) = true → ((((SV.ptr 0 0 20).same (SV.ptr 0 0 20) ∧ (SV.ptr 1 0 2).same (SV.ptr 1 0 2) ∧ (SV.row (SId.i .i64) (paysS p (bestA p).chosen)).same (SV.row (SId.i .i64) (paysS p (bestA p).chosen)) ∧ (SV.row (SId.i .i64) (discsS p (bestA p).chosen)).same (SV.row (SId.i .i64) (discsS p (bestA p).chosen)) ∧ (SV.si .i64 x).same (SV.si .i64 x) ∧ (SV.il .i64 0).same (SV.si .i64 0) ∧ (SV.il .i64 0).same (SV.si .i64 0) ∧ True) ∧ (SObj.cells (Prob.ss p) 27 20 false).same (SObj.cells (Prob.ss p) 27 20 false) ∧ (SObj.cells [SV.row (SId.i .i64) (bestA p).chosen, SV.si .i64 (bestA p).value] 31 2 false).same (SObj.cells [SV.row (SId.i .i64) (bestA p).chosen, SV.si .i64 (bestA p).value] 31 2 false) ∧ True) ∧ (0 : Int) ≤ (0 : Int) ∧ (0 : Int) ≤ (↑(bestA p).chosen.length : Int) ∧ (0 : Int) = (wonS p [] x).fst) ∧ ∀ (x_1 : Int × Int), (0 : Int) ≤ x_1.fst ∧ x_1.fst ≤ (↑(bestA p).chosen.length : Int) ∧ x_1.snd = (wonS p (List.take x_1.fst.toNat (bestA p).chosen) x).fst → (decide (x_1.fst < (↑(bestA p).chosen.length : Int)) = true → (0 : Int) ≤ x_1.fst ∧ x_1.fst < (↑(bestA p).chosen.length : Int) ∧ x_1.fst.toNat < (bestA p).chosen.length ∧ (0 : Int) ≤ nthD (bestA p).chosen x_1.fst.toNat (0 : Int) ∧ nthD (bestA p).chosen x_1.fst.toNat (0 : Int) < (↑p.offers.length : Int) ∧ (nthD (bestA p).chosen x_1.fst.toNat (0 : Int)).toNat < p.offers.length ∧ (decide ((nthD p.offers (nthD (bestA p).chosen x_1.fst.toNat (0 : Int)).toNat SId.off.dflt).bidder = x) = true → inR .i64 (x_1.fst + (1 : Int)) ∧ (((SV.ptr 0 0 20).same (SV.ptr 0 0 20) ∧ (SV.ptr 1 0 2).same (SV.ptr 1 0 2) ∧ (SV.row (SId.i .i64) (paysS p (bestA p).chosen)).same (SV.row (SId.i .i64) (paysS p (bestA p).chosen)) ∧ (SV.row (SId.i .i64) (discsS p (bestA p).chosen)).same (SV.row (SId.i .i64) (discsS p (bestA p).chosen)) ∧ (SV.si .i64 x).same (SV.si .i64 x) ∧ (SV.si .i64 (nthD p.offers (nthD (bestA p).chosen x_1.fst.toNat (0 : Int)).toNat SId.off.dflt).value).same (SV.si .i64 (nthD p.offers (nthD (bestA p).chosen x_1.fst.toNat (0 : Int)).toNat SId.off.dflt).value) ∧ (SV.si .i64 (x_1.fst + (1 : Int))).same (SV.si .i64 (x_1.fst + (1 : Int))) ∧ True) ∧ (SObj.cells (Prob.ss p) 27 20 false).same (SObj.cells (Prob.ss p) 27 20 false) ∧ (SObj.cells [SV.row (SId.i .i64) (bestA p).chosen, SV.si .i64 (bestA p).value] 31 2 false).same (SObj.cells [SV.row (SId.i .i64) (bestA p).chosen, SV.si .i64 (bestA p).value] 31 2 false) ∧ True) ∧ ((0 : Int) ≤ x_1.fst + (1 : Int) ∧ x_1.fst + (1 : Int) ≤ (↑(bestA p).chosen.length : Int) ∧ (nthD p.offers (nthD (bestA p).chosen x_1.fst.toNat (0 : Int)).toNat SId.off.dflt).value = (wonS p (List.take (x_1.fst + (1 : Int)).toNat (bestA p).chosen) x).fst) ∧ ((↑(bestA p).chosen.length : Int) - (x_1.fst + (1 : Int))).toNat < ((↑(bestA p).chosen.length : Int) - x_1.fst).toNat) ∧ (decide ((nthD p.offers (nthD (bestA p).chosen x_1.fst.toNat (0 : Int)).toNat SId.off.dflt).bidder = x) = false → inR .i64 (x_1.fst + (1 : Int)) ∧ (((SV.ptr 0 0 20).same (SV.ptr 0 0 20) ∧ (SV.ptr 1 0 2).same (SV.ptr 1 0 2) ∧ (SV.row (SId.i .i64) (paysS p (bestA p).chosen)).same (SV.row (SId.i .i64) (paysS p (bestA p).chosen)) ∧ (SV.row (SId.i .i64) (discsS p (bestA p).chosen)).same (SV.row (SId.i .i64) (discsS p (bestA p).chosen)) ∧ (SV.si .i64 x).same (SV.si .i64 x) ∧ (SV.si .i64 x_1.snd).same (SV.si .i64 x_1.snd) ∧ (SV.si .i64 (x_1.fst + (1 : Int))).same (SV.si .i64 (x_1.fst + (1 : Int))) ∧ True) ∧ (SObj.cells (Prob.ss p) 27 20 false).same (SObj.cells (Prob.ss p) 27 20 false) ∧ (SObj.cells [SV.row (SId.i .i64) (bestA p).chosen, SV.si .i64 (bestA p).value] 31 2 false).same (SObj.cells [SV.row (SId.i .i64) (bestA p).chosen, SV.si .i64 (bestA p).value] 31 2 false) ∧ True) ∧ ((0 : Int) ≤ x_1.fst + (1 : Int) ∧ x_1.fst + (1 : Int) ≤ (↑(bestA p).chosen.length : Int) ∧ x_1.snd = (wonS p (List.take (x_1.fst + (1 : Int)).toNat (bestA p).chosen) x).fst) ∧ ((↑(bestA p).chosen.length : Int) - (x_1.fst + (1 : Int))).toNat < ((↑(bestA p).chosen.length : Int) - x_1.fst).toNat)) ∧ (decide (x_1.fst < (↑(bestA p).chosen.length : Int)) = false → (0 : Int) ≤ x ∧ x < (↑(paysS p (bestA p).chosen).length : Int) ∧ x.toNat < (paysS p (bestA p).chosen).length ∧ (decide (nthD (paysS p (bestA p).chosen) x.toNat (0 : Int) < (0 : Int)) = true → (SV.bl false).same (SV.sb true)) ∧ (decide (nthD (paysS p (bestA p).chosen) x.toNat (0 : Int) < (0 : Int)) = false → (0 : Int) ≤ x ∧ x < (↑(paysS p (bestA p).chosen).length : Int) ∧ x.toNat < (paysS p (bestA p).chosen).length ∧ (decide (x_1.snd < nthD (paysS p (bestA p).chosen) x.toNat (0 : Int)) = true → (SV.bl false).same (SV.sb true)) ∧ (decide (x_1.snd < nthD (paysS p (bestA p).chosen) x.toNat (0 : Int)) = false → (0 : Int) ≤ x ∧ x < (↑(discsS p (bestA p).chosen).length : Int) ∧ x.toNat < (discsS p (bestA p).chosen).length ∧ p.classes.length ≤ 8 ∧ (Good p ∧ (0 : Int) ≤ allR p x p.classes.length ∧ allR p x p.classes.length < (256 : Int)) ∧ inR .i64 ((bestA p).value - worthR p (allR p x p.classes.length)) ∧ (decide (nthD (discsS p (bestA p).chosen) x.toNat (0 : Int) ≠ (bestA p).value - worthR p (allR p x p.classes.length)) = true → (SV.bl false).same (SV.sb true)) ∧ (decide (nthD (discsS p (bestA p).chosen) x.toNat (0 : Int) ≠ (bestA p).value - worthR p (allR p x p.classes.length)) = false → inR .i64 (x + (1 : Int)) ∧ (((SV.ptr 0 0 20).same (SV.ptr 0 0 20) ∧ (SV.ptr 1 0 2).same (SV.ptr 1 0 2) ∧ (SV.row (SId.i .i64) (paysS p (bestA p).chosen)).same (SV.row (SId.i .i64) (paysS p (bestA p).chosen)) ∧ (SV.row (SId.i .i64) (discsS p (bestA p).chosen)).same (SV.row (SId.i .i64) (discsS p (bestA p).chosen)) ∧ (SV.si .i64 (x + (1 : Int))).same (SV.si .i64 (x + (1 : Int))) ∧ True) ∧ (SObj.cells (Prob.ss p) 27 20 false).same (SObj.cells (Prob.ss p) 27 20 false) ∧ (SObj.cells [SV.row (SId.i .i64) (bestA p).chosen, SV.si .i64 (bestA p).value] 31 2 false).same (SObj.cells [SV.row (SId.i .i64) (bestA p).chosen, SV.si .i64 (bestA p).value] 31 2 false) ∧ True) ∧ ((0 : Int) ≤ x + (1 : Int) ∧ x + (1 : Int) ≤ (↑p.classes.length : Int)) ∧ ((↑p.classes.length : Int) - (x + (1 : Int))).toNat < ((↑p.classes.length : Int) - x).toNat))))) ∧ (decide (x < (↑(paysS p (bestA p).chosen).length : Int)) = false → True ∧ (SV.sb true).same (SV.sb true))))))))) (by kernel_rfl) ?_
  simp only [decide_eq_true_eq, decide_eq_false_iff_not, same_il_si, same_si_si, same_si_il, same_il_il, same_sb_sb, same_bl_sb, same_row, same_tup2, same_tup3, same_nil, same_row_nil, same_rfl, osame_rfl, inR_i64, eq_self, true_and, and_true, Bool.and_eq_true, Bool.not_eq_true', Bool.not_eq_false']
  refine ⟨fun _ => trivial, fun _ => ⟨fun _ => trivial, fun hc => ?_⟩⟩
  have hc : checkE p = 0 := Classical.not_not.1 hc
  have hg := good_of hc
  obtain ⟨ho, hF, ht, hv⟩ := best_open hc
  have hz : feasE p (bestA p).chosen = 0 := faultR_ok (openE_eq ▸ ho)
  have hi := inc_idx ht
  have hl : (bestA p).chosen.length ≤ 160 := (feas_ok hz).2.2.2.1
  have h8 := hg.1
  have pl : (paysS p (bestA p).chosen).length = p.classes.length := by simp [paysS, ho, eachL_len]
  have dl : (discsS p (bestA p).chosen).length = p.classes.length := by simp [discsS, ho, eachL_len]
  have pn : ∀ x : Int, 0 ≤ x → x < p.classes.length → nthD (paysS p (bestA p).chosen) x.toNat 0 = payS (openD p (bestA p).chosen) x := by
    intro x h0 h1
    rw [nthD_eq (by omega)]
    simp only [paysS, ho, if_true, eachL, List.getElem_map, List.getElem_range, eachF, show ((x.toNat : Nat) : Int) = x by omega]
  have dn : ∀ x : Int, 0 ≤ x → x < p.classes.length → nthD (discsS p (bestA p).chosen) x.toNat 0 = discS (openD p (bestA p).chosen) x := by
    intro x h0 h1
    rw [nthD_eq (by omega)]
    simp only [discsS, ho, if_true, eachL, List.getElem_map, List.getElem_range, eachF, show ((x.toNat : Nat) : Int) = x by omega]
  refine ⟨hg, by omega, by omega, fun h => absurd ho h, fun _ => ⟨fun h => absurd ho h, fun _ => ⟨fun h => absurd (by omega) h, fun _ => ⟨fun h => absurd (by omega) h, fun _ => ⟨⟨by omega, by omega⟩, ?_⟩⟩⟩⟩⟩
  rintro x ⟨hx0, hx1⟩
  refine ⟨fun hlt => ⟨⟨by omega, by omega, by simp [wonS]⟩, ?_⟩, fun _ => trivial⟩
  rw [pl] at hlt
  rintro ⟨k, own⟩ ⟨hk0, hk1, hk⟩
  simp only at hk0 hk1 hk ⊢
  refine ⟨fun hkl => ?_, fun hkl => ?_⟩
  · have hm := hi _ (nthD_mem (d := 0) (show k.toNat < (bestA p).chosen.length by omega))
    have hs := won_snoc (p := p) (c := (bestA p).chosen) (b := x) hk0 hkl
    refine ⟨hk0, hkl, by omega, hm.1, hm.2, by omega, fun hb => ⟨by omega, ⟨by omega, by omega, ?_⟩, by omega⟩, fun hb => ⟨by omega, ⟨by omega, by omega, ?_⟩, by omega⟩⟩
    · rw [hs]; unfold wonF; rw [if_pos hb]
    · rw [hs]; unfold wonF; rw [if_neg hb]; exact hk
  · rw [show k.toNat = (bestA p).chosen.length by omega, List.take_length] at hk
    obtain ⟨b1, b2, b3⟩ := best_pay hc hx0 hlt
    have hwb := worthR_bd hg (allR p x p.classes.length)
    have hbv : 0 ≤ (bestA p).value ∧ (bestA p).value ≤ 8000000 := by
      rw [← all_best hc]
      exact worth_bd p (allM p)
    have ha := allR_256 hg.1 x
    refine ⟨hx0, by omega, by omega, fun h => ?_, fun _ => ⟨hx0, by omega, by omega, fun h => ?_, fun _ => ⟨hx0, by omega, by omega, hg.1, ⟨hg, ha.1, ha.2⟩, ⟨by omega, by omega⟩, fun h => ?_, fun _ => ⟨⟨by omega, by omega⟩, ⟨by omega, by omega⟩, by omega⟩⟩⟩⟩
    · rw [pn x hx0 hlt] at h; omega
    · rw [pn x hx0 hlt] at h; omega
    · rw [dn x hx0 hlt, b3] at h; exact absurd rfl h

end Go.Vi
/-
  Plain law: without the offers of a bidder that is not a winner, no payment is greater.
  Conditions: none.
-/
set_option maxRecDepth 100000
set_option maxHeartbeats 4000000
set_option linter.unusedSimpArgs false
set_option linter.unusedVariables false
namespace Go.Vi
open Go.Proofs

/-- The problem with some of its offers. -/
def offP (p : Prob) (l : List Off) : Prob := { p with offers := l }

theorem offer_off {p : Prob} {l : List Off} {o : Off} : offerE (offP p l) o = offerE p o := rfl
theorem outS_off {p : Prob} {l : List Off} {o : Off} : outS (offP p l) o = outS p o := rfl

theorem checkL_filter {p : Prob} {l0 : List Off} {f : Off → Bool} : ∀ {l : List Off} {s t : List BKey}, checkL p s l = 0 → (∀ k ∈ t, k ∈ s) → checkL (offP p l0) t (l.filter f) = 0
  | [], _, _, _, _ => rfl
  | o :: r, s, t, h, hs => by
    simp only [checkL] at h
    split at h
    · rename_i h1; exact absurd h h1
    · split at h
      · cases h
      · rename_i h1 h2
        have hn : o.key ∉ t := fun hm => h2 (hs _ hm)
        rw [List.filter_cons]
        split
        · unfold checkL
          rw [if_neg (show ¬ offerE (offP p l0) o ≠ 0 from h1), if_neg hn]
          exact checkL_filter h fun k hk => by
            rcases List.mem_append.1 hk with hk | hk
            · exact List.mem_append.2 (.inl (hs k hk))
            · exact List.mem_append.2 (.inr hk)
        · exact checkL_filter h fun k hk => List.mem_append.2 (.inl (hs k hk))

theorem check_filter {p : Prob} {f : Off → Bool} (h : checkE p = 0) : checkE (offP p (p.offers.filter f)) = 0 := by
  have hg := good_of h
  unfold checkE at h
  split at h
  · rename_i h1; exact absurd h h1
  · rename_i h1
    have hf : frameE p = 0 := Classical.not_not.1 h1
    obtain ⟨f1, f2, f3, f4, f5⟩ := frame_zero hf
    have hl := List.length_filter_le f p.offers
    have hq : frameE (offP p (p.offers.filter f)) = 0 := frame_ok (p := offP p (p.offers.filter f)) f1 (fun j hj => by have h := (prodOk_iff (p := p) (k := j)).1 (f2 j hj); exact prodOk_iff.2 h) (by simp only [offP]; omega) f5
    unfold checkE
    rw [if_neg (by simp [hq])]
    exact checkL_filter h (by simp)

theorem check_offers {p : Prob} {f : Off → Bool} : (offP p (p.offers.filter f)).offers = p.offers.filter f := rfl

/-- What others are worth does not grow. -/
theorem worth_filter {p : Prob} {f : Off → Bool} (h : checkE p = 0) {m : Int} (h0 : 0 ≤ m) (h1 : m < 2 ^ p.classes.length) : worthS (offP p (p.offers.filter f)) m ≤ worthS p m := by
  have hg := good_of h
  have hq := check_filter (f := f) h
  have hgq := good_of hq
  rw [worthS_val h h0 h1, worthS_val hq h0 h1]
  have q1 := Bun.ok_iff.1 hg.2.2.1
  have q2 := Bun.ok_iff.1 hg.2.2.2.1
  obtain ⟨L, hL, hv⟩ := fit_at hgq (mem_nodup m) (l := p.supply) (o := p.opn) (by rw [Bun.le_iff]; simp only [Bun.zero]; omega) (by rw [Bun.le_iff]; simp only [Bun.zero]; omega)
  have : valL (offP p (p.offers.filter f)) (memL m) (offP p (p.offers.filter f)).supply (offP p (p.offers.filter f)).opn = sumV L := hv.symm
  rw [this]
  exact fit_le hg ⟨hL.nd, fun x hx => ⟨(List.mem_filter.1 (hL.mem x hx).1).1, (hL.mem x hx).2⟩, hL.w, hL.o⟩

def wonO (b : Int) (s : Int × Int) (x : Off) : Int × Int := if x.bidder = b then (x.value, s.2) else (s.1, s.2 + x.value)
theorem won_offs {p : Prob} {b : Int} : ∀ {c : List Int} {s : Int × Int}, c.foldl (wonF p b) s = (offsI p c).foldl (wonO b) s
  | [], s => rfl
  | i :: c, s => by rw [List.foldl_cons, offsI_cons, List.foldl_cons, won_offs]; rfl

/-- Offers of others among the first ones, and the new places of a list's elements. -/
def qT (p : Prob) (b : Int) (i : Nat) : List Off := (p.offers.take i).filter fun x => decide (x.bidder ≠ b)
def chT (p : Prob) (b : Int) (c : List Int) : Nat → List Int
  | 0 => []
  | i + 1 => chT p b c i ++ (if (nthD p.offers i SId.off.dflt).bidder = b then [] else List.replicate (c.count (i : Int)) ((qT p b i).length : Int))

theorem qT_succ {p : Prob} {b : Int} {i : Nat} (h : i < p.offers.length) : qT p b (i + 1) = qT p b i ++ (if (nthD p.offers i SId.off.dflt).bidder = b then [] else [nthD p.offers i SId.off.dflt]) := by
  unfold qT
  rw [List.take_succ_eq_append_getElem h, List.filter_append, nthD_eq h]
  congr 1
  by_cases hb : p.offers[i].bidder = b <;> simp [hb]

theorem inc_split {b : Int} : ∀ {c : List Int}, c.Pairwise (· < ·) → c.filter (fun j => decide (j < b + 1)) = c.filter (fun j => decide (j < b)) ++ List.replicate (c.count b) b
  | [], _ => rfl
  | x :: c, h => by
    have hp := List.pairwise_cons.1 h
    have ih := inc_split (b := b) hp.2
    by_cases h1 : x < b
    · have hx : ¬ x = b := by omega
      rw [List.filter_cons, if_pos (by simp; omega), List.filter_cons, if_pos (by simpa using h1), ih, List.count_cons_of_ne hx]
      rfl
    · have he : c.filter (fun j => decide (j < b)) = [] := List.filter_eq_nil_iff.2 fun j hj => by have := hp.1 j hj; simp; omega
      by_cases h2 : x = b
      · subst h2
        have he2 : c.filter (fun j => decide (j < x + 1)) = [] := List.filter_eq_nil_iff.2 fun j hj => by have := hp.1 j hj; simp; omega
        have h3 : c.count x = 0 := List.count_eq_zero.2 fun hm => by have := hp.1 x hm; omega
        rw [List.filter_cons, if_pos (by simp; omega), List.filter_cons, if_neg (by simp), he, he2, List.count_cons_self, h3]
        rfl
      · rw [List.filter_cons, if_neg (by simp; omega), List.filter_cons, if_neg (by simp; omega), ih, List.count_cons_of_ne h2]

theorem offs_app {p : Prob} {l m : List Off} {c : List Int} (h : ∀ j ∈ c, 0 ≤ j ∧ j < l.length) : offsI (offP p (l ++ m)) c = offsI (offP p l) c := by
  unfold offsI offP
  refine List.map_congr_left fun j hj => ?_
  have := h j hj
  rw [nthD_eq (by simp; omega), nthD_eq (by simp only; omega), List.getElem_append_left (by omega)]

theorem ch_inv {p : Prob} {b : Int} {c : List Int} (hc : IncR 0 p.offers.length c) : ∀ i, i ≤ p.offers.length →
    offsI (offP p (qT p b i)) (chT p b c i) = offsI p (c.filter fun j => decide (j < i) && decide ((nthD p.offers j.toNat SId.off.dflt).bidder ≠ b)) ∧ IncR 0 (qT p b i).length (chT p b c i)
  | 0, _ => by
    have : c.filter (fun j => decide (j < ((0 : Nat) : Int)) && decide ((nthD p.offers j.toNat SId.off.dflt).bidder ≠ b)) = [] := List.filter_eq_nil_iff.2 fun j hj => by
      have := hc.2 j hj
      simp
      omega
    rw [this]
    exact ⟨rfl, by simp [chT], by simp [chT]⟩
  | i + 1, hi => by
    obtain ⟨h1, h2, h3⟩ := ch_inv (b := b) hc i (by omega)
    have hs := inc_split (b := (i : Int)) hc.1
    have hf : ∀ n : Int, (c.filter fun j => decide (j < n) && decide ((nthD p.offers j.toNat SId.off.dflt).bidder ≠ b)) = (c.filter fun j => decide (j < n)).filter fun j => decide ((nthD p.offers j.toNat SId.off.dflt).bidder ≠ b) := fun n => by
      rw [List.filter_filter]
      congr 1
      funext j
      rw [Bool.and_comm]
    rw [hf] at h1 ⊢
    rw [show (((i + 1 : Nat)) : Int) = (i : Int) + 1 by omega, hs, List.filter_append, qT_succ (by omega)]
    simp only [chT]
    by_cases hb : (nthD p.offers i SId.off.dflt).bidder = b
    · rw [if_pos hb, if_pos hb, List.append_nil, List.append_nil]
      have : (List.replicate (c.count (i : Int)) (i : Int)).filter (fun j => decide ((nthD p.offers j.toNat SId.off.dflt).bidder ≠ b)) = [] := List.filter_eq_nil_iff.2 fun j hj => by
        rw [List.eq_of_mem_replicate hj]
        simp [hb]
      rw [this, List.append_nil]
      exact ⟨h1, h2, h3⟩
    · rw [if_neg hb, if_neg hb]
      have hr : (List.replicate (c.count (i : Int)) (i : Int)).filter (fun j => decide ((nthD p.offers j.toNat SId.off.dflt).bidder ≠ b)) = List.replicate (c.count (i : Int)) (i : Int) := List.filter_eq_self.2 fun j hj => by
        rw [List.eq_of_mem_replicate hj]
        simpa using hb
      have hcnt : c.count (i : Int) ≤ 1 := List.nodup_iff_count.1 (hc.1.imp fun h => by omega) _
      rw [hr, offsI_append, offsI_append]
      refine ⟨?_, ?_, ?_⟩
      · rw [offs_app (fun j hj => by have := h3 j hj; omega), h1]
        congr 1
        unfold offsI
        rw [List.map_replicate, List.map_replicate]
        congr 1
        simp only [offP, Int.toNat_natCast]
        rw [nthD_eq (by simp), List.getElem_append_right (by omega)]
        simp
      · rw [List.pairwise_append]
        refine ⟨h2, ?_, fun a ha x hx => by rw [List.eq_of_mem_replicate hx]; have := h3 a ha; omega⟩
        rcases Nat.le_one_iff_eq_zero_or_eq_one.1 hcnt with h | h <;> rw [h] <;> simp
      · intro j hj
        rw [List.length_append, List.length_singleton]
        rcases List.mem_append.1 hj with hj | hj
        · have := h3 j hj; omega
        · rw [List.eq_of_mem_replicate hj]; omega

/-- The problem and the list without a bidder. -/
def qP (p : Prob) (b : Int) : Prob := offP p (p.offers.filter fun x => decide (x.bidder ≠ b))
def qC (p : Prob) (b : Int) (c : List Int) : List Int := chT p b c p.offers.length

theorem qT_all {p : Prob} {b : Int} : qT p b p.offers.length = (qP p b).offers := by unfold qT qP offP; rw [List.take_length]

theorem qC_len {p : Prob} {b : Int} {c : List Int} (hc : IncR 0 p.offers.length c) : (qC p b c).length ≤ c.length ∧ ((qC p b c).length = c.length → offsI (qP p b) (qC p b c) = offsI p c) := by
  obtain ⟨h1, h2⟩ := ch_inv (b := b) hc p.offers.length (Nat.le_refl _)
  rw [qT_all] at h1
  have hl := congrArg List.length h1
  unfold offsI at hl
  rw [List.length_map, List.length_map] at hl
  have hle := List.length_filter_le (fun j : Int => decide (j < (p.offers.length : Int)) && decide ((nthD p.offers j.toNat SId.off.dflt).bidder ≠ b)) c
  refine ⟨by unfold qC; omega, fun he => ?_⟩
  have hfull : c.filter (fun j : Int => decide (j < (p.offers.length : Int)) && decide ((nthD p.offers j.toNat SId.off.dflt).bidder ≠ b)) = c := List.filter_eq_self.2 (List.length_filter_eq_length_iff.1 (by unfold qC at he; omega))
  rw [hfull] at h1
  exact h1

theorem competes {p : Prob} {b : Int} (hc : checkE p = 0) (hl : (qC p b (bestA p).chosen).length = (bestA p).chosen.length) :
    openE (qP p b) (qC p b (bestA p).chosen) = 0 ∧ ∀ i : Int, 0 ≤ i → i < p.classes.length → payS (openD (qP p b) (qC p b (bestA p).chosen)) i ≤ payS (openD p (bestA p).chosen) i := by
  have hg := good_of hc
  obtain ⟨ho, hF, ht, hv⟩ := best_open hc
  have hq : checkE (qP p b) = 0 := check_filter hc
  have hgq := good_of hq
  have he := (qC_len (b := b) ht).2 hl
  obtain ⟨_, hI⟩ := ch_inv (b := b) ht p.offers.length (Nat.le_refl _)
  rw [qT_all] at hI
  have hz : feasE (qP p b) (qC p b (bestA p).chosen) = 0 := feas_of hq hI (by rw [he]; exact hF)
  have hs : sumC p (bestA p).chosen = sumV (offsI p (bestA p).chosen) := by unfold sumC; rw [sumC_go]; omega
  have hsq : sumC (qP p b) (qC p b (bestA p).chosen) = sumV (offsI p (bestA p).chosen) := by unfold sumC; rw [sumC_go, he]; omega
  have h2 := pow_n hg.1
  have hall : worthS (qP p b) (allM (qP p b)) ≤ worthS p (allM p) := worth_filter hc (m := allM p) (by unfold allM; omega) (by unfold allM; omega)
  rw [all_best hc] at hall
  have hoq : openE (qP p b) (qC p b (bestA p).chosen) = 0 := by
    unfold openE
    rw [if_neg (by simp [hz]), if_neg (by omega)]
  refine ⟨hoq, fun i h0 h1 => ?_⟩
  have hd := (open_ok ho).2.1
  have hdq := (open_ok hoq).2.1
  have hw := own_eq (c := (bestA p).chosen) hg (inc_idx ht) h0 h1
  have hwq := own_eq (p := qP p b) (c := qC p b (bestA p).chosen) hgq (inc_idx hI) h0 h1
  have hww : (wonS (qP p b) (qC p b (bestA p).chosen) i).1 = (wonS p (bestA p).chosen i).1 := by unfold wonS; rw [won_offs, won_offs, he]
  obtain ⟨d0, d1⟩ := del_bd hg h0 h1
  have hdel : worthS (qP p b) (delI (allM (qP p b)) i) ≤ worthS p (delI (allM p) i) := worth_filter hc (m := delI (allM p) i) d0 d1
  rw [hd, hdq]
  unfold payS
  simp only [hw, hwq, hww, hs, hsq]
  split <;> omega

end Go.Vi
/-
  Contract: the law VickreyCompetes.
  Conditions: none.
-/
set_option maxRecDepth 100000
set_option maxHeartbeats 4000000
set_option linter.unusedSimpArgs false
set_option linter.unusedVariables false
namespace Go.Vi
open Go.Proofs.Ytigbjjkijfkeeaa.Ir
open Go.Proofs

def ss6 (p : Prob) (b : Int) (i n : Nat) : List SV :=
  [.si .i64 p.supply.a0, .si .i64 p.supply.a1, .si .i64 p.supply.a2, .si .i64 p.supply.a3, .si .i64 p.supply.a4, .si .i64 p.supply.a5,
   .si .i64 p.opn.a0, .si .i64 p.opn.a1, .si .i64 p.opn.a2, .si .i64 p.opn.a3, .si .i64 p.opn.a4, .si .i64 p.opn.a5,
   .si .i64 p.cls.a0, .si .i64 p.cls.a1, .si .i64 p.cls.a2, .si .i64 p.cls.a3, .si .i64 p.cls.a4, .si .i64 p.cls.a5,
   .row (.i .i64) p.classes, .ow 3 n 8]
def st6 (p : Prob) (b : Int) (i : Nat) (l : List Int) : SStore := [.cells p.ss 27 20 false, .cells [.row (.i .i64) (bestA p).chosen, .si .i64 (bestA p).value] 31 2 false,
  .cells (ss6 p b i (qT p b i).length) 27 20 false, .row .off (qT p b i) 43 true, .row (.i .i64) l 3 true]
def chK (p : Prob) (b : Int) (i k : Nat) : List Int := chT p b (bestA p).chosen i ++ List.replicate (((bestA p).chosen.take k).count (i : Int)) ((qT p b i).length : Int)

def r6 : SCtr := ⟨6, Prob × Int, .cons codP (.one (codI .i64)), fun _ => True, fun _ => .sb true⟩
def Λ6 (a : Prob × Int) : Nat → LoopAnn
  | 8 => .inv Int (fun i => ⟨[(1, .si .i64 a.2), (2, .ptr 0 0 20), (5, .ptr 1 0 2), (6, .ptr 2 0 20), (7, .ow 4 (chT a.1 a.2 (bestA a.1).chosen i.toNat).length 1), (8, .si .i64 i)], st6 a.1 a.2 i.toNat (chT a.1 a.2 (bestA a.1).chosen i.toNat)⟩) (fun s => iS s 8)
    (fun i => 0 ≤ i ∧ i ≤ a.1.offers.length) (fun i => (a.1.offers.length - i).toNat) fun i => fun
      | 12 => .inv Int (fun k => ⟨[(1, .si .i64 a.2), (2, .ptr 0 0 20), (5, .ptr 1 0 2), (6, .ptr 2 0 20), (7, .ow 4 (chK a.1 a.2 i.toNat k.toNat).length 1), (8, .si .i64 i), (9, .si .i64 k)], st6 a.1 a.2 i.toNat (chK a.1 a.2 i.toNat k.toNat)⟩) (fun s => iS s 9)
        (fun k => 0 ≤ k ∧ k ≤ (bestA a.1).chosen.length) (fun k => ((bestA a.1).chosen.length - k).toNat) fun _ _ => .look
      | _ => .look
  | 24 => .inv Int (fun j => ⟨[(10, .row (.i .i64) (paysS a.1 (bestA a.1).chosen)), (12, .row (.i .i64) (paysS (qP a.1 a.2) (qC a.1 a.2 (bestA a.1).chosen))), (14, .si .i64 j)],
      [.cells a.1.ss 27 20 false, .cells [.row (.i .i64) (bestA a.1).chosen, .si .i64 (bestA a.1).value] 31 2 false, .cells (qP a.1 a.2).ss 27 20 false, .dead, .dead]⟩) (fun s => iS s 14)
    (fun j => 0 ≤ j ∧ j ≤ a.1.classes.length) (fun j => (a.1.classes.length - j).toNat) fun _ _ => .look
  | _ => .look
theorem h6 : Holds Try.prog r6 := by
  refine con (L := LJ) r6 F6 Λ6 (OwnOK.none _) hLJ (by kernel_rfl) (by kernel_rfl) (fun _ => rfl) ?_
  rintro ⟨p, b⟩ _
  refine vcOf (True ∧ ((!fewB p (10 : Int)) = true → True ∧ (SV.sb true).same (SV.sb true)) ∧ ((!fewB p (10 : Int)) = false → True ∧ (decide (checkE p ≠ (0 : Int)) = true → True ∧ (SV.sb true).same (SV.sb true)) ∧ (decide (checkE p ≠ (0 : Int)) = false → (decide (b < (0 : Int)) = true → True ∧ (SV.sb true).same (SV.sb true)) ∧ (decide (b < (0 : Int)) = false → (decide ((↑p.classes.length : Int) ≤ b) = true → True ∧ (SV.sb true).same (SV.sb true)) ∧ (decide ((↑p.classes.length : Int) ≤ b) = false → Good p ∧ ((((SV.si .i64 b).same (SV.si .i64 b) ∧ (SV.ptr 0 0 20).same (SV.ptr 0 0 20) ∧ (SV.ptr 1 0 2).same (SV.ptr 1 0 2) ∧ (SV.ptr 2 0 20).same (SV.ptr 2 0 20) ∧ (SV.ow 4 0 1).same (SV.ow 4 (chT p b (bestA p).chosen 0).length 1) ∧ (SV.il .i64 0).same (SV.si .i64 0) ∧ True) ∧ (SObj.cells (Prob.ss p) 27 20 false).same (SObj.cells (Prob.ss p) 27 20 false) ∧ (SObj.cells [SV.row (SId.i .i64) (bestA p).chosen, SV.si .i64 (bestA p).value] 31 2 false).same (SObj.cells [SV.row (SId.i .i64) (bestA p).chosen, SV.si .i64 (bestA p).value] 31 2 false) ∧ (SObj.cells [SV.si .i64 p.supply.a0, SV.si .i64 p.supply.a1, SV.si .i64 p.supply.a2, SV.si .i64 p.supply.a3, SV.si .i64 p.supply.a4, SV.si .i64 p.supply.a5, SV.si .i64 p.opn.a0, SV.si .i64 p.opn.a1, SV.si .i64 p.opn.a2, SV.si .i64 p.opn.a3, SV.si .i64 p.opn.a4, SV.si .i64 p.opn.a5, SV.si .i64 p.cls.a0, SV.si .i64 p.cls.a1, SV.si .i64 p.cls.a2, SV.si .i64 p.cls.a3, SV.si .i64 p.cls.a4, SV.si .i64 p.cls.a5, SV.row (SId.i .i64) p.classes, SV.ow 3 0 8] 27 20 false).same (SObj.cells [SV.si .i64 p.supply.a0, SV.si .i64 p.supply.a1, SV.si .i64 p.supply.a2, SV.si .i64 p.supply.a3, SV.si .i64 p.supply.a4, SV.si .i64 p.supply.a5, SV.si .i64 p.opn.a0, SV.si .i64 p.opn.a1, SV.si .i64 p.opn.a2, SV.si .i64 p.opn.a3, SV.si .i64 p.opn.a4, SV.si .i64 p.opn.a5, SV.si .i64 p.cls.a0, SV.si .i64 p.cls.a1, SV.si .i64 p.cls.a2, SV.si .i64 p.cls.a3, SV.si .i64 p.cls.a4, SV.si .i64 p.cls.a5, SV.row (SId.i .i64) p.classes, SV.ow 3 (qT p b 0).length 8] 27 20 false) ∧ (SObj.row SId.off [] 43 true).same (SObj.row SId.off (qT p b 0) 43 true) ∧ (SObj.row (SId.i .i64) [] 3 true).same (SObj.row (SId.i .i64) (chT p b (bestA p).chosen 0) 3 true) ∧ True) ∧ (0 : Int) ≤ (0 : Int) ∧ (0 : Int) ≤ (↑p.offers.length : Int)) ∧ ∀ (x : Int), (0 : Int) ≤ x ∧ x ≤ (↑p.offers.length : Int) → (decide (x < (↑p.offers.length : Int)) = true → (0 : Int) ≤ x ∧ x < (↑p.offers.length : Int) ∧ x.toNat < p.offers.length ∧ (decide ((nthD p.offers x.toNat SId.off.dflt).bidder = b) = true → inR .i64 (x + (1 : Int)) ∧ (((SV.si .i64 b).same (SV.si .i64 b) ∧ (SV.ptr 0 0 20).same (SV.ptr 0 0 20) ∧ (SV.ptr 1 0 2).same (SV.ptr 1 0 2) ∧ (SV.ptr 2 0 20).same (SV.ptr 2 0 20) ∧ (SV.ow 4 (chT p b (bestA p).chosen x.toNat).length 1).same (SV.ow 4 (chT p b (bestA p).chosen (x + (1 : Int)).toNat).length 1) ∧ (SV.si .i64 (x + (1 : Int))).same (SV.si .i64 (x + (1 : Int))) ∧ True) ∧ (SObj.cells (Prob.ss p) 27 20 false).same (SObj.cells (Prob.ss p) 27 20 false) ∧ (SObj.cells [SV.row (SId.i .i64) (bestA p).chosen, SV.si .i64 (bestA p).value] 31 2 false).same (SObj.cells [SV.row (SId.i .i64) (bestA p).chosen, SV.si .i64 (bestA p).value] 31 2 false) ∧ (SObj.cells [SV.si .i64 p.supply.a0, SV.si .i64 p.supply.a1, SV.si .i64 p.supply.a2, SV.si .i64 p.supply.a3, SV.si .i64 p.supply.a4, SV.si .i64 p.supply.a5, SV.si .i64 p.opn.a0, SV.si .i64 p.opn.a1, SV.si .i64 p.opn.a2, SV.si .i64 p.opn.a3, SV.si .i64 p.opn.a4, SV.si .i64 p.opn.a5, SV.si .i64 p.cls.a0, SV.si .i64 p.cls.a1, SV.si .i64 p.cls.a2, SV.si .i64 p.cls.a3, SV.si .i64 p.cls.a4, SV.si .i64 p.cls.a5, SV.row (SId.i .i64) p.classes, SV.ow 3 (qT p b x.toNat).length 8] 27 20 false).same (SObj.cells [SV.si .i64 p.supply.a0, SV.si .i64 p.supply.a1, SV.si .i64 p.supply.a2, SV.si .i64 p.supply.a3, SV.si .i64 p.supply.a4, SV.si .i64 p.supply.a5, SV.si .i64 p.opn.a0, SV.si .i64 p.opn.a1, SV.si .i64 p.opn.a2, SV.si .i64 p.opn.a3, SV.si .i64 p.opn.a4, SV.si .i64 p.opn.a5, SV.si .i64 p.cls.a0, SV.si .i64 p.cls.a1, SV.si .i64 p.cls.a2, SV.si .i64 p.cls.a3, SV.si .i64 p.cls.a4, SV.si .i64 p.cls.a5, SV.row (SId.i .i64) p.classes, SV.ow 3 (qT p b (x + (1 : Int)).toNat).length 8] 27 20 false) ∧ (SObj.row SId.off (qT p b x.toNat) 43 true).same (SObj.row SId.off (qT p b (x + (1 : Int)).toNat) 43 true) ∧ (SObj.row (SId.i .i64) (chT p b (bestA p).chosen x.toNat) 3 true).same (SObj.row (SId.i .i64) (chT p b (bestA p).chosen (x + (1 : Int)).toNat) 3 true) ∧ True) ∧ ((0 : Int) ≤ x + (1 : Int) ∧ x + (1 : Int) ≤ (↑p.offers.length : Int)) ∧ ((↑p.offers.length : Int) - (x + (1 : Int))).toNat < ((↑p.offers.length : Int) - x).toNat) ∧ (decide ((nthD p.offers x.toNat SId.off.dflt).bidder = b) = false → ((((SV.si .i64 b).same (SV.si .i64 b) ∧ (SV.ptr 0 0 20).same (SV.ptr 0 0 20) ∧ (SV.ptr 1 0 2).same (SV.ptr 1 0 2) ∧ (SV.ptr 2 0 20).same (SV.ptr 2 0 20) ∧ (SV.ow 4 (chT p b (bestA p).chosen x.toNat).length 1).same (SV.ow 4 (chK p b x.toNat 0).length 1) ∧ (SV.si .i64 x).same (SV.si .i64 x) ∧ (SV.il .i64 0).same (SV.si .i64 0) ∧ True) ∧ (SObj.cells (Prob.ss p) 27 20 false).same (SObj.cells (Prob.ss p) 27 20 false) ∧ (SObj.cells [SV.row (SId.i .i64) (bestA p).chosen, SV.si .i64 (bestA p).value] 31 2 false).same (SObj.cells [SV.row (SId.i .i64) (bestA p).chosen, SV.si .i64 (bestA p).value] 31 2 false) ∧ (SObj.cells [SV.si .i64 p.supply.a0, SV.si .i64 p.supply.a1, SV.si .i64 p.supply.a2, SV.si .i64 p.supply.a3, SV.si .i64 p.supply.a4, SV.si .i64 p.supply.a5, SV.si .i64 p.opn.a0, SV.si .i64 p.opn.a1, SV.si .i64 p.opn.a2, SV.si .i64 p.opn.a3, SV.si .i64 p.opn.a4, SV.si .i64 p.opn.a5, SV.si .i64 p.cls.a0, SV.si .i64 p.cls.a1, SV.si .i64 p.cls.a2, SV.si .i64 p.cls.a3, SV.si .i64 p.cls.a4, SV.si .i64 p.cls.a5, SV.row (SId.i .i64) p.classes, SV.ow 3 (qT p b x.toNat).length 8] 27 20 false).same (SObj.cells [SV.si .i64 p.supply.a0, SV.si .i64 p.supply.a1, SV.si .i64 p.supply.a2, SV.si .i64 p.supply.a3, SV.si .i64 p.supply.a4, SV.si .i64 p.supply.a5, SV.si .i64 p.opn.a0, SV.si .i64 p.opn.a1, SV.si .i64 p.opn.a2, SV.si .i64 p.opn.a3, SV.si .i64 p.opn.a4, SV.si .i64 p.opn.a5, SV.si .i64 p.cls.a0, SV.si .i64 p.cls.a1, SV.si .i64 p.cls.a2, SV.si .i64 p.cls.a3, SV.si .i64 p.cls.a4, SV.si .i64 p.cls.a5, SV.row (SId.i .i64) p.classes, SV.ow 3 (qT p b x.toNat).length 8] 27 20 false) ∧ (SObj.row SId.off (qT p b x.toNat) 43 true).same (SObj.row SId.off (qT p b x.toNat) 43 true) ∧ (SObj.row (SId.i .i64) (chT p b (bestA p).chosen x.toNat) 3 true).same (SObj.row (SId.i .i64) (chK p b x.toNat 0) 3 true) ∧ True) ∧ (0 : Int) ≤ (0 : Int) ∧ (0 : Int) ≤ (↑(bestA p).chosen.length : Int)) ∧ ∀ (x_1 : Int), (0 : Int) ≤ x_1 ∧ x_1 ≤ (↑(bestA p).chosen.length : Int) → (decide (x_1 < (↑(bestA p).chosen.length : Int)) = true → (0 : Int) ≤ x_1 ∧ x_1 < (↑(bestA p).chosen.length : Int) ∧ x_1.toNat < (bestA p).chosen.length ∧ (decide (nthD (bestA p).chosen x_1.toNat (0 : Int) = x) = true → (chK p b x.toNat x_1.toNat).length = (chK p b x.toNat x_1.toNat).length ∧ ((chK p b x.toNat x_1.toNat).length + 1) * 8 ≤ 140737488355328 ∧ (chK p b x.toNat x_1.toNat).length + 1 ≤ 1000000000000 ∧ inR .i64 (x_1 + (1 : Int)) ∧ (((SV.si .i64 b).same (SV.si .i64 b) ∧ (SV.ptr 0 0 20).same (SV.ptr 0 0 20) ∧ (SV.ptr 1 0 2).same (SV.ptr 1 0 2) ∧ (SV.ptr 2 0 20).same (SV.ptr 2 0 20) ∧ (SV.ow 4 (chK p b x.toNat x_1.toNat ++ [(↑(qT p b x.toNat).length : Int)]).length 1).same (SV.ow 4 (chK p b x.toNat (x_1 + (1 : Int)).toNat).length 1) ∧ (SV.si .i64 x).same (SV.si .i64 x) ∧ (SV.si .i64 (x_1 + (1 : Int))).same (SV.si .i64 (x_1 + (1 : Int))) ∧ True) ∧ (SObj.cells (Prob.ss p) 27 20 false).same (SObj.cells (Prob.ss p) 27 20 false) ∧ (SObj.cells [SV.row (SId.i .i64) (bestA p).chosen, SV.si .i64 (bestA p).value] 31 2 false).same (SObj.cells [SV.row (SId.i .i64) (bestA p).chosen, SV.si .i64 (bestA p).value] 31 2 false) ∧ (SObj.cells [SV.si .i64 p.supply.a0, SV.si .i64 p.supply.a1, SV.si .i64 p.supply.a2, SV.si .i64 p.supply.a3, SV.si .i64 p.supply.a4, SV.si .i64 p.supply.a5, SV.si .i64 p.opn.a0, SV.si .i64 p.opn.a1, SV.si .i64 p.opn.a2, SV.si .i64 p.opn.a3, SV.si .i64 p.opn.a4, SV.si .i64 p.opn.a5, SV.si .i64 p.cls.a0, SV.si .i64 p.cls.a1, SV.si .i64 p.cls.a2, SV.si .i64 p.cls.a3, SV.si .i64 p.cls.a4, SV.si .i64 p.cls.a5, SV.row (SId.i .i64) p.classes, SV.ow 3 (qT p b x.toNat).length 8] 27 20 false).same (SObj.cells [SV.si .i64 p.supply.a0, SV.si .i64 p.supply.a1, SV.si .i64 p.supply.a2, SV.si .i64 p.supply.a3, SV.si .i64 p.supply.a4, SV.si .i64 p.supply.a5, SV.si .i64 p.opn.a0, SV.si .i64 p.opn.a1, SV.si .i64 p.opn.a2, SV.si .i64 p.opn.a3, SV.si .i64 p.opn.a4, SV.si .i64 p.opn.a5, SV.si .i64 p.cls.a0, SV.si .i64 p.cls.a1, SV.si .i64 p.cls.a2, SV.si .i64 p.cls.a3, SV.si .i64 p.cls.a4, SV.si .i64 p.cls.a5, SV.row (SId.i .i64) p.classes, SV.ow 3 (qT p b x.toNat).length 8] 27 20 false) ∧ (SObj.row SId.off (qT p b x.toNat) 43 true).same (SObj.row SId.off (qT p b x.toNat) 43 true) ∧ (SObj.row (SId.i .i64) (chK p b x.toNat x_1.toNat ++ [(↑(qT p b x.toNat).length : Int)]) 3 true).same (SObj.row (SId.i .i64) (chK p b x.toNat (x_1 + (1 : Int)).toNat) 3 true) ∧ True) ∧ ((0 : Int) ≤ x_1 + (1 : Int) ∧ x_1 + (1 : Int) ≤ (↑(bestA p).chosen.length : Int)) ∧ ((↑(bestA p).chosen.length : Int) - (x_1 + (1 : Int))).toNat < ((↑(bestA p).chosen.length : Int) - x_1).toNat) ∧ (decide (nthD (bestA p).chosen x_1.toNat (0 : Int) = x) = false → inR .i64 (x_1 + (1 : Int)) ∧ (((SV.si .i64 b).same (SV.si .i64 b) ∧ (SV.ptr 0 0 20).same (SV.ptr 0 0 20) ∧ (SV.ptr 1 0 2).same (SV.ptr 1 0 2) ∧ (SV.ptr 2 0 20).same (SV.ptr 2 0 20) ∧ (SV.ow 4 (chK p b x.toNat x_1.toNat).length 1).same (SV.ow 4 (chK p b x.toNat (x_1 + (1 : Int)).toNat).length 1) ∧ (SV.si .i64 x).same (SV.si .i64 x) ∧ (SV.si .i64 (x_1 + (1 : Int))).same (SV.si .i64 (x_1 + (1 : Int))) ∧ True) ∧ (SObj.cells (Prob.ss p) 27 20 false).same (SObj.cells (Prob.ss p) 27 20 false) ∧ (SObj.cells [SV.row (SId.i .i64) (bestA p).chosen, SV.si .i64 (bestA p).value] 31 2 false).same (SObj.cells [SV.row (SId.i .i64) (bestA p).chosen, SV.si .i64 (bestA p).value] 31 2 false) ∧ (SObj.cells [SV.si .i64 p.supply.a0, SV.si .i64 p.supply.a1, SV.si .i64 p.supply.a2, SV.si .i64 p.supply.a3, SV.si .i64 p.supply.a4, SV.si .i64 p.supply.a5, SV.si .i64 p.opn.a0, SV.si .i64 p.opn.a1, SV.si .i64 p.opn.a2, SV.si .i64 p.opn.a3, SV.si .i64 p.opn.a4, SV.si .i64 p.opn.a5, SV.si .i64 p.cls.a0, SV.si .i64 p.cls.a1, SV.si .i64 p.cls.a2, SV.si .i64 p.cls.a3, SV.si .i64 p.cls.a4, SV.si .i64 p.cls.a5, SV.row (SId.i .i64) p.classes, SV.ow 3 (qT p b x.toNat).length 8] 27 20 false).same (SObj.cells [SV.si .i64 p.supply.a0, SV.si .i64 p.supply.a1, SV.si .i64 p.supply.a2, SV.si .i64 p.supply.a3, SV.si .i64 p.supply.a4, SV.si .i64 p.supply.a5, SV.si .i64 p.opn.a0, SV.si .i64 p.opn.a1, SV.si .i64 p.opn.a2, SV.si .i64 p.opn.a3, SV.si .i64 p.opn.a4, SV.si .i64 p.opn.a5, SV.si .i64 p.cls.a0, SV.si .i64 p.cls.a1, SV.si .i64 p.cls.a2, SV.si .i64 p.cls.a3, SV.si .i64 p.cls.a4, SV.si .i64 p.cls.a5, SV.row (SId.i .i64) p.classes, SV.ow 3 (qT p b x.toNat).length 8] 27 20 false) ∧ (SObj.row SId.off (qT p b x.toNat) 43 true).same (SObj.row SId.off (qT p b x.toNat) 43 true) ∧ (SObj.row (SId.i .i64) (chK p b x.toNat x_1.toNat) 3 true).same (SObj.row (SId.i .i64) (chK p b x.toNat (x_1 + (1 : Int)).toNat) 3 true) ∧ True) ∧ ((0 : Int) ≤ x_1 + (1 : Int) ∧ x_1 + (1 : Int) ≤ (↑(bestA p).chosen.length : Int)) ∧ ((↑(bestA p).chosen.length : Int) - (x_1 + (1 : Int))).toNat < ((↑(bestA p).chosen.length : Int) - x_1).toNat)) ∧ (decide (x_1 < (↑(bestA p).chosen.length : Int)) = false → (0 : Int) ≤ x ∧ x < (↑p.offers.length : Int) ∧ x.toNat < p.offers.length ∧ 1 = 1 ∧ (qT p b x.toNat).length = (qT p b x.toNat).length ∧ ((qT p b x.toNat).length + 1) * 64 ≤ 140737488355328 ∧ (qT p b x.toNat).length + 1 ≤ 1000000000000 ∧ inR .i64 (x + (1 : Int)) ∧ (((SV.si .i64 b).same (SV.si .i64 b) ∧ (SV.ptr 0 0 20).same (SV.ptr 0 0 20) ∧ (SV.ptr 1 0 2).same (SV.ptr 1 0 2) ∧ (SV.ptr 2 0 20).same (SV.ptr 2 0 20) ∧ (SV.ow 4 (chK p b x.toNat x_1.toNat).length 1).same (SV.ow 4 (chT p b (bestA p).chosen (x + (1 : Int)).toNat).length 1) ∧ (SV.si .i64 (x + (1 : Int))).same (SV.si .i64 (x + (1 : Int))) ∧ True) ∧ (SObj.cells (Prob.ss p) 27 20 false).same (SObj.cells (Prob.ss p) 27 20 false) ∧ (SObj.cells [SV.row (SId.i .i64) (bestA p).chosen, SV.si .i64 (bestA p).value] 31 2 false).same (SObj.cells [SV.row (SId.i .i64) (bestA p).chosen, SV.si .i64 (bestA p).value] 31 2 false) ∧ (SObj.cells [SV.si .i64 p.supply.a0, SV.si .i64 p.supply.a1, SV.si .i64 p.supply.a2, SV.si .i64 p.supply.a3, SV.si .i64 p.supply.a4, SV.si .i64 p.supply.a5, SV.si .i64 p.opn.a0, SV.si .i64 p.opn.a1, SV.si .i64 p.opn.a2, SV.si .i64 p.opn.a3, SV.si .i64 p.opn.a4, SV.si .i64 p.opn.a5, SV.si .i64 p.cls.a0, SV.si .i64 p.cls.a1, SV.si .i64 p.cls.a2, SV.si .i64 p.cls.a3, SV.si .i64 p.cls.a4, SV.si .i64 p.cls.a5, SV.row (SId.i .i64) p.classes, SV.ow 3 (qT p b x.toNat ++ [nthD p.offers x.toNat SId.off.dflt]).length 8] 27 20 false).same (SObj.cells [SV.si .i64 p.supply.a0, SV.si .i64 p.supply.a1, SV.si .i64 p.supply.a2, SV.si .i64 p.supply.a3, SV.si .i64 p.supply.a4, SV.si .i64 p.supply.a5, SV.si .i64 p.opn.a0, SV.si .i64 p.opn.a1, SV.si .i64 p.opn.a2, SV.si .i64 p.opn.a3, SV.si .i64 p.opn.a4, SV.si .i64 p.opn.a5, SV.si .i64 p.cls.a0, SV.si .i64 p.cls.a1, SV.si .i64 p.cls.a2, SV.si .i64 p.cls.a3, SV.si .i64 p.cls.a4, SV.si .i64 p.cls.a5, SV.row (SId.i .i64) p.classes, SV.ow 3 (qT p b (x + (1 : Int)).toNat).length 8] 27 20 false) ∧ (SObj.row SId.off (qT p b x.toNat ++ [nthD p.offers x.toNat SId.off.dflt]) 43 true).same (SObj.row SId.off (qT p b (x + (1 : Int)).toNat) 43 true) ∧ (SObj.row (SId.i .i64) (chK p b x.toNat x_1.toNat) 3 true).same (SObj.row (SId.i .i64) (chT p b (bestA p).chosen (x + (1 : Int)).toNat) 3 true) ∧ True) ∧ ((0 : Int) ≤ x + (1 : Int) ∧ x + (1 : Int) ≤ (↑p.offers.length : Int)) ∧ ((↑p.offers.length : Int) - (x + (1 : Int))).toNat < ((↑p.offers.length : Int) - x).toNat))) ∧ (decide (x < (↑p.offers.length : Int)) = false → (decide ((↑(chT p b (bestA p).chosen x.toNat).length : Int) ≠ (↑(bestA p).chosen.length : Int)) = true → True ∧ (SV.sb true).same (SV.sb true)) ∧ (decide ((↑(chT p b (bestA p).chosen x.toNat).length : Int) ≠ (↑(bestA p).chosen.length : Int)) = false → (bestA p).chosen.length ≤ 1000000000000 ∧ (qT p b x.toNat).length = (qT p b x.toNat).length ∧ (chT p b (bestA p).chosen x.toNat).length = (chT p b (bestA p).chosen x.toNat).length ∧ (chT p b (bestA p).chosen x.toNat).length ≤ 1000000000000 ∧ (decide (openE p (bestA p).chosen ≠ (0 : Int)) = true → (SV.bl false).same (SV.sb true)) ∧ (decide (openE p (bestA p).chosen ≠ (0 : Int)) = false → (decide (openE (Prob.mk p.supply p.opn p.cls p.classes (qT p b x.toNat)) (chT p b (bestA p).chosen x.toNat) ≠ (0 : Int)) = true → (SV.bl false).same (SV.sb true)) ∧ (decide (openE (Prob.mk p.supply p.opn p.cls p.classes (qT p b x.toNat)) (chT p b (bestA p).chosen x.toNat) ≠ (0 : Int)) = false → (decide ((↑(paysS p (bestA p).chosen).length : Int) ≠ (↑p.classes.length : Int)) = true → (SV.bl false).same (SV.sb true)) ∧ (decide ((↑(paysS p (bestA p).chosen).length : Int) ≠ (↑p.classes.length : Int)) = false → (decide ((↑(paysS (Prob.mk p.supply p.opn p.cls p.classes (qT p b x.toNat)) (chT p b (bestA p).chosen x.toNat)).length : Int) ≠ (↑p.classes.length : Int)) = true → (SV.bl false).same (SV.sb true)) ∧ (decide ((↑(paysS (Prob.mk p.supply p.opn p.cls p.classes (qT p b x.toNat)) (chT p b (bestA p).chosen x.toNat)).length : Int) ≠ (↑p.classes.length : Int)) = false → ((((SV.row (SId.i .i64) (paysS p (bestA p).chosen)).same (SV.row (SId.i .i64) (paysS p (bestA p).chosen)) ∧ (SV.row (SId.i .i64) (paysS (Prob.mk p.supply p.opn p.cls p.classes (qT p b x.toNat)) (chT p b (bestA p).chosen x.toNat))).same (SV.row (SId.i .i64) (paysS (qP p b) (qC p b (bestA p).chosen))) ∧ (SV.il .i64 0).same (SV.si .i64 0) ∧ True) ∧ (SObj.cells (Prob.ss p) 27 20 false).same (SObj.cells (Prob.ss p) 27 20 false) ∧ (SObj.cells [SV.row (SId.i .i64) (bestA p).chosen, SV.si .i64 (bestA p).value] 31 2 false).same (SObj.cells [SV.row (SId.i .i64) (bestA p).chosen, SV.si .i64 (bestA p).value] 31 2 false) ∧ (SObj.cells [SV.si .i64 p.supply.a0, SV.si .i64 p.supply.a1, SV.si .i64 p.supply.a2, SV.si .i64 p.supply.a3, SV.si .i64 p.supply.a4, SV.si .i64 p.supply.a5, SV.si .i64 p.opn.a0, SV.si .i64 p.opn.a1, SV.si .i64 p.opn.a2, SV.si .i64 p.opn.a3, SV.si .i64 p.opn.a4, SV.si .i64 p.opn.a5, SV.si .i64 p.cls.a0, SV.si .i64 p.cls.a1, SV.si .i64 p.cls.a2, SV.si .i64 p.cls.a3, SV.si .i64 p.cls.a4, SV.si .i64 p.cls.a5, SV.row (SId.i .i64) p.classes, SV.row SId.off (qT p b x.toNat)] 27 20 false).same (SObj.cells (Prob.ss (qP p b)) 27 20 false) ∧ SObj.dead.same SObj.dead ∧ SObj.dead.same SObj.dead ∧ True) ∧ (0 : Int) ≤ (0 : Int) ∧ (0 : Int) ≤ (↑p.classes.length : Int)) ∧ ∀ (x : Int), (0 : Int) ≤ x ∧ x ≤ (↑p.classes.length : Int) → (decide (x < (↑(paysS p (bestA p).chosen).length : Int)) = true → (0 : Int) ≤ x ∧ x < (↑(paysS (qP p b) (qC p b (bestA p).chosen)).length : Int) ∧ x.toNat < (paysS (qP p b) (qC p b (bestA p).chosen)).length ∧ (0 : Int) ≤ x ∧ x < (↑(paysS p (bestA p).chosen).length : Int) ∧ x.toNat < (paysS p (bestA p).chosen).length ∧ (decide (nthD (paysS p (bestA p).chosen) x.toNat (0 : Int) < nthD (paysS (qP p b) (qC p b (bestA p).chosen)) x.toNat (0 : Int)) = true → (SV.bl false).same (SV.sb true)) ∧ (decide (nthD (paysS p (bestA p).chosen) x.toNat (0 : Int) < nthD (paysS (qP p b) (qC p b (bestA p).chosen)) x.toNat (0 : Int)) = false → inR .i64 (x + (1 : Int)) ∧ (((SV.row (SId.i .i64) (paysS p (bestA p).chosen)).same (SV.row (SId.i .i64) (paysS p (bestA p).chosen)) ∧ (SV.row (SId.i .i64) (paysS (qP p b) (qC p b (bestA p).chosen))).same (SV.row (SId.i .i64) (paysS (qP p b) (qC p b (bestA p).chosen))) ∧ (SV.si .i64 (x + (1 : Int))).same (SV.si .i64 (x + (1 : Int))) ∧ True) ∧ (SObj.cells (Prob.ss p) 27 20 false).same (SObj.cells (Prob.ss p) 27 20 false) ∧ (SObj.cells [SV.row (SId.i .i64) (bestA p).chosen, SV.si .i64 (bestA p).value] 31 2 false).same (SObj.cells [SV.row (SId.i .i64) (bestA p).chosen, SV.si .i64 (bestA p).value] 31 2 false) ∧ (SObj.cells (Prob.ss (qP p b)) 27 20 false).same (SObj.cells (Prob.ss (qP p b)) 27 20 false) ∧ SObj.dead.same SObj.dead ∧ SObj.dead.same SObj.dead ∧ True) ∧ ((0 : Int) ≤ x + (1 : Int) ∧ x + (1 : Int) ≤ (↑p.classes.length : Int)) ∧ ((↑p.classes.length : Int) - (x + (1 : Int))).toNat < ((↑p.classes.length : Int) - x).toNat)) ∧ (decide (x < (↑(paysS p (bestA p).chosen).length : Int)) = false → True ∧ (SV.sb true).same (SV.sb true))))))))))))) (by kernel_rfl) ?_
  simp only [decide_eq_true_eq, decide_eq_false_iff_not, same_il_si, same_si_si, same_si_il, same_il_il, same_sb_sb, same_bl_sb, same_row, same_tup2, same_tup3, same_nil, same_row_nil, same_rfl, osame_rfl, inR_i64, eq_self, true_and, and_true, Bool.and_eq_true, Bool.not_eq_true', Bool.not_eq_false']
  refine ⟨fun _ => trivial, fun _ => ⟨fun _ => trivial, fun hc => ⟨fun _ => trivial, fun hb0 => ⟨fun _ => trivial, fun hb1 => ?_⟩⟩⟩⟩
  have hc : checkE p = 0 := Classical.not_not.1 hc
  have hg := good_of hc
  obtain ⟨ho, hF, ht, hv⟩ := best_open hc
  have hz : feasE p (bestA p).chosen = 0 := faultR_ok (openE_eq ▸ ho)
  have hl : (bestA p).chosen.length ≤ 160 := (feas_ok hz).2.2.2.1
  have h8 := hg.1
  have h160 := hg.2.1
  have how : ∀ {x y : Nat}, x = y → (SV.ow 4 x 1).same (SV.ow 4 y 1) := by rintro _ _ rfl; rfl
  have hrow : ∀ {x y : List Int}, x = y → (SObj.row (.i .i64) x 3 true).same (SObj.row (.i .i64) y 3 true) := by rintro _ _ rfl; rfl
  have hoff : ∀ {x y : List Off}, x = y → (SObj.row .off x 43 true).same (SObj.row .off y 43 true) := by rintro _ _ rfl; rfl
  have hq0 : qT p b 0 = [] := by simp [qT]
  have hql : ∀ i, (qT p b i).length ≤ 160 := fun i => by
    have h1 := List.length_filter_le (fun x : Off => decide (x.bidder ≠ b)) (p.offers.take i)
    simp only [List.length_take] at h1
    unfold qT
    omega
  have hk0 : ∀ i, chK p b i 0 = chT p b (bestA p).chosen i := fun i => by simp [chK]
  have hcell : ∀ {l m : List Off}, l = m → (SObj.cells (ss6 p b 0 l.length) 27 20 false).same (SObj.cells (ss6 p b 0 m.length) 27 20 false) := by rintro _ _ rfl; rfl
  refine ⟨hg, ⟨⟨how rfl, by rw [hq0]; rfl, hoff hq0.symm, hrow rfl⟩, by omega, by omega⟩, ?_⟩
  rintro x ⟨hx0, hx1⟩
  have hsucc : (x + 1).toNat = x.toNat + 1 := by omega
  refine ⟨fun hlt => ⟨hx0, hlt, by omega, fun hb => ?_, fun hb => ?_⟩, fun hge => ?_⟩
  · have e1 : chT p b (bestA p).chosen (x + 1).toNat = chT p b (bestA p).chosen x.toNat := by rw [hsucc]; simp only [chT]; rw [if_pos hb, List.append_nil]
    have e2 : qT p b (x + 1).toNat = qT p b x.toNat := by rw [hsucc, qT_succ (by omega), if_pos hb, List.append_nil]
    rw [e1, e2]
    exact ⟨by omega, ⟨rfl, rfl, rfl, rfl⟩, ⟨by omega, by omega⟩, by omega⟩
  · rw [hk0]
    refine ⟨⟨⟨how rfl, hrow rfl⟩, by omega, by omega⟩, ?_⟩
    rintro k ⟨k0, k1⟩
    refine ⟨fun klt => ⟨k0, klt, by omega, fun hk => ?_, fun hk => ?_⟩, fun kge => ?_⟩
    · have e : chK p b x.toNat (k + 1).toNat = chK p b x.toNat k.toNat ++ [((qT p b x.toNat).length : Int)] := by
        unfold chK
        rw [take_nth (d := 0) k0 klt, List.count_append, hk, show ((x.toNat : Nat) : Int) = x by omega, List.count_singleton_self, List.replicate_succ', List.append_assoc]
      have hcl : (chK p b x.toNat k.toNat).length ≤ 1000 := by
        obtain ⟨_, hI⟩ := ch_inv (b := b) ht x.toNat (by omega)
        have h1 := (chT p b (bestA p).chosen x.toNat).length
        have h2 := List.count_le_length (a := (x.toNat : Int)) (l := (bestA p).chosen.take k.toNat)
        have h3 : (chT p b (bestA p).chosen x.toNat).length ≤ 160 := by
          obtain ⟨q1, q2⟩ := ch_inv (b := b) ht x.toNat (by omega)
          have hl2 := congrArg List.length q1
          unfold offsI at hl2
          rw [List.length_map, List.length_map] at hl2
          have := List.length_filter_le (fun j : Int => decide (j < (x.toNat : Int)) && decide ((nthD p.offers j.toNat SId.off.dflt).bidder ≠ b)) (bestA p).chosen
          omega
        simp only [List.length_take] at h2
        unfold chK
        rw [List.length_append, List.length_replicate]
        omega
      rw [e]
      exact ⟨by omega, by omega, by omega, ⟨rfl, rfl⟩, ⟨by omega, by omega⟩, by omega⟩
    · have e : chK p b x.toNat (k + 1).toNat = chK p b x.toNat k.toNat := by
        unfold chK
        rw [take_nth (d := 0) k0 klt, List.count_append, show ((x.toNat : Nat) : Int) = x by omega]
        rw [List.count_singleton, if_neg (by simpa using hk)]
        rfl
      rw [e]
      exact ⟨by omega, ⟨rfl, rfl⟩, ⟨by omega, by omega⟩, by omega⟩
    · have e1 : chT p b (bestA p).chosen (x + 1).toNat = chK p b x.toNat k.toNat := by
        rw [hsucc]
        simp only [chT, chK]
        rw [if_neg hb, show k.toNat = (bestA p).chosen.length by omega, List.take_length]
      have e2 : qT p b (x + 1).toNat = qT p b x.toNat ++ [nthD p.offers x.toNat SId.off.dflt] := by rw [hsucc, qT_succ (by omega), if_neg hb]
      have := hql x.toNat
      rw [e1, e2]
      exact ⟨hx0, by omega, by omega, by omega, by omega, by omega, ⟨rfl, rfl, rfl, rfl⟩, ⟨by omega, by omega⟩, by omega⟩
  · have hx : x.toNat = p.offers.length := by omega
    rw [hx]
    have hP : (⟨p.supply, p.opn, p.cls, p.classes, qT p b p.offers.length⟩ : Prob) = qP p b := by rw [qT_all]; rfl
    simp only [hP]
    have hC : chT p b (bestA p).chosen p.offers.length = qC p b (bestA p).chosen := rfl
    simp only [hC]
    refine ⟨fun _ => trivial, fun hlen => ?_⟩
    have hlen : (qC p b (bestA p).chosen).length = (bestA p).chosen.length := by omega
    obtain ⟨hoq, hle⟩ := competes hc hlen
    have pl : (paysS p (bestA p).chosen).length = p.classes.length := by simp [paysS, ho, eachL_len]
    have ql : (paysS (qP p b) (qC p b (bestA p).chosen)).length = p.classes.length := by
      simp only [paysS, hoq, if_true, eachL_len]
      rfl
    have pn : ∀ x : Int, 0 ≤ x → x < p.classes.length → nthD (paysS p (bestA p).chosen) x.toNat 0 = payS (openD p (bestA p).chosen) x := by
      intro x h0 h1
      rw [nthD_eq (by omega)]
      simp only [paysS, ho, if_true, eachL, List.getElem_map, List.getElem_range, eachF, show ((x.toNat : Nat) : Int) = x by omega]
    have qn : ∀ x : Int, 0 ≤ x → x < p.classes.length → nthD (paysS (qP p b) (qC p b (bestA p).chosen)) x.toNat 0 = payS (openD (qP p b) (qC p b (bestA p).chosen)) x := by
      intro x h0 h1
      rw [nthD_eq (by omega)]
      simp only [paysS, hoq, if_true, eachL, List.getElem_map, List.getElem_range, eachF, show ((x.toNat : Nat) : Int) = x by omega]
    refine ⟨by omega, by omega, fun h => absurd ho h, fun _ => ⟨fun h => absurd hoq h, fun _ => ⟨fun h => absurd (by omega) h, fun _ => ⟨fun h => absurd (by omega) h, fun _ => ?_⟩⟩⟩⟩
    refine ⟨⟨by rw [qT_all]; exact ⟨trivial, rfl⟩, by omega, by omega⟩, ?_⟩
    rintro j ⟨j0, j1⟩
    refine ⟨fun jlt => ?_, fun _ => trivial⟩
    rw [pl] at jlt
    have hle := hle j j0 jlt
    rw [← pn j j0 jlt, ← qn j j0 jlt] at hle
    refine ⟨by omega, by omega, by omega, by omega, by omega, by omega, fun h => by omega, fun _ => ⟨by omega, ⟨by omega, by omega⟩, by omega⟩⟩

end Go.Vi

/-
  Contracts: valid problems, feasible lists.
  Conditions: none.
-/
import Derived.Test.YtigbjjkijfkeeaaK4
set_option maxRecDepth 100000
set_option maxHeartbeats 4000000
set_option linter.unusedSimpArgs false
set_option linter.unusedVariables false
namespace Go.Vi
open Go.Proofs.Ytigbjjkijfkeeaa.Ir
open Go.Proofs

def L5 : List SCtr := r118 :: r119 :: L4
theorem hL5 : ∀ c ∈ L5, Holds Try.prog c := by
  simp only [L5, List.forall_mem_cons]
  exact ⟨h118, h119, hL4⟩

def Off.key (o : Off) : BKey := ⟨o.bidder, o.want⟩

/-- The error of the first offer that is not valid; the keys of those before it are given. -/
def checkL (p : Prob) (seen : List BKey) : List Off → Int
  | [] => 0
  | o :: r => if offerE p o ≠ 0 then offerE p o else if o.key ∈ seen then 7 else checkL p (seen ++ [o.key]) r

def checkE (p : Prob) : Int := if frameE p ≠ 0 then frameE p else checkL p [] p.offers

def r79 : SCtr := ⟨79, Prob, .one codP, fun p => True, fun p => .si .i64 (checkE p)⟩

def Λ79 (p : Prob) : Nat → LoopAnn
  | 7 => .inv Int (fun i => ⟨[(3, .ptr 1 0 20), (5, .mp 2), (19, .row .off p.offers), (20, .si .i64 p.offers.length), (21, .si .i64 i)],
      [.cells p.ss 27 20 false, .cells p.ss 148 20 false, .map .key .b true ((p.offers.take i.toNat).map fun o => (o.key, true)) ([0, 0, 0, 0, 0, 0, 0], true) true]⟩) (fun s => iS s 21)
    (fun i => 0 ≤ i ∧ i ≤ p.offers.length ∧ checkL p [] p.offers = checkL p ((p.offers.take i.toNat).map Off.key) (p.offers.drop i.toNat)) (fun i => (p.offers.length - i).toNat) fun _ _ => .look
  | _ => .look

theorem drop_nth {α : Type} {l : List α} {i : Int} {d : α} (h0 : 0 ≤ i) (h : i < l.length) : l.drop i.toNat = nthD l i.toNat d :: l.drop (i + 1).toNat := by
  rw [show (i + 1).toNat = i.toNat + 1 from by omega, nthD_eq (by omega), List.drop_eq_getElem_cons (by omega)]

theorem find_keys (k : BKey) : ∀ (l : List Off), (findT .key .b k (l.map fun o => (o.key, true))).getD false = decide (k ∈ l.map Off.key)
  | [] => by simp [findT]
  | o :: l => by
    have := find_keys k l
    simp only [findT] at this ⊢
    rw [List.map_cons, List.find?_cons]
    by_cases h : o.key = k
    · simp [h]
    · simp only [h, decide_false, List.map_cons, List.mem_cons]
      rw [this]
      have : ¬ k = o.key := fun e => h e.symm
      simp [this]

theorem omap_same {sk sv : SId} {ka : Bool} {es es' : List (sk.T × sv.T)} {kt : List Nat × Bool} {pu : Bool} (h : es = es') : (SObj.map sk sv ka es kt pu).same (.map sk sv ka es' kt pu) := by rw [h]; rfl

theorem set_keys {k : BKey} {l : List Off} (h : k ∉ l.map Off.key) : setT .key .b k true (l.map fun o => (o.key, true)) = (l.map fun o => (o.key, true)) ++ [(k, true)] :=
  setT_none fun p hp => by
    obtain ⟨o, ho, rfl⟩ := List.mem_map.1 hp
    rintro rfl
    exact h (List.mem_map.2 ⟨o, ho, rfl⟩)

theorem h79 : Holds Try.prog r79 := by
  refine con (L := L5) r79 F79 Λ79 (OwnOK.none _) hL5 (by kernel_rfl) (by kernel_rfl) (fun _ => rfl) ?_
  intro p _
  refine vcOf (True ∧ (decide (frameE p ≠ (0 : Int)) = true → (SV.si IntKind.i64 (frameE p)).same (SV.si IntKind.i64 (checkE p))) ∧ (decide (frameE p ≠ (0 : Int)) = false → ((((SV.ptr (1 : Nat) (0 : Nat) (20 : Nat)).same (SV.ptr (1 : Nat) (0 : Nat) (20 : Nat)) ∧ (SV.mp (2 : Nat)).same (SV.mp (2 : Nat)) ∧ (SV.row SId.off p.offers).same (SV.row SId.off p.offers) ∧ (SV.si IntKind.i64 ↑p.offers.length).same (SV.si IntKind.i64 ↑p.offers.length) ∧ (SV.il IntKind.i64 (0 : Int)).same (SV.si IntKind.i64 (0 : Int)) ∧ True) ∧ (SObj.cells [SV.si IntKind.i64 p.supply.a0, SV.si IntKind.i64 p.supply.a1, SV.si IntKind.i64 p.supply.a2, SV.si IntKind.i64 p.supply.a3, SV.si IntKind.i64 p.supply.a4, SV.si IntKind.i64 p.supply.a5, SV.si IntKind.i64 p.opn.a0, SV.si IntKind.i64 p.opn.a1, SV.si IntKind.i64 p.opn.a2, SV.si IntKind.i64 p.opn.a3, SV.si IntKind.i64 p.opn.a4, SV.si IntKind.i64 p.opn.a5, SV.si IntKind.i64 p.cls.a0, SV.si IntKind.i64 p.cls.a1, SV.si IntKind.i64 p.cls.a2, SV.si IntKind.i64 p.cls.a3, SV.si IntKind.i64 p.cls.a4, SV.si IntKind.i64 p.cls.a5, SV.row (SId.i IntKind.i64) p.classes, SV.row SId.off p.offers] (27 : Nat) (20 : Nat) false).same (SObj.cells [SV.si IntKind.i64 p.supply.a0, SV.si IntKind.i64 p.supply.a1, SV.si IntKind.i64 p.supply.a2, SV.si IntKind.i64 p.supply.a3, SV.si IntKind.i64 p.supply.a4, SV.si IntKind.i64 p.supply.a5, SV.si IntKind.i64 p.opn.a0, SV.si IntKind.i64 p.opn.a1, SV.si IntKind.i64 p.opn.a2, SV.si IntKind.i64 p.opn.a3, SV.si IntKind.i64 p.opn.a4, SV.si IntKind.i64 p.opn.a5, SV.si IntKind.i64 p.cls.a0, SV.si IntKind.i64 p.cls.a1, SV.si IntKind.i64 p.cls.a2, SV.si IntKind.i64 p.cls.a3, SV.si IntKind.i64 p.cls.a4, SV.si IntKind.i64 p.cls.a5, SV.row (SId.i IntKind.i64) p.classes, SV.row SId.off p.offers] (27 : Nat) (20 : Nat) false) ∧ (SObj.cells [SV.si IntKind.i64 p.supply.a0, SV.si IntKind.i64 p.supply.a1, SV.si IntKind.i64 p.supply.a2, SV.si IntKind.i64 p.supply.a3, SV.si IntKind.i64 p.supply.a4, SV.si IntKind.i64 p.supply.a5, SV.si IntKind.i64 p.opn.a0, SV.si IntKind.i64 p.opn.a1, SV.si IntKind.i64 p.opn.a2, SV.si IntKind.i64 p.opn.a3, SV.si IntKind.i64 p.opn.a4, SV.si IntKind.i64 p.opn.a5, SV.si IntKind.i64 p.cls.a0, SV.si IntKind.i64 p.cls.a1, SV.si IntKind.i64 p.cls.a2, SV.si IntKind.i64 p.cls.a3, SV.si IntKind.i64 p.cls.a4, SV.si IntKind.i64 p.cls.a5, SV.row (SId.i IntKind.i64) p.classes, SV.row SId.off p.offers] (148 : Nat) (20 : Nat) false).same (SObj.cells [SV.si IntKind.i64 p.supply.a0, SV.si IntKind.i64 p.supply.a1, SV.si IntKind.i64 p.supply.a2, SV.si IntKind.i64 p.supply.a3, SV.si IntKind.i64 p.supply.a4, SV.si IntKind.i64 p.supply.a5, SV.si IntKind.i64 p.opn.a0, SV.si IntKind.i64 p.opn.a1, SV.si IntKind.i64 p.opn.a2, SV.si IntKind.i64 p.opn.a3, SV.si IntKind.i64 p.opn.a4, SV.si IntKind.i64 p.opn.a5, SV.si IntKind.i64 p.cls.a0, SV.si IntKind.i64 p.cls.a1, SV.si IntKind.i64 p.cls.a2, SV.si IntKind.i64 p.cls.a3, SV.si IntKind.i64 p.cls.a4, SV.si IntKind.i64 p.cls.a5, SV.row (SId.i IntKind.i64) p.classes, SV.row SId.off p.offers] (148 : Nat) (20 : Nat) false) ∧ (SObj.map SId.key SId.b true [] ([(0 : Nat), (0 : Nat), (0 : Nat), (0 : Nat), (0 : Nat), (0 : Nat), (0 : Nat)], true) true).same (SObj.map SId.key SId.b true [] ([(0 : Nat), (0 : Nat), (0 : Nat), (0 : Nat), (0 : Nat), (0 : Nat), (0 : Nat)], true) true) ∧ True) ∧ (0 : Int) ≤ (0 : Int) ∧ (0 : Int) ≤ ↑p.offers.length ∧ checkL p [] p.offers = checkL p [] p.offers) ∧ ∀ (x : Int), (0 : Int) ≤ x ∧ x ≤ ↑p.offers.length ∧ checkL p [] p.offers = checkL p (List.map Off.key (List.take x.toNat p.offers)) (List.drop x.toNat p.offers) → (decide (x < ↑p.offers.length) = true → (0 : Int) ≤ x ∧ x < ↑p.offers.length ∧ x.toNat < p.offers.length ∧ p.classes.length ≤ (8 : Nat) ∧ (decide (offerE p (nthD p.offers x.toNat SId.off.dflt) ≠ (0 : Int)) = true → (SV.si IntKind.i64 (offerE p (nthD p.offers x.toNat SId.off.dflt))).same (SV.si IntKind.i64 (checkE p))) ∧ (decide (offerE p (nthD p.offers x.toNat SId.off.dflt) ≠ (0 : Int)) = false → ((findT SId.key SId.b (BKey.mk (nthD p.offers x.toNat SId.off.dflt).bidder (nthD p.offers x.toNat SId.off.dflt).want) (List.map (fun o ↦ (o.key, true)) (List.take x.toNat p.offers))).getD false = true → (SV.il IntKind.i64 (7 : Int)).same (SV.si IntKind.i64 (checkE p))) ∧ ((findT SId.key SId.b (BKey.mk (nthD p.offers x.toNat SId.off.dflt).bidder (nthD p.offers x.toNat SId.off.dflt).want) (List.map (fun o ↦ (o.key, true)) (List.take x.toNat p.offers))).getD false = false → inR IntKind.i64 (x + (1 : Int)) ∧ (((SV.ptr (1 : Nat) (0 : Nat) (20 : Nat)).same (SV.ptr (1 : Nat) (0 : Nat) (20 : Nat)) ∧ (SV.mp (2 : Nat)).same (SV.mp (2 : Nat)) ∧ (SV.row SId.off p.offers).same (SV.row SId.off p.offers) ∧ (SV.si IntKind.i64 ↑p.offers.length).same (SV.si IntKind.i64 ↑p.offers.length) ∧ (SV.si IntKind.i64 (x + (1 : Int))).same (SV.si IntKind.i64 (x + (1 : Int))) ∧ True) ∧ (SObj.cells [SV.si IntKind.i64 p.supply.a0, SV.si IntKind.i64 p.supply.a1, SV.si IntKind.i64 p.supply.a2, SV.si IntKind.i64 p.supply.a3, SV.si IntKind.i64 p.supply.a4, SV.si IntKind.i64 p.supply.a5, SV.si IntKind.i64 p.opn.a0, SV.si IntKind.i64 p.opn.a1, SV.si IntKind.i64 p.opn.a2, SV.si IntKind.i64 p.opn.a3, SV.si IntKind.i64 p.opn.a4, SV.si IntKind.i64 p.opn.a5, SV.si IntKind.i64 p.cls.a0, SV.si IntKind.i64 p.cls.a1, SV.si IntKind.i64 p.cls.a2, SV.si IntKind.i64 p.cls.a3, SV.si IntKind.i64 p.cls.a4, SV.si IntKind.i64 p.cls.a5, SV.row (SId.i IntKind.i64) p.classes, SV.row SId.off p.offers] (27 : Nat) (20 : Nat) false).same (SObj.cells [SV.si IntKind.i64 p.supply.a0, SV.si IntKind.i64 p.supply.a1, SV.si IntKind.i64 p.supply.a2, SV.si IntKind.i64 p.supply.a3, SV.si IntKind.i64 p.supply.a4, SV.si IntKind.i64 p.supply.a5, SV.si IntKind.i64 p.opn.a0, SV.si IntKind.i64 p.opn.a1, SV.si IntKind.i64 p.opn.a2, SV.si IntKind.i64 p.opn.a3, SV.si IntKind.i64 p.opn.a4, SV.si IntKind.i64 p.opn.a5, SV.si IntKind.i64 p.cls.a0, SV.si IntKind.i64 p.cls.a1, SV.si IntKind.i64 p.cls.a2, SV.si IntKind.i64 p.cls.a3, SV.si IntKind.i64 p.cls.a4, SV.si IntKind.i64 p.cls.a5, SV.row (SId.i IntKind.i64) p.classes, SV.row SId.off p.offers] (27 : Nat) (20 : Nat) false) ∧ (SObj.cells [SV.si IntKind.i64 p.supply.a0, SV.si IntKind.i64 p.supply.a1, SV.si IntKind.i64 p.supply.a2, SV.si IntKind.i64 p.supply.a3, SV.si IntKind.i64 p.supply.a4, SV.si IntKind.i64 p.supply.a5, SV.si IntKind.i64 p.opn.a0, SV.si IntKind.i64 p.opn.a1, SV.si IntKind.i64 p.opn.a2, SV.si IntKind.i64 p.opn.a3, SV.si IntKind.i64 p.opn.a4, SV.si IntKind.i64 p.opn.a5, SV.si IntKind.i64 p.cls.a0, SV.si IntKind.i64 p.cls.a1, SV.si IntKind.i64 p.cls.a2, SV.si IntKind.i64 p.cls.a3, SV.si IntKind.i64 p.cls.a4, SV.si IntKind.i64 p.cls.a5, SV.row (SId.i IntKind.i64) p.classes, SV.row SId.off p.offers] (148 : Nat) (20 : Nat) false).same (SObj.cells [SV.si IntKind.i64 p.supply.a0, SV.si IntKind.i64 p.supply.a1, SV.si IntKind.i64 p.supply.a2, SV.si IntKind.i64 p.supply.a3, SV.si IntKind.i64 p.supply.a4, SV.si IntKind.i64 p.supply.a5, SV.si IntKind.i64 p.opn.a0, SV.si IntKind.i64 p.opn.a1, SV.si IntKind.i64 p.opn.a2, SV.si IntKind.i64 p.opn.a3, SV.si IntKind.i64 p.opn.a4, SV.si IntKind.i64 p.opn.a5, SV.si IntKind.i64 p.cls.a0, SV.si IntKind.i64 p.cls.a1, SV.si IntKind.i64 p.cls.a2, SV.si IntKind.i64 p.cls.a3, SV.si IntKind.i64 p.cls.a4, SV.si IntKind.i64 p.cls.a5, SV.row (SId.i IntKind.i64) p.classes, SV.row SId.off p.offers] (148 : Nat) (20 : Nat) false) ∧ (SObj.map SId.key SId.b true (setT SId.key SId.b (BKey.mk (nthD p.offers x.toNat SId.off.dflt).bidder (nthD p.offers x.toNat SId.off.dflt).want) true (List.map (fun o ↦ (o.key, true)) (List.take x.toNat p.offers))) ([(0 : Nat), (0 : Nat), (0 : Nat), (0 : Nat), (0 : Nat), (0 : Nat), (0 : Nat)], true) true).same (SObj.map SId.key SId.b true (List.map (fun o ↦ (o.key, true)) (List.take (x + (1 : Int)).toNat p.offers)) ([(0 : Nat), (0 : Nat), (0 : Nat), (0 : Nat), (0 : Nat), (0 : Nat), (0 : Nat)], true) true) ∧ True) ∧ ((0 : Int) ≤ x + (1 : Int) ∧ x + (1 : Int) ≤ ↑p.offers.length ∧ checkL p [] p.offers = checkL p (List.map Off.key (List.take (x + (1 : Int)).toNat p.offers)) (List.drop (x + (1 : Int)).toNat p.offers)) ∧ (↑p.offers.length - (x + (1 : Int))).toNat < (↑p.offers.length - x).toNat))) ∧ (decide (x < ↑p.offers.length) = false → (SV.il IntKind.i64 (0 : Int)).same (SV.si IntKind.i64 (checkE p))))) (by kernel_rfl) ?_
  simp only [decide_eq_true_eq, decide_eq_false_iff_not, same_il_si, same_si_si, same_si_il, same_il_il, same_sb_sb, same_bl_sb, same_row, same_tup2, same_tup3, same_nil, same_row_nil, same_rfl, osame_rfl, inR_i64, eq_self, true_and, and_true, Bool.and_eq_true, Bool.not_eq_true', Bool.not_eq_false']
  refine ⟨fun h => by simp [checkE, h], fun h => ?_⟩
  have hz : frameE p = 0 := Classical.not_not.1 h
  obtain ⟨f1, f2, f3, f4, f5⟩ := frame_zero hz
  refine ⟨⟨by omega, by omega⟩, ?_⟩
  rintro i ⟨hi0, hi1, hi⟩
  refine ⟨fun hlt => ?_, fun hge => ?_⟩
  · rw [drop_nth (d := SId.off.dflt) hi0 hlt] at hi
    generalize hx : nthD p.offers i.toNat SId.off.dflt = x at hi ⊢
    refine ⟨by omega, by omega, by omega, f3, fun he => ?_, fun he => ?_⟩
    · simp only [checkL, if_pos he] at hi
      simp [checkE, hz, hi]
    · simp only [checkL, if_neg he] at hi
      have hk : (⟨x.bidder, x.want⟩ : BKey) = x.key := rfl
      simp only [hk]
      refine ⟨fun hm => ?_, fun hm => ⟨by omega, ?_, ⟨by omega, by omega, ?_⟩, by omega⟩⟩
      · have hm2 := of_decide_eq_true ((find_keys _ _).symm.trans hm)
        rw [if_pos hm2] at hi
        simp [checkE, hz, hi]
      · have hm2 := of_decide_eq_false ((find_keys _ _).symm.trans hm)
        apply omap_same
        rw [set_keys hm2, take_nth (d := SId.off.dflt) hi0 hlt, hx]
        simp
      · have hm2 := of_decide_eq_false ((find_keys _ _).symm.trans hm)
        rw [if_neg hm2] at hi
        rw [hi, take_nth (d := SId.off.dflt) hi0 hlt, hx]
        simp
  · rw [show i.toNat = p.offers.length from by omega, List.drop_length] at hi
    simp only [checkL] at hi
    simp [checkE, hz, hi]

def pickGo (l : List Off) (last : Int) : List Int → Option (List Off)
  | [] => some []
  | i :: r => if i ≤ last ∨ l.length ≤ i then none else (pickGo l i r).map (nthD l i.toNat SId.off.dflt :: ·)

def pickOk (p : Prob) (c : List Int) : Bool := (pickGo p.offers (-1) c).isSome
def pickL (p : Prob) (c : List Int) : List Off := (pickGo p.offers (-1) c).getD []

def r133 : SCtr := ⟨133, Prob × List Int, .cons codP (.one (codR (.i .i64))), fun a => a.2.length ≤ 1000000000000, fun a => .tup [.row .off (pickL a.1 a.2), .sb (pickOk a.1 a.2)]⟩

def Λ133 (a : Prob × List Int) : Nat → LoopAnn
  | 4 => .inv (Int × Int × List Off) (fun x => ⟨[(2, .ptr 0 0 20), (6, .ow 1 x.2.2.length 8), (7, .si .i64 x.2.1), (10, .row (.i .i64) a.2), (11, .si .i64 a.2.length), (12, .si .i64 x.1)],
      [.cells a.1.ss 27 20 false, .row .off x.2.2 43 true]⟩) (fun s => (iS s 12, iS s 7, oS .off s 1))
    (fun x => 0 ≤ x.1 ∧ x.1 ≤ a.2.length ∧ x.2.2.length = x.1 ∧ -1 ≤ x.2.1 ∧ pickGo a.1.offers (-1) a.2 = (pickGo a.1.offers x.2.1 (a.2.drop x.1.toNat)).map (x.2.2 ++ ·)) (fun x => (a.2.length - x.1).toNat) fun _ _ => .look
  | _ => .look

theorem h133 : Holds Try.prog r133 := by
  refine con (L := L5) r133 F133 Λ133 (OwnOK.none _) hL5 (by kernel_rfl) (by kernel_rfl) (fun _ => rfl) ?_
  rintro ⟨p, c⟩ (hc : c.length ≤ 1000000000000)
  refine vcOf (((((SV.ptr (0 : Nat) (0 : Nat) (20 : Nat)).same (SV.ptr (0 : Nat) (0 : Nat) (20 : Nat)) ∧ (SV.ow (1 : Nat) (0 : Nat) (8 : Nat)).same (SV.ow (1 : Nat) (0 : Nat) (8 : Nat)) ∧ (SV.il IntKind.i64 (-1 : Int)).same (SV.si IntKind.i64 (-1 : Int)) ∧ (SV.row (SId.i IntKind.i64) c).same (SV.row (SId.i IntKind.i64) c) ∧ (SV.si IntKind.i64 ↑c.length).same (SV.si IntKind.i64 ↑c.length) ∧ (SV.il IntKind.i64 (0 : Int)).same (SV.si IntKind.i64 (0 : Int)) ∧ True) ∧ (SObj.cells [SV.si IntKind.i64 p.supply.a0, SV.si IntKind.i64 p.supply.a1, SV.si IntKind.i64 p.supply.a2, SV.si IntKind.i64 p.supply.a3, SV.si IntKind.i64 p.supply.a4, SV.si IntKind.i64 p.supply.a5, SV.si IntKind.i64 p.opn.a0, SV.si IntKind.i64 p.opn.a1, SV.si IntKind.i64 p.opn.a2, SV.si IntKind.i64 p.opn.a3, SV.si IntKind.i64 p.opn.a4, SV.si IntKind.i64 p.opn.a5, SV.si IntKind.i64 p.cls.a0, SV.si IntKind.i64 p.cls.a1, SV.si IntKind.i64 p.cls.a2, SV.si IntKind.i64 p.cls.a3, SV.si IntKind.i64 p.cls.a4, SV.si IntKind.i64 p.cls.a5, SV.row (SId.i IntKind.i64) p.classes, SV.row SId.off p.offers] (27 : Nat) (20 : Nat) false).same (SObj.cells [SV.si IntKind.i64 p.supply.a0, SV.si IntKind.i64 p.supply.a1, SV.si IntKind.i64 p.supply.a2, SV.si IntKind.i64 p.supply.a3, SV.si IntKind.i64 p.supply.a4, SV.si IntKind.i64 p.supply.a5, SV.si IntKind.i64 p.opn.a0, SV.si IntKind.i64 p.opn.a1, SV.si IntKind.i64 p.opn.a2, SV.si IntKind.i64 p.opn.a3, SV.si IntKind.i64 p.opn.a4, SV.si IntKind.i64 p.opn.a5, SV.si IntKind.i64 p.cls.a0, SV.si IntKind.i64 p.cls.a1, SV.si IntKind.i64 p.cls.a2, SV.si IntKind.i64 p.cls.a3, SV.si IntKind.i64 p.cls.a4, SV.si IntKind.i64 p.cls.a5, SV.row (SId.i IntKind.i64) p.classes, SV.row SId.off p.offers] (27 : Nat) (20 : Nat) false) ∧ (SObj.row SId.off [] (43 : Nat) true).same (SObj.row SId.off [] (43 : Nat) true) ∧ True) ∧ (0 : Int) ≤ (0 : Int) ∧ (0 : Int) ≤ ↑c.length ∧ (0 : Int) = (0 : Int) ∧ (-1 : Int) ≤ (-1 : Int) ∧ pickGo p.offers (-1 : Int) c = Option.map (fun x ↦ ((0 : Int), (-1 : Int), []).snd.snd ++ x) (pickGo p.offers (-1 : Int) c)) ∧ ∀ (x : Int × Int × List Off), (0 : Int) ≤ x.fst ∧ x.fst ≤ ↑c.length ∧ ↑x.snd.snd.length = x.fst ∧ (-1 : Int) ≤ x.snd.fst ∧ pickGo p.offers (-1 : Int) c = Option.map (fun x_1 ↦ x.snd.snd ++ x_1) (pickGo p.offers x.snd.fst (List.drop x.fst.toNat c)) → (decide (x.fst < ↑c.length) = true → (0 : Int) ≤ x.fst ∧ x.fst < ↑c.length ∧ x.fst.toNat < c.length ∧ (decide (nthD c x.fst.toNat (0 : Int) ≤ x.snd.fst) = true → (SV.tup [SV.row (SId.i IntKind.i64) [], SV.bl false]).same (SV.tup [SV.row SId.off (pickL p c), SV.sb (pickOk p c)])) ∧ (decide (nthD c x.fst.toNat (0 : Int) ≤ x.snd.fst) = false → (decide (↑p.offers.length ≤ nthD c x.fst.toNat (0 : Int)) = true → (SV.tup [SV.row (SId.i IntKind.i64) [], SV.bl false]).same (SV.tup [SV.row SId.off (pickL p c), SV.sb (pickOk p c)])) ∧ (decide (↑p.offers.length ≤ nthD c x.fst.toNat (0 : Int)) = false → (0 : Int) ≤ nthD c x.fst.toNat (0 : Int) ∧ nthD c x.fst.toNat (0 : Int) < ↑p.offers.length ∧ (nthD c x.fst.toNat (0 : Int)).toNat < p.offers.length ∧ x.snd.snd.length = x.snd.snd.length ∧ (x.snd.snd.length + (1 : Nat)) * (64 : Nat) ≤ (140737488355328 : Nat) ∧ x.snd.snd.length + (1 : Nat) ≤ (1000000000000 : Nat) ∧ inR IntKind.i64 (x.fst + (1 : Int)) ∧ (((SV.ptr (0 : Nat) (0 : Nat) (20 : Nat)).same (SV.ptr (0 : Nat) (0 : Nat) (20 : Nat)) ∧ (SV.ow (1 : Nat) (x.snd.snd ++ [nthD p.offers (nthD c x.fst.toNat (0 : Int)).toNat SId.off.dflt]).length (8 : Nat)).same (SV.ow (1 : Nat) (x.snd.snd ++ [nthD p.offers (nthD c x.fst.toNat (0 : Int)).toNat SId.off.dflt]).length (8 : Nat)) ∧ (SV.si IntKind.i64 (nthD c x.fst.toNat (0 : Int))).same (SV.si IntKind.i64 (nthD c x.fst.toNat (0 : Int))) ∧ (SV.row (SId.i IntKind.i64) c).same (SV.row (SId.i IntKind.i64) c) ∧ (SV.si IntKind.i64 ↑c.length).same (SV.si IntKind.i64 ↑c.length) ∧ (SV.si IntKind.i64 (x.fst + (1 : Int))).same (SV.si IntKind.i64 (x.fst + (1 : Int))) ∧ True) ∧ (SObj.cells [SV.si IntKind.i64 p.supply.a0, SV.si IntKind.i64 p.supply.a1, SV.si IntKind.i64 p.supply.a2, SV.si IntKind.i64 p.supply.a3, SV.si IntKind.i64 p.supply.a4, SV.si IntKind.i64 p.supply.a5, SV.si IntKind.i64 p.opn.a0, SV.si IntKind.i64 p.opn.a1, SV.si IntKind.i64 p.opn.a2, SV.si IntKind.i64 p.opn.a3, SV.si IntKind.i64 p.opn.a4, SV.si IntKind.i64 p.opn.a5, SV.si IntKind.i64 p.cls.a0, SV.si IntKind.i64 p.cls.a1, SV.si IntKind.i64 p.cls.a2, SV.si IntKind.i64 p.cls.a3, SV.si IntKind.i64 p.cls.a4, SV.si IntKind.i64 p.cls.a5, SV.row (SId.i IntKind.i64) p.classes, SV.row SId.off p.offers] (27 : Nat) (20 : Nat) false).same (SObj.cells [SV.si IntKind.i64 p.supply.a0, SV.si IntKind.i64 p.supply.a1, SV.si IntKind.i64 p.supply.a2, SV.si IntKind.i64 p.supply.a3, SV.si IntKind.i64 p.supply.a4, SV.si IntKind.i64 p.supply.a5, SV.si IntKind.i64 p.opn.a0, SV.si IntKind.i64 p.opn.a1, SV.si IntKind.i64 p.opn.a2, SV.si IntKind.i64 p.opn.a3, SV.si IntKind.i64 p.opn.a4, SV.si IntKind.i64 p.opn.a5, SV.si IntKind.i64 p.cls.a0, SV.si IntKind.i64 p.cls.a1, SV.si IntKind.i64 p.cls.a2, SV.si IntKind.i64 p.cls.a3, SV.si IntKind.i64 p.cls.a4, SV.si IntKind.i64 p.cls.a5, SV.row (SId.i IntKind.i64) p.classes, SV.row SId.off p.offers] (27 : Nat) (20 : Nat) false) ∧ (SObj.row SId.off (x.snd.snd ++ [nthD p.offers (nthD c x.fst.toNat (0 : Int)).toNat SId.off.dflt]) (43 : Nat) true).same (SObj.row SId.off (x.snd.snd ++ [nthD p.offers (nthD c x.fst.toNat (0 : Int)).toNat SId.off.dflt]) (43 : Nat) true) ∧ True) ∧ ((0 : Int) ≤ x.fst + (1 : Int) ∧ x.fst + (1 : Int) ≤ ↑c.length ∧ ↑(x.snd.snd ++ [nthD p.offers (nthD c x.fst.toNat (0 : Int)).toNat SId.off.dflt]).length = x.fst + (1 : Int) ∧ (-1 : Int) ≤ nthD c x.fst.toNat (0 : Int) ∧ pickGo p.offers (-1 : Int) c = Option.map (fun x_1 ↦ (x.fst + (1 : Int), nthD c x.fst.toNat (0 : Int), x.snd.snd ++ [nthD p.offers (nthD c x.fst.toNat (0 : Int)).toNat SId.off.dflt]).snd.snd ++ x_1) (pickGo p.offers (nthD c x.fst.toNat (0 : Int)) (List.drop (x.fst + (1 : Int)).toNat c))) ∧ (↑c.length - (x.fst + (1 : Int))).toNat < (↑c.length - x.fst).toNat))) ∧ (decide (x.fst < ↑c.length) = false → x.snd.snd.length = x.snd.snd.length ∧ (SV.tup [SV.row SId.off x.snd.snd, SV.bl true]).same (SV.tup [SV.row SId.off (pickL p c), SV.sb (pickOk p c)]))) (by kernel_rfl) ?_
  simp only [decide_eq_true_eq, decide_eq_false_iff_not, same_il_si, same_si_si, same_si_il, same_il_il, same_sb_sb, same_bl_sb, same_row, same_tup2, same_tup3, same_nil, same_row_nil, same_rfl, osame_rfl, inR_i64, eq_self, true_and, and_true, Bool.and_eq_true, Bool.not_eq_true', Bool.not_eq_false']
  have hrow : ∀ {l : List Off}, l = [] → (SV.row (.i .i64) []).same (SV.row .off l) := by rintro l rfl; exact same_nil.2 trivial
  refine ⟨⟨by omega, by omega, by omega, by simp⟩, ?_⟩
  rintro ⟨i, last, out⟩ ⟨hi0, hi1, hlen, hla, hi⟩
  simp only at hi0 hi1 hlen hla hi ⊢
  refine ⟨fun hlt => ?_, fun hge => ?_⟩
  · rw [drop_nth (d := 0) hi0 hlt] at hi
    generalize hx : nthD c i.toNat 0 = x at hi ⊢
    simp only [pickGo] at hi
    refine ⟨by omega, by omega, by omega, fun h1 => ?_, fun h1 => ⟨fun h2 => ?_, fun h2 => ?_⟩⟩
    · rw [if_pos (.inl h1)] at hi
      exact ⟨hrow (by simp [pickL, hi]), by simp [pickOk, hi]⟩
    · rw [if_pos (.inr (by omega))] at hi
      exact ⟨hrow (by simp [pickL, hi]), by simp [pickOk, hi]⟩
    · rw [if_neg (by omega)] at hi
      simp only [List.length_append, List.length_singleton]
      refine ⟨by omega, by omega, by omega, by omega, by omega, by omega, ⟨by omega, by omega, by omega, by omega, ?_⟩, by omega⟩
      rw [hi, Option.map_map]
      congr 1
      funext r
      simp
  · rw [show i.toNat = c.length from by omega, List.drop_length] at hi
    simp only [pickGo, Option.map_some, List.append_nil] at hi
    exact ⟨by simp [pickL, hi], by simp [pickOk, hi]⟩

def L6 : List SCtr := r79 :: r133 :: L5
theorem hL6 : ∀ c ∈ L6, Holds Try.prog c := by
  simp only [L6, List.forall_mem_cons]
  exact ⟨h79, h133, hL5⟩

def feasE (p : Prob) (c : List Int) : Int := if checkE p ≠ 0 then checkE p else if pickOk p c = false then 4 else if fitsB p (pickL p c) = false then 14 else 0

def r100 : SCtr := ⟨100, Prob × List Int, .cons codP (.one (codR (.i .i64))), fun a => a.2.length ≤ 1000000000000, fun a => .si .i64 (feasE a.1 a.2)⟩

theorem checkL_mem {p : Prob} : ∀ {l : List Off} {seen : List BKey}, checkL p seen l = 0 → ∀ x ∈ l, offerE p x = 0
  | [], _, _ => by simp
  | o :: r, seen, h => by
    simp only [checkL] at h
    split at h
    · rename_i h1; exact absurd h h1
    · rename_i h1
      split at h
      · cases h
      · intro x hx
        rcases List.mem_cons.1 hx with rfl | hx
        · exact Classical.not_not.1 h1
        · exact checkL_mem h x hx

theorem check_zero {p : Prob} (h : checkE p = 0) : frameE p = 0 ∧ ∀ x ∈ p.offers, offerE p x = 0 := by
  unfold checkE at h
  split at h
  · rename_i h1; exact absurd h h1
  · rename_i h1; exact ⟨Classical.not_not.1 h1, checkL_mem h⟩

theorem offer_zero {p : Prob} {o : Off} (h : offerE p o = 0) : simpleE p.classes.length o = 0 ∧ o.want ≠ Bun.zero ∧ fitsB p [o] = true := by
  unfold offerE at h
  split at h
  · rename_i h1; exact absurd h h1
  · rename_i h1
    split at h
    · cases h
    · split at h
      · cases h
      · rename_i h2 h3
        exact ⟨Classical.not_not.1 h1, h2, by simpa using h3⟩

theorem pick_len {l : List Off} : ∀ {c : List Int} {last : Int} {r : List Off}, -1 ≤ last → pickGo l last c = some r → r.length + last + 1 ≤ l.length ∨ r = []
  | [], last, r, _, h => by simp [pickGo] at h; exact .inr h
  | i :: c, last, r, hl, h => by
    simp only [pickGo] at h
    split at h
    · cases h
    · rename_i h1
      obtain ⟨r', h2, rfl⟩ := Option.map_eq_some_iff.1 h
      have := pick_len (by omega) h2
      left
      simp only [List.length_cons]
      rcases this with h3 | rfl
      · omega
      · simp; omega

theorem pick_mem {l : List Off} : ∀ {c : List Int} {last : Int} {r : List Off}, -1 ≤ last → pickGo l last c = some r → ∀ x ∈ r, x ∈ l
  | [], last, r, _, h => by simp [pickGo] at h; subst h; simp
  | i :: c, last, r, hl, h => by
    simp only [pickGo] at h
    split at h
    · cases h
    · rename_i h1
      obtain ⟨r', h2, rfl⟩ := Option.map_eq_some_iff.1 h
      intro x hx
      rcases List.mem_cons.1 hx with rfl | hx
      · exact nthD_mem (by omega)
      · exact pick_mem (by omega) h2 x hx

theorem h100 : Holds Try.prog r100 := by
  refine con (L := L6) r100 F100 (fun p => fun _ => .look) (OwnOK.none _) hL6 (by kernel_rfl) (by kernel_rfl) (fun _ => rfl) ?_
  rintro ⟨p, c⟩ (hc : c.length ≤ 1000000000000)
  refine vcOf (True ∧ (decide (checkE p ≠ (0 : Int)) = true → (SV.si IntKind.i64 (checkE p)).same (SV.si IntKind.i64 (feasE p c))) ∧ (decide (checkE p ≠ (0 : Int)) = false → c.length ≤ (1000000000000 : Nat) ∧ ((!pickOk p c) = true → (SV.il IntKind.i64 (4 : Int)).same (SV.si IntKind.i64 (feasE p c))) ∧ ((!pickOk p c) = false → (p.classes.length ≤ (8 : Nat) ∧ (pickL p c).length ≤ (1000 : Nat) ∧ ∀ (x : Off), x ∈ pickL p c → (0 : Int) ≤ x.bidder ∧ x.bidder < ↑p.classes.length ∧ x.want.ok = true) ∧ ((!fitsB p (pickL p c)) = true → (SV.il IntKind.i64 (14 : Int)).same (SV.si IntKind.i64 (feasE p c))) ∧ ((!fitsB p (pickL p c)) = false → (SV.il IntKind.i64 (0 : Int)).same (SV.si IntKind.i64 (feasE p c)))))) (by kernel_rfl) ?_
  simp only [decide_eq_true_eq, decide_eq_false_iff_not, same_il_si, same_si_si, same_si_il, same_il_il, same_sb_sb, same_bl_sb, same_row, same_tup2, same_tup3, same_nil, same_row_nil, same_rfl, osame_rfl, inR_i64, eq_self, true_and, and_true, Bool.and_eq_true, Bool.not_eq_true', Bool.not_eq_false']
  refine ⟨fun h => by simp [feasE, h], fun h => ?_⟩
  have hz : checkE p = 0 := Classical.not_not.1 h
  obtain ⟨hf, ho⟩ := check_zero hz
  obtain ⟨f1, f2, f3, f4, f5⟩ := frame_zero hf
  refine ⟨hc, fun h1 => by simp [feasE, hz, h1], fun h1 => ⟨⟨f3, ?_, ?_⟩, fun h2 => by simp [feasE, hz, h1, h2], fun h2 => by simp [feasE, hz, h1, h2]⟩⟩
  · unfold pickOk at h1
    obtain ⟨r, hr⟩ := Option.isSome_iff_exists.1 h1
    have := pick_len (by omega) hr
    simp only [pickL, hr, Option.getD_some]
    rcases this with h3 | rfl
    · omega
    · simp
  · unfold pickOk at h1
    obtain ⟨r, hr⟩ := Option.isSome_iff_exists.1 h1
    simp only [pickL, hr, Option.getD_some]
    intro x hx
    have hs := simple_zero (offer_zero (ho x (pick_mem (by omega) hr x hx))).1
    exact ⟨hs.1, hs.2.1, hs.2.2.2.2⟩

end Go.Vi

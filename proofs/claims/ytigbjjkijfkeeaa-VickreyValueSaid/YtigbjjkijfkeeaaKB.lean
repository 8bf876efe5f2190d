/-
  Contracts: the worth of a coalition, the deal of an allocation.
  Conditions: none.
-/
import Derived.Test.YtigbjjkijfkeeaaKA
set_option maxRecDepth 100000
set_option maxHeartbeats 4000000
set_option linter.unusedSimpArgs false
set_option linter.unusedVariables false
namespace Go.Vi
open Go.Proofs.Ytigbjjkijfkeeaa.Ir
open Go.Proofs

theorem good_of {p : Prob} (h : checkE p = 0) : Good p := by
  obtain ⟨hf, ho⟩ := check_zero h
  obtain ⟨f1, f2, f3, f4, f5⟩ := frame_zero hf
  refine ⟨f3, f4, f1, ?_, fun x hx => ?_⟩
  · have hs := Bun.ok_iff.1 f1
    have g0 := prodOk_iff.1 (f2 0 (by omega))
    have g1 := prodOk_iff.1 (f2 1 (by omega))
    have g2 := prodOk_iff.1 (f2 2 (by omega))
    have g3 := prodOk_iff.1 (f2 3 (by omega))
    have g4 := prodOk_iff.1 (f2 4 (by omega))
    have g5 := prodOk_iff.1 (f2 5 (by omega))
    simp [nthD] at g0 g1 g2 g3 g4 g5
    exact Bun.ok_iff.2 (by omega)
  · have hs := simple_zero (offer_zero (ho x hx)).1
    exact ⟨hs.1, hs.2.1, hs.2.2.2.2, hs.2.2.1, hs.2.2.2.1⟩

theorem pow_n {n : Nat} (h : n ≤ 8) : (2 : Int) ^ n ≤ 256 ∧ 0 < (2 : Int) ^ n := by
  have : n = 0 ∨ n = 1 ∨ n = 2 ∨ n = 3 ∨ n = 4 ∨ n = 5 ∨ n = 6 ∨ n = 7 ∨ n = 8 := by omega
  rcases this with h | h | h | h | h | h | h | h | h <;> rw [h] <;> decide

def worthS (p : Prob) (m : Int) : Int := if faultE p m = 0 then bestS p ⟨m, p.supply, p.opn⟩ else 0

theorem worth_bd (p : Prob) (m : Int) : 0 ≤ worthS p m ∧ worthS p m ≤ 8000000 := by
  unfold worthS
  split
  · rename_i h
    have hc : checkE p = 0 := by
      unfold faultE at h
      split at h
      · rename_i h1; exact absurd h h1
      · rename_i h1; exact Classical.not_not.1 h1
    exact bestS_bd (good_of hc) _
  · omega

theorem fault_zero {p : Prob} {m : Int} (h : faultE p m = 0) : checkE p = 0 ∧ 0 ≤ m ∧ m < 2 ^ p.classes.length := by
  unfold faultE at h
  split at h
  · rename_i h1; exact absurd h h1
  · rename_i h1
    split at h
    · cases h
    · rename_i h2
      exact ⟨Classical.not_not.1 h1, by omega, by omega⟩

def r80 : SCtr := ⟨80, Prob × Int, .cons codP (.one (codI .i64)), fun _ => True, fun a => .tup [.si .i64 (worthS a.1 a.2), .si .i64 (faultE a.1 a.2)]⟩
def WB : List OCtr := [r113, r114, bestC 9]
theorem hWB : ∀ c ∈ WB, HoldsO Try.prog c := by
  simp only [WB, List.forall_mem_cons, List.not_mem_nil, false_implies, implies_true, and_true]
  exact ⟨h113, h114, hBest 9⟩

theorem h80 : Holds Try.prog r80 := by
  refine con (L := L8l) (W := ownT WB) r80 F80 (fun _ _ => .look) (ownT_ok hWB) hL8 (by kernel_rfl) (by kernel_rfl) (fun _ => rfl) ?_
  rintro ⟨p, m⟩ _
  refine vcOf (True ∧ (decide (faultE p m ≠ (0 : Int)) = true → (SV.tup [SV.il IntKind.i64 (0 : Int), SV.si IntKind.i64 (faultE p m)]).same (SV.tup [SV.si IntKind.i64 (worthS p m), SV.si IntKind.i64 (faultE p m)])) ∧ (decide (faultE p m ≠ (0 : Int)) = false → Good p ∧ True ∧ ((Good p ∧ L8.of p = L8.of p ∧ SitOk (Sit.mk m p.supply p.opn) ∧ MemoOk p []) ∧ cnt m < (9 : Nat)) ∧ (SV.tup [SV.si IntKind.i64 (bestM p (cnt m + (1 : Nat)) [] (Sit.mk m p.supply p.opn)).fst, SV.il IntKind.i64 (0 : Int)]).same (SV.tup [SV.si IntKind.i64 (worthS p m), SV.si IntKind.i64 (faultE p m)]))) (by kernel_rfl) ?_
  simp only [decide_eq_true_eq, decide_eq_false_iff_not, same_il_si, same_si_si, same_si_il, same_il_il, same_sb_sb, same_bl_sb, same_row, same_tup2, same_tup3, same_nil, same_row_nil, same_rfl, osame_rfl, inR_i64, eq_self, true_and, and_true, Bool.and_eq_true, Bool.not_eq_true', Bool.not_eq_false']
  refine ⟨fun h => by simp [worthS, h], fun h => ?_⟩
  have hz : faultE p m = 0 := Classical.not_not.1 h
  obtain ⟨hc, h1, h2⟩ := fault_zero hz
  have hg := good_of hc
  have hp := pow_n hg.1
  have ha : SitOk ⟨m, p.supply, p.opn⟩ := ⟨h1, by simp only; omega, hg.2.2.1, hg.2.2.2.1⟩
  have hm : MemoOk p [] := fun e he => by simp at he
  have hn : cnt m < 9 := by have := @mem_len m; unfold cnt; omega
  have hb := best_ok hg (cnt m + 1) [] ⟨m, p.supply, p.opn⟩ ha hm (by simp only; omega)
  refine ⟨hg, ⟨⟨hg, ha, hm⟩, hn⟩, ?_, hz.symm⟩
  rw [hb.1]
  simp [worthS, hz]

def LB : List SCtr := r80 :: L8l
theorem hLB : ∀ c ∈ LB, Holds Try.prog c := by
  simp only [LB, List.forall_mem_cons]
  exact ⟨h80, hL8⟩

structure Deal where
  p : Prob
  values : List Int
  all : Int
  worth : Int

def codD : Cod Deal where
  put d := .agg [.si .i64 d.p.supply.a0, .si .i64 d.p.supply.a1, .si .i64 d.p.supply.a2, .si .i64 d.p.supply.a3, .si .i64 d.p.supply.a4, .si .i64 d.p.supply.a5,
   .si .i64 d.p.opn.a0, .si .i64 d.p.opn.a1, .si .i64 d.p.opn.a2, .si .i64 d.p.opn.a3, .si .i64 d.p.opn.a4, .si .i64 d.p.opn.a5,
   .si .i64 d.p.cls.a0, .si .i64 d.p.cls.a1, .si .i64 d.p.cls.a2, .si .i64 d.p.cls.a3, .si .i64 d.p.cls.a4, .si .i64 d.p.cls.a5,
   .row (.i .i64) d.p.classes, .row .off d.p.offers, .row (.i .i64) d.values, .si .i64 d.all, .si .i64 d.worth]
  dec
    | .agg [s0, s1, s2, s3, s4, s5, o0, o1, o2, o3, o4, o5, c0, c1, c2, c3, c4, c5, k, f, v, a, w] =>
      match decProb [s0, s1, s2, s3, s4, s5, o0, o1, o2, o3, o4, o5, c0, c1, c2, c3, c4, c5, k, f], decRow (.i .i64) v, a.int .i64, w.int .i64 with
      | some p, some v, some a, some w => some ⟨p, v, a, w⟩
      | _, _, _, _ => none
    | _ => none
  ok v a h := by
    split at h
    · split at h
      · rename_i h1 h2 h3 h4
        simp only [Option.some.injEq] at h; subst h
        have hp := decProb_ok h1
        simp only [Prob.ss, gL, List.cons.injEq, and_true] at hp
        simp only [SV.g, gL]
        simp only [hp, decRow_ok h2, int_g h3, int_g h4]
        rfl
      · cases h
    · cases h
  inj a b h := by
    obtain ⟨p, v, al, w⟩ := a
    obtain ⟨q, v', al', w'⟩ := b
    simp only [SV.g, gL, AV.agg.injEq, List.cons.injEq, and_true, AV.sc.injEq, Value.int.injEq, true_and] at h
    have hp : p = q := by
      apply codP.inj
      show (SV.agg p.ss).g = (SV.agg q.ss).g
      simp only [SV.g, Prob.ss, gL, AV.agg.injEq, List.cons.injEq, and_true, AV.sc.injEq, Value.int.injEq, true_and]
      simp only [h, and_self]
    subst hp
    have hv : v = v' := (codR (.i .i64)).inj _ _ (by simp only [codR, SV.g]; simp only [h])
    simp only [Deal.mk.injEq, true_and]
    exact ⟨hv, by simp only [h], by simp only [h]⟩

def allM (p : Prob) : Int := 2 ^ p.classes.length - 1
def setV (p : Prob) (v : List Int) (i : Int) : List Int := v.set (nthD p.offers i.toNat SId.off.dflt).bidder.toNat (nthD p.offers i.toNat SId.off.dflt).value
def valsS (p : Prob) (c : List Int) : List Int := c.foldl (setV p) (List.replicate p.classes.length 0)
def addV (p : Prob) (s : Int) (i : Int) : Int := s + (nthD p.offers i.toNat SId.off.dflt).value
def sumC (p : Prob) (c : List Int) : Int := c.foldl (addV p) 0

def openE (p : Prob) (c : List Int) : Int := if feasE p c ≠ 0 then feasE p c else if sumC p c < worthS p (allM p) then 13 else 0
def Prob.zero : Prob := ⟨Bun.zero, Bun.zero, Bun.zero, [], []⟩
def openD (p : Prob) (c : List Int) : Deal := if openE p c = 0 then ⟨p, valsS p c, allM p, sumC p c⟩ else ⟨Prob.zero, [], 0, 0⟩

def r61 : SCtr := ⟨61, Prob × Alloc, .cons codP (.one codA), fun a => a.2.chosen.length ≤ 1000000000000, fun a => .tup [codD.put (openD a.1 a.2.chosen), .si .i64 (openE a.1 a.2.chosen)]⟩

def Λ61 (a : Prob × Alloc) : Nat → LoopAnn
  | 7 => .inv Int (fun i => ⟨[(2, .ptr 0 0 20), (4, .ptr 2 0 23), (7, .ptr 4 0 23), (8, .si .i64 (sumC a.1 (a.2.chosen.take i.toNat))), (34, .row (.i .i64) a.2.chosen), (35, .si .i64 a.2.chosen.length), (36, .si .i64 i)],
    [.cells a.1.ss 27 20 false, .cells [.row (.i .i64) a.2.chosen, .si .i64 a.2.value] 31 2 false,
     .cells [.il .i64 0, .il .i64 0, .il .i64 0, .il .i64 0, .il .i64 0, .il .i64 0, .il .i64 0, .il .i64 0, .il .i64 0, .il .i64 0, .il .i64 0, .il .i64 0, .il .i64 0, .il .i64 0, .il .i64 0, .il .i64 0, .il .i64 0, .il .i64 0, .sc (.slice none 0 0), .sc (.slice none 0 0), .sc (.slice none 0 0), .il .i64 0, .il .i64 0] 86 23 false,
     .row (.i .i64) (valsS a.1 (a.2.chosen.take i.toNat)) 2 true,
     .cells [.si .i64 a.1.supply.a0, .si .i64 a.1.supply.a1, .si .i64 a.1.supply.a2, .si .i64 a.1.supply.a3, .si .i64 a.1.supply.a4, .si .i64 a.1.supply.a5,
       .si .i64 a.1.opn.a0, .si .i64 a.1.opn.a1, .si .i64 a.1.opn.a2, .si .i64 a.1.opn.a3, .si .i64 a.1.opn.a4, .si .i64 a.1.opn.a5,
       .si .i64 a.1.cls.a0, .si .i64 a.1.cls.a1, .si .i64 a.1.cls.a2, .si .i64 a.1.cls.a3, .si .i64 a.1.cls.a4, .si .i64 a.1.cls.a5,
       .row (.i .i64) a.1.classes, .row .off a.1.offers, .ow 3 (a.1.classes.length : Int).toNat 1, .si .i64 (1 * 2 ^ (a.1.classes.length : Int).toNat - 1), .il .i64 0] 86 23 false]⟩)
    (fun s => iS s 36) (fun i => 0 ≤ i ∧ i ≤ a.2.chosen.length) (fun i => (a.2.chosen.length - i).toNat) fun _ _ => .look
  | _ => .look

theorem pick_idx {l : List Off} : ∀ {c : List Int} {last : Int} {r : List Off}, -1 ≤ last → pickGo l last c = some r → r.length = c.length ∧ ∀ i ∈ c, 0 ≤ i ∧ i < l.length
  | [], last, r, _, h => by simp [pickGo] at h; subst h; simp
  | i :: c, last, r, hl, h => by
    simp only [pickGo] at h
    split at h
    · cases h
    · rename_i h1
      obtain ⟨r', h2, rfl⟩ := Option.map_eq_some_iff.1 h
      obtain ⟨h3, h4⟩ := pick_idx (by omega) h2
      refine ⟨by simp [h3], fun j hj => ?_⟩
      rcases List.mem_cons.1 hj with rfl | hj
      · omega
      · exact h4 j hj

theorem vals_len {p : Prob} : ∀ {c : List Int} {v : List Int}, (c.foldl (setV p) v).length = v.length
  | [], v => rfl
  | i :: c, v => by simp only [List.foldl_cons]; rw [vals_len]; simp [setV]

theorem valsS_len {p : Prob} {c : List Int} : (valsS p c).length = p.classes.length := by unfold valsS; rw [vals_len]; simp

theorem sum_bd2 {p : Prob} (hg : Good p) : ∀ {c : List Int} {s : Int}, (∀ i ∈ c, 0 ≤ i ∧ i < p.offers.length) → 0 ≤ s → 0 ≤ c.foldl (addV p) s ∧ c.foldl (addV p) s ≤ s + 1000000 * c.length
  | [], s, _, hs => by simp; exact hs
  | i :: c, s, hc, hs => by
    simp only [List.foldl_cons]
    have hi := hc i (by simp)
    have hv := hg.2.2.2.2 _ (nthD_mem (d := SId.off.dflt) (show i.toNat < p.offers.length by omega))
    have h1 : 0 ≤ addV p s i ∧ addV p s i ≤ s + 1000000 := by unfold addV; omega
    have := sum_bd2 hg (c := c) (s := addV p s i) (fun j hj => hc j (by simp [hj])) h1.1
    simp only [List.length_cons]
    omega

theorem zdeal {d : Deal} (h : d = ⟨Prob.zero, [], 0, 0⟩) : (SV.agg [SV.il .i64 0, SV.il .i64 0, SV.il .i64 0, SV.il .i64 0, SV.il .i64 0, SV.il .i64 0, SV.il .i64 0, SV.il .i64 0, SV.il .i64 0, SV.il .i64 0, SV.il .i64 0, SV.il .i64 0, SV.il .i64 0, SV.il .i64 0, SV.il .i64 0, SV.il .i64 0, SV.il .i64 0, SV.il .i64 0, SV.row (.i .i64) [], SV.row (.i .i64) [], SV.row (.i .i64) [], SV.il .i64 0, SV.il .i64 0]).same (codD.put d) := by
  subst h
  simp only [SV.same, codD, SV.g, gL, Prob.zero, Bun.zero, flatA, List.flatMap_nil, List.length_nil]

theorem h61 : Holds Try.prog r61 := by
  refine con (L := LB) r61 F61 Λ61 (OwnOK.none _) hLB (by kernel_rfl) (by kernel_rfl) (fun _ => rfl) ?_
  rintro ⟨p, ⟨c, v⟩⟩ (hc : c.length ≤ 1000000000000)
  refine vcOf (c.length ≤ (1000000000000 : Nat) ∧ (decide (feasE p c ≠ (0 : Int)) = true → (SV.tup [SV.agg [SV.il IntKind.i64 (0 : Int), SV.il IntKind.i64 (0 : Int), SV.il IntKind.i64 (0 : Int), SV.il IntKind.i64 (0 : Int), SV.il IntKind.i64 (0 : Int), SV.il IntKind.i64 (0 : Int), SV.il IntKind.i64 (0 : Int), SV.il IntKind.i64 (0 : Int), SV.il IntKind.i64 (0 : Int), SV.il IntKind.i64 (0 : Int), SV.il IntKind.i64 (0 : Int), SV.il IntKind.i64 (0 : Int), SV.il IntKind.i64 (0 : Int), SV.il IntKind.i64 (0 : Int), SV.il IntKind.i64 (0 : Int), SV.il IntKind.i64 (0 : Int), SV.il IntKind.i64 (0 : Int), SV.il IntKind.i64 (0 : Int), SV.row (SId.i IntKind.i64) [], SV.row (SId.i IntKind.i64) [], SV.row (SId.i IntKind.i64) [], SV.il IntKind.i64 (0 : Int), SV.il IntKind.i64 (0 : Int)], SV.si IntKind.i64 (feasE p c)]).same (SV.tup [SV.agg [SV.si IntKind.i64 (openD p c).p.supply.a0, SV.si IntKind.i64 (openD p c).p.supply.a1, SV.si IntKind.i64 (openD p c).p.supply.a2, SV.si IntKind.i64 (openD p c).p.supply.a3, SV.si IntKind.i64 (openD p c).p.supply.a4, SV.si IntKind.i64 (openD p c).p.supply.a5, SV.si IntKind.i64 (openD p c).p.opn.a0, SV.si IntKind.i64 (openD p c).p.opn.a1, SV.si IntKind.i64 (openD p c).p.opn.a2, SV.si IntKind.i64 (openD p c).p.opn.a3, SV.si IntKind.i64 (openD p c).p.opn.a4, SV.si IntKind.i64 (openD p c).p.opn.a5, SV.si IntKind.i64 (openD p c).p.cls.a0, SV.si IntKind.i64 (openD p c).p.cls.a1, SV.si IntKind.i64 (openD p c).p.cls.a2, SV.si IntKind.i64 (openD p c).p.cls.a3, SV.si IntKind.i64 (openD p c).p.cls.a4, SV.si IntKind.i64 (openD p c).p.cls.a5, SV.row (SId.i IntKind.i64) (openD p c).p.classes, SV.row SId.off (openD p c).p.offers, SV.row (SId.i IntKind.i64) (openD p c).values, SV.si IntKind.i64 (openD p c).all, SV.si IntKind.i64 (openD p c).worth], SV.si IntKind.i64 (openE p c)])) ∧ (decide (feasE p c ≠ (0 : Int)) = false → (0 : Int) ≤ (↑p.classes.length : Int) ∧ (↑p.classes.length : Int) ≤ (↑p.classes.length : Int) ∧ (↑p.classes.length : Int) * (8 : Int) ≤ (140737488355328 : Int) ∧ (↑p.classes.length : Int) ≤ (1000000000000 : Int) ∧ (0 : Int) ≤ (↑p.classes.length : Int) ∧ (↑p.classes.length : Int) ≤ (64 : Int) ∧ inR IntKind.i64 ((1 : Int) * (2 : Int) ^ (↑p.classes.length : Int).toNat) ∧ inR IntKind.i64 ((1 : Int) * (2 : Int) ^ (↑p.classes.length : Int).toNat - (1 : Int)) ∧ ((((SV.ptr (0 : Nat) (0 : Nat) (20 : Nat)).same (SV.ptr (0 : Nat) (0 : Nat) (20 : Nat)) ∧ (SV.ptr (2 : Nat) (0 : Nat) (23 : Nat)).same (SV.ptr (2 : Nat) (0 : Nat) (23 : Nat)) ∧ (SV.ptr (4 : Nat) (0 : Nat) (23 : Nat)).same (SV.ptr (4 : Nat) (0 : Nat) (23 : Nat)) ∧ (SV.il IntKind.i64 (0 : Int)).same (SV.si IntKind.i64 (sumC p [])) ∧ (SV.row (SId.i IntKind.i64) c).same (SV.row (SId.i IntKind.i64) c) ∧ (SV.si IntKind.i64 (↑c.length : Int)).same (SV.si IntKind.i64 (↑c.length : Int)) ∧ (SV.il IntKind.i64 (0 : Int)).same (SV.si IntKind.i64 (0 : Int)) ∧ True) ∧ (SObj.cells [SV.si IntKind.i64 p.supply.a0, SV.si IntKind.i64 p.supply.a1, SV.si IntKind.i64 p.supply.a2, SV.si IntKind.i64 p.supply.a3, SV.si IntKind.i64 p.supply.a4, SV.si IntKind.i64 p.supply.a5, SV.si IntKind.i64 p.opn.a0, SV.si IntKind.i64 p.opn.a1, SV.si IntKind.i64 p.opn.a2, SV.si IntKind.i64 p.opn.a3, SV.si IntKind.i64 p.opn.a4, SV.si IntKind.i64 p.opn.a5, SV.si IntKind.i64 p.cls.a0, SV.si IntKind.i64 p.cls.a1, SV.si IntKind.i64 p.cls.a2, SV.si IntKind.i64 p.cls.a3, SV.si IntKind.i64 p.cls.a4, SV.si IntKind.i64 p.cls.a5, SV.row (SId.i IntKind.i64) p.classes, SV.row SId.off p.offers] (27 : Nat) (20 : Nat) false).same (SObj.cells [SV.si IntKind.i64 p.supply.a0, SV.si IntKind.i64 p.supply.a1, SV.si IntKind.i64 p.supply.a2, SV.si IntKind.i64 p.supply.a3, SV.si IntKind.i64 p.supply.a4, SV.si IntKind.i64 p.supply.a5, SV.si IntKind.i64 p.opn.a0, SV.si IntKind.i64 p.opn.a1, SV.si IntKind.i64 p.opn.a2, SV.si IntKind.i64 p.opn.a3, SV.si IntKind.i64 p.opn.a4, SV.si IntKind.i64 p.opn.a5, SV.si IntKind.i64 p.cls.a0, SV.si IntKind.i64 p.cls.a1, SV.si IntKind.i64 p.cls.a2, SV.si IntKind.i64 p.cls.a3, SV.si IntKind.i64 p.cls.a4, SV.si IntKind.i64 p.cls.a5, SV.row (SId.i IntKind.i64) p.classes, SV.row SId.off p.offers] (27 : Nat) (20 : Nat) false) ∧ (SObj.cells [SV.row (SId.i IntKind.i64) c, SV.si IntKind.i64 v] (31 : Nat) (2 : Nat) false).same (SObj.cells [SV.row (SId.i IntKind.i64) c, SV.si IntKind.i64 v] (31 : Nat) (2 : Nat) false) ∧ (SObj.cells [SV.il IntKind.i64 (0 : Int), SV.il IntKind.i64 (0 : Int), SV.il IntKind.i64 (0 : Int), SV.il IntKind.i64 (0 : Int), SV.il IntKind.i64 (0 : Int), SV.il IntKind.i64 (0 : Int), SV.il IntKind.i64 (0 : Int), SV.il IntKind.i64 (0 : Int), SV.il IntKind.i64 (0 : Int), SV.il IntKind.i64 (0 : Int), SV.il IntKind.i64 (0 : Int), SV.il IntKind.i64 (0 : Int), SV.il IntKind.i64 (0 : Int), SV.il IntKind.i64 (0 : Int), SV.il IntKind.i64 (0 : Int), SV.il IntKind.i64 (0 : Int), SV.il IntKind.i64 (0 : Int), SV.il IntKind.i64 (0 : Int), SV.sc (Value.slice none (0 : Nat) (0 : Nat)), SV.sc (Value.slice none (0 : Nat) (0 : Nat)), SV.sc (Value.slice none (0 : Nat) (0 : Nat)), SV.il IntKind.i64 (0 : Int), SV.il IntKind.i64 (0 : Int)] (86 : Nat) (23 : Nat) false).same (SObj.cells [SV.il IntKind.i64 (0 : Int), SV.il IntKind.i64 (0 : Int), SV.il IntKind.i64 (0 : Int), SV.il IntKind.i64 (0 : Int), SV.il IntKind.i64 (0 : Int), SV.il IntKind.i64 (0 : Int), SV.il IntKind.i64 (0 : Int), SV.il IntKind.i64 (0 : Int), SV.il IntKind.i64 (0 : Int), SV.il IntKind.i64 (0 : Int), SV.il IntKind.i64 (0 : Int), SV.il IntKind.i64 (0 : Int), SV.il IntKind.i64 (0 : Int), SV.il IntKind.i64 (0 : Int), SV.il IntKind.i64 (0 : Int), SV.il IntKind.i64 (0 : Int), SV.il IntKind.i64 (0 : Int), SV.il IntKind.i64 (0 : Int), SV.sc (Value.slice none (0 : Nat) (0 : Nat)), SV.sc (Value.slice none (0 : Nat) (0 : Nat)), SV.sc (Value.slice none (0 : Nat) (0 : Nat)), SV.il IntKind.i64 (0 : Int), SV.il IntKind.i64 (0 : Int)] (86 : Nat) (23 : Nat) false) ∧ (SObj.row (SId.i IntKind.i64) (List.replicate (↑p.classes.length : Int).toNat (0 : Int)) (2 : Nat) true).same (SObj.row (SId.i IntKind.i64) (valsS p []) (2 : Nat) true) ∧ (SObj.cells [SV.si IntKind.i64 p.supply.a0, SV.si IntKind.i64 p.supply.a1, SV.si IntKind.i64 p.supply.a2, SV.si IntKind.i64 p.supply.a3, SV.si IntKind.i64 p.supply.a4, SV.si IntKind.i64 p.supply.a5, SV.si IntKind.i64 p.opn.a0, SV.si IntKind.i64 p.opn.a1, SV.si IntKind.i64 p.opn.a2, SV.si IntKind.i64 p.opn.a3, SV.si IntKind.i64 p.opn.a4, SV.si IntKind.i64 p.opn.a5, SV.si IntKind.i64 p.cls.a0, SV.si IntKind.i64 p.cls.a1, SV.si IntKind.i64 p.cls.a2, SV.si IntKind.i64 p.cls.a3, SV.si IntKind.i64 p.cls.a4, SV.si IntKind.i64 p.cls.a5, SV.row (SId.i IntKind.i64) p.classes, SV.row SId.off p.offers, SV.ow (3 : Nat) (↑p.classes.length : Int).toNat (1 : Nat), SV.si IntKind.i64 ((1 : Int) * (2 : Int) ^ (↑p.classes.length : Int).toNat - (1 : Int)), SV.il IntKind.i64 (0 : Int)] (86 : Nat) (23 : Nat) false).same (SObj.cells [SV.si IntKind.i64 p.supply.a0, SV.si IntKind.i64 p.supply.a1, SV.si IntKind.i64 p.supply.a2, SV.si IntKind.i64 p.supply.a3, SV.si IntKind.i64 p.supply.a4, SV.si IntKind.i64 p.supply.a5, SV.si IntKind.i64 p.opn.a0, SV.si IntKind.i64 p.opn.a1, SV.si IntKind.i64 p.opn.a2, SV.si IntKind.i64 p.opn.a3, SV.si IntKind.i64 p.opn.a4, SV.si IntKind.i64 p.opn.a5, SV.si IntKind.i64 p.cls.a0, SV.si IntKind.i64 p.cls.a1, SV.si IntKind.i64 p.cls.a2, SV.si IntKind.i64 p.cls.a3, SV.si IntKind.i64 p.cls.a4, SV.si IntKind.i64 p.cls.a5, SV.row (SId.i IntKind.i64) p.classes, SV.row SId.off p.offers, SV.ow (3 : Nat) (↑p.classes.length : Int).toNat (1 : Nat), SV.si IntKind.i64 ((1 : Int) * (2 : Int) ^ (↑p.classes.length : Int).toNat - (1 : Int)), SV.il IntKind.i64 (0 : Int)] (86 : Nat) (23 : Nat) false) ∧ True) ∧ (0 : Int) ≤ (0 : Int) ∧ (0 : Int) ≤ (↑c.length : Int)) ∧ ∀ (x : Int), (0 : Int) ≤ x ∧ x ≤ (↑c.length : Int) → (decide (x < (↑c.length : Int)) = true → (0 : Int) ≤ x ∧ x < (↑c.length : Int) ∧ x.toNat < c.length ∧ (0 : Int) ≤ nthD c x.toNat (0 : Int) ∧ nthD c x.toNat (0 : Int) < (↑p.offers.length : Int) ∧ (nthD c x.toNat (0 : Int)).toNat < p.offers.length ∧ (↑p.classes.length : Int).toNat = (valsS p (List.take x.toNat c)).length ∧ (0 : Int) ≤ (nthD p.offers (nthD c x.toNat (0 : Int)).toNat SId.off.dflt).bidder ∧ (nthD p.offers (nthD c x.toNat (0 : Int)).toNat SId.off.dflt).bidder < (↑(valsS p (List.take x.toNat c)).length : Int) ∧ (↑p.classes.length : Int).toNat = (valsS p (List.take x.toNat c)).length ∧ (nthD p.offers (nthD c x.toNat (0 : Int)).toNat SId.off.dflt).bidder.toNat < (valsS p (List.take x.toNat c)).length ∧ inR IntKind.i64 (sumC p (List.take x.toNat c) + (nthD p.offers (nthD c x.toNat (0 : Int)).toNat SId.off.dflt).value) ∧ inR IntKind.i64 (x + (1 : Int)) ∧ (((SV.ptr (0 : Nat) (0 : Nat) (20 : Nat)).same (SV.ptr (0 : Nat) (0 : Nat) (20 : Nat)) ∧ (SV.ptr (2 : Nat) (0 : Nat) (23 : Nat)).same (SV.ptr (2 : Nat) (0 : Nat) (23 : Nat)) ∧ (SV.ptr (4 : Nat) (0 : Nat) (23 : Nat)).same (SV.ptr (4 : Nat) (0 : Nat) (23 : Nat)) ∧ (SV.si IntKind.i64 (sumC p (List.take x.toNat c) + (nthD p.offers (nthD c x.toNat (0 : Int)).toNat SId.off.dflt).value)).same (SV.si IntKind.i64 (sumC p (List.take (x + (1 : Int)).toNat c))) ∧ (SV.row (SId.i IntKind.i64) c).same (SV.row (SId.i IntKind.i64) c) ∧ (SV.si IntKind.i64 (↑c.length : Int)).same (SV.si IntKind.i64 (↑c.length : Int)) ∧ (SV.si IntKind.i64 (x + (1 : Int))).same (SV.si IntKind.i64 (x + (1 : Int))) ∧ True) ∧ (SObj.cells [SV.si IntKind.i64 p.supply.a0, SV.si IntKind.i64 p.supply.a1, SV.si IntKind.i64 p.supply.a2, SV.si IntKind.i64 p.supply.a3, SV.si IntKind.i64 p.supply.a4, SV.si IntKind.i64 p.supply.a5, SV.si IntKind.i64 p.opn.a0, SV.si IntKind.i64 p.opn.a1, SV.si IntKind.i64 p.opn.a2, SV.si IntKind.i64 p.opn.a3, SV.si IntKind.i64 p.opn.a4, SV.si IntKind.i64 p.opn.a5, SV.si IntKind.i64 p.cls.a0, SV.si IntKind.i64 p.cls.a1, SV.si IntKind.i64 p.cls.a2, SV.si IntKind.i64 p.cls.a3, SV.si IntKind.i64 p.cls.a4, SV.si IntKind.i64 p.cls.a5, SV.row (SId.i IntKind.i64) p.classes, SV.row SId.off p.offers] (27 : Nat) (20 : Nat) false).same (SObj.cells [SV.si IntKind.i64 p.supply.a0, SV.si IntKind.i64 p.supply.a1, SV.si IntKind.i64 p.supply.a2, SV.si IntKind.i64 p.supply.a3, SV.si IntKind.i64 p.supply.a4, SV.si IntKind.i64 p.supply.a5, SV.si IntKind.i64 p.opn.a0, SV.si IntKind.i64 p.opn.a1, SV.si IntKind.i64 p.opn.a2, SV.si IntKind.i64 p.opn.a3, SV.si IntKind.i64 p.opn.a4, SV.si IntKind.i64 p.opn.a5, SV.si IntKind.i64 p.cls.a0, SV.si IntKind.i64 p.cls.a1, SV.si IntKind.i64 p.cls.a2, SV.si IntKind.i64 p.cls.a3, SV.si IntKind.i64 p.cls.a4, SV.si IntKind.i64 p.cls.a5, SV.row (SId.i IntKind.i64) p.classes, SV.row SId.off p.offers] (27 : Nat) (20 : Nat) false) ∧ (SObj.cells [SV.row (SId.i IntKind.i64) c, SV.si IntKind.i64 v] (31 : Nat) (2 : Nat) false).same (SObj.cells [SV.row (SId.i IntKind.i64) c, SV.si IntKind.i64 v] (31 : Nat) (2 : Nat) false) ∧ (SObj.cells [SV.il IntKind.i64 (0 : Int), SV.il IntKind.i64 (0 : Int), SV.il IntKind.i64 (0 : Int), SV.il IntKind.i64 (0 : Int), SV.il IntKind.i64 (0 : Int), SV.il IntKind.i64 (0 : Int), SV.il IntKind.i64 (0 : Int), SV.il IntKind.i64 (0 : Int), SV.il IntKind.i64 (0 : Int), SV.il IntKind.i64 (0 : Int), SV.il IntKind.i64 (0 : Int), SV.il IntKind.i64 (0 : Int), SV.il IntKind.i64 (0 : Int), SV.il IntKind.i64 (0 : Int), SV.il IntKind.i64 (0 : Int), SV.il IntKind.i64 (0 : Int), SV.il IntKind.i64 (0 : Int), SV.il IntKind.i64 (0 : Int), SV.sc (Value.slice none (0 : Nat) (0 : Nat)), SV.sc (Value.slice none (0 : Nat) (0 : Nat)), SV.sc (Value.slice none (0 : Nat) (0 : Nat)), SV.il IntKind.i64 (0 : Int), SV.il IntKind.i64 (0 : Int)] (86 : Nat) (23 : Nat) false).same (SObj.cells [SV.il IntKind.i64 (0 : Int), SV.il IntKind.i64 (0 : Int), SV.il IntKind.i64 (0 : Int), SV.il IntKind.i64 (0 : Int), SV.il IntKind.i64 (0 : Int), SV.il IntKind.i64 (0 : Int), SV.il IntKind.i64 (0 : Int), SV.il IntKind.i64 (0 : Int), SV.il IntKind.i64 (0 : Int), SV.il IntKind.i64 (0 : Int), SV.il IntKind.i64 (0 : Int), SV.il IntKind.i64 (0 : Int), SV.il IntKind.i64 (0 : Int), SV.il IntKind.i64 (0 : Int), SV.il IntKind.i64 (0 : Int), SV.il IntKind.i64 (0 : Int), SV.il IntKind.i64 (0 : Int), SV.il IntKind.i64 (0 : Int), SV.sc (Value.slice none (0 : Nat) (0 : Nat)), SV.sc (Value.slice none (0 : Nat) (0 : Nat)), SV.sc (Value.slice none (0 : Nat) (0 : Nat)), SV.il IntKind.i64 (0 : Int), SV.il IntKind.i64 (0 : Int)] (86 : Nat) (23 : Nat) false) ∧ (SObj.row (SId.i IntKind.i64) ((valsS p (List.take x.toNat c)).set (nthD p.offers (nthD c x.toNat (0 : Int)).toNat SId.off.dflt).bidder.toNat (nthD p.offers (nthD c x.toNat (0 : Int)).toNat SId.off.dflt).value) (2 : Nat) true).same (SObj.row (SId.i IntKind.i64) (valsS p (List.take (x + (1 : Int)).toNat c)) (2 : Nat) true) ∧ (SObj.cells [SV.si IntKind.i64 p.supply.a0, SV.si IntKind.i64 p.supply.a1, SV.si IntKind.i64 p.supply.a2, SV.si IntKind.i64 p.supply.a3, SV.si IntKind.i64 p.supply.a4, SV.si IntKind.i64 p.supply.a5, SV.si IntKind.i64 p.opn.a0, SV.si IntKind.i64 p.opn.a1, SV.si IntKind.i64 p.opn.a2, SV.si IntKind.i64 p.opn.a3, SV.si IntKind.i64 p.opn.a4, SV.si IntKind.i64 p.opn.a5, SV.si IntKind.i64 p.cls.a0, SV.si IntKind.i64 p.cls.a1, SV.si IntKind.i64 p.cls.a2, SV.si IntKind.i64 p.cls.a3, SV.si IntKind.i64 p.cls.a4, SV.si IntKind.i64 p.cls.a5, SV.row (SId.i IntKind.i64) p.classes, SV.row SId.off p.offers, SV.ow (3 : Nat) (↑p.classes.length : Int).toNat (1 : Nat), SV.si IntKind.i64 ((1 : Int) * (2 : Int) ^ (↑p.classes.length : Int).toNat - (1 : Int)), SV.il IntKind.i64 (0 : Int)] (86 : Nat) (23 : Nat) false).same (SObj.cells [SV.si IntKind.i64 p.supply.a0, SV.si IntKind.i64 p.supply.a1, SV.si IntKind.i64 p.supply.a2, SV.si IntKind.i64 p.supply.a3, SV.si IntKind.i64 p.supply.a4, SV.si IntKind.i64 p.supply.a5, SV.si IntKind.i64 p.opn.a0, SV.si IntKind.i64 p.opn.a1, SV.si IntKind.i64 p.opn.a2, SV.si IntKind.i64 p.opn.a3, SV.si IntKind.i64 p.opn.a4, SV.si IntKind.i64 p.opn.a5, SV.si IntKind.i64 p.cls.a0, SV.si IntKind.i64 p.cls.a1, SV.si IntKind.i64 p.cls.a2, SV.si IntKind.i64 p.cls.a3, SV.si IntKind.i64 p.cls.a4, SV.si IntKind.i64 p.cls.a5, SV.row (SId.i IntKind.i64) p.classes, SV.row SId.off p.offers, SV.ow (3 : Nat) (↑p.classes.length : Int).toNat (1 : Nat), SV.si IntKind.i64 ((1 : Int) * (2 : Int) ^ (↑p.classes.length : Int).toNat - (1 : Int)), SV.il IntKind.i64 (0 : Int)] (86 : Nat) (23 : Nat) false) ∧ True) ∧ ((0 : Int) ≤ x + (1 : Int) ∧ x + (1 : Int) ≤ (↑c.length : Int)) ∧ ((↑c.length : Int) - (x + (1 : Int))).toNat < ((↑c.length : Int) - x).toNat) ∧ (decide (x < (↑c.length : Int)) = false → True ∧ (decide (faultE p ((1 : Int) * (2 : Int) ^ (↑p.classes.length : Int).toNat - (1 : Int)) ≠ (0 : Int)) = true → (SV.tup [SV.agg [SV.il IntKind.i64 (0 : Int), SV.il IntKind.i64 (0 : Int), SV.il IntKind.i64 (0 : Int), SV.il IntKind.i64 (0 : Int), SV.il IntKind.i64 (0 : Int), SV.il IntKind.i64 (0 : Int), SV.il IntKind.i64 (0 : Int), SV.il IntKind.i64 (0 : Int), SV.il IntKind.i64 (0 : Int), SV.il IntKind.i64 (0 : Int), SV.il IntKind.i64 (0 : Int), SV.il IntKind.i64 (0 : Int), SV.il IntKind.i64 (0 : Int), SV.il IntKind.i64 (0 : Int), SV.il IntKind.i64 (0 : Int), SV.il IntKind.i64 (0 : Int), SV.il IntKind.i64 (0 : Int), SV.il IntKind.i64 (0 : Int), SV.row (SId.i IntKind.i64) [], SV.row (SId.i IntKind.i64) [], SV.row (SId.i IntKind.i64) [], SV.il IntKind.i64 (0 : Int), SV.il IntKind.i64 (0 : Int)], SV.si IntKind.i64 (faultE p ((1 : Int) * (2 : Int) ^ (↑p.classes.length : Int).toNat - (1 : Int)))]).same (SV.tup [SV.agg [SV.si IntKind.i64 (openD p c).p.supply.a0, SV.si IntKind.i64 (openD p c).p.supply.a1, SV.si IntKind.i64 (openD p c).p.supply.a2, SV.si IntKind.i64 (openD p c).p.supply.a3, SV.si IntKind.i64 (openD p c).p.supply.a4, SV.si IntKind.i64 (openD p c).p.supply.a5, SV.si IntKind.i64 (openD p c).p.opn.a0, SV.si IntKind.i64 (openD p c).p.opn.a1, SV.si IntKind.i64 (openD p c).p.opn.a2, SV.si IntKind.i64 (openD p c).p.opn.a3, SV.si IntKind.i64 (openD p c).p.opn.a4, SV.si IntKind.i64 (openD p c).p.opn.a5, SV.si IntKind.i64 (openD p c).p.cls.a0, SV.si IntKind.i64 (openD p c).p.cls.a1, SV.si IntKind.i64 (openD p c).p.cls.a2, SV.si IntKind.i64 (openD p c).p.cls.a3, SV.si IntKind.i64 (openD p c).p.cls.a4, SV.si IntKind.i64 (openD p c).p.cls.a5, SV.row (SId.i IntKind.i64) (openD p c).p.classes, SV.row SId.off (openD p c).p.offers, SV.row (SId.i IntKind.i64) (openD p c).values, SV.si IntKind.i64 (openD p c).all, SV.si IntKind.i64 (openD p c).worth], SV.si IntKind.i64 (openE p c)])) ∧ (decide (faultE p ((1 : Int) * (2 : Int) ^ (↑p.classes.length : Int).toNat - (1 : Int)) ≠ (0 : Int)) = false → (decide (sumC p (List.take x.toNat c) < worthS p ((1 : Int) * (2 : Int) ^ (↑p.classes.length : Int).toNat - (1 : Int))) = true → (SV.tup [SV.agg [SV.il IntKind.i64 (0 : Int), SV.il IntKind.i64 (0 : Int), SV.il IntKind.i64 (0 : Int), SV.il IntKind.i64 (0 : Int), SV.il IntKind.i64 (0 : Int), SV.il IntKind.i64 (0 : Int), SV.il IntKind.i64 (0 : Int), SV.il IntKind.i64 (0 : Int), SV.il IntKind.i64 (0 : Int), SV.il IntKind.i64 (0 : Int), SV.il IntKind.i64 (0 : Int), SV.il IntKind.i64 (0 : Int), SV.il IntKind.i64 (0 : Int), SV.il IntKind.i64 (0 : Int), SV.il IntKind.i64 (0 : Int), SV.il IntKind.i64 (0 : Int), SV.il IntKind.i64 (0 : Int), SV.il IntKind.i64 (0 : Int), SV.row (SId.i IntKind.i64) [], SV.row (SId.i IntKind.i64) [], SV.row (SId.i IntKind.i64) [], SV.il IntKind.i64 (0 : Int), SV.il IntKind.i64 (0 : Int)], SV.il IntKind.i64 (13 : Int)]).same (SV.tup [SV.agg [SV.si IntKind.i64 (openD p c).p.supply.a0, SV.si IntKind.i64 (openD p c).p.supply.a1, SV.si IntKind.i64 (openD p c).p.supply.a2, SV.si IntKind.i64 (openD p c).p.supply.a3, SV.si IntKind.i64 (openD p c).p.supply.a4, SV.si IntKind.i64 (openD p c).p.supply.a5, SV.si IntKind.i64 (openD p c).p.opn.a0, SV.si IntKind.i64 (openD p c).p.opn.a1, SV.si IntKind.i64 (openD p c).p.opn.a2, SV.si IntKind.i64 (openD p c).p.opn.a3, SV.si IntKind.i64 (openD p c).p.opn.a4, SV.si IntKind.i64 (openD p c).p.opn.a5, SV.si IntKind.i64 (openD p c).p.cls.a0, SV.si IntKind.i64 (openD p c).p.cls.a1, SV.si IntKind.i64 (openD p c).p.cls.a2, SV.si IntKind.i64 (openD p c).p.cls.a3, SV.si IntKind.i64 (openD p c).p.cls.a4, SV.si IntKind.i64 (openD p c).p.cls.a5, SV.row (SId.i IntKind.i64) (openD p c).p.classes, SV.row SId.off (openD p c).p.offers, SV.row (SId.i IntKind.i64) (openD p c).values, SV.si IntKind.i64 (openD p c).all, SV.si IntKind.i64 (openD p c).worth], SV.si IntKind.i64 (openE p c)])) ∧ (decide (sumC p (List.take x.toNat c) < worthS p ((1 : Int) * (2 : Int) ^ (↑p.classes.length : Int).toNat - (1 : Int))) = false → (↑p.classes.length : Int).toNat = (valsS p (List.take x.toNat c)).length ∧ (SV.tup [SV.agg [SV.si IntKind.i64 p.supply.a0, SV.si IntKind.i64 p.supply.a1, SV.si IntKind.i64 p.supply.a2, SV.si IntKind.i64 p.supply.a3, SV.si IntKind.i64 p.supply.a4, SV.si IntKind.i64 p.supply.a5, SV.si IntKind.i64 p.opn.a0, SV.si IntKind.i64 p.opn.a1, SV.si IntKind.i64 p.opn.a2, SV.si IntKind.i64 p.opn.a3, SV.si IntKind.i64 p.opn.a4, SV.si IntKind.i64 p.opn.a5, SV.si IntKind.i64 p.cls.a0, SV.si IntKind.i64 p.cls.a1, SV.si IntKind.i64 p.cls.a2, SV.si IntKind.i64 p.cls.a3, SV.si IntKind.i64 p.cls.a4, SV.si IntKind.i64 p.cls.a5, SV.row (SId.i IntKind.i64) p.classes, SV.row SId.off p.offers, SV.row (SId.i IntKind.i64) (valsS p (List.take x.toNat c)), SV.si IntKind.i64 ((1 : Int) * (2 : Int) ^ (↑p.classes.length : Int).toNat - (1 : Int)), SV.si IntKind.i64 (sumC p (List.take x.toNat c))], SV.il IntKind.i64 (0 : Int)]).same (SV.tup [SV.agg [SV.si IntKind.i64 (openD p c).p.supply.a0, SV.si IntKind.i64 (openD p c).p.supply.a1, SV.si IntKind.i64 (openD p c).p.supply.a2, SV.si IntKind.i64 (openD p c).p.supply.a3, SV.si IntKind.i64 (openD p c).p.supply.a4, SV.si IntKind.i64 (openD p c).p.supply.a5, SV.si IntKind.i64 (openD p c).p.opn.a0, SV.si IntKind.i64 (openD p c).p.opn.a1, SV.si IntKind.i64 (openD p c).p.opn.a2, SV.si IntKind.i64 (openD p c).p.opn.a3, SV.si IntKind.i64 (openD p c).p.opn.a4, SV.si IntKind.i64 (openD p c).p.opn.a5, SV.si IntKind.i64 (openD p c).p.cls.a0, SV.si IntKind.i64 (openD p c).p.cls.a1, SV.si IntKind.i64 (openD p c).p.cls.a2, SV.si IntKind.i64 (openD p c).p.cls.a3, SV.si IntKind.i64 (openD p c).p.cls.a4, SV.si IntKind.i64 (openD p c).p.cls.a5, SV.row (SId.i IntKind.i64) (openD p c).p.classes, SV.row SId.off (openD p c).p.offers, SV.row (SId.i IntKind.i64) (openD p c).values, SV.si IntKind.i64 (openD p c).all, SV.si IntKind.i64 (openD p c).worth], SV.si IntKind.i64 (openE p c)])))))) (by kernel_rfl) ?_
  simp only [decide_eq_true_eq, decide_eq_false_iff_not, same_il_si, same_si_si, same_si_il, same_il_il, same_sb_sb, same_bl_sb, same_row, same_tup2, same_tup3, same_nil, same_row_nil, same_rfl, osame_rfl, inR_i64, eq_self, true_and, and_true, Bool.and_eq_true, Bool.not_eq_true', Bool.not_eq_false']
  refine ⟨hc, fun h => ⟨zdeal (by simp [openD, openE, h]), by simp [openE, h]⟩, fun h => ?_⟩
  have hz : feasE p c = 0 := Classical.not_not.1 h
  have hck : checkE p = 0 := by
    unfold feasE at hz
    split at hz
    · rename_i h1; exact absurd hz h1
    · rename_i h1; exact Classical.not_not.1 h1
  have hpk : pickOk p c = true := by
    unfold feasE at hz
    rw [if_neg (by simp [hck])] at hz
    split at hz
    · cases hz
    · rename_i h1; simpa using h1
  have hg := good_of hck
  have hp := pow_n hg.1
  obtain ⟨r, hr⟩ := Option.isSome_iff_exists.1 hpk
  obtain ⟨hr1, hidx⟩ := pick_idx (by omega) hr
  have hcl : c.length ≤ 160 := by
    have h1 := pick_len (by omega) hr
    have h2 := hg.2.1
    rcases h1 with h1 | rfl
    · omega
    · simp at hr1; omega
  have hn : (p.classes.length : Int).toNat = p.classes.length := by simp
  have hall : (1 : Int) * 2 ^ (p.classes.length : Int).toNat - 1 = allM p := by simp [allM]
  have hg1 := hg.1
  rw [hn] at *
  refine ⟨by omega, by omega, by omega, by omega, by omega, by omega, ⟨by omega, by omega⟩, ⟨by omega, by omega⟩, ?_⟩
  have hrow : ∀ {x y : List Int}, x = y → (SObj.row (.i .i64) x 2 true).same (SObj.row (.i .i64) y 2 true) := by rintro _ _ rfl; rfl
  refine ⟨⟨⟨rfl, hrow rfl⟩, by omega, by omega⟩, ?_⟩
  rintro i ⟨hi0, hi1⟩
  have hvl : (valsS p (c.take i.toNat)).length = p.classes.length := valsS_len
  refine ⟨fun hlt => ?_, fun hge => ?_⟩
  · have hci := hidx _ (nthD_mem (d := 0) (show i.toNat < c.length by omega))
    have htk := take_nth (d := 0) hi0 hlt
    generalize nthD c i.toNat 0 = ci at hci htk ⊢
    have hv := hg.2.2.2.2 _ (nthD_mem (d := SId.off.dflt) (show ci.toNat < p.offers.length by omega))
    have hsb := sum_bd2 hg (c := c.take i.toNat) (s := 0) (fun j hj => hidx j (List.mem_of_mem_take hj)) (by omega)
    have htl : (c.take i.toNat).length ≤ 160 := by simp only [List.length_take]; omega
    change 0 ≤ sumC p (c.take i.toNat) ∧ sumC p (c.take i.toNat) ≤ _ at hsb
    have e1 : sumC p (c.take (i + 1).toNat) = sumC p (c.take i.toNat) + (nthD p.offers ci.toNat SId.off.dflt).value := by
      rw [htk]; unfold sumC; rw [List.foldl_append]; rfl
    have e2 : valsS p (c.take (i + 1).toNat) = (valsS p (c.take i.toNat)).set (nthD p.offers ci.toNat SId.off.dflt).bidder.toNat (nthD p.offers ci.toNat SId.off.dflt).value := by
      rw [htk]; unfold valsS; rw [List.foldl_append]; rfl
    exact ⟨hi0, hlt, by omega, hci.1, hci.2, by omega, hvl.symm, hv.1, by omega, hvl.symm, by omega, by omega, by omega, ⟨e1.symm, hrow e2.symm⟩, by omega, by omega⟩
  · rw [show i.toNat = c.length from by omega, List.take_length] at hvl ⊢
    rw [hall]
    have hf : faultE p (allM p) = 0 := by
      unfold faultE allM
      rw [if_neg (by simp [hck]), if_neg (by omega)]
    refine ⟨fun h1 => absurd hf h1, fun _ => ⟨fun h1 => ?_, fun h1 => ⟨hvl.symm, ?_⟩⟩⟩
    · have ho : openE p c = 13 := by simp [openE, hz, h1]
      exact ⟨zdeal (by simp [openD, ho]), ho.symm⟩
    · have ho : openE p c = 0 := by simp [openE, hz, h1]
      have hd : openD p c = ⟨p, valsS p c, allM p, sumC p c⟩ := by simp [openD, ho]
      rw [hd, ho]
      exact ⟨rfl, rfl⟩

/-- What an accepted allocation's deal is like. -/
def DealOk (d : Deal) : Prop := checkE d.p = 0 ∧ d.values.length = d.p.classes.length ∧ d.all = allM d.p ∧ (∀ v ∈ d.values, 0 ≤ v ∧ v ≤ 1000000) ∧ 0 ≤ d.worth ∧ d.worth ≤ 200000000

def payS (d : Deal) (b : Int) : Int := if nthD d.values b.toNat 0 = 0 then 0 else worthS d.p (delI d.all b) - (d.worth - nthD d.values b.toNat 0)
def discS (d : Deal) (b : Int) : Int := nthD d.values b.toNat 0 - payS d b

theorem pay_bd {d : Deal} (h : DealOk d) {b : Int} (h0 : 0 ≤ b) (h1 : b < d.values.length) : -300000000 ≤ payS d b ∧ payS d b ≤ 300000000 := by
  obtain ⟨a1, a2, a3, a4, a5, a6⟩ := h
  have hv := a4 _ (nthD_mem (d := 0) (show b.toNat < d.values.length by omega))
  have hw := worth_bd d.p (delI d.all b)
  unfold payS
  split <;> omega

def r63 : SCtr := ⟨63, Deal × Int, .cons codD (.one (codI .i64)), fun a => DealOk a.1 ∧ 0 ≤ a.2 ∧ a.2 < a.1.values.length, fun a => .si .i64 (payS a.1 a.2)⟩
theorem h63 : Holds Try.prog r63 := by
  refine con (L := LB) r63 F63 (fun _ _ => .look) (OwnOK.none _) hLB (by kernel_rfl) (by kernel_rfl) (fun _ => rfl) ?_
  rintro ⟨d, b⟩ ⟨hd, h0, h1⟩
  simp only at hd h0 h1
  refine vcOf ((0 : Int) ≤ b ∧ b < (↑d.values.length : Int) ∧ b.toNat < d.values.length ∧ (decide (nthD d.values b.toNat (0 : Int) = (0 : Int)) = true → (SV.il IntKind.i64 (0 : Int)).same (SV.si IntKind.i64 (payS d b))) ∧ (decide (nthD d.values b.toNat (0 : Int) = (0 : Int)) = false → (0 : Int) ≤ b ∧ b ≤ (64 : Int) ∧ inR IntKind.i64 ((1 : Int) * (2 : Int) ^ b.toNat) ∧ True ∧ (0 : Int) ≤ b ∧ b < (↑d.values.length : Int) ∧ b.toNat < d.values.length ∧ inR IntKind.i64 (d.worth - nthD d.values b.toNat (0 : Int)) ∧ inR IntKind.i64 (worthS d.p (binK.andNotI IntKind.i64 d.all ((1 : Int) * (2 : Int) ^ b.toNat)) - (d.worth - nthD d.values b.toNat (0 : Int))) ∧ (SV.si IntKind.i64 (worthS d.p (binK.andNotI IntKind.i64 d.all ((1 : Int) * (2 : Int) ^ b.toNat)) - (d.worth - nthD d.values b.toNat (0 : Int)))).same (SV.si IntKind.i64 (payS d b)))) (by kernel_rfl) ?_
  simp only [decide_eq_true_eq, decide_eq_false_iff_not, same_il_si, same_si_si, same_si_il, same_il_il, same_sb_sb, same_bl_sb, same_row, same_tup2, same_tup3, same_nil, same_row_nil, same_rfl, osame_rfl, inR_i64, eq_self, true_and, and_true, Bool.and_eq_true, Bool.not_eq_true', Bool.not_eq_false', Int.one_mul]
  obtain ⟨a1, a2, a3, a4, a5, a6⟩ := hd
  have hg := good_of a1
  have hg1 := hg.1
  have hv := a4 _ (nthD_mem (d := 0) (show b.toNat < d.values.length by omega))
  have hp := pow_n (show b.toNat ≤ 8 by omega)
  have hw := worth_bd d.p (binK.andNotI .i64 d.all (2 ^ b.toNat))
  refine ⟨h0, by omega, by omega, fun h => ?_, fun h => ?_⟩
  · simp [payS, h]
  · refine ⟨h0, by omega, ⟨by omega, by omega⟩, h0, by omega, by omega, ⟨by omega, by omega⟩, ⟨by omega, by omega⟩, ?_⟩
    simp only [payS, if_neg h]
    rfl

def LC : List SCtr := r63 :: r61 :: LB
theorem hLC : ∀ c ∈ LC, Holds Try.prog c := by
  simp only [LC, List.forall_mem_cons]
  exact ⟨h63, h61, hLB⟩

def r66 : SCtr := ⟨66, Deal × Int, .cons codD (.one (codI .i64)), fun a => DealOk a.1 ∧ 0 ≤ a.2 ∧ a.2 < a.1.values.length, fun a => .si .i64 (discS a.1 a.2)⟩
theorem h66 : Holds Try.prog r66 := by
  refine con (L := LC) r66 F66 (fun _ _ => .look) (OwnOK.none _) hLC (by kernel_rfl) (by kernel_rfl) (fun _ => rfl) ?_
  rintro ⟨d, b⟩ ⟨hd, h0, h1⟩
  simp only at hd h0 h1
  refine vcOf ((0 : Int) ≤ b ∧ b < (↑d.values.length : Int) ∧ b.toNat < d.values.length ∧ (DealOk d ∧ (0 : Int) ≤ b ∧ b < (↑d.values.length : Int)) ∧ inR IntKind.i64 (nthD d.values b.toNat (0 : Int) - payS d b) ∧ (SV.si IntKind.i64 (nthD d.values b.toNat (0 : Int) - payS d b)).same (SV.si IntKind.i64 (discS d b))) (by kernel_rfl) ?_
  simp only [decide_eq_true_eq, decide_eq_false_iff_not, same_il_si, same_si_si, same_si_il, same_il_il, same_sb_sb, same_bl_sb, same_row, same_tup2, same_tup3, same_nil, same_row_nil, same_rfl, osame_rfl, inR_i64, eq_self, true_and, and_true, Bool.and_eq_true, Bool.not_eq_true', Bool.not_eq_false']
  have hb := pay_bd hd h0 h1
  obtain ⟨a1, a2, a3, a4, a5, a6⟩ := id hd
  have hv := a4 _ (nthD_mem (d := 0) (show b.toNat < d.values.length by omega))
  exact ⟨h0, by omega, by omega, ⟨hd, h0, by omega⟩, by omega, rfl⟩

/-- A method of a deal as a value. -/
def codF : Cod (Bool × Deal) where
  put a := match a.1 with
    | true => .fn (.func 66) [codD.put a.2] []
    | false => .fn (.func 63) [codD.put a.2] []
  dec
    | .fn (.func f) [d] [] => if f = 66 then (codD.dec d).map fun d => (true, d) else if f = 63 then (codD.dec d).map fun d => (false, d) else none
    | _ => none
  ok v a h := by
    split at h
    · split at h
      · rename_i hf
        obtain ⟨d, h1, rfl⟩ := Option.map_eq_some_iff.1 h
        simp only [SV.g, gL, codD.ok _ _ h1, hf]
      · split at h
        · rename_i hf
          obtain ⟨d, h1, rfl⟩ := Option.map_eq_some_iff.1 h
          simp only [SV.g, gL, codD.ok _ _ h1, hf]
        · cases h
    · cases h
  inj a b h := by
    obtain ⟨k, d⟩ := a
    obtain ⟨k', d'⟩ := b
    cases k <;> cases k' <;> simp only [SV.g, gL, AV.fn.injEq, Fn.func.injEq, List.cons.injEq, and_true, true_and, reduceCtorEq, Nat.reduceEqDiff, false_and] at h
    · rw [codD.inj _ _ h]
    · rw [codD.inj _ _ h]

def eachF (a : Bool × Deal) (i : Int) : Int := match a.1 with
  | true => discS a.2 i
  | false => payS a.2 i
def eachL (a : Bool × Deal) (n : Nat) : List Int := (List.range n).map fun i : Nat => eachF a i

def r62 : SCtr := ⟨62, Deal × (Bool × Deal), .cons codD (.one codF), fun a => DealOk a.2.2 ∧ a.1.values.length = a.2.2.values.length, fun a => .row (.i .i64) (eachL a.2 a.1.values.length)⟩

end Go.Vi

/-
  Contracts: bundles; the solver's small functions.
  Conditions: none.
-/
import Derived.Test.YtigbjjkijfkeeaaK5
set_option maxRecDepth 100000
set_option maxHeartbeats 4000000
set_option linter.unusedSimpArgs false
set_option linter.unusedVariables false
namespace Go.Vi
open Go.Proofs.Ytigbjjkijfkeeaa.Ir
open Go.Proofs

def L7 : List SCtr := r100 :: L6
theorem hL7 : ∀ c ∈ L7, Holds Try.prog c := by
  simp only [L7, List.forall_mem_cons]
  exact ⟨h100, hL6⟩

def Bun.sub (a b : Bun) : Bun := ⟨a.a0 - b.a0, a.a1 - b.a1, a.a2 - b.a2, a.a3 - b.a3, a.a4 - b.a4, a.a5 - b.a5⟩
def Bun.meet (a b : Bun) : Bun := ⟨min a.a0 b.a0, min a.a1 b.a1, min a.a2 b.a2, min a.a3 b.a3, min a.a4 b.a4, min a.a5 b.a5⟩
def Bun.le (a b : Bun) : Bool := decide (a.a0 ≤ b.a0) && decide (a.a1 ≤ b.a1) && decide (a.a2 ≤ b.a2) && decide (a.a3 ≤ b.a3) && decide (a.a4 ≤ b.a4) && decide (a.a5 ≤ b.a5)
theorem Bun.le_iff {a b : Bun} : a.le b = true ↔ a.a0 ≤ b.a0 ∧ a.a1 ≤ b.a1 ∧ a.a2 ≤ b.a2 ∧ a.a3 ≤ b.a3 ∧ a.a4 ≤ b.a4 ∧ a.a5 ≤ b.a5 := by
  simp [Bun.le, and_assoc]

theorem min_left {x y : Int} : min x y = x ↔ x ≤ y := by
  rw [Int.min_def]
  split <;> omega

theorem same_agg {a b : List SV} : (SV.agg a).same (.agg b) ↔ gL a = gL b := by simp [SV.same, SV.g]

def r163 : SCtr := ⟨163, Bun × Bun, .cons (codE .bun) (.one (codE .bun)), fun _ => True, fun a => .agg (encS .bun (a.1.meet a.2))⟩
theorem h163 : Holds Try.prog r163 := by
  refine con (L := []) r163 F163 (fun _ => fun _ => .unroll 7) (OwnOK.none _) (by simp) (by kernel_rfl) (by kernel_rfl) (fun _ => rfl) ?_
  rintro ⟨a, b⟩ _
  refine vcOf ((SV.agg [SV.si IntKind.i64 (min a.a0 b.a0), SV.si IntKind.i64 (min a.a1 b.a1), SV.si IntKind.i64 (min a.a2 b.a2), SV.si IntKind.i64 (min a.a3 b.a3), SV.si IntKind.i64 (min a.a4 b.a4), SV.si IntKind.i64 (min a.a5 b.a5)]).same (SV.agg [SV.si IntKind.i64 (a.meet b).a0, SV.si IntKind.i64 (a.meet b).a1, SV.si IntKind.i64 (a.meet b).a2, SV.si IntKind.i64 (a.meet b).a3, SV.si IntKind.i64 (a.meet b).a4, SV.si IntKind.i64 (a.meet b).a5])) (by kernel_rfl) ?_
  simp only [decide_eq_true_eq, decide_eq_false_iff_not, same_il_si, same_si_si, same_si_il, same_il_il, same_sb_sb, same_bl_sb, same_row, same_tup2, same_tup3, same_nil, same_row_nil, same_rfl, osame_rfl, inR_i64, eq_self, true_and, and_true, Bool.and_eq_true, Bool.not_eq_true', Bool.not_eq_false', same_agg, gL, SV.g, Bun.meet, and_self]

def r144 : SCtr := ⟨144, Bun × Bun, .cons (codE .bun) (.one (codE .bun)), fun _ => True, fun a => .sb (a.1.le a.2)⟩
theorem h144 : Holds Try.prog r144 := by
  refine con (L := [r163]) r144 F144 (fun _ => fun _ => .unroll 7) (OwnOK.none _) (by simpa using h163) (by kernel_rfl) (by kernel_rfl) (fun _ => rfl) ?_
  rintro ⟨a, b⟩ _
  refine vcOf (True ∧ (SV.sb (decide ((a.meet b).a0 = a.a0) && (decide ((a.meet b).a1 = a.a1) && (decide ((a.meet b).a2 = a.a2) && (decide ((a.meet b).a3 = a.a3) && (decide ((a.meet b).a4 = a.a4) && (decide ((a.meet b).a5 = a.a5) && true))))))).same (SV.sb (a.le b))) (by kernel_rfl) ?_
  simp only [decide_eq_true_eq, decide_eq_false_iff_not, same_il_si, same_si_si, same_si_il, same_il_il, same_sb_sb, same_bl_sb, same_row, same_tup2, same_tup3, same_nil, same_row_nil, same_rfl, osame_rfl, inR_i64, eq_self, true_and, and_true, Bool.and_eq_true, Bool.not_eq_true', Bool.not_eq_false', Bun.meet]
  rw [Bool.eq_iff_iff]
  simp only [Bool.and_eq_true, decide_eq_true_eq, Bun.le_iff, Bool.and_true, min_left]

def r145 : SCtr := ⟨145, Bun × Bun, .cons (codE .bun) (.one (codE .bun)), fun a => a.1.ok = true ∧ a.2.ok = true, fun a => .agg (encS .bun (a.1.sub a.2))⟩
theorem h145 : Holds Try.prog r145 := by
  refine con (L := []) r145 F145 (fun _ => fun _ => .unroll 7) (OwnOK.none _) (by simp) (by kernel_rfl) (by kernel_rfl) (fun _ => rfl) ?_
  rintro ⟨a, b⟩ ⟨h1, h2⟩
  have h1 := Bun.ok_iff.1 h1
  have h2 := Bun.ok_iff.1 h2
  simp only at h1 h2
  refine vcOf (inR IntKind.i64 (a.a0 - b.a0) ∧ inR IntKind.i64 (a.a1 - b.a1) ∧ inR IntKind.i64 (a.a2 - b.a2) ∧ inR IntKind.i64 (a.a3 - b.a3) ∧ inR IntKind.i64 (a.a4 - b.a4) ∧ inR IntKind.i64 (a.a5 - b.a5) ∧ (SV.agg [SV.si IntKind.i64 (a.a0 - b.a0), SV.si IntKind.i64 (a.a1 - b.a1), SV.si IntKind.i64 (a.a2 - b.a2), SV.si IntKind.i64 (a.a3 - b.a3), SV.si IntKind.i64 (a.a4 - b.a4), SV.si IntKind.i64 (a.a5 - b.a5)]).same (SV.agg [SV.si IntKind.i64 (a.sub b).a0, SV.si IntKind.i64 (a.sub b).a1, SV.si IntKind.i64 (a.sub b).a2, SV.si IntKind.i64 (a.sub b).a3, SV.si IntKind.i64 (a.sub b).a4, SV.si IntKind.i64 (a.sub b).a5])) (by kernel_rfl) ?_
  simp only [decide_eq_true_eq, decide_eq_false_iff_not, same_il_si, same_si_si, same_si_il, same_il_il, same_sb_sb, same_bl_sb, same_row, same_tup2, same_tup3, same_nil, same_row_nil, same_rfl, osame_rfl, inR_i64, eq_self, true_and, and_true, Bool.and_eq_true, Bool.not_eq_true', Bool.not_eq_false', same_agg, gL, SV.g, Bun.sub, and_self]
  repeat' (first | refine And.intro ?_ ?_ | intro _)
  all_goals first | trivial | omega

def faultE (p : Prob) (m : Int) : Int := if checkE p ≠ 0 then checkE p else if m < 0 ∨ 2 ^ p.classes.length ≤ m then 4 else 0
def r112 : SCtr := ⟨112, Prob × Int, .cons codP (.one (codI .i64)), fun _ => True, fun a => .si .i64 (faultE a.1 a.2)⟩
theorem h112 : Holds Try.prog r112 := by
  refine con (L := L7) r112 F112 (fun _ => fun _ => .unroll 7) (OwnOK.none _) hL7 (by kernel_rfl) (by kernel_rfl) (fun _ => rfl) ?_
  rintro ⟨p, m⟩ _
  refine vcOf (True ∧ (decide (checkE p ≠ (0 : Int)) = true → (SV.si IntKind.i64 (checkE p)).same (SV.si IntKind.i64 (faultE p m))) ∧ (decide (checkE p ≠ (0 : Int)) = false → (decide (m < (0 : Int)) = true → (SV.il IntKind.i64 (4 : Int)).same (SV.si IntKind.i64 (faultE p m))) ∧ (decide (m < (0 : Int)) = false → (0 : Int) ≤ (↑p.classes.length : Int) ∧ (↑p.classes.length : Int) ≤ (64 : Int) ∧ inR IntKind.i64 ((1 : Int) * (2 : Int) ^ (↑p.classes.length : Int).toNat) ∧ (decide ((1 : Int) * (2 : Int) ^ (↑p.classes.length : Int).toNat ≤ m) = true → (SV.il IntKind.i64 (4 : Int)).same (SV.si IntKind.i64 (faultE p m))) ∧ (decide ((1 : Int) * (2 : Int) ^ (↑p.classes.length : Int).toNat ≤ m) = false → (SV.il IntKind.i64 (0 : Int)).same (SV.si IntKind.i64 (faultE p m)))))) (by kernel_rfl) ?_
  simp only [decide_eq_true_eq, decide_eq_false_iff_not, same_il_si, same_si_si, same_si_il, same_il_il, same_sb_sb, same_bl_sb, same_row, same_tup2, same_tup3, same_nil, same_row_nil, same_rfl, osame_rfl, inR_i64, eq_self, true_and, and_true, Bool.and_eq_true, Bool.not_eq_true', Bool.not_eq_false']
  refine ⟨fun h => by simp [faultE, h], fun h => ⟨fun h1 => ?_, fun h1 => ?_⟩⟩
  · have hz := Classical.not_not.1 h
    simp [faultE, hz, h1]
  · have hz : checkE p = 0 := Classical.not_not.1 h
    obtain ⟨f1, f2, f3, f4, f5⟩ := frame_zero (check_zero hz).1
    have hp : (1 : Int) * 2 ^ ((p.classes.length : Int)).toNat = 2 ^ p.classes.length := by simp
    have hb : (2 : Int) ^ p.classes.length ≤ 256 := by
      have : p.classes.length = 0 ∨ p.classes.length = 1 ∨ p.classes.length = 2 ∨ p.classes.length = 3 ∨ p.classes.length = 4 ∨ p.classes.length = 5 ∨ p.classes.length = 6 ∨ p.classes.length = 7 ∨ p.classes.length = 8 := by omega
      rcases this with h | h | h | h | h | h | h | h | h <;> rw [h] <;> decide
    have hb0 : (0 : Int) < 2 ^ p.classes.length := Int.pow_pos (by decide)
    rw [hp]
    refine ⟨by omega, by omega, ⟨by omega, by omega⟩, fun h2 => ?_, fun h2 => ?_⟩
    · simp only [faultE, hz, ne_eq, not_true, if_false, if_pos (show m < 0 ∨ 2 ^ p.classes.length ≤ m from .inr h2)]
    · simp only [faultE, hz, ne_eq, not_true, if_false, if_neg (show ¬ (m < 0 ∨ 2 ^ p.classes.length ≤ m) by omega)]

/-! ### the solver -/

structure L8 where
  (l0 l1 l2 l3 l4 l5 l6 l7 : List Off)

/-- The solver: its problem, the offers of each bidder, the values that are known. -/
structure Sol where
  p : Prob
  ls : L8
  es : List (Sit × Int)

def byB (p : Prob) (j : Int) : List Off := p.offers.filter fun x => decide (x.bidder = j)
def L8.of (p : Prob) : L8 := ⟨byB p 0, byB p 1, byB p 2, byB p 3, byB p 4, byB p 5, byB p 6, byB p 7⟩

def Sol.o (s : Sol) : SStore :=
  [.cells [.si .i64 s.p.supply.a0, .si .i64 s.p.supply.a1, .si .i64 s.p.supply.a2, .si .i64 s.p.supply.a3, .si .i64 s.p.supply.a4, .si .i64 s.p.supply.a5,
   .si .i64 s.p.opn.a0, .si .i64 s.p.opn.a1, .si .i64 s.p.opn.a2, .si .i64 s.p.opn.a3, .si .i64 s.p.opn.a4, .si .i64 s.p.opn.a5,
   .si .i64 s.p.cls.a0, .si .i64 s.p.cls.a1, .si .i64 s.p.cls.a2, .si .i64 s.p.cls.a3, .si .i64 s.p.cls.a4, .si .i64 s.p.cls.a5,
   .row (.i .i64) s.p.classes, .row .off s.p.offers, .row .off s.ls.l0, .row .off s.ls.l1, .row .off s.ls.l2, .row .off s.ls.l3, .row .off s.ls.l4, .row .off s.ls.l5, .row .off s.ls.l6, .row .off s.ls.l7, .mp 1] 174 29 false,
   .map .sit (.i .i64) true s.es ([0, 0, 0, 0, 0, 0, 0, 0, 0, 0, 0, 0, 0], true) true]

def decSol : SStore → Option Sol
  | [.cells [s0, s1, s2, s3, s4, s5, o0, o1, o2, o3, o4, o5, c0, c1, c2, c3, c4, c5, k, f, l0, l1, l2, l3, l4, l5, l6, l7, .mp 1] 174 29 false, .map sk sv true es ([0, 0, 0, 0, 0, 0, 0, 0, 0, 0, 0, 0, 0], true) true] =>
    match decProb [s0, s1, s2, s3, s4, s5, o0, o1, o2, o3, o4, o5, c0, c1, c2, c3, c4, c5, k, f], castM sk sv .sit (.i .i64) es with
    | some p, some es => match decRow .off l0, decRow .off l1, decRow .off l2, decRow .off l3, decRow .off l4, decRow .off l5, decRow .off l6, decRow .off l7 with
      | some l0, some l1, some l2, some l3, some l4, some l5, some l6, some l7 => some ⟨p, ⟨l0, l1, l2, l3, l4, l5, l6, l7⟩, es⟩
      | _, _, _, _, _, _, _, _ => none
    | _, _ => none
  | _ => none

theorem castM_some {k v k' v' : SId} {es : List (k.T × v.T)} {es' : List (k'.T × v'.T)} (h : castM k v k' v' es = some es') : k = k' ∧ v = v' ∧ HEq es es' := by
  unfold castM at h
  split at h
  · rename_i hh
    obtain ⟨rfl, rfl⟩ := hh
    simp only [Option.some.injEq] at h
    exact ⟨rfl, rfl, heq_of_eq h⟩
  · cases h

theorem decSol_ok {o : SStore} {s : Sol} (h : decSol o = some s) : gO o = gO s.o := by
  unfold decSol at h
  split at h
  · split at h
    · rename_i p es' h1 h2
      split at h
      · rename_i k0 k1 k2 k3 k4 k5 k6 k7
        simp only [Option.some.injEq] at h
        obtain ⟨rfl, rfl, he⟩ := castM_some h2
        cases he
        have hp := decProb_ok h1
        subst h
        simp only [Prob.ss, gL, List.cons.injEq, and_true] at hp
        simp only [Sol.o, gO, List.map_cons, List.map_nil, SObj.g, gL, decRow_ok k0, decRow_ok k1, decRow_ok k2, decRow_ok k3, decRow_ok k4, decRow_ok k5, decRow_ok k6, decRow_ok k7]
        simp only [hp]
      · cases h
    · cases h
  · cases h

theorem sol_inj {s t : Sol} (h : gO s.o = gO t.o) : s = t := by
  obtain ⟨p, ⟨l0, l1, l2, l3, l4, l5, l6, l7⟩, es⟩ := s
  obtain ⟨q, ⟨m0, m1, m2, m3, m4, m5, m6, m7⟩, fs⟩ := t
  simp only [Sol.o, gO, List.map_cons, List.map_nil, SObj.g, gL, List.cons.injEq, AObj.cells.injEq, AObj.map.injEq, and_true, true_and] at h
  obtain ⟨h, he⟩ := h
  have hp : p = q := by
    apply codP.inj
    show (SV.agg p.ss).g = (SV.agg q.ss).g
    simp only [SV.g, Prob.ss, gL, AV.agg.injEq, List.cons.injEq, and_true] at h ⊢
    simp only [h, and_self]
  subst hp
  have hr : ∀ {a b : List Off}, (SV.row .off a).g = (SV.row .off b).g → a = b := fun hab => (codR .off).inj _ _ hab
  have h0 := h.2.2.2.2.2.2.2.2.2.2.2.2.2.2.2.2.2.2.2.2
  obtain ⟨h0, h1, h2, h3, h4, h5, h6, h7⟩ := h0
  have e0 := hr h0
  have e1 := hr h1
  have e2 := hr h2
  have e3 := hr h3
  have e4 := hr h4
  have e5 := hr h5
  have e6 := hr h6
  have e7 := hr h7
  subst e0 e1 e2 e3 e4 e5 e6 e7
  have hes : es = fs := by
    revert fs
    induction es with
    | nil => intro fs he; cases fs with
      | nil => rfl
      | cons => simp at he
    | cons a es ih =>
      intro fs he
      cases fs with
      | nil => simp at he
      | cons b fs =>
        simp only [List.map_cons, List.cons.injEq, Prod.mk.injEq] at he
        obtain ⟨⟨h1, h2⟩, h3⟩ := he
        have hb := ih fs h3
        obtain ⟨a1, a2⟩ := a
        obtain ⟨b1, b2⟩ := b
        simp only [keyV, if_true, Value.agg.injEq, valA, encV, List.headD_cons, AV.sc.injEq, Value.int.injEq, true_and] at h1 h2
        have h1 := encV_inj .sit a1 b1 (by simpa [encV] using h1)
        rw [hb, h1, h2]
  rw [hes]

end Go.Vi

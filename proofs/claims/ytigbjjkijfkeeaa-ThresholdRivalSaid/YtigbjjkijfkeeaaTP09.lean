/-
  Contracts: the reference's lists.
  Conditions: none.
-/
import Derived.Test.YtigbjjkijfkeeaaTP08
set_option linter.unusedVariables false
set_option linter.unusedSimpArgs false
set_option maxRecDepth 100000
set_option maxHeartbeats 4000000
set_option linter.unusedSimpArgs false
set_option linter.unusedVariables false
namespace Go.Vi
open Go.Proofs.Ytigbjjkijfkeeaa.Ir
open Go.Proofs

/-- A list that may be nil. -/
def rawL : Option (List Int) → SV
  | none => .sc (.slice none 0 0)
  | some l => .row (.i .i64) l
def rawG (c : Option (List Int)) : List Int := c.getD []
def decRaw : SV → Option (Option (List Int))
  | .sc (.slice none 0 0) => some none
  | .row s l => (decRow (.i .i64) (.row s l)).map some
  | _ => none
theorem decRaw_ok {v : SV} {c : Option (List Int)} (h : decRaw v = some c) : v.g = (rawL c).g := by
  unfold decRaw at h
  split at h
  · simp only [Option.some.injEq] at h; subst h; rfl
  · obtain ⟨l, h1, rfl⟩ := Option.map_eq_some_iff.1 h
    exact decRow_ok h1
  · cases h
theorem rawL_inj {a b : Option (List Int)} (h : (rawL a).g = (rawL b).g) : a = b := by
  cases a <;> cases b
  · rfl
  · simp [rawL, SV.g] at h
  · simp [rawL, SV.g] at h
  · rw [(codR (.i .i64)).inj _ _ h]

abbrev LArg := Prob × Option (List Int) × Int × Nat × List (List Int)
def lisD (a : LArg) : Prop := a.1.offers.length ≤ 9 ∧ 0 ≤ a.2.2.1 ∧ a.2.2.1 ≤ a.1.offers.length ∧ (rawG a.2.1).length ≤ a.2.2.1 ∧ a.2.2.2.1 = a.2.2.2.2.length ∧ a.2.2.2.2.length + 2 ^ leftN a.1 a.2.2.1 ≤ 1000
def lisR (a : LArg) : List (List Int) := lisL a.1 (leftN a.1 a.2.2.1) a.2.2.1 (rawG a.2.1) a.2.2.2.2
def lisC (n : Nat) : OCtr where
  f := 117
  α := LArg
  put a := [codP.put a.1, rawL a.2.1, .si .i64 a.2.2.1, .ow 0 a.2.2.2.1 1]
  st a := [.row (.lst (.i .i64)) a.2.2.2.2 24 true]
  dec v o := match v, o with
    | [x, c, i, .ow 0 n 1], [.row t l 24 true] => match codP.dec x, decRaw c, i.int .i64, castL t (.lst (.i .i64)) l with
      | some x, some c, some i, some l => some (x, c, i, n, l)
      | _, _, _, _ => none
    | _, _ => none
  ok v o a h := by
    split at h
    · split at h
      · rename_i h1 h2 h3 h4
        simp only [Option.some.injEq] at h; subst h
        obtain ⟨rfl, hh⟩ := castL_eq h4
        cases hh
        exact ⟨by simp only [gL, codP.ok _ _ h1, decRaw_ok h2, int_g h3]; rfl, rfl⟩
      · cases h
    · cases h
  inj a b h1 h2 := by
    obtain ⟨p, c, i, n, l⟩ := a
    obtain ⟨q, d, j, m, k⟩ := b
    simp only [gL, List.cons.injEq, and_true] at h1
    obtain ⟨g1, g2, g3, g4⟩ := h1
    have e1 := codP.inj _ _ g1
    have e2 := rawL_inj g2
    simp only [SV.g, AV.sc.injEq, Value.int.injEq, true_and] at g3
    simp only [SV.g, AV.os.injEq, true_and] at g4
    simp only [gO, List.map_cons, List.map_nil, SObj.g, List.cons.injEq, AObj.cells.injEq, and_true] at h2
    have hl : l = k := by
      have hf := congrArg List.length h2
      rw [flatA_len, flatA_len] at hf
      exact flatA_inj (.lst (.i .i64)) (by simpa [SId.sz] using hf) h2
    rw [e1, e2, g3, g4.1, hl]
  dom a := lisD a ∧ leftN a.1 a.2.2.1 < n
  res a := .ow 0 (lisR a).length 1
  out a := [.row (.lst (.i .i64)) (lisR a) 24 true]

def W117 (n : Nat) : List OCtr := [lisC n]
def st117 (p : Prob) (l : List (List Int)) : SStore := [.row (.lst (.i .i64)) l 24 true, .cells p.ss 27 20 false]
def Λ117 (p : Prob) (c : Option (List Int)) (f : Int) (o : List (List Int)) : Nat → LoopAnn
  | 2 => .inv (Int × List (List Int)) (fun x => ⟨[(1, rawL c), (3, .ow 0 x.2.length 1), (4, .ptr 1 0 20), (9, .si .i64 x.1)], st117 p x.2⟩) (fun s => (iS s 9, oS (.lst (.i .i64)) s 0))
    (fun x => f ≤ x.1 ∧ x.1 ≤ p.offers.length ∧ x.2.length + 2 ^ leftN p x.1 ≤ 1000 ∧ lisL p (leftN p f) f (rawG c) o = lisL p (leftN p x.1) x.1 (rawG c) x.2) (fun x => (p.offers.length - x.1).toNat) fun _ _ => .look
  | _ => .look

theorem lisX (n : Nat) (p : Prob) (c : Option (List Int)) (f : Int) (m : Nat) (o : List (List Int)) (hd : lisD (p, c, f, m, o)) (hn : leftN p f < n + 1) :
    Vc (fnOwnK (parL [r55] (ownT (W117 n)) tyN mtN) (Λ117 p c f o) F117 ((lisC (n + 1)).put (p, c, f, m, o)) ((lisC (n + 1)).st (p, c, f, m, o)) fun v t => v.same ((lisC (n+1)).res (p, c, f, m, o)) ∧ sameO t ((lisC (n+1)).out (p, c, f, m, o))) := by
  obtain ⟨h9, f0, f1, hcl, hm, ho⟩ := hd
  simp only at h9 f0 f1 hcl hm ho
  have hlen : ∀ (i : Int) (l : List Int), (l ++ [i]).length = l.length + 1 := fun _ _ => by simp
  rcases c with _ | c
  · refine vcOf (((((SV.sc (Value.slice none 0 0)).same (SV.sc (Value.slice none 0 0)) ∧ (SV.ow 0 m 1).same (SV.ow 0 o.length 1) ∧ (SV.ptr 1 0 20).same (SV.ptr 1 0 20) ∧ (SV.si .i64 f).same (SV.si .i64 f) ∧ True) ∧ (SObj.row (SId.i .i64).lst o 24 true).same (SObj.row (SId.i .i64).lst o 24 true) ∧ (SObj.cells (Prob.ss p) 27 20 false).same (SObj.cells (Prob.ss p) 27 20 false) ∧ True) ∧ f ≤ f ∧ f ≤ (↑p.offers.length : Int) ∧ o.length + 2 ^ leftN p f ≤ 1000 ∧ lisL p (leftN p f) f (rawG none) o = lisL p (leftN p f) f (rawG none) o) ∧ ∀ (x : Int × List (List Int)), f ≤ x.fst ∧ x.fst ≤ (↑p.offers.length : Int) ∧ x.snd.length + 2 ^ leftN p x.fst ≤ 1000 ∧ lisL p (leftN p f) f (rawG none) o = lisL p (leftN p x.fst) x.fst (rawG none) x.snd → (decide (x.fst < (↑p.offers.length : Int)) = true → 0 = 0 ∧ 0 ≤ 140737488355328 ∧ 0 ≤ 1000000000000 ∧ 0 = 0 ∧ 8 ≤ 140737488355328 ∧ 1 ≤ 1000000000000 ∧ 1 = 1 ∧ 1 ≤ 1000000000000 ∧ (decide (feasE p [x.fst] = (0 : Int)) = true → 1 = 1 ∧ inR .i64 (x.fst + (1 : Int)) ∧ x.snd.length = x.snd.length ∧ (x.snd.length + 1) * 24 ≤ 140737488355328 ∧ x.snd.length + 1 ≤ 1000000000000 ∧ (lisD (p, some [x.fst], x.fst + (1 : Int), (x.snd ++ [[x.fst]]).length, x.snd ++ [[x.fst]]) ∧ leftN p (x.fst + (1 : Int)) < n) ∧ inR .i64 (x.fst + (1 : Int)) ∧ (((SV.sc (Value.slice none 0 0)).same (SV.sc (Value.slice none 0 0)) ∧ (SV.ow 0 (lisR (p, some [x.fst], x.fst + (1 : Int), (x.snd ++ [[x.fst]]).length, x.snd ++ [[x.fst]])).length 1).same (SV.ow 0 (lisR (p, some [x.fst], x.fst + (1 : Int), (x.snd ++ [[x.fst]]).length, x.snd ++ [[x.fst]])).length 1) ∧ (SV.ptr 1 0 20).same (SV.ptr 1 0 20) ∧ (SV.si .i64 (x.fst + (1 : Int))).same (SV.si .i64 (x.fst + (1 : Int))) ∧ True) ∧ (SObj.row (SId.i .i64).lst (lisR (p, some [x.fst], x.fst + (1 : Int), (x.snd ++ [[x.fst]]).length, x.snd ++ [[x.fst]])) 24 true).same (SObj.row (SId.i .i64).lst (lisR (p, some [x.fst], x.fst + (1 : Int), (x.snd ++ [[x.fst]]).length, x.snd ++ [[x.fst]])) 24 true) ∧ (SObj.cells (Prob.ss p) 27 20 false).same (SObj.cells (Prob.ss p) 27 20 false) ∧ True) ∧ (f ≤ x.fst + (1 : Int) ∧ x.fst + (1 : Int) ≤ (↑p.offers.length : Int) ∧ (lisR (p, some [x.fst], x.fst + (1 : Int), (x.snd ++ [[x.fst]]).length, x.snd ++ [[x.fst]])).length + 2 ^ leftN p (x.fst + (1 : Int)) ≤ 1000 ∧ lisL p (leftN p f) f (rawG none) o = lisL p (leftN p (x.fst + (1 : Int))) (x.fst + (1 : Int)) (rawG none) (lisR (p, some [x.fst], x.fst + (1 : Int), (x.snd ++ [[x.fst]]).length, x.snd ++ [[x.fst]]))) ∧ ((↑p.offers.length : Int) - (x.fst + (1 : Int))).toNat < ((↑p.offers.length : Int) - x.fst).toNat) ∧ (decide (feasE p [x.fst] = (0 : Int)) = false → inR .i64 (x.fst + (1 : Int)) ∧ (((SV.sc (Value.slice none 0 0)).same (SV.sc (Value.slice none 0 0)) ∧ (SV.ow 0 x.snd.length 1).same (SV.ow 0 x.snd.length 1) ∧ (SV.ptr 1 0 20).same (SV.ptr 1 0 20) ∧ (SV.si .i64 (x.fst + (1 : Int))).same (SV.si .i64 (x.fst + (1 : Int))) ∧ True) ∧ (SObj.row (SId.i .i64).lst x.snd 24 true).same (SObj.row (SId.i .i64).lst x.snd 24 true) ∧ (SObj.cells (Prob.ss p) 27 20 false).same (SObj.cells (Prob.ss p) 27 20 false) ∧ True) ∧ (f ≤ x.fst + (1 : Int) ∧ x.fst + (1 : Int) ≤ (↑p.offers.length : Int) ∧ x.snd.length + 2 ^ leftN p (x.fst + (1 : Int)) ≤ 1000 ∧ lisL p (leftN p f) f (rawG none) o = lisL p (leftN p (x.fst + (1 : Int))) (x.fst + (1 : Int)) (rawG none) x.snd) ∧ ((↑p.offers.length : Int) - (x.fst + (1 : Int))).toNat < ((↑p.offers.length : Int) - x.fst).toNat)) ∧ (decide (x.fst < (↑p.offers.length : Int)) = false → (SV.ow 0 x.snd.length 1).same (SV.ow 0 (lisR (p, none, f, m, o)).length 1) ∧ (SObj.row (SId.i .i64).lst x.snd 24 true).same (SObj.row (SId.i .i64).lst (lisR (p, none, f, m, o)) 24 true) ∧ True)) (by kernel_rfl) ?_
    simp only [decide_eq_true_eq, decide_eq_false_iff_not, same_il_si, same_si_si, same_si_il, same_il_il, same_sb_sb, same_bl_sb, same_row, same_tup2, same_tup3, same_nil, same_row_nil, same_rfl, osame_rfl, inR_i64, eq_self, true_and, and_true, Bool.and_eq_true, Bool.not_eq_true', Bool.not_eq_false']
    have how : ∀ {x y : Nat}, x = y → (SV.ow 0 x 1).same (SV.ow 0 y 1) := by rintro _ _ rfl; rfl
    have hrow : ∀ {x y : List (List Int)}, x = y → (SObj.row (.lst (.i .i64)) x 24 true).same (SObj.row (.lst (.i .i64)) y 24 true) := by rintro _ _ rfl; rfl
    have hg : ([] : List Int) = rawG (none : Option (List Int)) := rfl
    refine ⟨⟨how hm, by omega, f1, ho⟩, ?_⟩
    rintro ⟨i, out⟩ ⟨i0, i1, iL, hi⟩
    simp only at i0 i1 iL hi ⊢
    refine ⟨fun hlt => ?_, fun hge => ?_⟩
    · have hl : leftN p i = leftN p (i + 1) + 1 := by unfold leftN; omega
      have hlf : leftN p i ≤ leftN p f := by unfold leftN; omega
      have hp2 : (2 : Nat) ^ leftN p i = 2 ^ leftN p (i + 1) + 2 ^ leftN p (i + 1) := by rw [hl, Nat.pow_succ]; omega
      have hp0 : 0 < (2 : Nat) ^ leftN p (i + 1) := Nat.pow_pos (by decide)
      have hR : ∀ m, lisR (p, some ([i]), i + 1, m, out ++ [[i]]) = lisL p (leftN p (i + 1)) (i + 1) ([i]) (out ++ [[i]]) := fun _ => rfl
      have hll := @lis_len p (leftN p (i + 1)) (i + 1) ([i]) (out ++ [[i]])
      simp only [List.length_append, List.length_singleton] at hll
      rw [hl] at hi
      simp only [lisL] at hi
      have hcl2 : ([] : List Int).length ≤ f := hcl
      refine ⟨by omega, by omega, by omega, by omega, by omega, fun hf => ⟨by omega, by omega, by omega, ⟨⟨h9, (show (0 : Int) ≤ i + 1 by omega), (show i + 1 ≤ (p.offers.length : Int) by omega), ?_, by simp, ?_⟩, by omega⟩, by omega, ⟨by omega, by omega, ?_, ?_⟩, by omega⟩, fun hf => ⟨by omega, ⟨by omega, by omega, by omega, ?_⟩, by omega⟩⟩
      · show (([i] : List Int).length : Int) ≤ i + 1
        simp only [List.length_singleton]; omega
      · simp only [List.length_append, List.length_singleton]; omega
      · rw [hR]; omega
      · rw [hR, hi]
        exact congrArg _ (if_pos hf)
      · rw [hi]
        exact congrArg _ (if_neg hf)
    · have hl : leftN p i = 0 := by unfold leftN; omega
      rw [hl] at hi
      simp only [lisL] at hi
      have hR : out = lisR (p, (none : Option (List Int)), f, m, o) := hi.symm
      rw [hR]
      exact ⟨rfl, rfl⟩
  · refine vcOf (((((SV.row (SId.i .i64) c).same (SV.row (SId.i .i64) c) ∧ (SV.ow 0 m 1).same (SV.ow 0 o.length 1) ∧ (SV.ptr 1 0 20).same (SV.ptr 1 0 20) ∧ (SV.si .i64 f).same (SV.si .i64 f) ∧ True) ∧ (SObj.row (SId.i .i64).lst o 24 true).same (SObj.row (SId.i .i64).lst o 24 true) ∧ (SObj.cells (Prob.ss p) 27 20 false).same (SObj.cells (Prob.ss p) 27 20 false) ∧ True) ∧ f ≤ f ∧ f ≤ (↑p.offers.length : Int) ∧ o.length + 2 ^ leftN p f ≤ 1000 ∧ lisL p (leftN p f) f (rawG (some c)) o = lisL p (leftN p f) f (rawG (some c)) o) ∧ ∀ (x : Int × List (List Int)), f ≤ x.fst ∧ x.fst ≤ (↑p.offers.length : Int) ∧ x.snd.length + 2 ^ leftN p x.fst ≤ 1000 ∧ lisL p (leftN p f) f (rawG (some c)) o = lisL p (leftN p x.fst) x.fst (rawG (some c)) x.snd → (decide (x.fst < (↑p.offers.length : Int)) = true → 0 = 0 ∧ (0 + c.length) * 8 ≤ 140737488355328 ∧ 0 + c.length ≤ 1000000000000 ∧ c.length = c.length ∧ (c.length + 1) * 8 ≤ 140737488355328 ∧ c.length + 1 ≤ 1000000000000 ∧ (c ++ [x.fst]).length = (c ++ [x.fst]).length ∧ (c ++ [x.fst]).length ≤ 1000000000000 ∧ (decide (feasE p (c ++ [x.fst]) = (0 : Int)) = true → (c ++ [x.fst]).length = (c ++ [x.fst]).length ∧ inR .i64 (x.fst + (1 : Int)) ∧ x.snd.length = x.snd.length ∧ (x.snd.length + 1) * 24 ≤ 140737488355328 ∧ x.snd.length + 1 ≤ 1000000000000 ∧ (lisD (p, some (c ++ [x.fst]), x.fst + (1 : Int), (x.snd ++ [c ++ [x.fst]]).length, x.snd ++ [c ++ [x.fst]]) ∧ leftN p (x.fst + (1 : Int)) < n) ∧ inR .i64 (x.fst + (1 : Int)) ∧ (((SV.row (SId.i .i64) c).same (SV.row (SId.i .i64) c) ∧ (SV.ow 0 (lisR (p, some (c ++ [x.fst]), x.fst + (1 : Int), (x.snd ++ [c ++ [x.fst]]).length, x.snd ++ [c ++ [x.fst]])).length 1).same (SV.ow 0 (lisR (p, some (c ++ [x.fst]), x.fst + (1 : Int), (x.snd ++ [c ++ [x.fst]]).length, x.snd ++ [c ++ [x.fst]])).length 1) ∧ (SV.ptr 1 0 20).same (SV.ptr 1 0 20) ∧ (SV.si .i64 (x.fst + (1 : Int))).same (SV.si .i64 (x.fst + (1 : Int))) ∧ True) ∧ (SObj.row (SId.i .i64).lst (lisR (p, some (c ++ [x.fst]), x.fst + (1 : Int), (x.snd ++ [c ++ [x.fst]]).length, x.snd ++ [c ++ [x.fst]])) 24 true).same (SObj.row (SId.i .i64).lst (lisR (p, some (c ++ [x.fst]), x.fst + (1 : Int), (x.snd ++ [c ++ [x.fst]]).length, x.snd ++ [c ++ [x.fst]])) 24 true) ∧ (SObj.cells (Prob.ss p) 27 20 false).same (SObj.cells (Prob.ss p) 27 20 false) ∧ True) ∧ (f ≤ x.fst + (1 : Int) ∧ x.fst + (1 : Int) ≤ (↑p.offers.length : Int) ∧ (lisR (p, some (c ++ [x.fst]), x.fst + (1 : Int), (x.snd ++ [c ++ [x.fst]]).length, x.snd ++ [c ++ [x.fst]])).length + 2 ^ leftN p (x.fst + (1 : Int)) ≤ 1000 ∧ lisL p (leftN p f) f (rawG (some c)) o = lisL p (leftN p (x.fst + (1 : Int))) (x.fst + (1 : Int)) (rawG (some c)) (lisR (p, some (c ++ [x.fst]), x.fst + (1 : Int), (x.snd ++ [c ++ [x.fst]]).length, x.snd ++ [c ++ [x.fst]]))) ∧ ((↑p.offers.length : Int) - (x.fst + (1 : Int))).toNat < ((↑p.offers.length : Int) - x.fst).toNat) ∧ (decide (feasE p (c ++ [x.fst]) = (0 : Int)) = false → inR .i64 (x.fst + (1 : Int)) ∧ (((SV.row (SId.i .i64) c).same (SV.row (SId.i .i64) c) ∧ (SV.ow 0 x.snd.length 1).same (SV.ow 0 x.snd.length 1) ∧ (SV.ptr 1 0 20).same (SV.ptr 1 0 20) ∧ (SV.si .i64 (x.fst + (1 : Int))).same (SV.si .i64 (x.fst + (1 : Int))) ∧ True) ∧ (SObj.row (SId.i .i64).lst x.snd 24 true).same (SObj.row (SId.i .i64).lst x.snd 24 true) ∧ (SObj.cells (Prob.ss p) 27 20 false).same (SObj.cells (Prob.ss p) 27 20 false) ∧ True) ∧ (f ≤ x.fst + (1 : Int) ∧ x.fst + (1 : Int) ≤ (↑p.offers.length : Int) ∧ x.snd.length + 2 ^ leftN p (x.fst + (1 : Int)) ≤ 1000 ∧ lisL p (leftN p f) f (rawG (some c)) o = lisL p (leftN p (x.fst + (1 : Int))) (x.fst + (1 : Int)) (rawG (some c)) x.snd) ∧ ((↑p.offers.length : Int) - (x.fst + (1 : Int))).toNat < ((↑p.offers.length : Int) - x.fst).toNat)) ∧ (decide (x.fst < (↑p.offers.length : Int)) = false → (SV.ow 0 x.snd.length 1).same (SV.ow 0 (lisR (p, some c, f, m, o)).length 1) ∧ (SObj.row (SId.i .i64).lst x.snd 24 true).same (SObj.row (SId.i .i64).lst (lisR (p, some c, f, m, o)) 24 true) ∧ True)) (by kernel_rfl) ?_
    simp only [decide_eq_true_eq, decide_eq_false_iff_not, same_il_si, same_si_si, same_si_il, same_il_il, same_sb_sb, same_bl_sb, same_row, same_tup2, same_tup3, same_nil, same_row_nil, same_rfl, osame_rfl, inR_i64, eq_self, true_and, and_true, Bool.and_eq_true, Bool.not_eq_true', Bool.not_eq_false']
    have how : ∀ {x y : Nat}, x = y → (SV.ow 0 x 1).same (SV.ow 0 y 1) := by rintro _ _ rfl; rfl
    have hrow : ∀ {x y : List (List Int)}, x = y → (SObj.row (.lst (.i .i64)) x 24 true).same (SObj.row (.lst (.i .i64)) y 24 true) := by rintro _ _ rfl; rfl
    have hg : c = rawG (some c) := rfl
    refine ⟨⟨how hm, by omega, f1, ho⟩, ?_⟩
    rintro ⟨i, out⟩ ⟨i0, i1, iL, hi⟩
    simp only at i0 i1 iL hi ⊢
    refine ⟨fun hlt => ?_, fun hge => ?_⟩
    · have hl : leftN p i = leftN p (i + 1) + 1 := by unfold leftN; omega
      have hlf : leftN p i ≤ leftN p f := by unfold leftN; omega
      have hp2 : (2 : Nat) ^ leftN p i = 2 ^ leftN p (i + 1) + 2 ^ leftN p (i + 1) := by rw [hl, Nat.pow_succ]; omega
      have hp0 : 0 < (2 : Nat) ^ leftN p (i + 1) := Nat.pow_pos (by decide)
      have hR : ∀ m, lisR (p, some (c ++ [i]), i + 1, m, out ++ [c ++ [i]]) = lisL p (leftN p (i + 1)) (i + 1) (c ++ [i]) (out ++ [c ++ [i]]) := fun _ => rfl
      have hll := @lis_len p (leftN p (i + 1)) (i + 1) (c ++ [i]) (out ++ [c ++ [i]])
      simp only [List.length_append, List.length_singleton] at hll
      rw [hl] at hi
      simp only [lisL] at hi
      simp only [hlen]
      have hcl2 : c.length ≤ f := hcl
      refine ⟨by omega, by omega, by omega, by omega, by omega, fun hf => ⟨by omega, by omega, by omega, ⟨⟨h9, (show (0 : Int) ≤ i + 1 by omega), (show i + 1 ≤ (p.offers.length : Int) by omega), ?_, by simp, ?_⟩, by omega⟩, by omega, ⟨by omega, by omega, ?_, ?_⟩, by omega⟩, fun hf => ⟨by omega, ⟨by omega, by omega, by omega, ?_⟩, by omega⟩⟩
      · show ((c ++ [i]).length : Int) ≤ i + 1
        rw [hlen]; omega
      · simp only [List.length_append, List.length_singleton]; omega
      · rw [hR]; omega
      · rw [hR, hi]
        exact congrArg _ (if_pos hf)
      · rw [hi]
        exact congrArg _ (if_neg hf)
    · have hl : leftN p i = 0 := by unfold leftN; omega
      rw [hl] at hi
      simp only [lisL] at hi
      have hR : out = lisR (p, (some c), f, m, o) := hi.symm
      rw [hR]
      exact ⟨rfl, rfl⟩

theorem hLis : ∀ n, HoldsO Try.prog (lisC n)
  | 0 => by
    rintro ⟨p, c, f, m, o⟩ ⟨_, h⟩
    exact absurd h (Nat.not_lt_zero _)
  | n + 1 => by
    rintro ⟨p, c, f, m, o⟩ ⟨h1, h2⟩
    by_cases hc : leftN p f < n
    · exact hLis n (p, c, f, m, o) ⟨h1, hc⟩
    · refine holdsO_of (lisC (n + 1)) (W := W117 n) (Λ := fun x => Λ117 x.1 x.2.1 x.2.2.1 x.2.2.2.2) base_ok (by simp only [W117, List.forall_mem_cons, List.not_mem_nil, false_implies, implies_true, and_true]; exact hLis n) (by simpa using h55)
        (show fnN 117 = some F117 by kernel_rfl) (fun _ => rfl) (p, c, f, m, o) ?_ (lisX n p c f m o h1 h2).out
      intro d hd b hb1 hb2 hb3
      have hd2 : d = lisC n := by
        have : findO 117 (W117 n) = some (lisC n) := rfl
        have hd3 : findO 117 (W117 n) = some d := hd
        rw [this] at hd3
        injection hd3 with hd3
        exact hd3.symm
      subst hd2
      have hb : (p, c, f, m, o) = b := (lisC n).inj (p, c, f, m, o) b hb1 hb2
      subst hb
      exact hc hb3.2

def r77 : SCtr := ⟨77, Prob, .one codP, fun p => p.offers.length ≤ 9, fun p => .row (.lst (.i .i64)) (listsR p)⟩
theorem h77 : Holds Try.prog r77 := by
  refine con (L := []) (W := ownT [lisC 10]) r77 F77 (fun _ _ => .look) (ownT_ok (by simpa using hLis 10)) (by simp) (by kernel_rfl) (by kernel_rfl) (fun _ => rfl) ?_
  intro (p : Prob) (hp : p.offers.length ≤ 9)
  refine vcOf ((lisD (p, none, (0 : Int), 1, [[]]) ∧ leftN p (0 : Int) < 10) ∧ (lisR (p, none, (0 : Int), 1, [[]])).length = (lisR (p, none, (0 : Int), 1, [[]])).length ∧ (SV.row (SId.i .i64).lst (lisR (p, none, (0 : Int), 1, [[]]))).same (SV.row (SId.i .i64).lst (listsR p))) (by kernel_rfl) ?_
  simp only [decide_eq_true_eq, decide_eq_false_iff_not, same_il_si, same_si_si, same_si_il, same_il_il, same_sb_sb, same_bl_sb, same_row, same_tup2, same_tup3, same_nil, same_row_nil, same_rfl, osame_rfl, inR_i64, eq_self, true_and, and_true, Bool.and_eq_true, Bool.not_eq_true', Bool.not_eq_false']
  have hl : leftN p 0 = p.offers.length := by unfold leftN; omega
  have h2 : (2 : Nat) ^ p.offers.length ≤ 2 ^ 9 := Nat.pow_le_pow_right (by decide) hp
  have hR : lisR (p, none, 0, 1, [[]]) = listsR p := by
    show lisL p (leftN p 0) 0 [] [[]] = listsR p
    rw [hl]
    rfl
  rw [hR]
  refine ⟨⟨⟨hp, Int.le_refl 0, (show (0 : Int) ≤ (p.offers.length : Int) by omega), Int.le_refl 0, rfl, ?_⟩, by omega⟩, rfl⟩
  show 1 + 2 ^ leftN p 0 ≤ 1000
  rw [hl]
  omega

end Go.Vi
/-
  Contracts: the margins' small functions.
  Conditions: none.
-/
set_option maxRecDepth 100000
set_option maxHeartbeats 4000000
set_option linter.unusedSimpArgs false
set_option linter.unusedVariables false
namespace Go.Vi
open Go.Proofs.Ytigbjjkijfkeeaa.Ir
open Go.Proofs

def r76 : SCtr := ⟨76, Prob, .one codP, fun p => p.classes.length ≤ 8, fun p => .si .i64 (allM p)⟩
theorem h76 : Holds Try.prog r76 := by
  refine con (L := []) r76 F76 (fun _ _ => .look) (OwnOK.none _) (by simp) (by kernel_rfl) (by kernel_rfl) (fun _ => rfl) ?_
  intro (p : Prob) (hp : p.classes.length ≤ 8)
  refine vcOf ((0 : Int) ≤ (↑p.classes.length : Int) ∧ (↑p.classes.length : Int) ≤ (64 : Int) ∧ inR .i64 ((1 : Int) * (2 : Int) ^ (↑p.classes.length : Int).toNat) ∧ inR .i64 ((1 : Int) * (2 : Int) ^ (↑p.classes.length : Int).toNat - (1 : Int)) ∧ (SV.si .i64 ((1 : Int) * (2 : Int) ^ (↑p.classes.length : Int).toNat - (1 : Int))).same (SV.si .i64 (allM p))) (by kernel_rfl) ?_
  simp only [decide_eq_true_eq, decide_eq_false_iff_not, same_il_si, same_si_si, same_si_il, same_il_il, same_sb_sb, same_bl_sb, same_row, same_tup2, same_tup3, same_nil, same_row_nil, same_rfl, osame_rfl, inR_i64, eq_self, true_and, and_true, Bool.and_eq_true, Bool.not_eq_true', Bool.not_eq_false']
  have := pow_n hp
  simp only [Int.one_mul, Int.toNat_natCast, allM]
  repeat' (first | refine And.intro ?_ ?_ | intro _)
  all_goals first | omega | trivial | rfl

def delO (p : Prob) (k : Int) : Prob := { p with offers := p.offers.take k.toNat ++ p.offers.drop (k + 1).toNat }
def r74 : SCtr := ⟨74, Prob × Int, .cons codP (.one (codI .i64)), fun a => a.1.offers.length ≤ 160 ∧ 0 ≤ a.2 ∧ a.2 < a.1.offers.length, fun a => codP.put (delO a.1 a.2)⟩
theorem h74 : Holds Try.prog r74 := by
  refine con (L := []) r74 F74 (fun _ _ => .look) (OwnOK.none _) (by simp) (by kernel_rfl) (by kernel_rfl) (fun _ => rfl) ?_
  rintro ⟨p, k⟩ ⟨hp, h0, h1⟩
  simp only at hp h0 h1
  refine vcOf ((0 : Int) ≤ k ∧ 0 ≤ k.toNat ∧ k.toNat ≤ p.offers.length ∧ ((List.take (k.toNat - 0) p.offers).length = 0 → inR .i64 (k + (1 : Int)) ∧ (0 : Int) ≤ k + (1 : Int) ∧ (k + (1 : Int)).toNat ≤ p.offers.length ∧ p.offers.length ≤ p.offers.length ∧ ((List.take (p.offers.length - (k + (1 : Int)).toNat) (List.drop (k + (1 : Int)).toNat p.offers)).length = 0 → (SV.agg [SV.si .i64 p.supply.a0, SV.si .i64 p.supply.a1, SV.si .i64 p.supply.a2, SV.si .i64 p.supply.a3, SV.si .i64 p.supply.a4, SV.si .i64 p.supply.a5, SV.si .i64 p.opn.a0, SV.si .i64 p.opn.a1, SV.si .i64 p.opn.a2, SV.si .i64 p.opn.a3, SV.si .i64 p.opn.a4, SV.si .i64 p.opn.a5, SV.si .i64 p.cls.a0, SV.si .i64 p.cls.a1, SV.si .i64 p.cls.a2, SV.si .i64 p.cls.a3, SV.si .i64 p.cls.a4, SV.si .i64 p.cls.a5, SV.row (SId.i .i64) p.classes, SV.row (SId.i .i64) []]).same (SV.agg (Prob.ss (delO p k)))) ∧ ((List.take (p.offers.length - (k + (1 : Int)).toNat) (List.drop (k + (1 : Int)).toNat p.offers)).length ≠ 0 → (List.take (p.offers.length - (k + (1 : Int)).toNat) (List.drop (k + (1 : Int)).toNat p.offers)).length * 64 ≤ 140737488355328 ∧ (List.take (p.offers.length - (k + (1 : Int)).toNat) (List.drop (k + (1 : Int)).toNat p.offers)).length ≤ 1000000000000 ∧ (List.take (p.offers.length - (k + (1 : Int)).toNat) (List.drop (k + (1 : Int)).toNat p.offers)).length = (List.take (p.offers.length - (k + (1 : Int)).toNat) (List.drop (k + (1 : Int)).toNat p.offers)).length ∧ (SV.agg [SV.si .i64 p.supply.a0, SV.si .i64 p.supply.a1, SV.si .i64 p.supply.a2, SV.si .i64 p.supply.a3, SV.si .i64 p.supply.a4, SV.si .i64 p.supply.a5, SV.si .i64 p.opn.a0, SV.si .i64 p.opn.a1, SV.si .i64 p.opn.a2, SV.si .i64 p.opn.a3, SV.si .i64 p.opn.a4, SV.si .i64 p.opn.a5, SV.si .i64 p.cls.a0, SV.si .i64 p.cls.a1, SV.si .i64 p.cls.a2, SV.si .i64 p.cls.a3, SV.si .i64 p.cls.a4, SV.si .i64 p.cls.a5, SV.row (SId.i .i64) p.classes, SV.row SId.off (List.take (p.offers.length - (k + (1 : Int)).toNat) (List.drop (k + (1 : Int)).toNat p.offers))]).same (SV.agg (Prob.ss (delO p k))))) ∧ ((List.take (k.toNat - 0) p.offers).length ≠ 0 → (List.take (k.toNat - 0) p.offers).length * 64 ≤ 140737488355328 ∧ (List.take (k.toNat - 0) p.offers).length ≤ 1000000000000 ∧ inR .i64 (k + (1 : Int)) ∧ (0 : Int) ≤ k + (1 : Int) ∧ (k + (1 : Int)).toNat ≤ p.offers.length ∧ p.offers.length ≤ p.offers.length ∧ (List.take (k.toNat - 0) p.offers).length = (List.take (k.toNat - 0) p.offers).length ∧ ((List.take (k.toNat - 0) p.offers).length + (List.take (p.offers.length - (k + (1 : Int)).toNat) (List.drop (k + (1 : Int)).toNat p.offers)).length) * 64 ≤ 140737488355328 ∧ (List.take (k.toNat - 0) p.offers).length + (List.take (p.offers.length - (k + (1 : Int)).toNat) (List.drop (k + (1 : Int)).toNat p.offers)).length ≤ 1000000000000 ∧ (List.take (k.toNat - 0) p.offers ++ List.take (p.offers.length - (k + (1 : Int)).toNat) (List.drop (k + (1 : Int)).toNat p.offers)).length = (List.take (k.toNat - 0) p.offers ++ List.take (p.offers.length - (k + (1 : Int)).toNat) (List.drop (k + (1 : Int)).toNat p.offers)).length ∧ (SV.agg [SV.si .i64 p.supply.a0, SV.si .i64 p.supply.a1, SV.si .i64 p.supply.a2, SV.si .i64 p.supply.a3, SV.si .i64 p.supply.a4, SV.si .i64 p.supply.a5, SV.si .i64 p.opn.a0, SV.si .i64 p.opn.a1, SV.si .i64 p.opn.a2, SV.si .i64 p.opn.a3, SV.si .i64 p.opn.a4, SV.si .i64 p.opn.a5, SV.si .i64 p.cls.a0, SV.si .i64 p.cls.a1, SV.si .i64 p.cls.a2, SV.si .i64 p.cls.a3, SV.si .i64 p.cls.a4, SV.si .i64 p.cls.a5, SV.row (SId.i .i64) p.classes, SV.row SId.off (List.take (k.toNat - 0) p.offers ++ List.take (p.offers.length - (k + (1 : Int)).toNat) (List.drop (k + (1 : Int)).toNat p.offers))]).same (SV.agg (Prob.ss (delO p k))))) (by kernel_rfl) ?_
  simp only [decide_eq_true_eq, decide_eq_false_iff_not, same_il_si, same_si_si, same_si_il, same_il_il, same_sb_sb, same_bl_sb, same_row, same_tup2, same_tup3, same_nil, same_row_nil, same_rfl, osame_rfl, inR_i64, eq_self, true_and, and_true, Bool.and_eq_true, Bool.not_eq_true', Bool.not_eq_false']
  have e1 : List.take (k.toNat - 0) p.offers = p.offers.take k.toNat := rfl
  have e2 : List.take (p.offers.length - (k + 1).toNat) (List.drop (k + 1).toNat p.offers) = p.offers.drop (k + 1).toNat := List.take_of_length_le (by simp)
  have l1 : (p.offers.take k.toNat).length = k.toNat := by simp; omega
  have l2 : (p.offers.drop (k + 1).toNat).length = p.offers.length - (k + 1).toNat := by simp
  rw [e1, e2]
  have hag : ∀ {l : List Off} {s : SV}, s.g = (SV.row .off l).g → l = p.offers.take k.toNat ++ p.offers.drop (k + 1).toNat →
      (SV.agg [SV.si .i64 p.supply.a0, SV.si .i64 p.supply.a1, SV.si .i64 p.supply.a2, SV.si .i64 p.supply.a3, SV.si .i64 p.supply.a4, SV.si .i64 p.supply.a5, SV.si .i64 p.opn.a0, SV.si .i64 p.opn.a1, SV.si .i64 p.opn.a2, SV.si .i64 p.opn.a3, SV.si .i64 p.opn.a4, SV.si .i64 p.opn.a5, SV.si .i64 p.cls.a0, SV.si .i64 p.cls.a1, SV.si .i64 p.cls.a2, SV.si .i64 p.cls.a3, SV.si .i64 p.cls.a4, SV.si .i64 p.cls.a5, SV.row (.i .i64) p.classes, s]).same (SV.agg (delO p k).ss) := by
    intro l s hs hl
    subst hl
    simp only [SV.same, SV.g, Prob.ss, gL, delO, hs]
  refine ⟨h0, by omega, by omega, fun hz => ⟨⟨by omega, by omega⟩, by omega, by omega, by omega, fun hz2 => ?_, fun hz2 => ⟨by omega, by omega, ?_⟩⟩, fun hz => ⟨by omega, by omega, ⟨by omega, by omega⟩, by omega, by omega, by omega, by omega, by omega, ?_⟩⟩
  · exact hag (l := []) (by simp [SV.g, flatA]) (by rw [List.eq_nil_of_length_eq_zero hz, List.eq_nil_of_length_eq_zero hz2]; rfl)
  · exact hag rfl (by rw [List.eq_nil_of_length_eq_zero hz]; rfl)
  · exact hag rfl rfl

/-- Is the bidder one of the product's outsiders? -/
def outB (p : Prob) (b k : Int) : Bool := decide (p.cls.at k.toNat ≠ 0 ∧ p.cls.at k.toNat ≠ nthD p.classes b.toNat 0)
def r148 : SCtr := ⟨148, Prob × Int × Int, .cons codP (.cons (codI .i64) (.one (codI .i64))), fun a => 0 ≤ a.2.1 ∧ a.2.1 < a.1.classes.length ∧ 0 ≤ a.2.2 ∧ a.2.2 < 6, fun a => .sb (outB a.1 a.2.1 a.2.2)⟩
theorem h148 : Holds Try.prog r148 := by
  refine con (L := []) r148 F148 (fun _ _ => .look) (OwnOK.none _) (by simp) (by kernel_rfl) (by kernel_rfl) (fun _ => rfl) ?_
  rintro ⟨p, b, k⟩ ⟨h0, h1, h2, h3⟩
  simp only at h0 h1 h2 h3
  refine vcOf ((0 : Int) ≤ k ∧ k < (6 : Int) ∧ k.toNat < 6 ∧ (decide (nthD [p.cls.a0, p.cls.a1, p.cls.a2, p.cls.a3, p.cls.a4, p.cls.a5] k.toNat (0 : Int) ≠ (0 : Int)) = true → (0 : Int) ≤ k ∧ k < (6 : Int) ∧ k.toNat < 6 ∧ (0 : Int) ≤ b ∧ b < (↑p.classes.length : Int) ∧ b.toNat < p.classes.length ∧ (SV.sb (decide (nthD [p.cls.a0, p.cls.a1, p.cls.a2, p.cls.a3, p.cls.a4, p.cls.a5] k.toNat (0 : Int) ≠ nthD p.classes b.toNat (0 : Int)))).same (SV.sb (outB p b k))) ∧ (decide (nthD [p.cls.a0, p.cls.a1, p.cls.a2, p.cls.a3, p.cls.a4, p.cls.a5] k.toNat (0 : Int) ≠ (0 : Int)) = false → (SV.bl false).same (SV.sb (outB p b k)))) (by kernel_rfl) ?_
  simp only [decide_eq_true_eq, decide_eq_false_iff_not, same_il_si, same_si_si, same_si_il, same_il_il, same_sb_sb, same_bl_sb, same_row, same_tup2, same_tup3, same_nil, same_row_nil, same_rfl, osame_rfl, inR_i64, eq_self, true_and, and_true, Bool.and_eq_true, Bool.not_eq_true', Bool.not_eq_false']
  have e : nthD [p.cls.a0, p.cls.a1, p.cls.a2, p.cls.a3, p.cls.a4, p.cls.a5] k.toNat 0 = p.cls.at k.toNat := rfl
  rw [e]
  refine ⟨h2, h3, by omega, fun h => ⟨h2, h3, by omega, h0, h1, by omega, ?_⟩, fun h => ?_⟩
  · simp [outB, h]
  · have h : p.cls.at k.toNat = 0 := Classical.not_not.1 h
    simp [outB, h]

/-- Does an offer fit alone? -/
def aloneP (p : Prob) (x : Off) (k : Nat) : Prop := x.want.at k ≤ p.supply.at k ∧ (outB p x.bidder k = true → x.want.at k ≤ p.opn.at k)
instance (p : Prob) (x : Off) (k : Nat) : Decidable (aloneP p x k) := by unfold aloneP; infer_instance
def aloneB (p : Prob) (x : Off) : Bool := (List.range 6).all fun k => decide (aloneP p x k)
theorem alone_iff {p : Prob} {x : Off} : aloneB p x = true ↔ ∀ k, k < 6 → aloneP p x k := by simp [aloneB]
def r149 : SCtr := ⟨149, Prob × Off, .cons codP (.one (codE .off)), fun a => 0 ≤ a.2.bidder ∧ a.2.bidder < a.1.classes.length, fun a => .sb (aloneB a.1 a.2)⟩
def Λ149 (a : Prob × Off) : Nat → LoopAnn
  | 2 => .inv Int (fun k => ⟨[(2, .ptr 0 0 20), (3, .ptr 1 0 8), (6, .si .i64 k)], [.cells a.1.ss 101 20 false, .cells (encS .off a.2) 43 8 false]⟩) (fun s => iS s 6) (fun k => 0 ≤ k ∧ k ≤ 6 ∧ ∀ j : Nat, j < k → aloneP a.1 a.2 j) (fun k => (6 - k).toNat) fun _ _ => .look
  | _ => .look
theorem h149 : Holds Try.prog r149 := by
  refine con (L := [r148]) r149 F149 Λ149 (OwnOK.none _) (by simpa using h148) (by kernel_rfl) (by kernel_rfl) (fun _ => rfl) ?_
  rintro ⟨p, x⟩ ⟨h0, h1⟩
  simp only at h0 h1
  refine vcOf (((((SV.ptr 0 0 20).same (SV.ptr 0 0 20) ∧ (SV.ptr 1 0 8).same (SV.ptr 1 0 8) ∧ (SV.il .i64 0).same (SV.si .i64 0) ∧ True) ∧ (SObj.cells (Prob.ss p) 101 20 false).same (SObj.cells (Prob.ss p) 101 20 false) ∧ (SObj.cells [SV.si .i64 x.bidder, SV.si .i64 x.want.a0, SV.si .i64 x.want.a1, SV.si .i64 x.want.a2, SV.si .i64 x.want.a3, SV.si .i64 x.want.a4, SV.si .i64 x.want.a5, SV.si .i64 x.value] 43 8 false).same (SObj.cells [SV.si .i64 x.bidder, SV.si .i64 x.want.a0, SV.si .i64 x.want.a1, SV.si .i64 x.want.a2, SV.si .i64 x.want.a3, SV.si .i64 x.want.a4, SV.si .i64 x.want.a5, SV.si .i64 x.value] 43 8 false) ∧ True) ∧ (0 : Int) ≤ (0 : Int) ∧ (0 : Int) ≤ (6 : Int) ∧ ∀ (j : Nat), (↑j : Int) < (0 : Int) → aloneP p x j) ∧ ∀ (x_1 : Int), ((0 : Int) ≤ x_1 ∧ x_1 ≤ (6 : Int) ∧ ∀ (j : Nat), (↑j : Int) < x_1 → aloneP p x j) → (decide (x_1 < (6 : Int)) = true → (0 : Int) ≤ x_1 ∧ x_1 < (6 : Int) ∧ x_1.toNat < 6 ∧ (0 : Int) ≤ x_1 ∧ x_1 < (6 : Int) ∧ x_1.toNat < 6 ∧ (decide (nthD [p.supply.a0, p.supply.a1, p.supply.a2, p.supply.a3, p.supply.a4, p.supply.a5] x_1.toNat (0 : Int) < nthD [x.want.a0, x.want.a1, x.want.a2, x.want.a3, x.want.a4, x.want.a5] x_1.toNat (0 : Int)) = true → (SV.bl false).same (SV.sb (aloneB p x))) ∧ (decide (nthD [p.supply.a0, p.supply.a1, p.supply.a2, p.supply.a3, p.supply.a4, p.supply.a5] x_1.toNat (0 : Int) < nthD [x.want.a0, x.want.a1, x.want.a2, x.want.a3, x.want.a4, x.want.a5] x_1.toNat (0 : Int)) = false → ((0 : Int) ≤ x.bidder ∧ x.bidder < (↑p.classes.length : Int) ∧ (0 : Int) ≤ x_1 ∧ x_1 < (6 : Int)) ∧ (outB p x.bidder x_1 = true → (0 : Int) ≤ x_1 ∧ x_1 < (6 : Int) ∧ x_1.toNat < 6 ∧ (0 : Int) ≤ x_1 ∧ x_1 < (6 : Int) ∧ x_1.toNat < 6 ∧ (decide (nthD [p.opn.a0, p.opn.a1, p.opn.a2, p.opn.a3, p.opn.a4, p.opn.a5] x_1.toNat (0 : Int) < nthD [x.want.a0, x.want.a1, x.want.a2, x.want.a3, x.want.a4, x.want.a5] x_1.toNat (0 : Int)) = true → (SV.bl false).same (SV.sb (aloneB p x))) ∧ (decide (nthD [p.opn.a0, p.opn.a1, p.opn.a2, p.opn.a3, p.opn.a4, p.opn.a5] x_1.toNat (0 : Int) < nthD [x.want.a0, x.want.a1, x.want.a2, x.want.a3, x.want.a4, x.want.a5] x_1.toNat (0 : Int)) = false → inR .i64 (x_1 + (1 : Int)) ∧ (((SV.ptr 0 0 20).same (SV.ptr 0 0 20) ∧ (SV.ptr 1 0 8).same (SV.ptr 1 0 8) ∧ (SV.si .i64 (x_1 + (1 : Int))).same (SV.si .i64 (x_1 + (1 : Int))) ∧ True) ∧ (SObj.cells (Prob.ss p) 101 20 false).same (SObj.cells (Prob.ss p) 101 20 false) ∧ (SObj.cells [SV.si .i64 x.bidder, SV.si .i64 x.want.a0, SV.si .i64 x.want.a1, SV.si .i64 x.want.a2, SV.si .i64 x.want.a3, SV.si .i64 x.want.a4, SV.si .i64 x.want.a5, SV.si .i64 x.value] 43 8 false).same (SObj.cells [SV.si .i64 x.bidder, SV.si .i64 x.want.a0, SV.si .i64 x.want.a1, SV.si .i64 x.want.a2, SV.si .i64 x.want.a3, SV.si .i64 x.want.a4, SV.si .i64 x.want.a5, SV.si .i64 x.value] 43 8 false) ∧ True) ∧ ((0 : Int) ≤ x_1 + (1 : Int) ∧ x_1 + (1 : Int) ≤ (6 : Int) ∧ ∀ (j : Nat), (↑j : Int) < x_1 + (1 : Int) → aloneP p x j) ∧ ((6 : Int) - (x_1 + (1 : Int))).toNat < ((6 : Int) - x_1).toNat)) ∧ (outB p x.bidder x_1 = false → inR .i64 (x_1 + (1 : Int)) ∧ (((SV.ptr 0 0 20).same (SV.ptr 0 0 20) ∧ (SV.ptr 1 0 8).same (SV.ptr 1 0 8) ∧ (SV.si .i64 (x_1 + (1 : Int))).same (SV.si .i64 (x_1 + (1 : Int))) ∧ True) ∧ (SObj.cells (Prob.ss p) 101 20 false).same (SObj.cells (Prob.ss p) 101 20 false) ∧ (SObj.cells [SV.si .i64 x.bidder, SV.si .i64 x.want.a0, SV.si .i64 x.want.a1, SV.si .i64 x.want.a2, SV.si .i64 x.want.a3, SV.si .i64 x.want.a4, SV.si .i64 x.want.a5, SV.si .i64 x.value] 43 8 false).same (SObj.cells [SV.si .i64 x.bidder, SV.si .i64 x.want.a0, SV.si .i64 x.want.a1, SV.si .i64 x.want.a2, SV.si .i64 x.want.a3, SV.si .i64 x.want.a4, SV.si .i64 x.want.a5, SV.si .i64 x.value] 43 8 false) ∧ True) ∧ ((0 : Int) ≤ x_1 + (1 : Int) ∧ x_1 + (1 : Int) ≤ (6 : Int) ∧ ∀ (j : Nat), (↑j : Int) < x_1 + (1 : Int) → aloneP p x j) ∧ ((6 : Int) - (x_1 + (1 : Int))).toNat < ((6 : Int) - x_1).toNat))) ∧ (decide (x_1 < (6 : Int)) = false → (SV.bl true).same (SV.sb (aloneB p x)))) (by kernel_rfl) ?_
  simp only [decide_eq_true_eq, decide_eq_false_iff_not, same_il_si, same_si_si, same_si_il, same_il_il, same_sb_sb, same_bl_sb, same_row, same_tup2, same_tup3, same_nil, same_row_nil, same_rfl, osame_rfl, inR_i64, eq_self, true_and, and_true, Bool.and_eq_true, Bool.not_eq_true', Bool.not_eq_false']
  refine ⟨⟨by omega, by omega, fun j hj => by omega⟩, ?_⟩
  rintro k ⟨k0, k1, hk⟩
  have ew : nthD [x.want.a0, x.want.a1, x.want.a2, x.want.a3, x.want.a4, x.want.a5] k.toNat 0 = x.want.at k.toNat := rfl
  have es : nthD [p.supply.a0, p.supply.a1, p.supply.a2, p.supply.a3, p.supply.a4, p.supply.a5] k.toNat 0 = p.supply.at k.toNat := rfl
  have eo : nthD [p.opn.a0, p.opn.a1, p.opn.a2, p.opn.a3, p.opn.a4, p.opn.a5] k.toNat 0 = p.opn.at k.toNat := rfl
  rw [ew, es, eo]
  have hkk : ((k.toNat : Nat) : Int) = k := by omega
  have hbad : k < 6 → ¬ aloneP p x k.toNat → false = aloneB p x := fun h h2 => by
    symm
    rw [Bool.eq_false_iff]
    exact fun hh => h2 (alone_iff.1 hh _ (by omega))
  have hnext : aloneP p x k.toNat → ∀ j : Nat, (j : Int) < k + 1 → aloneP p x j := fun h j hj => by
    by_cases h2 : (j : Int) < k
    · exact hk j h2
    · rw [show j = k.toNat by omega]; exact h
  refine ⟨fun hlt => ⟨by omega, by omega, by omega, by omega, by omega, by omega, fun h => ?_, fun h => ⟨⟨h0, h1, k0, hlt⟩, fun ho => ⟨by omega, by omega, by omega, by omega, by omega, by omega, fun h3 => ?_, fun h3 => ⟨⟨by omega, by omega⟩, ⟨by omega, by omega, ?_⟩, by omega⟩⟩, fun ho => ⟨⟨by omega, by omega⟩, ⟨by omega, by omega, ?_⟩, by omega⟩⟩⟩, fun hge => ?_⟩
  · exact hbad hlt fun hh => by have := hh.1; omega
  · exact hbad hlt fun hh => by have := hh.2 (by rw [hkk]; exact ho); omega
  · exact hnext ⟨by omega, fun _ => by omega⟩
  · exact hnext ⟨by omega, fun hh => by rw [hkk, ho] at hh; cases hh⟩
  · symm
    exact alone_iff.2 fun j hj => hk j (by omega)

end Go.Vi

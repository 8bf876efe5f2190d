/-
  Contracts: the best allocation (the reference).
  Conditions: none.
-/
import Derived.Test.YtigbjjkijfkeeaaP09
import Derived.KernelRfl
set_option linter.unusedVariables false
set_option linter.unusedSimpArgs false
set_option maxRecDepth 100000
set_option maxHeartbeats 4000000
set_option linter.unusedSimpArgs false
set_option linter.unusedVariables false
namespace Go.Vi
open Go.Proofs.Ytigbjjkijfkeeaa.Ir
open Go.Proofs

def valI (p : Prob) (i : Int) : Int := (nthD p.offers i.toNat SId.off.dflt).value
def better (a b : Alloc) : Alloc := if b.value < a.value ∨ a.value = b.value ∧ cmpL a.chosen b.chosen < 0 then a else b
/-- The reference's search from an index on; 'k' indices are left. -/
def extL (p : Prob) : Nat → Int → Alloc → Alloc → Alloc
  | 0, _, _, b => b
  | k + 1, i, a, b => extL p k (i + 1) a (if ref23 p (a.chosen ++ [i]) then extL p k (i + 1) ⟨a.chosen ++ [i], a.value + valI p i⟩ (better ⟨a.chosen ++ [i], a.value + valI p i⟩ b) else b)
def leftN (p : Prob) (i : Int) : Nat := (p.offers.length - i).toNat
def extS2 (p : Prob) (a : Alloc) (f : Int) (b : Alloc) : Alloc := extL p (leftN p f) f a (better a b)

def extD (p : Prob) (a : Alloc) (f : Int) (b : Alloc) : Prop := Good p ∧ 0 ≤ f ∧ f ≤ p.offers.length ∧ (∀ i ∈ a.chosen, 0 ≤ i ∧ i < p.offers.length) ∧ a.chosen.length ≤ f ∧ 0 ≤ a.value ∧ a.value ≤ 1000000 * f ∧ b.chosen.length ≤ 160

def extC (n : Nat) : SCtr := ⟨70, Prob × Alloc × Int × Alloc, .cons codP (.cons codA (.cons (codI .i64) (.one codA))), fun a => extD a.1 a.2.1 a.2.2.1 a.2.2.2 ∧ leftN a.1 a.2.2.1 < n,
  fun a => codA.put (extS2 a.1 a.2.1 a.2.2.1 a.2.2.2)⟩

def M4 (n : Nat) : List SCtr := [extC n, r111, r32]

def aS (s : SSt) (id : Nat) : Alloc := match s.o[id]? with
  | some (.cells [r, v] _ _ _) => ⟨(decRow (.i .i64) r).getD [], (v.int .i64).getD 0⟩
  | _ => ⟨[], 0⟩

def Λ70 (p : Prob) (a : Alloc) (f : Int) (b : Alloc) : Nat → LoopAnn
  | 4 => .inv (Int × Alloc) (fun x => ⟨[(4, .ptr 0 0 20), (5, .ptr 1 0 2), (7, .ptr 2 0 2), (8, .ptr 3 0 2), (9, .si .i64 x.1)],
      [.cells p.ss 27 20 false, .cells [.row (.i .i64) a.chosen, .si .i64 a.value] 31 2 false, .cells [.row (.i .i64) x.2.chosen, .si .i64 x.2.value] 31 2 false, .cells [.sc (.slice none 0 0), .il .i64 0] 31 2 false]⟩)
      (fun s => (iS s 9, aS s 2)) (fun x => f ≤ x.1 ∧ x.1 ≤ p.offers.length ∧ x.2.chosen.length ≤ 160 ∧ extS2 p a f b = extL p (leftN p x.1) x.1 a x.2) (fun x => leftN p x.1) fun _ _ => .look
  | _ => .look

theorem aS_eq {env : _} {x0 x1 x3 : SObj} {c : List Int} {v : Int} {n : _} {m : _} {b : Bool} : aS ⟨env, [x0, x1, .cells [.row (.i .i64) c, .si .i64 v] n m b, x3]⟩ 2 = ⟨c, v⟩ := rfl

theorem better_len {a b : Alloc} {n : Nat} (ha : a.chosen.length ≤ n) (hb : b.chosen.length ≤ n) : (better a b).chosen.length ≤ n := by
  unfold better
  split <;> assumption
theorem extL_len {p : Prob} : ∀ {k : Nat} {i : Int} {a b : Alloc}, a.chosen.length ≤ i → i + k ≤ 160 → b.chosen.length ≤ 160 → (extL p k i a b).chosen.length ≤ 160
  | 0, i, a, b, _, _, h => h
  | k + 1, i, a, b, h1, h2, h3 => by
    simp only [extL]
    apply extL_len (by omega) (by omega)
    split
    · apply extL_len (by simp; omega) (by omega)
      apply better_len (by simp; omega) h3
    · exact h3
theorem extS2_len {p : Prob} {a : Alloc} {f : Int} {b : Alloc} (h : extD p a f b) : (extS2 p a f b).chosen.length ≤ 160 := by
  obtain ⟨hg, hf0, hf1, hix, hcl, hv0, hv1, hdl⟩ := h
  have hN := hg.2.1
  unfold extS2
  exact extL_len hcl (by unfold leftN; omega) (better_len (by omega) hdl)

theorem extX (n : Nat) (p : Prob) (a : Alloc) (f : Int) (b : Alloc) (h : extD p a f b) (hn : leftN p f < n + 1) :
    Vc (fnK (parL (M4 n) OwnT.none tyN mtN) (Λ70 p a f b) F70 ((extC (n+1)).A.put (p, a, f, b)) fun v => v.same ((extC (n+1)).res (p, a, f, b))) := by
  obtain ⟨c, v⟩ := a
  obtain ⟨d, w⟩ := b
  refine vcOf ((decide (w < v) = true → ((((SV.ptr 0 0 20).same (SV.ptr 0 0 20) ∧ (SV.ptr 1 0 2).same (SV.ptr 1 0 2) ∧ (SV.ptr 2 0 2).same (SV.ptr 2 0 2) ∧ (SV.ptr 3 0 2).same (SV.ptr 3 0 2) ∧ (SV.si .i64 f).same (SV.si .i64 f) ∧ True) ∧ (SObj.cells (Prob.ss p) 27 20 false).same (SObj.cells (Prob.ss p) 27 20 false) ∧ (SObj.cells [SV.row (SId.i .i64) c, SV.si .i64 v] 31 2 false).same (SObj.cells [SV.row (SId.i .i64) c, SV.si .i64 v] 31 2 false) ∧ (SObj.cells [SV.row (SId.i .i64) c, SV.si .i64 v] 31 2 false).same (SObj.cells [SV.row (SId.i .i64) (aS (SSt.mk [(4, SV.ptr 0 0 20), (5, SV.ptr 1 0 2), (7, SV.ptr 2 0 2), (8, SV.ptr 3 0 2), (9, SV.si .i64 f)] [SObj.cells (Prob.ss p) 27 20 false, SObj.cells [SV.row (SId.i .i64) c, SV.si .i64 v] 31 2 false, SObj.cells [SV.row (SId.i .i64) c, SV.si .i64 v] 31 2 false, SObj.cells [SV.sc (Value.slice none 0 0), SV.il .i64 0] 31 2 false]) 2).chosen, SV.si .i64 (aS (SSt.mk [(4, SV.ptr 0 0 20), (5, SV.ptr 1 0 2), (7, SV.ptr 2 0 2), (8, SV.ptr 3 0 2), (9, SV.si .i64 f)] [SObj.cells (Prob.ss p) 27 20 false, SObj.cells [SV.row (SId.i .i64) c, SV.si .i64 v] 31 2 false, SObj.cells [SV.row (SId.i .i64) c, SV.si .i64 v] 31 2 false, SObj.cells [SV.sc (Value.slice none 0 0), SV.il .i64 0] 31 2 false]) 2).value] 31 2 false) ∧ (SObj.cells [SV.sc (Value.slice none 0 0), SV.il .i64 0] 31 2 false).same (SObj.cells [SV.sc (Value.slice none 0 0), SV.il .i64 0] 31 2 false) ∧ True) ∧ f ≤ f ∧ f ≤ (↑p.offers.length : Int) ∧ (aS (SSt.mk [(4, SV.ptr 0 0 20), (5, SV.ptr 1 0 2), (7, SV.ptr 2 0 2), (8, SV.ptr 3 0 2), (9, SV.si .i64 f)] [SObj.cells (Prob.ss p) 27 20 false, SObj.cells [SV.row (SId.i .i64) c, SV.si .i64 v] 31 2 false, SObj.cells [SV.row (SId.i .i64) c, SV.si .i64 v] 31 2 false, SObj.cells [SV.sc (Value.slice none 0 0), SV.il .i64 0] 31 2 false]) 2).chosen.length ≤ 160 ∧ extS2 p (Alloc.mk c v) f (Alloc.mk d w) = extL p (leftN p f) f (Alloc.mk c v) (aS (SSt.mk [(4, SV.ptr 0 0 20), (5, SV.ptr 1 0 2), (7, SV.ptr 2 0 2), (8, SV.ptr 3 0 2), (9, SV.si .i64 f)] [SObj.cells (Prob.ss p) 27 20 false, SObj.cells [SV.row (SId.i .i64) c, SV.si .i64 v] 31 2 false, SObj.cells [SV.row (SId.i .i64) c, SV.si .i64 v] 31 2 false, SObj.cells [SV.sc (Value.slice none 0 0), SV.il .i64 0] 31 2 false]) 2)) ∧ ∀ (x : Int × Alloc), f ≤ x.fst ∧ x.fst ≤ (↑p.offers.length : Int) ∧ x.snd.chosen.length ≤ 160 ∧ extS2 p (Alloc.mk c v) f (Alloc.mk d w) = extL p (leftN p x.fst) x.fst (Alloc.mk c v) x.snd → (decide (x.fst < (↑p.offers.length : Int)) = true → 0 = 0 ∧ (0 + c.length) * 8 ≤ 140737488355328 ∧ 0 + c.length ≤ 1000000000000 ∧ c.length = c.length ∧ (c.length + 1) * 8 ≤ 140737488355328 ∧ c.length + 1 ≤ 1000000000000 ∧ (c ++ [x.fst]).length = (c ++ [x.fst]).length ∧ (Good p ∧ (c ++ [x.fst]).length ≤ 160 ∧ ∀ (i : Int), i ∈ c ++ [x.fst] → (0 : Int) ≤ i ∧ i < (↑p.offers.length : Int)) ∧ (ref23 p (c ++ [x.fst]) = true → (c ++ [x.fst]).length = (c ++ [x.fst]).length ∧ (0 : Int) ≤ x.fst ∧ x.fst < (↑p.offers.length : Int) ∧ x.fst.toNat < p.offers.length ∧ inR .i64 (v + (nthD p.offers x.fst.toNat SId.off.dflt).value) ∧ inR .i64 (x.fst + (1 : Int)) ∧ (extD p (Alloc.mk (c ++ [x.fst]) (v + (nthD p.offers x.fst.toNat SId.off.dflt).value)) (x.fst + (1 : Int)) x.snd ∧ leftN p (x.fst + (1 : Int)) < n) ∧ inR .i64 (x.fst + (1 : Int)) ∧ (((SV.ptr 0 0 20).same (SV.ptr 0 0 20) ∧ (SV.ptr 1 0 2).same (SV.ptr 1 0 2) ∧ (SV.ptr 2 0 2).same (SV.ptr 2 0 2) ∧ (SV.ptr 3 0 2).same (SV.ptr 3 0 2) ∧ (SV.si .i64 (x.fst + (1 : Int))).same (SV.si .i64 (x.fst + (1 : Int))) ∧ True) ∧ (SObj.cells (Prob.ss p) 27 20 false).same (SObj.cells (Prob.ss p) 27 20 false) ∧ (SObj.cells [SV.row (SId.i .i64) c, SV.si .i64 v] 31 2 false).same (SObj.cells [SV.row (SId.i .i64) c, SV.si .i64 v] 31 2 false) ∧ (SObj.cells [SV.row (SId.i .i64) (extS2 p (Alloc.mk (c ++ [x.fst]) (v + (nthD p.offers x.fst.toNat SId.off.dflt).value)) (x.fst + (1 : Int)) x.snd).chosen, SV.si .i64 (extS2 p (Alloc.mk (c ++ [x.fst]) (v + (nthD p.offers x.fst.toNat SId.off.dflt).value)) (x.fst + (1 : Int)) x.snd).value] 31 2 false).same (SObj.cells [SV.row (SId.i .i64) (aS (SSt.mk [(4, SV.ptr 0 0 20), (5, SV.ptr 1 0 2), (7, SV.ptr 2 0 2), (8, SV.ptr 3 0 2), (9, SV.si .i64 (x.fst + (1 : Int)))] [SObj.cells (Prob.ss p) 27 20 false, SObj.cells [SV.row (SId.i .i64) c, SV.si .i64 v] 31 2 false, SObj.cells [SV.row (SId.i .i64) (extS2 p (Alloc.mk (c ++ [x.fst]) (v + (nthD p.offers x.fst.toNat SId.off.dflt).value)) (x.fst + (1 : Int)) x.snd).chosen, SV.si .i64 (extS2 p (Alloc.mk (c ++ [x.fst]) (v + (nthD p.offers x.fst.toNat SId.off.dflt).value)) (x.fst + (1 : Int)) x.snd).value] 31 2 false, SObj.cells [SV.sc (Value.slice none 0 0), SV.il .i64 0] 31 2 false]) 2).chosen, SV.si .i64 (aS (SSt.mk [(4, SV.ptr 0 0 20), (5, SV.ptr 1 0 2), (7, SV.ptr 2 0 2), (8, SV.ptr 3 0 2), (9, SV.si .i64 (x.fst + (1 : Int)))] [SObj.cells (Prob.ss p) 27 20 false, SObj.cells [SV.row (SId.i .i64) c, SV.si .i64 v] 31 2 false, SObj.cells [SV.row (SId.i .i64) (extS2 p (Alloc.mk (c ++ [x.fst]) (v + (nthD p.offers x.fst.toNat SId.off.dflt).value)) (x.fst + (1 : Int)) x.snd).chosen, SV.si .i64 (extS2 p (Alloc.mk (c ++ [x.fst]) (v + (nthD p.offers x.fst.toNat SId.off.dflt).value)) (x.fst + (1 : Int)) x.snd).value] 31 2 false, SObj.cells [SV.sc (Value.slice none 0 0), SV.il .i64 0] 31 2 false]) 2).value] 31 2 false) ∧ (SObj.cells [SV.sc (Value.slice none 0 0), SV.il .i64 0] 31 2 false).same (SObj.cells [SV.sc (Value.slice none 0 0), SV.il .i64 0] 31 2 false) ∧ True) ∧ (f ≤ x.fst + (1 : Int) ∧ x.fst + (1 : Int) ≤ (↑p.offers.length : Int) ∧ (aS (SSt.mk [(4, SV.ptr 0 0 20), (5, SV.ptr 1 0 2), (7, SV.ptr 2 0 2), (8, SV.ptr 3 0 2), (9, SV.si .i64 (x.fst + (1 : Int)))] [SObj.cells (Prob.ss p) 27 20 false, SObj.cells [SV.row (SId.i .i64) c, SV.si .i64 v] 31 2 false, SObj.cells [SV.row (SId.i .i64) (extS2 p (Alloc.mk (c ++ [x.fst]) (v + (nthD p.offers x.fst.toNat SId.off.dflt).value)) (x.fst + (1 : Int)) x.snd).chosen, SV.si .i64 (extS2 p (Alloc.mk (c ++ [x.fst]) (v + (nthD p.offers x.fst.toNat SId.off.dflt).value)) (x.fst + (1 : Int)) x.snd).value] 31 2 false, SObj.cells [SV.sc (Value.slice none 0 0), SV.il .i64 0] 31 2 false]) 2).chosen.length ≤ 160 ∧ extS2 p (Alloc.mk c v) f (Alloc.mk d w) = extL p (leftN p (x.fst + (1 : Int))) (x.fst + (1 : Int)) (Alloc.mk c v) (aS (SSt.mk [(4, SV.ptr 0 0 20), (5, SV.ptr 1 0 2), (7, SV.ptr 2 0 2), (8, SV.ptr 3 0 2), (9, SV.si .i64 (x.fst + (1 : Int)))] [SObj.cells (Prob.ss p) 27 20 false, SObj.cells [SV.row (SId.i .i64) c, SV.si .i64 v] 31 2 false, SObj.cells [SV.row (SId.i .i64) (extS2 p (Alloc.mk (c ++ [x.fst]) (v + (nthD p.offers x.fst.toNat SId.off.dflt).value)) (x.fst + (1 : Int)) x.snd).chosen, SV.si .i64 (extS2 p (Alloc.mk (c ++ [x.fst]) (v + (nthD p.offers x.fst.toNat SId.off.dflt).value)) (x.fst + (1 : Int)) x.snd).value] 31 2 false, SObj.cells [SV.sc (Value.slice none 0 0), SV.il .i64 0] 31 2 false]) 2)) ∧ leftN p (x.fst + (1 : Int)) < leftN p x.fst) ∧ (ref23 p (c ++ [x.fst]) = false → inR .i64 (x.fst + (1 : Int)) ∧ (((SV.ptr 0 0 20).same (SV.ptr 0 0 20) ∧ (SV.ptr 1 0 2).same (SV.ptr 1 0 2) ∧ (SV.ptr 2 0 2).same (SV.ptr 2 0 2) ∧ (SV.ptr 3 0 2).same (SV.ptr 3 0 2) ∧ (SV.si .i64 (x.fst + (1 : Int))).same (SV.si .i64 (x.fst + (1 : Int))) ∧ True) ∧ (SObj.cells (Prob.ss p) 27 20 false).same (SObj.cells (Prob.ss p) 27 20 false) ∧ (SObj.cells [SV.row (SId.i .i64) c, SV.si .i64 v] 31 2 false).same (SObj.cells [SV.row (SId.i .i64) c, SV.si .i64 v] 31 2 false) ∧ (SObj.cells [SV.row (SId.i .i64) x.snd.chosen, SV.si .i64 x.snd.value] 31 2 false).same (SObj.cells [SV.row (SId.i .i64) (aS (SSt.mk [(4, SV.ptr 0 0 20), (5, SV.ptr 1 0 2), (7, SV.ptr 2 0 2), (8, SV.ptr 3 0 2), (9, SV.si .i64 (x.fst + (1 : Int)))] [SObj.cells (Prob.ss p) 27 20 false, SObj.cells [SV.row (SId.i .i64) c, SV.si .i64 v] 31 2 false, SObj.cells [SV.row (SId.i .i64) x.snd.chosen, SV.si .i64 x.snd.value] 31 2 false, SObj.cells [SV.sc (Value.slice none 0 0), SV.il .i64 0] 31 2 false]) 2).chosen, SV.si .i64 (aS (SSt.mk [(4, SV.ptr 0 0 20), (5, SV.ptr 1 0 2), (7, SV.ptr 2 0 2), (8, SV.ptr 3 0 2), (9, SV.si .i64 (x.fst + (1 : Int)))] [SObj.cells (Prob.ss p) 27 20 false, SObj.cells [SV.row (SId.i .i64) c, SV.si .i64 v] 31 2 false, SObj.cells [SV.row (SId.i .i64) x.snd.chosen, SV.si .i64 x.snd.value] 31 2 false, SObj.cells [SV.sc (Value.slice none 0 0), SV.il .i64 0] 31 2 false]) 2).value] 31 2 false) ∧ (SObj.cells [SV.sc (Value.slice none 0 0), SV.il .i64 0] 31 2 false).same (SObj.cells [SV.sc (Value.slice none 0 0), SV.il .i64 0] 31 2 false) ∧ True) ∧ (f ≤ x.fst + (1 : Int) ∧ x.fst + (1 : Int) ≤ (↑p.offers.length : Int) ∧ (aS (SSt.mk [(4, SV.ptr 0 0 20), (5, SV.ptr 1 0 2), (7, SV.ptr 2 0 2), (8, SV.ptr 3 0 2), (9, SV.si .i64 (x.fst + (1 : Int)))] [SObj.cells (Prob.ss p) 27 20 false, SObj.cells [SV.row (SId.i .i64) c, SV.si .i64 v] 31 2 false, SObj.cells [SV.row (SId.i .i64) x.snd.chosen, SV.si .i64 x.snd.value] 31 2 false, SObj.cells [SV.sc (Value.slice none 0 0), SV.il .i64 0] 31 2 false]) 2).chosen.length ≤ 160 ∧ extS2 p (Alloc.mk c v) f (Alloc.mk d w) = extL p (leftN p (x.fst + (1 : Int))) (x.fst + (1 : Int)) (Alloc.mk c v) (aS (SSt.mk [(4, SV.ptr 0 0 20), (5, SV.ptr 1 0 2), (7, SV.ptr 2 0 2), (8, SV.ptr 3 0 2), (9, SV.si .i64 (x.fst + (1 : Int)))] [SObj.cells (Prob.ss p) 27 20 false, SObj.cells [SV.row (SId.i .i64) c, SV.si .i64 v] 31 2 false, SObj.cells [SV.row (SId.i .i64) x.snd.chosen, SV.si .i64 x.snd.value] 31 2 false, SObj.cells [SV.sc (Value.slice none 0 0), SV.il .i64 0] 31 2 false]) 2)) ∧ leftN p (x.fst + (1 : Int)) < leftN p x.fst)) ∧ (decide (x.fst < (↑p.offers.length : Int)) = false → (SV.agg [SV.row (SId.i .i64) x.snd.chosen, SV.si .i64 x.snd.value]).same (SV.agg [SV.row (SId.i .i64) (extS2 p (Alloc.mk c v) f (Alloc.mk d w)).chosen, SV.si .i64 (extS2 p (Alloc.mk c v) f (Alloc.mk d w)).value]))) ∧ (decide (w < v) = false → (decide (v = w) = true → (c.length ≤ 1000000000000 ∧ d.length ≤ 1000000000000) ∧ (decide (cmpL c d < (0 : Int)) = true → ((((SV.ptr 0 0 20).same (SV.ptr 0 0 20) ∧ (SV.ptr 1 0 2).same (SV.ptr 1 0 2) ∧ (SV.ptr 2 0 2).same (SV.ptr 2 0 2) ∧ (SV.ptr 3 0 2).same (SV.ptr 3 0 2) ∧ (SV.si .i64 f).same (SV.si .i64 f) ∧ True) ∧ (SObj.cells (Prob.ss p) 27 20 false).same (SObj.cells (Prob.ss p) 27 20 false) ∧ (SObj.cells [SV.row (SId.i .i64) c, SV.si .i64 v] 31 2 false).same (SObj.cells [SV.row (SId.i .i64) c, SV.si .i64 v] 31 2 false) ∧ (SObj.cells [SV.row (SId.i .i64) c, SV.si .i64 v] 31 2 false).same (SObj.cells [SV.row (SId.i .i64) (aS (SSt.mk [(4, SV.ptr 0 0 20), (5, SV.ptr 1 0 2), (7, SV.ptr 2 0 2), (8, SV.ptr 3 0 2), (9, SV.si .i64 f)] [SObj.cells (Prob.ss p) 27 20 false, SObj.cells [SV.row (SId.i .i64) c, SV.si .i64 v] 31 2 false, SObj.cells [SV.row (SId.i .i64) c, SV.si .i64 v] 31 2 false, SObj.cells [SV.sc (Value.slice none 0 0), SV.il .i64 0] 31 2 false]) 2).chosen, SV.si .i64 (aS (SSt.mk [(4, SV.ptr 0 0 20), (5, SV.ptr 1 0 2), (7, SV.ptr 2 0 2), (8, SV.ptr 3 0 2), (9, SV.si .i64 f)] [SObj.cells (Prob.ss p) 27 20 false, SObj.cells [SV.row (SId.i .i64) c, SV.si .i64 v] 31 2 false, SObj.cells [SV.row (SId.i .i64) c, SV.si .i64 v] 31 2 false, SObj.cells [SV.sc (Value.slice none 0 0), SV.il .i64 0] 31 2 false]) 2).value] 31 2 false) ∧ (SObj.cells [SV.sc (Value.slice none 0 0), SV.il .i64 0] 31 2 false).same (SObj.cells [SV.sc (Value.slice none 0 0), SV.il .i64 0] 31 2 false) ∧ True) ∧ f ≤ f ∧ f ≤ (↑p.offers.length : Int) ∧ (aS (SSt.mk [(4, SV.ptr 0 0 20), (5, SV.ptr 1 0 2), (7, SV.ptr 2 0 2), (8, SV.ptr 3 0 2), (9, SV.si .i64 f)] [SObj.cells (Prob.ss p) 27 20 false, SObj.cells [SV.row (SId.i .i64) c, SV.si .i64 v] 31 2 false, SObj.cells [SV.row (SId.i .i64) c, SV.si .i64 v] 31 2 false, SObj.cells [SV.sc (Value.slice none 0 0), SV.il .i64 0] 31 2 false]) 2).chosen.length ≤ 160 ∧ extS2 p (Alloc.mk c v) f (Alloc.mk d w) = extL p (leftN p f) f (Alloc.mk c v) (aS (SSt.mk [(4, SV.ptr 0 0 20), (5, SV.ptr 1 0 2), (7, SV.ptr 2 0 2), (8, SV.ptr 3 0 2), (9, SV.si .i64 f)] [SObj.cells (Prob.ss p) 27 20 false, SObj.cells [SV.row (SId.i .i64) c, SV.si .i64 v] 31 2 false, SObj.cells [SV.row (SId.i .i64) c, SV.si .i64 v] 31 2 false, SObj.cells [SV.sc (Value.slice none 0 0), SV.il .i64 0] 31 2 false]) 2)) ∧ ∀ (x : Int × Alloc), f ≤ x.fst ∧ x.fst ≤ (↑p.offers.length : Int) ∧ x.snd.chosen.length ≤ 160 ∧ extS2 p (Alloc.mk c v) f (Alloc.mk d w) = extL p (leftN p x.fst) x.fst (Alloc.mk c v) x.snd → (decide (x.fst < (↑p.offers.length : Int)) = true → 0 = 0 ∧ (0 + c.length) * 8 ≤ 140737488355328 ∧ 0 + c.length ≤ 1000000000000 ∧ c.length = c.length ∧ (c.length + 1) * 8 ≤ 140737488355328 ∧ c.length + 1 ≤ 1000000000000 ∧ (c ++ [x.fst]).length = (c ++ [x.fst]).length ∧ (Good p ∧ (c ++ [x.fst]).length ≤ 160 ∧ ∀ (i : Int), i ∈ c ++ [x.fst] → (0 : Int) ≤ i ∧ i < (↑p.offers.length : Int)) ∧ (ref23 p (c ++ [x.fst]) = true → (c ++ [x.fst]).length = (c ++ [x.fst]).length ∧ (0 : Int) ≤ x.fst ∧ x.fst < (↑p.offers.length : Int) ∧ x.fst.toNat < p.offers.length ∧ inR .i64 (v + (nthD p.offers x.fst.toNat SId.off.dflt).value) ∧ inR .i64 (x.fst + (1 : Int)) ∧ (extD p (Alloc.mk (c ++ [x.fst]) (v + (nthD p.offers x.fst.toNat SId.off.dflt).value)) (x.fst + (1 : Int)) x.snd ∧ leftN p (x.fst + (1 : Int)) < n) ∧ inR .i64 (x.fst + (1 : Int)) ∧ (((SV.ptr 0 0 20).same (SV.ptr 0 0 20) ∧ (SV.ptr 1 0 2).same (SV.ptr 1 0 2) ∧ (SV.ptr 2 0 2).same (SV.ptr 2 0 2) ∧ (SV.ptr 3 0 2).same (SV.ptr 3 0 2) ∧ (SV.si .i64 (x.fst + (1 : Int))).same (SV.si .i64 (x.fst + (1 : Int))) ∧ True) ∧ (SObj.cells (Prob.ss p) 27 20 false).same (SObj.cells (Prob.ss p) 27 20 false) ∧ (SObj.cells [SV.row (SId.i .i64) c, SV.si .i64 v] 31 2 false).same (SObj.cells [SV.row (SId.i .i64) c, SV.si .i64 v] 31 2 false) ∧ (SObj.cells [SV.row (SId.i .i64) (extS2 p (Alloc.mk (c ++ [x.fst]) (v + (nthD p.offers x.fst.toNat SId.off.dflt).value)) (x.fst + (1 : Int)) x.snd).chosen, SV.si .i64 (extS2 p (Alloc.mk (c ++ [x.fst]) (v + (nthD p.offers x.fst.toNat SId.off.dflt).value)) (x.fst + (1 : Int)) x.snd).value] 31 2 false).same (SObj.cells [SV.row (SId.i .i64) (aS (SSt.mk [(4, SV.ptr 0 0 20), (5, SV.ptr 1 0 2), (7, SV.ptr 2 0 2), (8, SV.ptr 3 0 2), (9, SV.si .i64 (x.fst + (1 : Int)))] [SObj.cells (Prob.ss p) 27 20 false, SObj.cells [SV.row (SId.i .i64) c, SV.si .i64 v] 31 2 false, SObj.cells [SV.row (SId.i .i64) (extS2 p (Alloc.mk (c ++ [x.fst]) (v + (nthD p.offers x.fst.toNat SId.off.dflt).value)) (x.fst + (1 : Int)) x.snd).chosen, SV.si .i64 (extS2 p (Alloc.mk (c ++ [x.fst]) (v + (nthD p.offers x.fst.toNat SId.off.dflt).value)) (x.fst + (1 : Int)) x.snd).value] 31 2 false, SObj.cells [SV.sc (Value.slice none 0 0), SV.il .i64 0] 31 2 false]) 2).chosen, SV.si .i64 (aS (SSt.mk [(4, SV.ptr 0 0 20), (5, SV.ptr 1 0 2), (7, SV.ptr 2 0 2), (8, SV.ptr 3 0 2), (9, SV.si .i64 (x.fst + (1 : Int)))] [SObj.cells (Prob.ss p) 27 20 false, SObj.cells [SV.row (SId.i .i64) c, SV.si .i64 v] 31 2 false, SObj.cells [SV.row (SId.i .i64) (extS2 p (Alloc.mk (c ++ [x.fst]) (v + (nthD p.offers x.fst.toNat SId.off.dflt).value)) (x.fst + (1 : Int)) x.snd).chosen, SV.si .i64 (extS2 p (Alloc.mk (c ++ [x.fst]) (v + (nthD p.offers x.fst.toNat SId.off.dflt).value)) (x.fst + (1 : Int)) x.snd).value] 31 2 false, SObj.cells [SV.sc (Value.slice none 0 0), SV.il .i64 0] 31 2 false]) 2).value] 31 2 false) ∧ (SObj.cells [SV.sc (Value.slice none 0 0), SV.il .i64 0] 31 2 false).same (SObj.cells [SV.sc (Value.slice none 0 0), SV.il .i64 0] 31 2 false) ∧ True) ∧ (f ≤ x.fst + (1 : Int) ∧ x.fst + (1 : Int) ≤ (↑p.offers.length : Int) ∧ (aS (SSt.mk [(4, SV.ptr 0 0 20), (5, SV.ptr 1 0 2), (7, SV.ptr 2 0 2), (8, SV.ptr 3 0 2), (9, SV.si .i64 (x.fst + (1 : Int)))] [SObj.cells (Prob.ss p) 27 20 false, SObj.cells [SV.row (SId.i .i64) c, SV.si .i64 v] 31 2 false, SObj.cells [SV.row (SId.i .i64) (extS2 p (Alloc.mk (c ++ [x.fst]) (v + (nthD p.offers x.fst.toNat SId.off.dflt).value)) (x.fst + (1 : Int)) x.snd).chosen, SV.si .i64 (extS2 p (Alloc.mk (c ++ [x.fst]) (v + (nthD p.offers x.fst.toNat SId.off.dflt).value)) (x.fst + (1 : Int)) x.snd).value] 31 2 false, SObj.cells [SV.sc (Value.slice none 0 0), SV.il .i64 0] 31 2 false]) 2).chosen.length ≤ 160 ∧ extS2 p (Alloc.mk c v) f (Alloc.mk d w) = extL p (leftN p (x.fst + (1 : Int))) (x.fst + (1 : Int)) (Alloc.mk c v) (aS (SSt.mk [(4, SV.ptr 0 0 20), (5, SV.ptr 1 0 2), (7, SV.ptr 2 0 2), (8, SV.ptr 3 0 2), (9, SV.si .i64 (x.fst + (1 : Int)))] [SObj.cells (Prob.ss p) 27 20 false, SObj.cells [SV.row (SId.i .i64) c, SV.si .i64 v] 31 2 false, SObj.cells [SV.row (SId.i .i64) (extS2 p (Alloc.mk (c ++ [x.fst]) (v + (nthD p.offers x.fst.toNat SId.off.dflt).value)) (x.fst + (1 : Int)) x.snd).chosen, SV.si .i64 (extS2 p (Alloc.mk (c ++ [x.fst]) (v + (nthD p.offers x.fst.toNat SId.off.dflt).value)) (x.fst + (1 : Int)) x.snd).value] 31 2 false, SObj.cells [SV.sc (Value.slice none 0 0), SV.il .i64 0] 31 2 false]) 2)) ∧ leftN p (x.fst + (1 : Int)) < leftN p x.fst) ∧ (ref23 p (c ++ [x.fst]) = false → inR .i64 (x.fst + (1 : Int)) ∧ (((SV.ptr 0 0 20).same (SV.ptr 0 0 20) ∧ (SV.ptr 1 0 2).same (SV.ptr 1 0 2) ∧ (SV.ptr 2 0 2).same (SV.ptr 2 0 2) ∧ (SV.ptr 3 0 2).same (SV.ptr 3 0 2) ∧ (SV.si .i64 (x.fst + (1 : Int))).same (SV.si .i64 (x.fst + (1 : Int))) ∧ True) ∧ (SObj.cells (Prob.ss p) 27 20 false).same (SObj.cells (Prob.ss p) 27 20 false) ∧ (SObj.cells [SV.row (SId.i .i64) c, SV.si .i64 v] 31 2 false).same (SObj.cells [SV.row (SId.i .i64) c, SV.si .i64 v] 31 2 false) ∧ (SObj.cells [SV.row (SId.i .i64) x.snd.chosen, SV.si .i64 x.snd.value] 31 2 false).same (SObj.cells [SV.row (SId.i .i64) (aS (SSt.mk [(4, SV.ptr 0 0 20), (5, SV.ptr 1 0 2), (7, SV.ptr 2 0 2), (8, SV.ptr 3 0 2), (9, SV.si .i64 (x.fst + (1 : Int)))] [SObj.cells (Prob.ss p) 27 20 false, SObj.cells [SV.row (SId.i .i64) c, SV.si .i64 v] 31 2 false, SObj.cells [SV.row (SId.i .i64) x.snd.chosen, SV.si .i64 x.snd.value] 31 2 false, SObj.cells [SV.sc (Value.slice none 0 0), SV.il .i64 0] 31 2 false]) 2).chosen, SV.si .i64 (aS (SSt.mk [(4, SV.ptr 0 0 20), (5, SV.ptr 1 0 2), (7, SV.ptr 2 0 2), (8, SV.ptr 3 0 2), (9, SV.si .i64 (x.fst + (1 : Int)))] [SObj.cells (Prob.ss p) 27 20 false, SObj.cells [SV.row (SId.i .i64) c, SV.si .i64 v] 31 2 false, SObj.cells [SV.row (SId.i .i64) x.snd.chosen, SV.si .i64 x.snd.value] 31 2 false, SObj.cells [SV.sc (Value.slice none 0 0), SV.il .i64 0] 31 2 false]) 2).value] 31 2 false) ∧ (SObj.cells [SV.sc (Value.slice none 0 0), SV.il .i64 0] 31 2 false).same (SObj.cells [SV.sc (Value.slice none 0 0), SV.il .i64 0] 31 2 false) ∧ True) ∧ (f ≤ x.fst + (1 : Int) ∧ x.fst + (1 : Int) ≤ (↑p.offers.length : Int) ∧ (aS (SSt.mk [(4, SV.ptr 0 0 20), (5, SV.ptr 1 0 2), (7, SV.ptr 2 0 2), (8, SV.ptr 3 0 2), (9, SV.si .i64 (x.fst + (1 : Int)))] [SObj.cells (Prob.ss p) 27 20 false, SObj.cells [SV.row (SId.i .i64) c, SV.si .i64 v] 31 2 false, SObj.cells [SV.row (SId.i .i64) x.snd.chosen, SV.si .i64 x.snd.value] 31 2 false, SObj.cells [SV.sc (Value.slice none 0 0), SV.il .i64 0] 31 2 false]) 2).chosen.length ≤ 160 ∧ extS2 p (Alloc.mk c v) f (Alloc.mk d w) = extL p (leftN p (x.fst + (1 : Int))) (x.fst + (1 : Int)) (Alloc.mk c v) (aS (SSt.mk [(4, SV.ptr 0 0 20), (5, SV.ptr 1 0 2), (7, SV.ptr 2 0 2), (8, SV.ptr 3 0 2), (9, SV.si .i64 (x.fst + (1 : Int)))] [SObj.cells (Prob.ss p) 27 20 false, SObj.cells [SV.row (SId.i .i64) c, SV.si .i64 v] 31 2 false, SObj.cells [SV.row (SId.i .i64) x.snd.chosen, SV.si .i64 x.snd.value] 31 2 false, SObj.cells [SV.sc (Value.slice none 0 0), SV.il .i64 0] 31 2 false]) 2)) ∧ leftN p (x.fst + (1 : Int)) < leftN p x.fst)) ∧ (decide (x.fst < (↑p.offers.length : Int)) = false → (SV.agg [SV.row (SId.i .i64) x.snd.chosen, SV.si .i64 x.snd.value]).same (SV.agg [SV.row (SId.i .i64) (extS2 p (Alloc.mk c v) f (Alloc.mk d w)).chosen, SV.si .i64 (extS2 p (Alloc.mk c v) f (Alloc.mk d w)).value]))) ∧ (decide (cmpL c d < (0 : Int)) = false → ((((SV.ptr 0 0 20).same (SV.ptr 0 0 20) ∧ (SV.ptr 1 0 2).same (SV.ptr 1 0 2) ∧ (SV.ptr 2 0 2).same (SV.ptr 2 0 2) ∧ (SV.ptr 3 0 2).same (SV.ptr 3 0 2) ∧ (SV.si .i64 f).same (SV.si .i64 f) ∧ True) ∧ (SObj.cells (Prob.ss p) 27 20 false).same (SObj.cells (Prob.ss p) 27 20 false) ∧ (SObj.cells [SV.row (SId.i .i64) c, SV.si .i64 v] 31 2 false).same (SObj.cells [SV.row (SId.i .i64) c, SV.si .i64 v] 31 2 false) ∧ (SObj.cells [SV.row (SId.i .i64) d, SV.si .i64 w] 31 2 false).same (SObj.cells [SV.row (SId.i .i64) (aS (SSt.mk [(4, SV.ptr 0 0 20), (5, SV.ptr 1 0 2), (7, SV.ptr 2 0 2), (8, SV.ptr 3 0 2), (9, SV.si .i64 f)] [SObj.cells (Prob.ss p) 27 20 false, SObj.cells [SV.row (SId.i .i64) c, SV.si .i64 v] 31 2 false, SObj.cells [SV.row (SId.i .i64) d, SV.si .i64 w] 31 2 false, SObj.cells [SV.sc (Value.slice none 0 0), SV.il .i64 0] 31 2 false]) 2).chosen, SV.si .i64 (aS (SSt.mk [(4, SV.ptr 0 0 20), (5, SV.ptr 1 0 2), (7, SV.ptr 2 0 2), (8, SV.ptr 3 0 2), (9, SV.si .i64 f)] [SObj.cells (Prob.ss p) 27 20 false, SObj.cells [SV.row (SId.i .i64) c, SV.si .i64 v] 31 2 false, SObj.cells [SV.row (SId.i .i64) d, SV.si .i64 w] 31 2 false, SObj.cells [SV.sc (Value.slice none 0 0), SV.il .i64 0] 31 2 false]) 2).value] 31 2 false) ∧ (SObj.cells [SV.sc (Value.slice none 0 0), SV.il .i64 0] 31 2 false).same (SObj.cells [SV.sc (Value.slice none 0 0), SV.il .i64 0] 31 2 false) ∧ True) ∧ f ≤ f ∧ f ≤ (↑p.offers.length : Int) ∧ (aS (SSt.mk [(4, SV.ptr 0 0 20), (5, SV.ptr 1 0 2), (7, SV.ptr 2 0 2), (8, SV.ptr 3 0 2), (9, SV.si .i64 f)] [SObj.cells (Prob.ss p) 27 20 false, SObj.cells [SV.row (SId.i .i64) c, SV.si .i64 v] 31 2 false, SObj.cells [SV.row (SId.i .i64) d, SV.si .i64 w] 31 2 false, SObj.cells [SV.sc (Value.slice none 0 0), SV.il .i64 0] 31 2 false]) 2).chosen.length ≤ 160 ∧ extS2 p (Alloc.mk c v) f (Alloc.mk d w) = extL p (leftN p f) f (Alloc.mk c v) (aS (SSt.mk [(4, SV.ptr 0 0 20), (5, SV.ptr 1 0 2), (7, SV.ptr 2 0 2), (8, SV.ptr 3 0 2), (9, SV.si .i64 f)] [SObj.cells (Prob.ss p) 27 20 false, SObj.cells [SV.row (SId.i .i64) c, SV.si .i64 v] 31 2 false, SObj.cells [SV.row (SId.i .i64) d, SV.si .i64 w] 31 2 false, SObj.cells [SV.sc (Value.slice none 0 0), SV.il .i64 0] 31 2 false]) 2)) ∧ ∀ (x : Int × Alloc), f ≤ x.fst ∧ x.fst ≤ (↑p.offers.length : Int) ∧ x.snd.chosen.length ≤ 160 ∧ extS2 p (Alloc.mk c v) f (Alloc.mk d w) = extL p (leftN p x.fst) x.fst (Alloc.mk c v) x.snd → (decide (x.fst < (↑p.offers.length : Int)) = true → 0 = 0 ∧ (0 + c.length) * 8 ≤ 140737488355328 ∧ 0 + c.length ≤ 1000000000000 ∧ c.length = c.length ∧ (c.length + 1) * 8 ≤ 140737488355328 ∧ c.length + 1 ≤ 1000000000000 ∧ (c ++ [x.fst]).length = (c ++ [x.fst]).length ∧ (Good p ∧ (c ++ [x.fst]).length ≤ 160 ∧ ∀ (i : Int), i ∈ c ++ [x.fst] → (0 : Int) ≤ i ∧ i < (↑p.offers.length : Int)) ∧ (ref23 p (c ++ [x.fst]) = true → (c ++ [x.fst]).length = (c ++ [x.fst]).length ∧ (0 : Int) ≤ x.fst ∧ x.fst < (↑p.offers.length : Int) ∧ x.fst.toNat < p.offers.length ∧ inR .i64 (v + (nthD p.offers x.fst.toNat SId.off.dflt).value) ∧ inR .i64 (x.fst + (1 : Int)) ∧ (extD p (Alloc.mk (c ++ [x.fst]) (v + (nthD p.offers x.fst.toNat SId.off.dflt).value)) (x.fst + (1 : Int)) x.snd ∧ leftN p (x.fst + (1 : Int)) < n) ∧ inR .i64 (x.fst + (1 : Int)) ∧ (((SV.ptr 0 0 20).same (SV.ptr 0 0 20) ∧ (SV.ptr 1 0 2).same (SV.ptr 1 0 2) ∧ (SV.ptr 2 0 2).same (SV.ptr 2 0 2) ∧ (SV.ptr 3 0 2).same (SV.ptr 3 0 2) ∧ (SV.si .i64 (x.fst + (1 : Int))).same (SV.si .i64 (x.fst + (1 : Int))) ∧ True) ∧ (SObj.cells (Prob.ss p) 27 20 false).same (SObj.cells (Prob.ss p) 27 20 false) ∧ (SObj.cells [SV.row (SId.i .i64) c, SV.si .i64 v] 31 2 false).same (SObj.cells [SV.row (SId.i .i64) c, SV.si .i64 v] 31 2 false) ∧ (SObj.cells [SV.row (SId.i .i64) (extS2 p (Alloc.mk (c ++ [x.fst]) (v + (nthD p.offers x.fst.toNat SId.off.dflt).value)) (x.fst + (1 : Int)) x.snd).chosen, SV.si .i64 (extS2 p (Alloc.mk (c ++ [x.fst]) (v + (nthD p.offers x.fst.toNat SId.off.dflt).value)) (x.fst + (1 : Int)) x.snd).value] 31 2 false).same (SObj.cells [SV.row (SId.i .i64) (aS (SSt.mk [(4, SV.ptr 0 0 20), (5, SV.ptr 1 0 2), (7, SV.ptr 2 0 2), (8, SV.ptr 3 0 2), (9, SV.si .i64 (x.fst + (1 : Int)))] [SObj.cells (Prob.ss p) 27 20 false, SObj.cells [SV.row (SId.i .i64) c, SV.si .i64 v] 31 2 false, SObj.cells [SV.row (SId.i .i64) (extS2 p (Alloc.mk (c ++ [x.fst]) (v + (nthD p.offers x.fst.toNat SId.off.dflt).value)) (x.fst + (1 : Int)) x.snd).chosen, SV.si .i64 (extS2 p (Alloc.mk (c ++ [x.fst]) (v + (nthD p.offers x.fst.toNat SId.off.dflt).value)) (x.fst + (1 : Int)) x.snd).value] 31 2 false, SObj.cells [SV.sc (Value.slice none 0 0), SV.il .i64 0] 31 2 false]) 2).chosen, SV.si .i64 (aS (SSt.mk [(4, SV.ptr 0 0 20), (5, SV.ptr 1 0 2), (7, SV.ptr 2 0 2), (8, SV.ptr 3 0 2), (9, SV.si .i64 (x.fst + (1 : Int)))] [SObj.cells (Prob.ss p) 27 20 false, SObj.cells [SV.row (SId.i .i64) c, SV.si .i64 v] 31 2 false, SObj.cells [SV.row (SId.i .i64) (extS2 p (Alloc.mk (c ++ [x.fst]) (v + (nthD p.offers x.fst.toNat SId.off.dflt).value)) (x.fst + (1 : Int)) x.snd).chosen, SV.si .i64 (extS2 p (Alloc.mk (c ++ [x.fst]) (v + (nthD p.offers x.fst.toNat SId.off.dflt).value)) (x.fst + (1 : Int)) x.snd).value] 31 2 false, SObj.cells [SV.sc (Value.slice none 0 0), SV.il .i64 0] 31 2 false]) 2).value] 31 2 false) ∧ (SObj.cells [SV.sc (Value.slice none 0 0), SV.il .i64 0] 31 2 false).same (SObj.cells [SV.sc (Value.slice none 0 0), SV.il .i64 0] 31 2 false) ∧ True) ∧ (f ≤ x.fst + (1 : Int) ∧ x.fst + (1 : Int) ≤ (↑p.offers.length : Int) ∧ (aS (SSt.mk [(4, SV.ptr 0 0 20), (5, SV.ptr 1 0 2), (7, SV.ptr 2 0 2), (8, SV.ptr 3 0 2), (9, SV.si .i64 (x.fst + (1 : Int)))] [SObj.cells (Prob.ss p) 27 20 false, SObj.cells [SV.row (SId.i .i64) c, SV.si .i64 v] 31 2 false, SObj.cells [SV.row (SId.i .i64) (extS2 p (Alloc.mk (c ++ [x.fst]) (v + (nthD p.offers x.fst.toNat SId.off.dflt).value)) (x.fst + (1 : Int)) x.snd).chosen, SV.si .i64 (extS2 p (Alloc.mk (c ++ [x.fst]) (v + (nthD p.offers x.fst.toNat SId.off.dflt).value)) (x.fst + (1 : Int)) x.snd).value] 31 2 false, SObj.cells [SV.sc (Value.slice none 0 0), SV.il .i64 0] 31 2 false]) 2).chosen.length ≤ 160 ∧ extS2 p (Alloc.mk c v) f (Alloc.mk d w) = extL p (leftN p (x.fst + (1 : Int))) (x.fst + (1 : Int)) (Alloc.mk c v) (aS (SSt.mk [(4, SV.ptr 0 0 20), (5, SV.ptr 1 0 2), (7, SV.ptr 2 0 2), (8, SV.ptr 3 0 2), (9, SV.si .i64 (x.fst + (1 : Int)))] [SObj.cells (Prob.ss p) 27 20 false, SObj.cells [SV.row (SId.i .i64) c, SV.si .i64 v] 31 2 false, SObj.cells [SV.row (SId.i .i64) (extS2 p (Alloc.mk (c ++ [x.fst]) (v + (nthD p.offers x.fst.toNat SId.off.dflt).value)) (x.fst + (1 : Int)) x.snd).chosen, SV.si .i64 (extS2 p (Alloc.mk (c ++ [x.fst]) (v + (nthD p.offers x.fst.toNat SId.off.dflt).value)) (x.fst + (1 : Int)) x.snd).value] 31 2 false, SObj.cells [SV.sc (Value.slice none 0 0), SV.il .i64 0] 31 2 false]) 2)) ∧ leftN p (x.fst + (1 : Int)) < leftN p x.fst) ∧ (ref23 p (c ++ [x.fst]) = false → inR .i64 (x.fst + (1 : Int)) ∧ (((SV.ptr 0 0 20).same (SV.ptr 0 0 20) ∧ (SV.ptr 1 0 2).same (SV.ptr 1 0 2) ∧ (SV.ptr 2 0 2).same (SV.ptr 2 0 2) ∧ (SV.ptr 3 0 2).same (SV.ptr 3 0 2) ∧ (SV.si .i64 (x.fst + (1 : Int))).same (SV.si .i64 (x.fst + (1 : Int))) ∧ True) ∧ (SObj.cells (Prob.ss p) 27 20 false).same (SObj.cells (Prob.ss p) 27 20 false) ∧ (SObj.cells [SV.row (SId.i .i64) c, SV.si .i64 v] 31 2 false).same (SObj.cells [SV.row (SId.i .i64) c, SV.si .i64 v] 31 2 false) ∧ (SObj.cells [SV.row (SId.i .i64) x.snd.chosen, SV.si .i64 x.snd.value] 31 2 false).same (SObj.cells [SV.row (SId.i .i64) (aS (SSt.mk [(4, SV.ptr 0 0 20), (5, SV.ptr 1 0 2), (7, SV.ptr 2 0 2), (8, SV.ptr 3 0 2), (9, SV.si .i64 (x.fst + (1 : Int)))] [SObj.cells (Prob.ss p) 27 20 false, SObj.cells [SV.row (SId.i .i64) c, SV.si .i64 v] 31 2 false, SObj.cells [SV.row (SId.i .i64) x.snd.chosen, SV.si .i64 x.snd.value] 31 2 false, SObj.cells [SV.sc (Value.slice none 0 0), SV.il .i64 0] 31 2 false]) 2).chosen, SV.si .i64 (aS (SSt.mk [(4, SV.ptr 0 0 20), (5, SV.ptr 1 0 2), (7, SV.ptr 2 0 2), (8, SV.ptr 3 0 2), (9, SV.si .i64 (x.fst + (1 : Int)))] [SObj.cells (Prob.ss p) 27 20 false, SObj.cells [SV.row (SId.i .i64) c, SV.si .i64 v] 31 2 false, SObj.cells [SV.row (SId.i .i64) x.snd.chosen, SV.si .i64 x.snd.value] 31 2 false, SObj.cells [SV.sc (Value.slice none 0 0), SV.il .i64 0] 31 2 false]) 2).value] 31 2 false) ∧ (SObj.cells [SV.sc (Value.slice none 0 0), SV.il .i64 0] 31 2 false).same (SObj.cells [SV.sc (Value.slice none 0 0), SV.il .i64 0] 31 2 false) ∧ True) ∧ (f ≤ x.fst + (1 : Int) ∧ x.fst + (1 : Int) ≤ (↑p.offers.length : Int) ∧ (aS (SSt.mk [(4, SV.ptr 0 0 20), (5, SV.ptr 1 0 2), (7, SV.ptr 2 0 2), (8, SV.ptr 3 0 2), (9, SV.si .i64 (x.fst + (1 : Int)))] [SObj.cells (Prob.ss p) 27 20 false, SObj.cells [SV.row (SId.i .i64) c, SV.si .i64 v] 31 2 false, SObj.cells [SV.row (SId.i .i64) x.snd.chosen, SV.si .i64 x.snd.value] 31 2 false, SObj.cells [SV.sc (Value.slice none 0 0), SV.il .i64 0] 31 2 false]) 2).chosen.length ≤ 160 ∧ extS2 p (Alloc.mk c v) f (Alloc.mk d w) = extL p (leftN p (x.fst + (1 : Int))) (x.fst + (1 : Int)) (Alloc.mk c v) (aS (SSt.mk [(4, SV.ptr 0 0 20), (5, SV.ptr 1 0 2), (7, SV.ptr 2 0 2), (8, SV.ptr 3 0 2), (9, SV.si .i64 (x.fst + (1 : Int)))] [SObj.cells (Prob.ss p) 27 20 false, SObj.cells [SV.row (SId.i .i64) c, SV.si .i64 v] 31 2 false, SObj.cells [SV.row (SId.i .i64) x.snd.chosen, SV.si .i64 x.snd.value] 31 2 false, SObj.cells [SV.sc (Value.slice none 0 0), SV.il .i64 0] 31 2 false]) 2)) ∧ leftN p (x.fst + (1 : Int)) < leftN p x.fst)) ∧ (decide (x.fst < (↑p.offers.length : Int)) = false → (SV.agg [SV.row (SId.i .i64) x.snd.chosen, SV.si .i64 x.snd.value]).same (SV.agg [SV.row (SId.i .i64) (extS2 p (Alloc.mk c v) f (Alloc.mk d w)).chosen, SV.si .i64 (extS2 p (Alloc.mk c v) f (Alloc.mk d w)).value])))) ∧ (decide (v = w) = false → ((((SV.ptr 0 0 20).same (SV.ptr 0 0 20) ∧ (SV.ptr 1 0 2).same (SV.ptr 1 0 2) ∧ (SV.ptr 2 0 2).same (SV.ptr 2 0 2) ∧ (SV.ptr 3 0 2).same (SV.ptr 3 0 2) ∧ (SV.si .i64 f).same (SV.si .i64 f) ∧ True) ∧ (SObj.cells (Prob.ss p) 27 20 false).same (SObj.cells (Prob.ss p) 27 20 false) ∧ (SObj.cells [SV.row (SId.i .i64) c, SV.si .i64 v] 31 2 false).same (SObj.cells [SV.row (SId.i .i64) c, SV.si .i64 v] 31 2 false) ∧ (SObj.cells [SV.row (SId.i .i64) d, SV.si .i64 w] 31 2 false).same (SObj.cells [SV.row (SId.i .i64) (aS (SSt.mk [(4, SV.ptr 0 0 20), (5, SV.ptr 1 0 2), (7, SV.ptr 2 0 2), (8, SV.ptr 3 0 2), (9, SV.si .i64 f)] [SObj.cells (Prob.ss p) 27 20 false, SObj.cells [SV.row (SId.i .i64) c, SV.si .i64 v] 31 2 false, SObj.cells [SV.row (SId.i .i64) d, SV.si .i64 w] 31 2 false, SObj.cells [SV.sc (Value.slice none 0 0), SV.il .i64 0] 31 2 false]) 2).chosen, SV.si .i64 (aS (SSt.mk [(4, SV.ptr 0 0 20), (5, SV.ptr 1 0 2), (7, SV.ptr 2 0 2), (8, SV.ptr 3 0 2), (9, SV.si .i64 f)] [SObj.cells (Prob.ss p) 27 20 false, SObj.cells [SV.row (SId.i .i64) c, SV.si .i64 v] 31 2 false, SObj.cells [SV.row (SId.i .i64) d, SV.si .i64 w] 31 2 false, SObj.cells [SV.sc (Value.slice none 0 0), SV.il .i64 0] 31 2 false]) 2).value] 31 2 false) ∧ (SObj.cells [SV.sc (Value.slice none 0 0), SV.il .i64 0] 31 2 false).same (SObj.cells [SV.sc (Value.slice none 0 0), SV.il .i64 0] 31 2 false) ∧ True) ∧ f ≤ f ∧ f ≤ (↑p.offers.length : Int) ∧ (aS (SSt.mk [(4, SV.ptr 0 0 20), (5, SV.ptr 1 0 2), (7, SV.ptr 2 0 2), (8, SV.ptr 3 0 2), (9, SV.si .i64 f)] [SObj.cells (Prob.ss p) 27 20 false, SObj.cells [SV.row (SId.i .i64) c, SV.si .i64 v] 31 2 false, SObj.cells [SV.row (SId.i .i64) d, SV.si .i64 w] 31 2 false, SObj.cells [SV.sc (Value.slice none 0 0), SV.il .i64 0] 31 2 false]) 2).chosen.length ≤ 160 ∧ extS2 p (Alloc.mk c v) f (Alloc.mk d w) = extL p (leftN p f) f (Alloc.mk c v) (aS (SSt.mk [(4, SV.ptr 0 0 20), (5, SV.ptr 1 0 2), (7, SV.ptr 2 0 2), (8, SV.ptr 3 0 2), (9, SV.si .i64 f)] [SObj.cells (Prob.ss p) 27 20 false, SObj.cells [SV.row (SId.i .i64) c, SV.si .i64 v] 31 2 false, SObj.cells [SV.row (SId.i .i64) d, SV.si .i64 w] 31 2 false, SObj.cells [SV.sc (Value.slice none 0 0), SV.il .i64 0] 31 2 false]) 2)) ∧ ∀ (x : Int × Alloc), f ≤ x.fst ∧ x.fst ≤ (↑p.offers.length : Int) ∧ x.snd.chosen.length ≤ 160 ∧ extS2 p (Alloc.mk c v) f (Alloc.mk d w) = extL p (leftN p x.fst) x.fst (Alloc.mk c v) x.snd → (decide (x.fst < (↑p.offers.length : Int)) = true → 0 = 0 ∧ (0 + c.length) * 8 ≤ 140737488355328 ∧ 0 + c.length ≤ 1000000000000 ∧ c.length = c.length ∧ (c.length + 1) * 8 ≤ 140737488355328 ∧ c.length + 1 ≤ 1000000000000 ∧ (c ++ [x.fst]).length = (c ++ [x.fst]).length ∧ (Good p ∧ (c ++ [x.fst]).length ≤ 160 ∧ ∀ (i : Int), i ∈ c ++ [x.fst] → (0 : Int) ≤ i ∧ i < (↑p.offers.length : Int)) ∧ (ref23 p (c ++ [x.fst]) = true → (c ++ [x.fst]).length = (c ++ [x.fst]).length ∧ (0 : Int) ≤ x.fst ∧ x.fst < (↑p.offers.length : Int) ∧ x.fst.toNat < p.offers.length ∧ inR .i64 (v + (nthD p.offers x.fst.toNat SId.off.dflt).value) ∧ inR .i64 (x.fst + (1 : Int)) ∧ (extD p (Alloc.mk (c ++ [x.fst]) (v + (nthD p.offers x.fst.toNat SId.off.dflt).value)) (x.fst + (1 : Int)) x.snd ∧ leftN p (x.fst + (1 : Int)) < n) ∧ inR .i64 (x.fst + (1 : Int)) ∧ (((SV.ptr 0 0 20).same (SV.ptr 0 0 20) ∧ (SV.ptr 1 0 2).same (SV.ptr 1 0 2) ∧ (SV.ptr 2 0 2).same (SV.ptr 2 0 2) ∧ (SV.ptr 3 0 2).same (SV.ptr 3 0 2) ∧ (SV.si .i64 (x.fst + (1 : Int))).same (SV.si .i64 (x.fst + (1 : Int))) ∧ True) ∧ (SObj.cells (Prob.ss p) 27 20 false).same (SObj.cells (Prob.ss p) 27 20 false) ∧ (SObj.cells [SV.row (SId.i .i64) c, SV.si .i64 v] 31 2 false).same (SObj.cells [SV.row (SId.i .i64) c, SV.si .i64 v] 31 2 false) ∧ (SObj.cells [SV.row (SId.i .i64) (extS2 p (Alloc.mk (c ++ [x.fst]) (v + (nthD p.offers x.fst.toNat SId.off.dflt).value)) (x.fst + (1 : Int)) x.snd).chosen, SV.si .i64 (extS2 p (Alloc.mk (c ++ [x.fst]) (v + (nthD p.offers x.fst.toNat SId.off.dflt).value)) (x.fst + (1 : Int)) x.snd).value] 31 2 false).same (SObj.cells [SV.row (SId.i .i64) (aS (SSt.mk [(4, SV.ptr 0 0 20), (5, SV.ptr 1 0 2), (7, SV.ptr 2 0 2), (8, SV.ptr 3 0 2), (9, SV.si .i64 (x.fst + (1 : Int)))] [SObj.cells (Prob.ss p) 27 20 false, SObj.cells [SV.row (SId.i .i64) c, SV.si .i64 v] 31 2 false, SObj.cells [SV.row (SId.i .i64) (extS2 p (Alloc.mk (c ++ [x.fst]) (v + (nthD p.offers x.fst.toNat SId.off.dflt).value)) (x.fst + (1 : Int)) x.snd).chosen, SV.si .i64 (extS2 p (Alloc.mk (c ++ [x.fst]) (v + (nthD p.offers x.fst.toNat SId.off.dflt).value)) (x.fst + (1 : Int)) x.snd).value] 31 2 false, SObj.cells [SV.sc (Value.slice none 0 0), SV.il .i64 0] 31 2 false]) 2).chosen, SV.si .i64 (aS (SSt.mk [(4, SV.ptr 0 0 20), (5, SV.ptr 1 0 2), (7, SV.ptr 2 0 2), (8, SV.ptr 3 0 2), (9, SV.si .i64 (x.fst + (1 : Int)))] [SObj.cells (Prob.ss p) 27 20 false, SObj.cells [SV.row (SId.i .i64) c, SV.si .i64 v] 31 2 false, SObj.cells [SV.row (SId.i .i64) (extS2 p (Alloc.mk (c ++ [x.fst]) (v + (nthD p.offers x.fst.toNat SId.off.dflt).value)) (x.fst + (1 : Int)) x.snd).chosen, SV.si .i64 (extS2 p (Alloc.mk (c ++ [x.fst]) (v + (nthD p.offers x.fst.toNat SId.off.dflt).value)) (x.fst + (1 : Int)) x.snd).value] 31 2 false, SObj.cells [SV.sc (Value.slice none 0 0), SV.il .i64 0] 31 2 false]) 2).value] 31 2 false) ∧ (SObj.cells [SV.sc (Value.slice none 0 0), SV.il .i64 0] 31 2 false).same (SObj.cells [SV.sc (Value.slice none 0 0), SV.il .i64 0] 31 2 false) ∧ True) ∧ (f ≤ x.fst + (1 : Int) ∧ x.fst + (1 : Int) ≤ (↑p.offers.length : Int) ∧ (aS (SSt.mk [(4, SV.ptr 0 0 20), (5, SV.ptr 1 0 2), (7, SV.ptr 2 0 2), (8, SV.ptr 3 0 2), (9, SV.si .i64 (x.fst + (1 : Int)))] [SObj.cells (Prob.ss p) 27 20 false, SObj.cells [SV.row (SId.i .i64) c, SV.si .i64 v] 31 2 false, SObj.cells [SV.row (SId.i .i64) (extS2 p (Alloc.mk (c ++ [x.fst]) (v + (nthD p.offers x.fst.toNat SId.off.dflt).value)) (x.fst + (1 : Int)) x.snd).chosen, SV.si .i64 (extS2 p (Alloc.mk (c ++ [x.fst]) (v + (nthD p.offers x.fst.toNat SId.off.dflt).value)) (x.fst + (1 : Int)) x.snd).value] 31 2 false, SObj.cells [SV.sc (Value.slice none 0 0), SV.il .i64 0] 31 2 false]) 2).chosen.length ≤ 160 ∧ extS2 p (Alloc.mk c v) f (Alloc.mk d w) = extL p (leftN p (x.fst + (1 : Int))) (x.fst + (1 : Int)) (Alloc.mk c v) (aS (SSt.mk [(4, SV.ptr 0 0 20), (5, SV.ptr 1 0 2), (7, SV.ptr 2 0 2), (8, SV.ptr 3 0 2), (9, SV.si .i64 (x.fst + (1 : Int)))] [SObj.cells (Prob.ss p) 27 20 false, SObj.cells [SV.row (SId.i .i64) c, SV.si .i64 v] 31 2 false, SObj.cells [SV.row (SId.i .i64) (extS2 p (Alloc.mk (c ++ [x.fst]) (v + (nthD p.offers x.fst.toNat SId.off.dflt).value)) (x.fst + (1 : Int)) x.snd).chosen, SV.si .i64 (extS2 p (Alloc.mk (c ++ [x.fst]) (v + (nthD p.offers x.fst.toNat SId.off.dflt).value)) (x.fst + (1 : Int)) x.snd).value] 31 2 false, SObj.cells [SV.sc (Value.slice none 0 0), SV.il .i64 0] 31 2 false]) 2)) ∧ leftN p (x.fst + (1 : Int)) < leftN p x.fst) ∧ (ref23 p (c ++ [x.fst]) = false → inR .i64 (x.fst + (1 : Int)) ∧ (((SV.ptr 0 0 20).same (SV.ptr 0 0 20) ∧ (SV.ptr 1 0 2).same (SV.ptr 1 0 2) ∧ (SV.ptr 2 0 2).same (SV.ptr 2 0 2) ∧ (SV.ptr 3 0 2).same (SV.ptr 3 0 2) ∧ (SV.si .i64 (x.fst + (1 : Int))).same (SV.si .i64 (x.fst + (1 : Int))) ∧ True) ∧ (SObj.cells (Prob.ss p) 27 20 false).same (SObj.cells (Prob.ss p) 27 20 false) ∧ (SObj.cells [SV.row (SId.i .i64) c, SV.si .i64 v] 31 2 false).same (SObj.cells [SV.row (SId.i .i64) c, SV.si .i64 v] 31 2 false) ∧ (SObj.cells [SV.row (SId.i .i64) x.snd.chosen, SV.si .i64 x.snd.value] 31 2 false).same (SObj.cells [SV.row (SId.i .i64) (aS (SSt.mk [(4, SV.ptr 0 0 20), (5, SV.ptr 1 0 2), (7, SV.ptr 2 0 2), (8, SV.ptr 3 0 2), (9, SV.si .i64 (x.fst + (1 : Int)))] [SObj.cells (Prob.ss p) 27 20 false, SObj.cells [SV.row (SId.i .i64) c, SV.si .i64 v] 31 2 false, SObj.cells [SV.row (SId.i .i64) x.snd.chosen, SV.si .i64 x.snd.value] 31 2 false, SObj.cells [SV.sc (Value.slice none 0 0), SV.il .i64 0] 31 2 false]) 2).chosen, SV.si .i64 (aS (SSt.mk [(4, SV.ptr 0 0 20), (5, SV.ptr 1 0 2), (7, SV.ptr 2 0 2), (8, SV.ptr 3 0 2), (9, SV.si .i64 (x.fst + (1 : Int)))] [SObj.cells (Prob.ss p) 27 20 false, SObj.cells [SV.row (SId.i .i64) c, SV.si .i64 v] 31 2 false, SObj.cells [SV.row (SId.i .i64) x.snd.chosen, SV.si .i64 x.snd.value] 31 2 false, SObj.cells [SV.sc (Value.slice none 0 0), SV.il .i64 0] 31 2 false]) 2).value] 31 2 false) ∧ (SObj.cells [SV.sc (Value.slice none 0 0), SV.il .i64 0] 31 2 false).same (SObj.cells [SV.sc (Value.slice none 0 0), SV.il .i64 0] 31 2 false) ∧ True) ∧ (f ≤ x.fst + (1 : Int) ∧ x.fst + (1 : Int) ≤ (↑p.offers.length : Int) ∧ (aS (SSt.mk [(4, SV.ptr 0 0 20), (5, SV.ptr 1 0 2), (7, SV.ptr 2 0 2), (8, SV.ptr 3 0 2), (9, SV.si .i64 (x.fst + (1 : Int)))] [SObj.cells (Prob.ss p) 27 20 false, SObj.cells [SV.row (SId.i .i64) c, SV.si .i64 v] 31 2 false, SObj.cells [SV.row (SId.i .i64) x.snd.chosen, SV.si .i64 x.snd.value] 31 2 false, SObj.cells [SV.sc (Value.slice none 0 0), SV.il .i64 0] 31 2 false]) 2).chosen.length ≤ 160 ∧ extS2 p (Alloc.mk c v) f (Alloc.mk d w) = extL p (leftN p (x.fst + (1 : Int))) (x.fst + (1 : Int)) (Alloc.mk c v) (aS (SSt.mk [(4, SV.ptr 0 0 20), (5, SV.ptr 1 0 2), (7, SV.ptr 2 0 2), (8, SV.ptr 3 0 2), (9, SV.si .i64 (x.fst + (1 : Int)))] [SObj.cells (Prob.ss p) 27 20 false, SObj.cells [SV.row (SId.i .i64) c, SV.si .i64 v] 31 2 false, SObj.cells [SV.row (SId.i .i64) x.snd.chosen, SV.si .i64 x.snd.value] 31 2 false, SObj.cells [SV.sc (Value.slice none 0 0), SV.il .i64 0] 31 2 false]) 2)) ∧ leftN p (x.fst + (1 : Int)) < leftN p x.fst)) ∧ (decide (x.fst < (↑p.offers.length : Int)) = false → (SV.agg [SV.row (SId.i .i64) x.snd.chosen, SV.si .i64 x.snd.value]).same (SV.agg [SV.row (SId.i .i64) (extS2 p (Alloc.mk c v) f (Alloc.mk d w)).chosen, SV.si .i64 (extS2 p (Alloc.mk c v) f (Alloc.mk d w)).value]))))) (by kernel_rfl) ?_
  obtain ⟨hg, hf0, hf1, hix, hcl, hv0, hv1, hdl⟩ := h
  simp only at hix hcl hv0 hv1 hdl
  simp only [decide_eq_true_eq, decide_eq_false_iff_not, same_il_si, same_si_si, same_si_il, same_il_il, same_sb_sb, same_bl_sb, same_row, same_tup2, same_tup3, same_nil, same_row_nil, same_rfl, osame_rfl, inR_i64, eq_self, true_and, and_true, Bool.and_eq_true, Bool.not_eq_true', Bool.not_eq_false', aS_eq]
  have hN := hg.2.1
  refine ⟨fun h1 => ⟨⟨by omega, by omega, by omega, ?_⟩, ?_⟩, fun h1 => ⟨fun h2 => ⟨⟨by omega, by omega⟩, fun h3 => ⟨⟨by omega, by omega, by omega, ?_⟩, ?_⟩, fun h3 => ⟨⟨by omega, by omega, by omega, ?_⟩, ?_⟩⟩, fun h2 => ⟨⟨by omega, by omega, by omega, ?_⟩, ?_⟩⟩⟩
  · simp only [extS2, better, if_pos (show w < v ∨ v = w ∧ cmpL c d < 0 from .inl h1)]
  · rintro ⟨i, ⟨e, u⟩⟩ ⟨hi0, hi1, hs, hi⟩
    simp only at hi0 hi1 hs hi ⊢
    refine ⟨fun hlt => ?_, fun hge => ?_⟩
    · have hl : leftN p i = leftN p (i + 1) + 1 := by unfold leftN; omega
      have hlf : leftN p i ≤ leftN p f := by unfold leftN; omega
      have hv := hg.2.2.2.2 _ (nthD_mem (d := SId.off.dflt) (show i.toNat < p.offers.length by omega))
      rw [hl] at hi
      simp only [extL] at hi
      have hc1 : (c ++ [i]).length = c.length + 1 := by simp
      have hmem : ∀ j ∈ c ++ [i], 0 ≤ j ∧ j < p.offers.length := fun j hj => by
        rcases List.mem_append.1 hj with hj | hj
        · exact hix j hj
        · rw [List.mem_singleton.1 hj]; omega
      have hN := hg.2.1
      refine ⟨by omega, by omega, by omega, by omega, ⟨hg, by omega, hmem⟩, fun hr => ?_, fun hr => ?_⟩
      · rw [if_pos hr] at hi
        have hd : extD p ⟨c ++ [i], v + (nthD p.offers i.toNat SId.off.dflt).value⟩ (i + 1) ⟨e, u⟩ := ⟨hg, by omega, by omega, hmem, by simp only; omega, by simp only; omega, by simp only; omega, hs⟩
        refine ⟨by omega, hlt, by omega, by omega, by omega, ⟨hd, by omega⟩, by omega, ⟨by omega, by omega, extS2_len hd, hi⟩, by omega⟩
      · rw [if_neg (by simp [hr])] at hi
        refine ⟨by omega, ⟨by omega, by omega, hs, hi⟩, by omega⟩
    · have hl : leftN p i = 0 := by unfold leftN; omega
      rw [hl] at hi
      simp only [extL] at hi
      rw [hi]
      exact rfl
  · simp only [extS2, better, if_pos (show w < v ∨ v = w ∧ cmpL c d < 0 from .inr ⟨h2, h3⟩)]
  · rintro ⟨i, ⟨e, u⟩⟩ ⟨hi0, hi1, hs, hi⟩
    simp only at hi0 hi1 hs hi ⊢
    refine ⟨fun hlt => ?_, fun hge => ?_⟩
    · have hl : leftN p i = leftN p (i + 1) + 1 := by unfold leftN; omega
      have hlf : leftN p i ≤ leftN p f := by unfold leftN; omega
      have hv := hg.2.2.2.2 _ (nthD_mem (d := SId.off.dflt) (show i.toNat < p.offers.length by omega))
      rw [hl] at hi
      simp only [extL] at hi
      have hc1 : (c ++ [i]).length = c.length + 1 := by simp
      have hmem : ∀ j ∈ c ++ [i], 0 ≤ j ∧ j < p.offers.length := fun j hj => by
        rcases List.mem_append.1 hj with hj | hj
        · exact hix j hj
        · rw [List.mem_singleton.1 hj]; omega
      have hN := hg.2.1
      refine ⟨by omega, by omega, by omega, by omega, ⟨hg, by omega, hmem⟩, fun hr => ?_, fun hr => ?_⟩
      · rw [if_pos hr] at hi
        have hd : extD p ⟨c ++ [i], v + (nthD p.offers i.toNat SId.off.dflt).value⟩ (i + 1) ⟨e, u⟩ := ⟨hg, by omega, by omega, hmem, by simp only; omega, by simp only; omega, by simp only; omega, hs⟩
        refine ⟨by omega, hlt, by omega, by omega, by omega, ⟨hd, by omega⟩, by omega, ⟨by omega, by omega, extS2_len hd, hi⟩, by omega⟩
      · rw [if_neg (by simp [hr])] at hi
        refine ⟨by omega, ⟨by omega, by omega, hs, hi⟩, by omega⟩
    · have hl : leftN p i = 0 := by unfold leftN; omega
      rw [hl] at hi
      simp only [extL] at hi
      rw [hi]
      exact rfl
  · simp only [extS2, better, if_neg (show ¬ (w < v ∨ v = w ∧ cmpL c d < 0) by omega)]
  · rintro ⟨i, ⟨e, u⟩⟩ ⟨hi0, hi1, hs, hi⟩
    simp only at hi0 hi1 hs hi ⊢
    refine ⟨fun hlt => ?_, fun hge => ?_⟩
    · have hl : leftN p i = leftN p (i + 1) + 1 := by unfold leftN; omega
      have hlf : leftN p i ≤ leftN p f := by unfold leftN; omega
      have hv := hg.2.2.2.2 _ (nthD_mem (d := SId.off.dflt) (show i.toNat < p.offers.length by omega))
      rw [hl] at hi
      simp only [extL] at hi
      have hc1 : (c ++ [i]).length = c.length + 1 := by simp
      have hmem : ∀ j ∈ c ++ [i], 0 ≤ j ∧ j < p.offers.length := fun j hj => by
        rcases List.mem_append.1 hj with hj | hj
        · exact hix j hj
        · rw [List.mem_singleton.1 hj]; omega
      have hN := hg.2.1
      refine ⟨by omega, by omega, by omega, by omega, ⟨hg, by omega, hmem⟩, fun hr => ?_, fun hr => ?_⟩
      · rw [if_pos hr] at hi
        have hd : extD p ⟨c ++ [i], v + (nthD p.offers i.toNat SId.off.dflt).value⟩ (i + 1) ⟨e, u⟩ := ⟨hg, by omega, by omega, hmem, by simp only; omega, by simp only; omega, by simp only; omega, hs⟩
        refine ⟨by omega, hlt, by omega, by omega, by omega, ⟨hd, by omega⟩, by omega, ⟨by omega, by omega, extS2_len hd, hi⟩, by omega⟩
      · rw [if_neg (by simp [hr])] at hi
        refine ⟨by omega, ⟨by omega, by omega, hs, hi⟩, by omega⟩
    · have hl : leftN p i = 0 := by unfold leftN; omega
      rw [hl] at hi
      simp only [extL] at hi
      rw [hi]
      exact rfl
  · simp only [extS2, better, if_neg (show ¬ (w < v ∨ v = w ∧ cmpL c d < 0) by omega)]
  · rintro ⟨i, ⟨e, u⟩⟩ ⟨hi0, hi1, hs, hi⟩
    simp only at hi0 hi1 hs hi ⊢
    refine ⟨fun hlt => ?_, fun hge => ?_⟩
    · have hl : leftN p i = leftN p (i + 1) + 1 := by unfold leftN; omega
      have hlf : leftN p i ≤ leftN p f := by unfold leftN; omega
      have hv := hg.2.2.2.2 _ (nthD_mem (d := SId.off.dflt) (show i.toNat < p.offers.length by omega))
      rw [hl] at hi
      simp only [extL] at hi
      have hc1 : (c ++ [i]).length = c.length + 1 := by simp
      have hmem : ∀ j ∈ c ++ [i], 0 ≤ j ∧ j < p.offers.length := fun j hj => by
        rcases List.mem_append.1 hj with hj | hj
        · exact hix j hj
        · rw [List.mem_singleton.1 hj]; omega
      have hN := hg.2.1
      refine ⟨by omega, by omega, by omega, by omega, ⟨hg, by omega, hmem⟩, fun hr => ?_, fun hr => ?_⟩
      · rw [if_pos hr] at hi
        have hd : extD p ⟨c ++ [i], v + (nthD p.offers i.toNat SId.off.dflt).value⟩ (i + 1) ⟨e, u⟩ := ⟨hg, by omega, by omega, hmem, by simp only; omega, by simp only; omega, by simp only; omega, hs⟩
        refine ⟨by omega, hlt, by omega, by omega, by omega, ⟨hd, by omega⟩, by omega, ⟨by omega, by omega, extS2_len hd, hi⟩, by omega⟩
      · rw [if_neg (by simp [hr])] at hi
        refine ⟨by omega, ⟨by omega, by omega, hs, hi⟩, by omega⟩
    · have hl : leftN p i = 0 := by unfold leftN; omega
      rw [hl] at hi
      simp only [extL] at hi
      rw [hi]
      exact rfl

theorem conR {L : List SCtr} {W : OwnT} (c : SCtr) (F : IFn) (Λ : Nat → LoopAnn) (hW : OwnOK Try.prog W) (hL : ∀ c ∈ L, Holds Try.prog c)
    (hF : fnN c.f = some F) (a : c.α) (hlen : (c.A.put a).length = F.params) (hfr : ∀ d, findC c.f L = some d → ∀ b, gL (c.A.put a) = gL (d.A.put b) → ¬ d.dom b)
    (h : Vc (fnK (parL L W tyN mtN) Λ F (c.A.put a) fun v => v.same (c.res a))) : goodF Try.prog c.f = true ∧ CallO Try.prog c.f (gL (c.A.put a)) [] (c.res a).g [] := by
  refine fnK_sound (p := parL L W tyN mtN) (Λ := Λ) (tabL_ok hW hL base_ok) (tabL_calls hW) hF ?_ hlen h.out
  simp only [tabL, tabK, Bool.false_eq_true, if_false]
  split
  · rename_i d hd
    have : ans (fun a => gL (d.A.put a)) d.dom (fun a => (d.res a).g) (gL (c.A.put a)) = none := by
      unfold ans
      rw [dif_neg]
      rintro ⟨b, h1, h2⟩
      exact hfr d hd b h1 h2
    rw [this]
    rfl
  · rfl

theorem hExt : ∀ n, Holds Try.prog (extC n)
  | 0 => by
    rintro ⟨p, a, f, b⟩ ⟨_, h⟩
    exact absurd h (Nat.not_lt_zero _)
  | n + 1 => by
    rintro ⟨p, a, f, b⟩ ⟨h1, h2⟩
    by_cases hc : leftN p f < n
    · exact hExt n (p, a, f, b) ⟨h1, hc⟩
    · refine conR (L := M4 n) (extC (n + 1)) F70 (Λ70 p a f b) (OwnOK.none _) (by simp only [M4, List.forall_mem_cons, List.not_mem_nil, false_implies, implies_true, and_true]; exact ⟨hExt n, h111, h32⟩)
        (show fnN 70 = some F70 by kernel_rfl) (p, a, f, b) rfl ?_ (extX n p a f b h1 h2)
      intro d hd b2 hb1 hb3
      have hd2 : d = extC n := by
        have : findC 70 (M4 n) = some (extC n) := rfl
        have hd3 : findC 70 (M4 n) = some d := hd
        rw [this] at hd3
        injection hd3 with hd3
        exact hd3.symm
      subst hd2
      have hb : (p, a, f, b) = b2 := (extC n).A.inj (p, a, f, b) b2 hb1
      subst hb
      exact hc hb3.2

def bestA (p : Prob) : Alloc := extS2 p ⟨[], 0⟩ 0 ⟨[], 0⟩
def r25 : SCtr := ⟨25, Prob, .one codP, fun p => Good p, fun p => codA.put (bestA p)⟩
theorem h25 : Holds Try.prog r25 := by
  refine con (L := [extC 161]) r25 F25 (fun _ _ => .look) (OwnOK.none _) (by simpa using hExt 161) (by kernel_rfl) (by kernel_rfl) (fun _ => rfl) ?_
  intro (p : Prob) (hp : Good p)
  refine vcOf ((extD p (Alloc.mk [] (0 : Int)) (0 : Int) (Alloc.mk [] (0 : Int)) ∧ leftN p (0 : Int) < 161) ∧ (SV.agg [SV.row (SId.i .i64) (extS2 p (Alloc.mk [] (0 : Int)) (0 : Int) (Alloc.mk [] (0 : Int))).chosen, SV.si .i64 (extS2 p (Alloc.mk [] (0 : Int)) (0 : Int) (Alloc.mk [] (0 : Int))).value]).same (SV.agg [SV.row (SId.i .i64) (bestA p).chosen, SV.si .i64 (bestA p).value])) (by kernel_rfl) ?_
  have := hp.2.1
  refine ⟨⟨⟨hp, by omega, by omega, by simp, by simp, by simp, by simp, by simp⟩, by unfold leftN; omega⟩, rfl⟩

end Go.Vi
/-
  Contracts: what a coalition's offers are worth (the reference).
  Conditions: none.
-/
set_option maxRecDepth 100000
set_option maxHeartbeats 4000000
set_option linter.unusedSimpArgs false
set_option linter.unusedVariables false
namespace Go.Vi
open Go.Proofs.Ytigbjjkijfkeeaa.Ir
open Go.Proofs

def hasB (m b : Int) : Bool := decide (binK.andI .i64 (m / 2 ^ b.toNat) 1 = 1)
theorem shift_one {m i : Int} (h0 : 0 ≤ i) (h1 : i < 8) : m / 2 ^ i.toNat / 2 = m / 2 ^ (i + 1).toNat := by
  have : i = 0 ∨ i = 1 ∨ i = 2 ∨ i = 3 ∨ i = 4 ∨ i = 5 ∨ i = 6 ∨ i = 7 := by omega
  rcases this with rfl | rfl | rfl | rfl | rfl | rfl | rfl | rfl <;> simp <;> omega

def r71 : SCtr := ⟨71, Int × Int, .cons (codI .i64) (.one (codI .i64)), fun a => 0 ≤ a.1 ∧ a.1 < 256 ∧ 0 ≤ a.2 ∧ a.2 ≤ 8, fun a => .sb (hasB a.1 a.2)⟩
def Λ71 (a : Int × Int) : Nat → LoopAnn
  | 2 => .inv Int (fun i => ⟨[(0, .si .i64 (a.1 / 2 ^ i.toNat)), (1, .si .i64 a.2), (5, .si .i64 i)], []⟩) (fun s => iS s 5) (fun i => 0 ≤ i ∧ i ≤ a.2) (fun i => (a.2 - i).toNat) fun _ _ => .look
  | _ => .look
theorem h71 : Holds Try.prog r71 := by
  refine con (L := []) r71 F71 Λ71 (OwnOK.none _) (by simp) (by kernel_rfl) (by kernel_rfl) (fun _ => rfl) ?_
  rintro ⟨m, b⟩ ⟨h0, h1, h2, h3⟩
  refine vcOf (((((SV.si .i64 m).same (SV.si .i64 (m / (1 : Int))) ∧ (SV.si .i64 b).same (SV.si .i64 b) ∧ (SV.il .i64 0).same (SV.si .i64 0) ∧ True) ∧ True) ∧ (0 : Int) ≤ (0 : Int) ∧ (0 : Int) ≤ b) ∧ ∀ (x : Int), (0 : Int) ≤ x ∧ x ≤ b → (decide (x < b) = true → (0 : Int) ≤ (1 : Int) ∧ (1 : Int) ≤ (64 : Int) ∧ inR .i64 (x + (1 : Int)) ∧ (((SV.si .i64 (m / (2 : Int) ^ x.toNat / (2 : Int))).same (SV.si .i64 (m / (2 : Int) ^ (x + (1 : Int)).toNat)) ∧ (SV.si .i64 b).same (SV.si .i64 b) ∧ (SV.si .i64 (x + (1 : Int))).same (SV.si .i64 (x + (1 : Int))) ∧ True) ∧ True) ∧ ((0 : Int) ≤ x + (1 : Int) ∧ x + (1 : Int) ≤ b) ∧ (b - (x + (1 : Int))).toNat < (b - x).toNat) ∧ (decide (x < b) = false → (SV.sb (decide (binK.andI .i64 (m / (2 : Int) ^ x.toNat) (1 : Int) = (1 : Int)))).same (SV.sb (hasB m b)))) (by kernel_rfl) ?_
  simp only at h0 h1 h2 h3
  simp only [decide_eq_true_eq, decide_eq_false_iff_not, same_il_si, same_si_si, same_si_il, same_il_il, same_sb_sb, same_bl_sb, same_row, same_tup2, same_tup3, same_nil, same_row_nil, same_rfl, osame_rfl, inR_i64, eq_self, true_and, and_true, Bool.and_eq_true, Bool.not_eq_true', Bool.not_eq_false']
  refine ⟨⟨by simp, by omega, by omega⟩, ?_⟩
  rintro i ⟨hi0, hi1⟩
  refine ⟨fun hlt => ⟨by omega, by omega, by omega, shift_one hi0 (by omega), by omega, by omega⟩, fun hge => ?_⟩
  rw [show i = b by omega]
  rfl

def allR (p : Prob) (w : Int) (n : Nat) : Int := ((List.range n).map fun i : Nat => if (i : Int) ≠ w then (2 : Int) ^ i else 0).sum
def r27 : SCtr := ⟨27, Prob × Int, .cons codP (.one (codI .i64)), fun a => a.1.classes.length ≤ 8, fun a => .si .i64 (allR a.1 a.2 a.1.classes.length)⟩
theorem allR_succ (p : Prob) (w : Int) (n : Nat) : allR p w (n + 1) = allR p w n + if (n : Int) ≠ w then (2 : Int) ^ n else 0 := by
  unfold allR
  rw [List.range_succ, List.map_append]
  simp
theorem allR_bd (p : Prob) (w : Int) : ∀ n : Nat, 0 ≤ allR p w n ∧ allR p w n < 2 ^ n
  | 0 => by simp [allR]
  | n + 1 => by
    have h := allR_bd p w n
    rw [allR_succ, Int.pow_succ]
    split <;> omega
def Λ27 (a : Prob × Int) : Nat → LoopAnn
  | 3 => .inv Int (fun i => ⟨[(1, .si .i64 a.2), (2, .ptr 0 0 20), (5, .si .i64 (allR a.1 a.2 i.toNat)), (6, .si .i64 (2 ^ i.toNat)), (7, .si .i64 i)], [.cells a.1.ss 27 20 false]⟩) (fun s => iS s 7) (fun i => 0 ≤ i ∧ i ≤ a.1.classes.length) (fun i => (a.1.classes.length - i).toNat) fun _ _ => .look
  | _ => .look
theorem h27 : Holds Try.prog r27 := by
  refine con (L := []) r27 F27 Λ27 (OwnOK.none _) (by simp) (by kernel_rfl) (by kernel_rfl) (fun _ => rfl) ?_
  rintro ⟨p, w⟩ h0
  refine vcOf (((((SV.si .i64 w).same (SV.si .i64 w) ∧ (SV.ptr 0 0 20).same (SV.ptr 0 0 20) ∧ (SV.il .i64 0).same (SV.si .i64 (allR p w 0)) ∧ (SV.il .i64 1).same (SV.si .i64 1) ∧ (SV.il .i64 0).same (SV.si .i64 0) ∧ True) ∧ (SObj.cells (Prob.ss p) 27 20 false).same (SObj.cells (Prob.ss p) 27 20 false) ∧ True) ∧ (0 : Int) ≤ (0 : Int) ∧ (0 : Int) ≤ (↑p.classes.length : Int)) ∧ ∀ (x : Int), (0 : Int) ≤ x ∧ x ≤ (↑p.classes.length : Int) → (decide (x < (↑p.classes.length : Int)) = true → (decide (x ≠ w) = true → inR .i64 (allR p w x.toNat + (2 : Int) ^ x.toNat) ∧ inR .i64 ((2 : Int) * (2 : Int) ^ x.toNat) ∧ inR .i64 (x + (1 : Int)) ∧ (((SV.si .i64 w).same (SV.si .i64 w) ∧ (SV.ptr 0 0 20).same (SV.ptr 0 0 20) ∧ (SV.si .i64 (allR p w x.toNat + (2 : Int) ^ x.toNat)).same (SV.si .i64 (allR p w (x + (1 : Int)).toNat)) ∧ (SV.si .i64 ((2 : Int) * (2 : Int) ^ x.toNat)).same (SV.si .i64 ((2 : Int) ^ (x + (1 : Int)).toNat)) ∧ (SV.si .i64 (x + (1 : Int))).same (SV.si .i64 (x + (1 : Int))) ∧ True) ∧ (SObj.cells (Prob.ss p) 27 20 false).same (SObj.cells (Prob.ss p) 27 20 false) ∧ True) ∧ ((0 : Int) ≤ x + (1 : Int) ∧ x + (1 : Int) ≤ (↑p.classes.length : Int)) ∧ ((↑p.classes.length : Int) - (x + (1 : Int))).toNat < ((↑p.classes.length : Int) - x).toNat) ∧ (decide (x ≠ w) = false → inR .i64 ((2 : Int) * (2 : Int) ^ x.toNat) ∧ inR .i64 (x + (1 : Int)) ∧ (((SV.si .i64 w).same (SV.si .i64 w) ∧ (SV.ptr 0 0 20).same (SV.ptr 0 0 20) ∧ (SV.si .i64 (allR p w x.toNat)).same (SV.si .i64 (allR p w (x + (1 : Int)).toNat)) ∧ (SV.si .i64 ((2 : Int) * (2 : Int) ^ x.toNat)).same (SV.si .i64 ((2 : Int) ^ (x + (1 : Int)).toNat)) ∧ (SV.si .i64 (x + (1 : Int))).same (SV.si .i64 (x + (1 : Int))) ∧ True) ∧ (SObj.cells (Prob.ss p) 27 20 false).same (SObj.cells (Prob.ss p) 27 20 false) ∧ True) ∧ ((0 : Int) ≤ x + (1 : Int) ∧ x + (1 : Int) ≤ (↑p.classes.length : Int)) ∧ ((↑p.classes.length : Int) - (x + (1 : Int))).toNat < ((↑p.classes.length : Int) - x).toNat)) ∧ (decide (x < (↑p.classes.length : Int)) = false → (SV.si .i64 (allR p w x.toNat)).same (SV.si .i64 (allR p w p.classes.length)))) (by kernel_rfl) ?_
  have h8 : p.classes.length ≤ 8 := h0
  simp only [decide_eq_true_eq, decide_eq_false_iff_not, same_il_si, same_si_si, same_si_il, same_il_il, same_sb_sb, same_bl_sb, same_row, same_tup2, same_tup3, same_nil, same_row_nil, same_rfl, osame_rfl, inR_i64, eq_self, true_and, and_true, Bool.and_eq_true, Bool.not_eq_true', Bool.not_eq_false']
  refine ⟨⟨rfl, by omega, by omega⟩, ?_⟩
  rintro i ⟨hi0, hi1⟩
  refine ⟨fun hlt => ?_, fun hge => ?_⟩
  · have hb := allR_bd p w i.toNat
    have hp := pow_n (show i.toNat ≤ 8 by omega)
    have hs := allR_succ p w i.toNat
    rw [show ((i.toNat : Nat) : Int) = i by omega] at hs
    have hq : (2 : Int) ^ (i + 1).toNat = 2 * 2 ^ i.toNat := by rw [show (i + 1).toNat = i.toNat + 1 by omega, Int.pow_succ]; omega
    rw [show (i + 1).toNat = i.toNat + 1 by omega] at hq ⊢
    refine ⟨fun hne => ?_, fun he => ?_⟩
    · rw [if_pos hne] at hs
      refine ⟨by omega, by omega, by omega, ⟨by omega, by omega⟩, by omega, by omega⟩
    · rw [if_neg he] at hs
      refine ⟨by omega, by omega, ⟨by omega, by omega⟩, by omega, by omega⟩
  · rw [show i.toNat = p.classes.length by omega]

def subP (p : Prob) (m : Int) : Prob := { p with offers := p.offers.filter fun x => hasB m x.bidder }
theorem sub_good {p : Prob} (h : Good p) (m : Int) : Good (subP p m) := by
  refine ⟨h.1, ?_, h.2.2.1, h.2.2.2.1, fun x hx => h.2.2.2.2 x (List.mem_filter.1 hx).1⟩
  have := List.length_filter_le (fun x : Off => hasB m x.bidder) p.offers
  have := h.2.1
  simp only [subP]
  omega
def worthR (p : Prob) (m : Int) : Int := (bestA (subP p m)).value
def r26 : SCtr := ⟨26, Prob × Int, .cons codP (.one (codI .i64)), fun a => Good a.1 ∧ 0 ≤ a.2 ∧ a.2 < 256, fun a => .si .i64 (worthR a.1 a.2)⟩
def subT (p : Prob) (m : Int) (i : Int) : List Off := (p.offers.take i.toNat).filter fun x => hasB m x.bidder
def Λ26 (a : Prob × Int) : Nat → LoopAnn
  | 4 => .inv Int (fun i => ⟨[(1, .si .i64 a.2), (2, .ptr 0 0 20), (5, .ptr 1 0 20), (6, .si .i64 i)], [.cells a.1.ss 27 20 false,
      .cells [.si .i64 a.1.supply.a0, .si .i64 a.1.supply.a1, .si .i64 a.1.supply.a2, .si .i64 a.1.supply.a3, .si .i64 a.1.supply.a4, .si .i64 a.1.supply.a5,
       .si .i64 a.1.opn.a0, .si .i64 a.1.opn.a1, .si .i64 a.1.opn.a2, .si .i64 a.1.opn.a3, .si .i64 a.1.opn.a4, .si .i64 a.1.opn.a5,
       .si .i64 a.1.cls.a0, .si .i64 a.1.cls.a1, .si .i64 a.1.cls.a2, .si .i64 a.1.cls.a3, .si .i64 a.1.cls.a4, .si .i64 a.1.cls.a5,
       .row (.i .i64) a.1.classes, .ow 2 (subT a.1 a.2 i).length 8] 27 20 false, .row .off (subT a.1 a.2 i) 43 true]⟩) (fun s => iS s 6) (fun i => 0 ≤ i ∧ i ≤ a.1.offers.length) (fun i => (a.1.offers.length - i).toNat) fun _ _ => .look
  | _ => .look
theorem h26 : Holds Try.prog r26 := by
  refine con (L := [r71, r25]) r26 F26 Λ26 (OwnOK.none _) (by simp only [List.forall_mem_cons, List.not_mem_nil, false_implies, implies_true, and_true]; exact ⟨h71, h25⟩) (by kernel_rfl) (by kernel_rfl) (fun _ => rfl) ?_
  rintro ⟨p, m⟩ ⟨h0, h1, h2⟩
  refine vcOf (((((SV.si .i64 m).same (SV.si .i64 m) ∧ (SV.ptr 0 0 20).same (SV.ptr 0 0 20) ∧ (SV.ptr 1 0 20).same (SV.ptr 1 0 20) ∧ (SV.il .i64 0).same (SV.si .i64 0) ∧ True) ∧ (SObj.cells (Prob.ss p) 27 20 false).same (SObj.cells (Prob.ss p) 27 20 false) ∧ (SObj.cells [SV.si .i64 p.supply.a0, SV.si .i64 p.supply.a1, SV.si .i64 p.supply.a2, SV.si .i64 p.supply.a3, SV.si .i64 p.supply.a4, SV.si .i64 p.supply.a5, SV.si .i64 p.opn.a0, SV.si .i64 p.opn.a1, SV.si .i64 p.opn.a2, SV.si .i64 p.opn.a3, SV.si .i64 p.opn.a4, SV.si .i64 p.opn.a5, SV.si .i64 p.cls.a0, SV.si .i64 p.cls.a1, SV.si .i64 p.cls.a2, SV.si .i64 p.cls.a3, SV.si .i64 p.cls.a4, SV.si .i64 p.cls.a5, SV.row (SId.i .i64) p.classes, SV.ow 2 0 8] 27 20 false).same (SObj.cells [SV.si .i64 p.supply.a0, SV.si .i64 p.supply.a1, SV.si .i64 p.supply.a2, SV.si .i64 p.supply.a3, SV.si .i64 p.supply.a4, SV.si .i64 p.supply.a5, SV.si .i64 p.opn.a0, SV.si .i64 p.opn.a1, SV.si .i64 p.opn.a2, SV.si .i64 p.opn.a3, SV.si .i64 p.opn.a4, SV.si .i64 p.opn.a5, SV.si .i64 p.cls.a0, SV.si .i64 p.cls.a1, SV.si .i64 p.cls.a2, SV.si .i64 p.cls.a3, SV.si .i64 p.cls.a4, SV.si .i64 p.cls.a5, SV.row (SId.i .i64) p.classes, SV.ow 2 (subT p m (0 : Int)).length 8] 27 20 false) ∧ (SObj.row SId.off [] 43 true).same (SObj.row SId.off (subT p m (0 : Int)) 43 true) ∧ True) ∧ (0 : Int) ≤ (0 : Int) ∧ (0 : Int) ≤ (↑p.offers.length : Int)) ∧ ∀ (x : Int), (0 : Int) ≤ x ∧ x ≤ (↑p.offers.length : Int) → (decide (x < (↑p.offers.length : Int)) = true → (0 : Int) ≤ x ∧ x < (↑p.offers.length : Int) ∧ x.toNat < p.offers.length ∧ ((0 : Int) ≤ m ∧ m < (256 : Int) ∧ (0 : Int) ≤ (nthD p.offers x.toNat SId.off.dflt).bidder ∧ (nthD p.offers x.toNat SId.off.dflt).bidder ≤ (8 : Int)) ∧ (hasB m (nthD p.offers x.toNat SId.off.dflt).bidder = true → (0 : Int) ≤ x ∧ x < (↑p.offers.length : Int) ∧ x.toNat < p.offers.length ∧ 1 = 1 ∧ (subT p m x).length = (subT p m x).length ∧ ((subT p m x).length + 1) * 64 ≤ 140737488355328 ∧ (subT p m x).length + 1 ≤ 1000000000000 ∧ inR .i64 (x + (1 : Int)) ∧ (((SV.si .i64 m).same (SV.si .i64 m) ∧ (SV.ptr 0 0 20).same (SV.ptr 0 0 20) ∧ (SV.ptr 1 0 20).same (SV.ptr 1 0 20) ∧ (SV.si .i64 (x + (1 : Int))).same (SV.si .i64 (x + (1 : Int))) ∧ True) ∧ (SObj.cells (Prob.ss p) 27 20 false).same (SObj.cells (Prob.ss p) 27 20 false) ∧ (SObj.cells [SV.si .i64 p.supply.a0, SV.si .i64 p.supply.a1, SV.si .i64 p.supply.a2, SV.si .i64 p.supply.a3, SV.si .i64 p.supply.a4, SV.si .i64 p.supply.a5, SV.si .i64 p.opn.a0, SV.si .i64 p.opn.a1, SV.si .i64 p.opn.a2, SV.si .i64 p.opn.a3, SV.si .i64 p.opn.a4, SV.si .i64 p.opn.a5, SV.si .i64 p.cls.a0, SV.si .i64 p.cls.a1, SV.si .i64 p.cls.a2, SV.si .i64 p.cls.a3, SV.si .i64 p.cls.a4, SV.si .i64 p.cls.a5, SV.row (SId.i .i64) p.classes, SV.ow 2 (subT p m x ++ [nthD p.offers x.toNat SId.off.dflt]).length 8] 27 20 false).same (SObj.cells [SV.si .i64 p.supply.a0, SV.si .i64 p.supply.a1, SV.si .i64 p.supply.a2, SV.si .i64 p.supply.a3, SV.si .i64 p.supply.a4, SV.si .i64 p.supply.a5, SV.si .i64 p.opn.a0, SV.si .i64 p.opn.a1, SV.si .i64 p.opn.a2, SV.si .i64 p.opn.a3, SV.si .i64 p.opn.a4, SV.si .i64 p.opn.a5, SV.si .i64 p.cls.a0, SV.si .i64 p.cls.a1, SV.si .i64 p.cls.a2, SV.si .i64 p.cls.a3, SV.si .i64 p.cls.a4, SV.si .i64 p.cls.a5, SV.row (SId.i .i64) p.classes, SV.ow 2 (subT p m (x + (1 : Int))).length 8] 27 20 false) ∧ (SObj.row SId.off (subT p m x ++ [nthD p.offers x.toNat SId.off.dflt]) 43 true).same (SObj.row SId.off (subT p m (x + (1 : Int))) 43 true) ∧ True) ∧ ((0 : Int) ≤ x + (1 : Int) ∧ x + (1 : Int) ≤ (↑p.offers.length : Int)) ∧ ((↑p.offers.length : Int) - (x + (1 : Int))).toNat < ((↑p.offers.length : Int) - x).toNat) ∧ (hasB m (nthD p.offers x.toNat SId.off.dflt).bidder = false → inR .i64 (x + (1 : Int)) ∧ (((SV.si .i64 m).same (SV.si .i64 m) ∧ (SV.ptr 0 0 20).same (SV.ptr 0 0 20) ∧ (SV.ptr 1 0 20).same (SV.ptr 1 0 20) ∧ (SV.si .i64 (x + (1 : Int))).same (SV.si .i64 (x + (1 : Int))) ∧ True) ∧ (SObj.cells (Prob.ss p) 27 20 false).same (SObj.cells (Prob.ss p) 27 20 false) ∧ (SObj.cells [SV.si .i64 p.supply.a0, SV.si .i64 p.supply.a1, SV.si .i64 p.supply.a2, SV.si .i64 p.supply.a3, SV.si .i64 p.supply.a4, SV.si .i64 p.supply.a5, SV.si .i64 p.opn.a0, SV.si .i64 p.opn.a1, SV.si .i64 p.opn.a2, SV.si .i64 p.opn.a3, SV.si .i64 p.opn.a4, SV.si .i64 p.opn.a5, SV.si .i64 p.cls.a0, SV.si .i64 p.cls.a1, SV.si .i64 p.cls.a2, SV.si .i64 p.cls.a3, SV.si .i64 p.cls.a4, SV.si .i64 p.cls.a5, SV.row (SId.i .i64) p.classes, SV.ow 2 (subT p m x).length 8] 27 20 false).same (SObj.cells [SV.si .i64 p.supply.a0, SV.si .i64 p.supply.a1, SV.si .i64 p.supply.a2, SV.si .i64 p.supply.a3, SV.si .i64 p.supply.a4, SV.si .i64 p.supply.a5, SV.si .i64 p.opn.a0, SV.si .i64 p.opn.a1, SV.si .i64 p.opn.a2, SV.si .i64 p.opn.a3, SV.si .i64 p.opn.a4, SV.si .i64 p.opn.a5, SV.si .i64 p.cls.a0, SV.si .i64 p.cls.a1, SV.si .i64 p.cls.a2, SV.si .i64 p.cls.a3, SV.si .i64 p.cls.a4, SV.si .i64 p.cls.a5, SV.row (SId.i .i64) p.classes, SV.ow 2 (subT p m (x + (1 : Int))).length 8] 27 20 false) ∧ (SObj.row SId.off (subT p m x) 43 true).same (SObj.row SId.off (subT p m (x + (1 : Int))) 43 true) ∧ True) ∧ ((0 : Int) ≤ x + (1 : Int) ∧ x + (1 : Int) ≤ (↑p.offers.length : Int)) ∧ ((↑p.offers.length : Int) - (x + (1 : Int))).toNat < ((↑p.offers.length : Int) - x).toNat)) ∧ (decide (x < (↑p.offers.length : Int)) = false → (subT p m x).length = (subT p m x).length ∧ Good (Prob.mk p.supply p.opn p.cls p.classes (subT p m x)) ∧ (SV.si .i64 (bestA (Prob.mk p.supply p.opn p.cls p.classes (subT p m x))).value).same (SV.si .i64 (worthR p m)))) (by kernel_rfl) ?_
  simp only at h0 h1 h2
  simp only [decide_eq_true_eq, decide_eq_false_iff_not, same_il_si, same_si_si, same_si_il, same_il_il, same_sb_sb, same_bl_sb, same_row, same_tup2, same_tup3, same_nil, same_row_nil, same_rfl, osame_rfl, inR_i64, eq_self, true_and, and_true, Bool.and_eq_true, Bool.not_eq_true', Bool.not_eq_false']
  have hN := h0.2.1
  have hlen : ∀ i, (subT p m i).length ≤ 160 := fun i => by
    have h3 := List.length_filter_le (fun x : Off => hasB m x.bidder) (p.offers.take i.toNat)
    simp only [List.length_take] at h3
    unfold subT
    omega
  refine ⟨⟨⟨rfl, rfl⟩, by omega, by omega⟩, ?_⟩
  rintro i ⟨hi0, hi1⟩
  refine ⟨fun hlt => ?_, fun hge => ?_⟩
  · have hx := h0.2.2.2.2 _ (nthD_mem (d := SId.off.dflt) (show i.toNat < p.offers.length by omega))
    have hn8 := h0.1
    have hl := hlen i
    refine ⟨by omega, by omega, by omega, ⟨by omega, by omega, by omega, by omega⟩, fun hr => ?_, fun hr => ?_⟩
    · have hS : subT p m (i + 1) = subT p m i ++ [nthD p.offers i.toNat SId.off.dflt] := by
        unfold subT
        rw [take_nth (d := SId.off.dflt) hi0 hlt, List.filter_append]
        simp [hr]
      rw [hS]
      refine ⟨by omega, by omega, by omega, by omega, by omega, by omega, ⟨rfl, rfl⟩, by omega, by omega⟩
    · have hS : subT p m (i + 1) = subT p m i := by
        unfold subT
        rw [take_nth (d := SId.off.dflt) hi0 hlt, List.filter_append]
        simp [hr]
      rw [hS]
      refine ⟨by omega, ⟨rfl, rfl⟩, by omega, by omega⟩
  · have hS : subT p m i = p.offers.filter fun x => hasB m x.bidder := by
      unfold subT
      rw [show i.toNat = p.offers.length by omega, List.take_length]
    rw [hS]
    exact ⟨sub_good h0 m, rfl⟩

end Go.Vi
/-
  Contracts: Vickrey payments (the reference).
  Conditions: none.
-/
set_option maxRecDepth 100000
set_option maxHeartbeats 4000000
set_option linter.unusedSimpArgs false
set_option linter.unusedVariables false
namespace Go.Vi
open Go.Proofs.Ytigbjjkijfkeeaa.Ir
open Go.Proofs

def N1 : List SCtr := r26 :: r27 :: r71 :: r55 :: r58 :: M3
theorem hN1 : ∀ c ∈ N1, Holds Try.prog c := by
  simp only [N1, List.forall_mem_cons]
  exact ⟨h26, h27, h71, h55, h58, hM3⟩

theorem feas_ok {p : Prob} {c : List Int} (hz : feasE p c = 0) : checkE p = 0 ∧ pickOk p c = true ∧ Good p ∧ c.length ≤ 160 ∧ ∀ i ∈ c, 0 ≤ i ∧ i < p.offers.length := by
  have hck : checkE p = 0 := by
    unfold feasE at hz
    split at hz
    · rename_i h1; exact absurd hz h1
    · rename_i h1; exact Classical.not_not.1 h1
  have hpk : pickOk p c = true := by
    unfold feasE at hz
    rw [if_neg (by simp [hck])] at hz
    split at hz
    · cases hz
    · rename_i h1; simpa using h1
  have hg := good_of hck
  obtain ⟨r, hr⟩ := Option.isSome_iff_exists.1 hpk
  obtain ⟨hr1, hidx⟩ := pick_idx (by omega) hr
  refine ⟨hck, hpk, hg, ?_, hidx⟩
  have h1 := pick_len (by omega) hr
  have h2 := hg.2.1
  rcases h1 with h1 | rfl
  · omega
  · simp at hr1; omega

def wonF (p : Prob) (b : Int) (s : Int × Int) (i : Int) : Int × Int := if (nthD p.offers i.toNat SId.off.dflt).bidder = b then ((nthD p.offers i.toNat SId.off.dflt).value, s.2) else (s.1, s.2 + (nthD p.offers i.toNat SId.off.dflt).value)
def wonS (p : Prob) (c : List Int) (b : Int) : Int × Int := c.foldl (wonF p b) (0, 0)
theorem better_bd {a b : Alloc} {n : Int} (ha : 0 ≤ a.value ∧ a.value ≤ n) (hb : 0 ≤ b.value ∧ b.value ≤ n) : 0 ≤ (better a b).value ∧ (better a b).value ≤ n := by
  unfold better
  split <;> assumption
theorem extL_bd {p : Prob} (hg : Good p) : ∀ {k : Nat} {i : Int} {a b : Alloc}, 0 ≤ i → i + k ≤ p.offers.length → 0 ≤ a.value ∧ a.value ≤ 1000000 * i → 0 ≤ b.value ∧ b.value ≤ 160000000 → 0 ≤ (extL p k i a b).value ∧ (extL p k i a b).value ≤ 160000000
  | 0, i, a, b, _, _, _, h => h
  | k + 1, i, a, b, h0, h1, h2, h3 => by
    have hN := hg.2.1
    have hv := hg.2.2.2.2 _ (nthD_mem (d := SId.off.dflt) (show i.toNat < p.offers.length by omega))
    simp only [extL]
    apply extL_bd hg (by omega) (by omega) (by omega)
    split
    · have hq : 0 ≤ a.value + valI p i ∧ a.value + valI p i ≤ 1000000 * (i + 1) := by unfold valI; omega
      apply extL_bd hg (by omega) (by omega) hq
      exact better_bd ⟨hq.1, by simp only; omega⟩ h3
    · exact h3
theorem worthR_bd {p : Prob} (hg : Good p) (m : Int) : 0 ≤ worthR p m ∧ worthR p m ≤ 160000000 := by
  unfold worthR bestA extS2
  exact extL_bd (sub_good hg m) (by omega) (by unfold leftN; omega) (by simp) (better_bd (by simp) (by simp))
theorem allR_256 {p : Prob} (h : p.classes.length ≤ 8) (w : Int) : 0 ≤ allR p w p.classes.length ∧ allR p w p.classes.length < 256 := by
  have h1 := allR_bd p w p.classes.length
  have h2 := pow_n h
  omega
theorem won_snoc {p : Prob} {c : List Int} {b : Int} {i : Int} (h0 : 0 ≤ i) (h1 : i < c.length) : wonS p (c.take (i + 1).toNat) b = wonF p b (wonS p (c.take i.toNat) b) (nthD c i.toNat 0) := by
  rw [take_nth (d := 0) h0 h1]
  unfold wonS
  rw [List.foldl_append]
  rfl
theorem won_bd {p : Prob} (hg : Good p) (b : Int) : ∀ {c : List Int} {s : Int × Int} {B : Int}, (∀ i ∈ c, 0 ≤ i ∧ i < p.offers.length) → (0 ≤ s.1 ∧ s.1 ≤ 1000000) → (0 ≤ s.2 ∧ s.2 ≤ B) → (0 ≤ (c.foldl (wonF p b) s).1 ∧ (c.foldl (wonF p b) s).1 ≤ 1000000) ∧ 0 ≤ (c.foldl (wonF p b) s).2 ∧ (c.foldl (wonF p b) s).2 ≤ B + 1000000 * c.length
  | [], s, B, _, h1, h2 => by simp; omega
  | i :: c, s, B, hc, h1, h2 => by
    have hi := hc i (by simp)
    have hv := hg.2.2.2.2 _ (nthD_mem (d := SId.off.dflt) (show i.toNat < p.offers.length by omega))
    have hs : (0 ≤ (wonF p b s i).1 ∧ (wonF p b s i).1 ≤ 1000000) ∧ 0 ≤ (wonF p b s i).2 ∧ (wonF p b s i).2 ≤ B + 1000000 := by
      unfold wonF
      split <;> simp only <;> omega
    have := won_bd hg b (c := c) (fun j hj => hc j (by simp [hj])) hs.1 hs.2
    simp only [List.foldl_cons, List.length_cons] at this ⊢
    omega
theorem wonS_bd {p : Prob} (hg : Good p) (b : Int) {c : List Int} (hc : ∀ i ∈ c, 0 ≤ i ∧ i < p.offers.length) (hl : c.length ≤ 160) : (0 ≤ (wonS p c b).1 ∧ (wonS p c b).1 ≤ 1000000) ∧ 0 ≤ (wonS p c b).2 ∧ (wonS p c b).2 ≤ 160000000 := by
  have := won_bd hg b (c := c) (s := (0, 0)) (B := 0) hc (by simp) (by simp)
  unfold wonS
  omega

def allN (p : Prob) : Int := allR p (-1) p.classes.length
def faultR (p : Prob) (c : List Int) : Int := if feasE p c ≠ 0 then feasE p c else if valueS p c < worthR p (allN p) then 13 else 0
def r64 : SCtr := ⟨64, Prob × Alloc, .cons codP (.one codA), fun a => a.2.chosen.length ≤ 1000000000000, fun a => .si .i64 (faultR a.1 a.2.chosen)⟩
theorem h64 : Holds Try.prog r64 := by
  refine con (L := N1) r64 F64 (fun _ _ => .look) (OwnOK.none _) hN1 (by kernel_rfl) (by kernel_rfl) (fun _ => rfl) ?_
  rintro ⟨p, ⟨c, v⟩⟩ (hc : c.length ≤ 1000000000000)
  refine vcOf (c.length ≤ 1000000000000 ∧ (decide (feasE p c ≠ (0 : Int)) = true → (SV.si .i64 (feasE p c)).same (SV.si .i64 (faultR p c))) ∧ (decide (feasE p c ≠ (0 : Int)) = false → c.length ≤ 1000000000000 ∧ p.classes.length ≤ 8 ∧ (Good p ∧ (0 : Int) ≤ allR p (-1 : Int) p.classes.length ∧ allR p (-1 : Int) p.classes.length < (256 : Int)) ∧ (decide (valueS p c < worthR p (allR p (-1 : Int) p.classes.length)) = true → (SV.il .i64 13).same (SV.si .i64 (faultR p c))) ∧ (decide (valueS p c < worthR p (allR p (-1 : Int) p.classes.length)) = false → (SV.il .i64 0).same (SV.si .i64 (faultR p c))))) (by kernel_rfl) ?_
  simp only [decide_eq_true_eq, decide_eq_false_iff_not, same_il_si, same_si_si, same_si_il, same_il_il, same_sb_sb, same_bl_sb, same_row, same_tup2, same_tup3, same_nil, same_row_nil, same_rfl, osame_rfl, inR_i64, eq_self, true_and, and_true, Bool.and_eq_true, Bool.not_eq_true', Bool.not_eq_false']
  refine ⟨hc, fun h => by simp [faultR, h], fun h => ?_⟩
  have hz : feasE p c = 0 := Classical.not_not.1 h
  obtain ⟨q1, q2, hg, q4, q5⟩ := feas_ok hz
  have hb := allR_256 hg.1 (-1)
  refine ⟨hc, hg.1, ⟨hg, by omega, by omega⟩, fun h1 => ?_, fun h1 => ?_⟩
  · have h2 : valueS p c < worthR p (allN p) := h1
    unfold faultR
    rw [if_neg h, if_pos h2]
  · have h2 : ¬ valueS p c < worthR p (allN p) := h1
    unfold faultR
    rw [if_neg h, if_neg h2]

def Λ67 (a : Prob × Alloc × Int) : Nat → LoopAnn
  | 3 => .inv Int (fun i => ⟨[(2, .si .i64 a.2.2), (3, .ptr 0 0 20), (4, .ptr 1 0 2), (8, .si .i64 (wonS a.1 (a.2.1.chosen.take i.toNat) a.2.2).1), (9, .si .i64 (wonS a.1 (a.2.1.chosen.take i.toNat) a.2.2).2), (10, .si .i64 i)],
      [.cells a.1.ss 27 20 false, .cells [.row (.i .i64) a.2.1.chosen, .si .i64 a.2.1.value] 31 2 false]⟩) (fun s => iS s 10) (fun i => 0 ≤ i ∧ i ≤ a.2.1.chosen.length) (fun i => (a.2.1.chosen.length - i).toNat) fun _ _ => .look
  | _ => .look
def r67 : SCtr := ⟨67, Prob × Alloc × Int, .cons codP (.cons codA (.one (codI .i64))), fun a => Good a.1 ∧ a.2.1.chosen.length ≤ 160 ∧ ∀ i ∈ a.2.1.chosen, 0 ≤ i ∧ i < a.1.offers.length,
  fun a => .tup [.si .i64 (wonS a.1 a.2.1.chosen a.2.2).1, .si .i64 (wonS a.1 a.2.1.chosen a.2.2).2]⟩
theorem h67 : Holds Try.prog r67 := by
  refine con (L := []) r67 F67 Λ67 (OwnOK.none _) (by simp) (by kernel_rfl) (by kernel_rfl) (fun _ => rfl) ?_
  rintro ⟨p, ⟨c, v⟩, b⟩ ⟨hg, hc, hi⟩
  refine vcOf (((((SV.si .i64 b).same (SV.si .i64 b) ∧ (SV.ptr 0 0 20).same (SV.ptr 0 0 20) ∧ (SV.ptr 1 0 2).same (SV.ptr 1 0 2) ∧ (SV.il .i64 0).same (SV.si .i64 (wonS p [] b).fst) ∧ (SV.il .i64 0).same (SV.si .i64 (wonS p [] b).snd) ∧ (SV.il .i64 0).same (SV.si .i64 0) ∧ True) ∧ (SObj.cells (Prob.ss p) 27 20 false).same (SObj.cells (Prob.ss p) 27 20 false) ∧ (SObj.cells [SV.row (SId.i .i64) c, SV.si .i64 v] 31 2 false).same (SObj.cells [SV.row (SId.i .i64) c, SV.si .i64 v] 31 2 false) ∧ True) ∧ (0 : Int) ≤ (0 : Int) ∧ (0 : Int) ≤ (↑c.length : Int)) ∧ ∀ (x : Int), (0 : Int) ≤ x ∧ x ≤ (↑c.length : Int) → (decide (x < (↑c.length : Int)) = true → (0 : Int) ≤ x ∧ x < (↑c.length : Int) ∧ x.toNat < c.length ∧ (0 : Int) ≤ nthD c x.toNat (0 : Int) ∧ nthD c x.toNat (0 : Int) < (↑p.offers.length : Int) ∧ (nthD c x.toNat (0 : Int)).toNat < p.offers.length ∧ (decide ((nthD p.offers (nthD c x.toNat (0 : Int)).toNat SId.off.dflt).bidder = b) = true → inR .i64 (x + (1 : Int)) ∧ (((SV.si .i64 b).same (SV.si .i64 b) ∧ (SV.ptr 0 0 20).same (SV.ptr 0 0 20) ∧ (SV.ptr 1 0 2).same (SV.ptr 1 0 2) ∧ (SV.si .i64 (nthD p.offers (nthD c x.toNat (0 : Int)).toNat SId.off.dflt).value).same (SV.si .i64 (wonS p (List.take (x + (1 : Int)).toNat c) b).fst) ∧ (SV.si .i64 (wonS p (List.take x.toNat c) b).snd).same (SV.si .i64 (wonS p (List.take (x + (1 : Int)).toNat c) b).snd) ∧ (SV.si .i64 (x + (1 : Int))).same (SV.si .i64 (x + (1 : Int))) ∧ True) ∧ (SObj.cells (Prob.ss p) 27 20 false).same (SObj.cells (Prob.ss p) 27 20 false) ∧ (SObj.cells [SV.row (SId.i .i64) c, SV.si .i64 v] 31 2 false).same (SObj.cells [SV.row (SId.i .i64) c, SV.si .i64 v] 31 2 false) ∧ True) ∧ ((0 : Int) ≤ x + (1 : Int) ∧ x + (1 : Int) ≤ (↑c.length : Int)) ∧ ((↑c.length : Int) - (x + (1 : Int))).toNat < ((↑c.length : Int) - x).toNat) ∧ (decide ((nthD p.offers (nthD c x.toNat (0 : Int)).toNat SId.off.dflt).bidder = b) = false → inR .i64 ((wonS p (List.take x.toNat c) b).snd + (nthD p.offers (nthD c x.toNat (0 : Int)).toNat SId.off.dflt).value) ∧ inR .i64 (x + (1 : Int)) ∧ (((SV.si .i64 b).same (SV.si .i64 b) ∧ (SV.ptr 0 0 20).same (SV.ptr 0 0 20) ∧ (SV.ptr 1 0 2).same (SV.ptr 1 0 2) ∧ (SV.si .i64 (wonS p (List.take x.toNat c) b).fst).same (SV.si .i64 (wonS p (List.take (x + (1 : Int)).toNat c) b).fst) ∧ (SV.si .i64 ((wonS p (List.take x.toNat c) b).snd + (nthD p.offers (nthD c x.toNat (0 : Int)).toNat SId.off.dflt).value)).same (SV.si .i64 (wonS p (List.take (x + (1 : Int)).toNat c) b).snd) ∧ (SV.si .i64 (x + (1 : Int))).same (SV.si .i64 (x + (1 : Int))) ∧ True) ∧ (SObj.cells (Prob.ss p) 27 20 false).same (SObj.cells (Prob.ss p) 27 20 false) ∧ (SObj.cells [SV.row (SId.i .i64) c, SV.si .i64 v] 31 2 false).same (SObj.cells [SV.row (SId.i .i64) c, SV.si .i64 v] 31 2 false) ∧ True) ∧ ((0 : Int) ≤ x + (1 : Int) ∧ x + (1 : Int) ≤ (↑c.length : Int)) ∧ ((↑c.length : Int) - (x + (1 : Int))).toNat < ((↑c.length : Int) - x).toNat)) ∧ (decide (x < (↑c.length : Int)) = false → (SV.tup [SV.si .i64 (wonS p (List.take x.toNat c) b).fst, SV.si .i64 (wonS p (List.take x.toNat c) b).snd]).same (SV.tup [SV.si .i64 (wonS p c b).fst, SV.si .i64 (wonS p c b).snd]))) (by kernel_rfl) ?_
  simp only at hg hc hi
  simp only [decide_eq_true_eq, decide_eq_false_iff_not, same_il_si, same_si_si, same_si_il, same_il_il, same_sb_sb, same_bl_sb, same_row, same_tup2, same_tup3, same_nil, same_row_nil, same_rfl, osame_rfl, inR_i64, eq_self, true_and, and_true, Bool.and_eq_true, Bool.not_eq_true', Bool.not_eq_false']
  refine ⟨⟨⟨rfl, rfl⟩, by omega, by omega⟩, ?_⟩
  rintro i ⟨hi0, hi1⟩
  refine ⟨fun hlt => ?_, fun hge => ?_⟩
  · have hci := hi _ (nthD_mem (d := 0) (show i.toNat < c.length by omega))
    have hv := hg.2.2.2.2 _ (nthD_mem (d := SId.off.dflt) (show (nthD c i.toNat 0).toNat < p.offers.length by omega))
    have hs := wonS_bd hg b (c := c.take i.toNat) (fun j hj => hi j (List.mem_of_mem_take hj)) (by simp; omega)
    rw [won_snoc hi0 hlt]
    refine ⟨hi0, hlt, by omega, hci.1, hci.2, by omega, fun h1 => ?_, fun h1 => ?_⟩
    · unfold wonF
      rw [if_pos h1]
      exact ⟨by omega, ⟨rfl, rfl⟩, by omega, by omega⟩
    · unfold wonF
      rw [if_neg h1]
      exact ⟨by omega, by omega, ⟨rfl, rfl⟩, by omega, by omega⟩
  · rw [show i.toNat = c.length by omega, List.take_length]
    exact ⟨rfl, rfl⟩

def payR (p : Prob) (c : List Int) (b : Int) : Int := if (wonS p c b).1 = 0 then 0 else worthR p (allR p b p.classes.length) - (wonS p c b).2
def N2 : List SCtr := r64 :: r67 :: N1
theorem hN2 : ∀ c ∈ N2, Holds Try.prog c := by
  simp only [N2, List.forall_mem_cons]
  exact ⟨h64, h67, hN1⟩
def r65 : SCtr := ⟨65, Prob × Alloc × Int, .cons codP (.cons codA (.one (codI .i64))), fun a => Good a.1 ∧ a.2.1.chosen.length ≤ 160 ∧ ∀ i ∈ a.2.1.chosen, 0 ≤ i ∧ i < a.1.offers.length,
  fun a => .si .i64 (payR a.1 a.2.1.chosen a.2.2)⟩
theorem h65 : Holds Try.prog r65 := by
  refine con (L := N2) r65 F65 (fun _ _ => .look) (OwnOK.none _) hN2 (by kernel_rfl) (by kernel_rfl) (fun _ => rfl) ?_
  rintro ⟨p, ⟨c, v⟩, b⟩ ⟨hg, hc, hi⟩
  refine vcOf ((Good p ∧ c.length ≤ 160 ∧ ∀ (i : Int), i ∈ c → (0 : Int) ≤ i ∧ i < (↑p.offers.length : Int)) ∧ (decide ((wonS p c b).fst = (0 : Int)) = true → (SV.il .i64 0).same (SV.si .i64 (payR p c b))) ∧ (decide ((wonS p c b).fst = (0 : Int)) = false → p.classes.length ≤ 8 ∧ (Good p ∧ (0 : Int) ≤ allR p b p.classes.length ∧ allR p b p.classes.length < (256 : Int)) ∧ inR .i64 (worthR p (allR p b p.classes.length) - (wonS p c b).snd) ∧ (SV.si .i64 (worthR p (allR p b p.classes.length) - (wonS p c b).snd)).same (SV.si .i64 (payR p c b)))) (by kernel_rfl) ?_
  simp only at hg hc hi
  simp only [decide_eq_true_eq, decide_eq_false_iff_not, same_il_si, same_si_si, same_si_il, same_il_il, same_sb_sb, same_bl_sb, same_row, same_tup2, same_tup3, same_nil, same_row_nil, same_rfl, osame_rfl, inR_i64, eq_self, true_and, and_true, Bool.and_eq_true, Bool.not_eq_true', Bool.not_eq_false']
  have hb := allR_256 hg.1 b
  have hw := worthR_bd hg (allR p b p.classes.length)
  have hs := wonS_bd hg b hi hc
  refine ⟨⟨hg, hc, hi⟩, fun h => by simp [payR, h], fun h => ⟨hg.1, ⟨hg, by omega, by omega⟩, by omega, ?_⟩⟩
  unfold payR
  rw [if_neg h]

end Go.Vi
/-
  Contracts: Vickrey payments of all bidders (the reference).
  Conditions: none.
-/
set_option maxRecDepth 100000
set_option maxHeartbeats 4000000
set_option linter.unusedSimpArgs false
set_option linter.unusedVariables false
namespace Go.Vi
open Go.Proofs.Ytigbjjkijfkeeaa.Ir
open Go.Proofs

def N3 : List SCtr := r65 :: N2
theorem hN3 : ∀ c ∈ N3, Holds Try.prog c := by
  simp only [N3, List.forall_mem_cons]
  exact ⟨h65, hN2⟩

theorem faultR_ok {p : Prob} {c : List Int} (h : faultR p c = 0) : feasE p c = 0 := by
  unfold faultR at h
  split at h
  · rename_i h1; exact absurd h h1
  · rename_i h1; exact Classical.not_not.1 h1
theorem payR_bd {p : Prob} {c : List Int} {b : Int} (hg : Good p) (hl : c.length ≤ 160) (hc : ∀ i ∈ c, 0 ≤ i ∧ i < p.offers.length) : -300000000 ≤ payR p c b ∧ payR p c b ≤ 300000000 := by
  have hw := worthR_bd hg (allR p b p.classes.length)
  have hs := wonS_bd hg b hc hl
  unfold payR
  split <;> omega

def extRE (p : Prob) (c : List Int) (b : Int) : Int := if faultR p c ≠ 0 then faultR p c else if b < 0 ∨ p.classes.length ≤ b then 6 else 0
def extRS (p : Prob) (c : List Int) (b : Int) : Int := if extRE p c b = 0 then payR p c b else 0
def r22 : SCtr := ⟨22, Prob × Alloc × Int, .cons codP (.cons codA (.one (codI .i64))), fun a => a.2.1.chosen.length ≤ 1000000000000, fun a => .tup [.si .i64 (extRS a.1 a.2.1.chosen a.2.2), .si .i64 (extRE a.1 a.2.1.chosen a.2.2)]⟩
theorem h22 : Holds Try.prog r22 := by
  refine con (L := N3) r22 F22 (fun _ _ => .look) (OwnOK.none _) hN3 (by kernel_rfl) (by kernel_rfl) (fun _ => rfl) ?_
  rintro ⟨p, ⟨c, v⟩, b⟩ (hc : c.length ≤ 1000000000000)
  refine vcOf (c.length ≤ 1000000000000 ∧ (decide (faultR p c ≠ (0 : Int)) = true → (SV.tup [SV.il .i64 0, SV.si .i64 (faultR p c)]).same (SV.tup [SV.si .i64 (extRS p c b), SV.si .i64 (extRE p c b)])) ∧ (decide (faultR p c ≠ (0 : Int)) = false → (decide (b < (0 : Int)) = true → (SV.tup [SV.il .i64 0, SV.il .i64 6]).same (SV.tup [SV.si .i64 (extRS p c b), SV.si .i64 (extRE p c b)])) ∧ (decide (b < (0 : Int)) = false → (decide ((↑p.classes.length : Int) ≤ b) = true → (SV.tup [SV.il .i64 0, SV.il .i64 6]).same (SV.tup [SV.si .i64 (extRS p c b), SV.si .i64 (extRE p c b)])) ∧ (decide ((↑p.classes.length : Int) ≤ b) = false → (Good p ∧ c.length ≤ 160 ∧ ∀ (i : Int), i ∈ c → (0 : Int) ≤ i ∧ i < (↑p.offers.length : Int)) ∧ (SV.tup [SV.si .i64 (payR p c b), SV.il .i64 0]).same (SV.tup [SV.si .i64 (extRS p c b), SV.si .i64 (extRE p c b)]))))) (by kernel_rfl) ?_
  simp only [decide_eq_true_eq, decide_eq_false_iff_not, same_il_si, same_si_si, same_si_il, same_il_il, same_sb_sb, same_bl_sb, same_row, same_tup2, same_tup3, same_nil, same_row_nil, same_rfl, osame_rfl, inR_i64, eq_self, true_and, and_true, Bool.and_eq_true, Bool.not_eq_true', Bool.not_eq_false']
  refine ⟨hc, fun h => by simp [extRS, extRE, h], fun h => ?_⟩
  have hz : faultR p c = 0 := Classical.not_not.1 h
  obtain ⟨q1, q2, hg, q4, q5⟩ := feas_ok (faultR_ok hz)
  refine ⟨fun hb => ?_, fun hb => ⟨fun hb2 => ?_, fun hb2 => ⟨⟨hg, q4, q5⟩, ?_⟩⟩⟩
  · have : extRE p c b = 6 := by simp [extRE, hz, hb]
    exact ⟨by simp [extRS, this], this.symm⟩
  · have : extRE p c b = 6 := by simp [extRE, hz, hb2]
    exact ⟨by simp [extRS, this], this.symm⟩
  · have : extRE p c b = 0 := by simp only [extRE, hz, ne_eq, not_true, if_false, if_neg (show ¬ (b < 0 ∨ (p.classes.length : Int) ≤ b) by omega)]
    exact ⟨by simp [extRS, this], this.symm⟩

def payRL (p : Prob) (c : List Int) (n : Nat) : List Int := (List.range n).map fun i : Nat => payR p c i
def paysR (p : Prob) (c : List Int) : List Int := if faultR p c = 0 then payRL p c p.classes.length else []
theorem payRL_len {p : Prob} {c : List Int} {n : Nat} : (payRL p c n).length = n := by simp [payRL]
theorem payRL_succ {p : Prob} {c : List Int} {i : Int} (h : 0 ≤ i) : payRL p c (i + 1).toNat = payRL p c i.toNat ++ [payR p c i] := by
  unfold payRL
  rw [show (i + 1).toNat = i.toNat + 1 from by omega, List.range_succ, List.map_append]
  simp only [List.map_cons, List.map_nil, show ((i.toNat : Nat) : Int) = i from by omega]

def r18 : SCtr := ⟨18, Prob × Alloc, .cons codP (.one codA), fun a => a.2.chosen.length ≤ 1000000000000, fun a => .tup [.row (.i .i64) (paysR a.1 a.2.chosen), .si .i64 (faultR a.1 a.2.chosen)]⟩
def Λ18 (a : Prob × Alloc) : Nat → LoopAnn
  | 6 => .inv Int (fun i => ⟨[(2, .ptr 0 0 20), (3, .ptr 1 0 2), (7, .ow 2 (payRL a.1 a.2.chosen i.toNat).length 1), (8, .si .i64 i)], [.cells a.1.ss 27 20 false, .cells [.row (.i .i64) a.2.chosen, .si .i64 a.2.value] 31 2 false, .row (.i .i64) (payRL a.1 a.2.chosen i.toNat) 2 true]⟩)
    (fun s => iS s 8) (fun i => 0 ≤ i ∧ i ≤ a.1.classes.length) (fun i => (a.1.classes.length - i).toNat) fun _ _ => .look
  | _ => .look
theorem h18 : Holds Try.prog r18 := by
  refine con (L := N3) r18 F18 Λ18 (OwnOK.none _) hN3 (by kernel_rfl) (by kernel_rfl) (fun _ => rfl) ?_
  rintro ⟨p, ⟨c, v⟩⟩ (hc : c.length ≤ 1000000000000)
  refine vcOf (c.length ≤ 1000000000000 ∧ (decide (faultR p c ≠ (0 : Int)) = true → (SV.tup [SV.row (SId.i .i64) [], SV.si .i64 (faultR p c)]).same (SV.tup [SV.row (SId.i .i64) (paysR p c), SV.si .i64 (faultR p c)])) ∧ (decide (faultR p c ≠ (0 : Int)) = false → ((((SV.ptr 0 0 20).same (SV.ptr 0 0 20) ∧ (SV.ptr 1 0 2).same (SV.ptr 1 0 2) ∧ (SV.ow 2 0 1).same (SV.ow 2 (payRL p c 0).length 1) ∧ (SV.il .i64 0).same (SV.si .i64 0) ∧ True) ∧ (SObj.cells (Prob.ss p) 27 20 false).same (SObj.cells (Prob.ss p) 27 20 false) ∧ (SObj.cells [SV.row (SId.i .i64) c, SV.si .i64 v] 31 2 false).same (SObj.cells [SV.row (SId.i .i64) c, SV.si .i64 v] 31 2 false) ∧ (SObj.row (SId.i .i64) [] 2 true).same (SObj.row (SId.i .i64) (payRL p c 0) 2 true) ∧ True) ∧ (0 : Int) ≤ (0 : Int) ∧ (0 : Int) ≤ (↑p.classes.length : Int)) ∧ ∀ (x : Int), (0 : Int) ≤ x ∧ x ≤ (↑p.classes.length : Int) → (decide (x < (↑p.classes.length : Int)) = true → (Good p ∧ c.length ≤ 160 ∧ ∀ (i : Int), i ∈ c → (0 : Int) ≤ i ∧ i < (↑p.offers.length : Int)) ∧ (payRL p c x.toNat).length = (payRL p c x.toNat).length ∧ ((payRL p c x.toNat).length + 1) * 8 ≤ 140737488355328 ∧ (payRL p c x.toNat).length + 1 ≤ 1000000000000 ∧ inR .i64 (x + (1 : Int)) ∧ (((SV.ptr 0 0 20).same (SV.ptr 0 0 20) ∧ (SV.ptr 1 0 2).same (SV.ptr 1 0 2) ∧ (SV.ow 2 (payRL p c x.toNat ++ [payR p c x]).length 1).same (SV.ow 2 (payRL p c (x + (1 : Int)).toNat).length 1) ∧ (SV.si .i64 (x + (1 : Int))).same (SV.si .i64 (x + (1 : Int))) ∧ True) ∧ (SObj.cells (Prob.ss p) 27 20 false).same (SObj.cells (Prob.ss p) 27 20 false) ∧ (SObj.cells [SV.row (SId.i .i64) c, SV.si .i64 v] 31 2 false).same (SObj.cells [SV.row (SId.i .i64) c, SV.si .i64 v] 31 2 false) ∧ (SObj.row (SId.i .i64) (payRL p c x.toNat ++ [payR p c x]) 2 true).same (SObj.row (SId.i .i64) (payRL p c (x + (1 : Int)).toNat) 2 true) ∧ True) ∧ ((0 : Int) ≤ x + (1 : Int) ∧ x + (1 : Int) ≤ (↑p.classes.length : Int)) ∧ ((↑p.classes.length : Int) - (x + (1 : Int))).toNat < ((↑p.classes.length : Int) - x).toNat) ∧ (decide (x < (↑p.classes.length : Int)) = false → (payRL p c x.toNat).length = (payRL p c x.toNat).length ∧ (SV.tup [SV.row (SId.i .i64) (payRL p c x.toNat), SV.il .i64 0]).same (SV.tup [SV.row (SId.i .i64) (paysR p c), SV.si .i64 (faultR p c)])))) (by kernel_rfl) ?_
  simp only [decide_eq_true_eq, decide_eq_false_iff_not, same_il_si, same_si_si, same_si_il, same_il_il, same_sb_sb, same_bl_sb, same_row, same_tup2, same_tup3, same_nil, same_row_nil, same_rfl, osame_rfl, inR_i64, eq_self, true_and, and_true, Bool.and_eq_true, Bool.not_eq_true', Bool.not_eq_false']
  refine ⟨hc, fun h => by simp [paysR, h], fun h => ?_⟩
  have hz : faultR p c = 0 := Classical.not_not.1 h
  obtain ⟨q1, q2, hg, q4, q5⟩ := feas_ok (faultR_ok hz)
  have h8 := hg.1
  refine ⟨⟨⟨rfl, rfl⟩, by omega, by omega⟩, ?_⟩
  rintro i ⟨hi0, hi1⟩
  have hL := @payRL_len p c i.toNat
  refine ⟨fun hlt => ?_, fun hge => ?_⟩
  · rw [payRL_succ hi0]
    exact ⟨⟨hg, q4, q5⟩, by omega, by omega, by omega, ⟨rfl, rfl⟩, by omega, by omega⟩
  · rw [show i.toNat = p.classes.length by omega]
    exact ⟨by simp [paysR, hz], hz.symm⟩

def discR (p : Prob) (c : List Int) (b : Int) : Int := (wonS p c b).1 - payR p c b
def discRL (p : Prob) (c : List Int) (n : Nat) : List Int := (List.range n).map fun i : Nat => discR p c i
def discsR (p : Prob) (c : List Int) : List Int := if faultR p c = 0 then discRL p c p.classes.length else []
theorem discRL_len {p : Prob} {c : List Int} {n : Nat} : (discRL p c n).length = n := by simp [discRL]
theorem discRL_succ {p : Prob} {c : List Int} {i : Int} (h : 0 ≤ i) : discRL p c (i + 1).toNat = discRL p c i.toNat ++ [discR p c i] := by
  unfold discRL
  rw [show (i + 1).toNat = i.toNat + 1 from by omega, List.range_succ, List.map_append]
  simp only [List.map_cons, List.map_nil, show ((i.toNat : Nat) : Int) = i from by omega]
def r20 : SCtr := ⟨20, Prob × Alloc, .cons codP (.one codA), fun a => a.2.chosen.length ≤ 1000000000000, fun a => .tup [.row (.i .i64) (discsR a.1 a.2.chosen), .si .i64 (faultR a.1 a.2.chosen)]⟩
def N4 : List SCtr := r18 :: N3
theorem hN4 : ∀ c ∈ N4, Holds Try.prog c := by
  simp only [N4, List.forall_mem_cons]
  exact ⟨h18, hN3⟩
def Λ20 (a : Prob × Alloc) : Nat → LoopAnn
  | 6 => .inv Int (fun i => ⟨[(2, .ptr 0 0 20), (3, .ptr 1 0 2), (6, .row (.i .i64) (paysR a.1 a.2.chosen)), (8, .ow 2 (discRL a.1 a.2.chosen i.toNat).length 1), (9, .si .i64 i)], [.cells a.1.ss 27 20 false, .cells [.row (.i .i64) a.2.chosen, .si .i64 a.2.value] 31 2 false, .row (.i .i64) (discRL a.1 a.2.chosen i.toNat) 2 true]⟩)
    (fun s => iS s 9) (fun i => 0 ≤ i ∧ i ≤ (paysR a.1 a.2.chosen).length) (fun i => ((paysR a.1 a.2.chosen).length - i).toNat) fun _ _ => .look
  | _ => .look
theorem h20 : Holds Try.prog r20 := by
  refine con (L := N4) r20 F20 Λ20 (OwnOK.none _) hN4 (by kernel_rfl) (by kernel_rfl) (fun _ => rfl) ?_
  rintro ⟨p, ⟨c, v⟩⟩ (hc : c.length ≤ 1000000000000)
  refine vcOf (c.length ≤ 1000000000000 ∧ (decide (faultR p c ≠ (0 : Int)) = true → (SV.tup [SV.row (SId.i .i64) [], SV.si .i64 (faultR p c)]).same (SV.tup [SV.row (SId.i .i64) (discsR p c), SV.si .i64 (faultR p c)])) ∧ (decide (faultR p c ≠ (0 : Int)) = false → ((((SV.ptr 0 0 20).same (SV.ptr 0 0 20) ∧ (SV.ptr 1 0 2).same (SV.ptr 1 0 2) ∧ (SV.row (SId.i .i64) (paysR p c)).same (SV.row (SId.i .i64) (paysR p c)) ∧ (SV.ow 2 0 1).same (SV.ow 2 (discRL p c 0).length 1) ∧ (SV.il .i64 0).same (SV.si .i64 0) ∧ True) ∧ (SObj.cells (Prob.ss p) 27 20 false).same (SObj.cells (Prob.ss p) 27 20 false) ∧ (SObj.cells [SV.row (SId.i .i64) c, SV.si .i64 v] 31 2 false).same (SObj.cells [SV.row (SId.i .i64) c, SV.si .i64 v] 31 2 false) ∧ (SObj.row (SId.i .i64) [] 2 true).same (SObj.row (SId.i .i64) (discRL p c 0) 2 true) ∧ True) ∧ (0 : Int) ≤ (0 : Int) ∧ (0 : Int) ≤ (↑(paysR p c).length : Int)) ∧ ∀ (x : Int), (0 : Int) ≤ x ∧ x ≤ (↑(paysR p c).length : Int) → (decide (x < (↑(paysR p c).length : Int)) = true → (Good p ∧ c.length ≤ 160 ∧ ∀ (i : Int), i ∈ c → (0 : Int) ≤ i ∧ i < (↑p.offers.length : Int)) ∧ (0 : Int) ≤ x ∧ x < (↑(paysR p c).length : Int) ∧ x.toNat < (paysR p c).length ∧ inR .i64 ((wonS p c x).fst - nthD (paysR p c) x.toNat (0 : Int)) ∧ (discRL p c x.toNat).length = (discRL p c x.toNat).length ∧ ((discRL p c x.toNat).length + 1) * 8 ≤ 140737488355328 ∧ (discRL p c x.toNat).length + 1 ≤ 1000000000000 ∧ inR .i64 (x + (1 : Int)) ∧ (((SV.ptr 0 0 20).same (SV.ptr 0 0 20) ∧ (SV.ptr 1 0 2).same (SV.ptr 1 0 2) ∧ (SV.row (SId.i .i64) (paysR p c)).same (SV.row (SId.i .i64) (paysR p c)) ∧ (SV.ow 2 (discRL p c x.toNat ++ [(wonS p c x).fst - nthD (paysR p c) x.toNat (0 : Int)]).length 1).same (SV.ow 2 (discRL p c (x + (1 : Int)).toNat).length 1) ∧ (SV.si .i64 (x + (1 : Int))).same (SV.si .i64 (x + (1 : Int))) ∧ True) ∧ (SObj.cells (Prob.ss p) 27 20 false).same (SObj.cells (Prob.ss p) 27 20 false) ∧ (SObj.cells [SV.row (SId.i .i64) c, SV.si .i64 v] 31 2 false).same (SObj.cells [SV.row (SId.i .i64) c, SV.si .i64 v] 31 2 false) ∧ (SObj.row (SId.i .i64) (discRL p c x.toNat ++ [(wonS p c x).fst - nthD (paysR p c) x.toNat (0 : Int)]) 2 true).same (SObj.row (SId.i .i64) (discRL p c (x + (1 : Int)).toNat) 2 true) ∧ True) ∧ ((0 : Int) ≤ x + (1 : Int) ∧ x + (1 : Int) ≤ (↑(paysR p c).length : Int)) ∧ ((↑(paysR p c).length : Int) - (x + (1 : Int))).toNat < ((↑(paysR p c).length : Int) - x).toNat) ∧ (decide (x < (↑(paysR p c).length : Int)) = false → (discRL p c x.toNat).length = (discRL p c x.toNat).length ∧ (SV.tup [SV.row (SId.i .i64) (discRL p c x.toNat), SV.il .i64 0]).same (SV.tup [SV.row (SId.i .i64) (discsR p c), SV.si .i64 (faultR p c)])))) (by kernel_rfl) ?_
  simp only [decide_eq_true_eq, decide_eq_false_iff_not, same_il_si, same_si_si, same_si_il, same_il_il, same_sb_sb, same_bl_sb, same_row, same_tup2, same_tup3, same_nil, same_row_nil, same_rfl, osame_rfl, inR_i64, eq_self, true_and, and_true, Bool.and_eq_true, Bool.not_eq_true', Bool.not_eq_false']
  refine ⟨hc, fun h => by simp [discsR, h], fun h => ?_⟩
  have hz : faultR p c = 0 := Classical.not_not.1 h
  obtain ⟨q1, q2, hg, q4, q5⟩ := feas_ok (faultR_ok hz)
  have h8 := hg.1
  have hpl : (paysR p c).length = p.classes.length := by simp [paysR, hz, payRL_len]
  refine ⟨⟨⟨rfl, rfl⟩, by omega, by omega⟩, ?_⟩
  rintro i ⟨hi0, hi1⟩
  have hL := @discRL_len p c i.toNat
  refine ⟨fun hlt => ?_, fun hge => ?_⟩
  · have hn : nthD (paysR p c) i.toNat 0 = payR p c i := by
      rw [nthD_eq (by omega)]
      simp only [paysR, hz, if_true, payRL, List.getElem_map, List.getElem_range, show ((i.toNat : Nat) : Int) = i by omega]
    have hb := @payR_bd p c i hg q4 q5
    have hw := wonS_bd hg i q5 q4
    rw [hn, discRL_succ hi0]
    exact ⟨⟨hg, q4, q5⟩, by omega, by omega, by omega, by omega, by omega, by omega, by omega, ⟨rfl, rfl⟩, by omega, by omega⟩
  · rw [show i.toNat = p.classes.length by omega]
    exact ⟨by simp [discsR, hz], hz.symm⟩

end Go.Vi
/-
  Plain law: the worth of a coalition by bidders is the greatest value of offers that fit together.
  Conditions: none.
-/
set_option maxRecDepth 100000
set_option maxHeartbeats 4000000
set_option linter.unusedSimpArgs false
set_option linter.unusedVariables false
namespace Go.Vi
open Go.Proofs

/-- Offers of different bidders of a list, within what is left. -/
structure FitL (p : Prob) (fs : List Int) (l o : Bun) (L : List Off) : Prop where
  nd : (L.map Off.bidder).Nodup
  mem : ∀ x ∈ L, x ∈ p.offers ∧ x.bidder ∈ fs
  w : (sumB (L.map Off.want)).le l = true
  o : (sumB (L.map (outS p))).le o = true

theorem fold_ge {p : Prob} {fs : List Int} {l o : Bun} : ∀ {xs : List Off} {v : Int}, v ≤ xs.foldl (stepV p fs l o) v ∧ ∀ x ∈ xs, x.want.le l = true → (outS p x).le o = true → x.value + valL p fs (l.sub x.want) (o.sub (outS p x)) ≤ xs.foldl (stepV p fs l o) v
  | [], v => by simp
  | y :: xs, v => by
    obtain ⟨h1, h2⟩ := @fold_ge p fs l o xs (stepV p fs l o v y)
    have hv : v ≤ stepV p fs l o v y := by
      unfold stepV
      split <;> omega
    refine ⟨by simp only [List.foldl_cons]; omega, fun x hx hw ho => ?_⟩
    simp only [List.foldl_cons]
    rcases List.mem_cons.1 hx with rfl | hx
    · have : x.value + valL p fs (l.sub x.want) (o.sub (outS p x)) ≤ stepV p fs l o v x := by
        unfold stepV
        rw [if_pos (by simp [hw, ho])]
        omega
      omega
    · exact h2 x hx hw ho

theorem fold_at {p : Prob} {fs : List Int} {l o : Bun} : ∀ {xs : List Off} {v : Int}, xs.foldl (stepV p fs l o) v = v ∨ ∃ x ∈ xs, x.want.le l = true ∧ (outS p x).le o = true ∧ xs.foldl (stepV p fs l o) v = x.value + valL p fs (l.sub x.want) (o.sub (outS p x))
  | [], v => by simp
  | y :: xs, v => by
    simp only [List.foldl_cons]
    rcases @fold_at p fs l o xs (stepV p fs l o v y) with h | ⟨x, hx, h1, h2, h3⟩
    · rw [h]
      unfold stepV
      split
      · rename_i hc
        simp only [Bool.and_eq_true] at hc
        by_cases hm : v ≤ y.value + valL p fs (l.sub y.want) (o.sub (outS p y))
        · exact .inr ⟨y, by simp, hc.1, hc.2, by omega⟩
        · left; omega
      · exact .inl rfl
    · exact .inr ⟨x, by simp [hx], h1, h2, h3⟩

theorem sumB_mid {x : Bun} {s t : List Bun} : sumB (s ++ x :: t) = x.add (sumB (s ++ t)) := by
  rw [sumB_append, sumB_append, sumB_cons]
  simp only [Bun.add, Bun.mk.injEq]
  omega
theorem sumV_mid {x : Off} {s t : List Off} : sumV (s ++ x :: t) = x.value + sumV (s ++ t) := by
  rw [sumV_append, sumV_append]
  simp only [sumV]
  omega

theorem fit_bd {p : Prob} (hg : Good p) {L : List Off} (h : ∀ x ∈ L, x ∈ p.offers) : (sumB (L.map Off.want)).bd (4 * L.length) ∧ (sumB (L.map (outS p))).bd (4 * L.length) := by
  have h1 : ∀ x ∈ L, x.want.ok = true := fun x hx => (hg.2.2.2.2 x (h x hx)).2.2.1
  have a := @sumB_bd (L.map Off.want) (fun b hb => by obtain ⟨x, hx, rfl⟩ := List.mem_map.1 hb; exact h1 x hx)
  have b := @sumB_bd (L.map (outS p)) (fun b hb => by obtain ⟨x, hx, rfl⟩ := List.mem_map.1 hb; exact outS_ok (h1 x hx))
  rw [List.length_map] at a b
  exact ⟨a, b⟩

theorem fit_le {p : Prob} (hg : Good p) : ∀ {fs : List Int} {l o : Bun} {L : List Off}, FitL p fs l o L → sumV L ≤ valL p fs l o
  | [], l, o, L, h => by
    have : L = [] := by
      cases L with
      | nil => rfl
      | cons x L => exact absurd (h.mem x (by simp)).2 (by simp)
    subst this
    simp [sumV, valL]
  | f :: fs, l, o, L, h => by
    obtain ⟨g1, g2⟩ := @fold_ge p fs l o (byB p f) (valL p fs l o)
    have hval : valL p (f :: fs) l o = (byB p f).foldl (stepV p fs l o) (valL p fs l o) := rfl
    rw [hval]
    by_cases hx : ∃ x ∈ L, x.bidder = f
    · obtain ⟨x, hx, hf⟩ := hx
      obtain ⟨s, t, rfl⟩ := List.append_of_mem hx
      obtain ⟨nd, mem, w, o'⟩ := h
      have hmx := mem x hx
      have hst : ∀ y ∈ s ++ t, y ∈ p.offers := fun y hy => (mem y (by simp only [List.mem_append, List.mem_cons] at hy ⊢; rcases hy with h | h <;> simp [h])).1
      obtain ⟨b1, b2⟩ := fit_bd hg hst
      rw [List.map_append, List.map_cons, sumB_mid, Bun.le_iff, ← List.map_append] at w o'
      simp only [Bun.add, Bun.bd] at w o' b1 b2
      have hw : x.want.le l = true := by rw [Bun.le_iff]; omega
      have ho : (outS p x).le o = true := by rw [Bun.le_iff]; omega
      have hg2 := g2 x (List.mem_filter.2 ⟨hmx.1, by simp [hf]⟩) hw ho
      rw [List.map_append, List.map_cons, List.nodup_append] at nd
      have hne : ∀ y ∈ s ++ t, y.bidder ≠ f := fun y hy => by
        rw [← hf]
        rcases List.mem_append.1 hy with hy | hy
        · exact nd.2.2 _ (List.mem_map_of_mem hy) _ (by simp)
        · intro e
          have := (List.nodup_cons.1 nd.2.1).1
          exact this (e ▸ List.mem_map_of_mem hy)
      have hrec : sumV (s ++ t) ≤ valL p fs (l.sub x.want) (o.sub (outS p x)) := fit_le hg
        { nd := by
            rw [List.map_append, List.nodup_append]
            exact ⟨nd.1, (List.nodup_cons.1 nd.2.1).2, fun a ha b hb => nd.2.2 a ha b (by simp [hb])⟩
          mem := fun y hy => by
            have h1 := mem y (by simp only [List.mem_append, List.mem_cons] at hy ⊢; rcases hy with h | h <;> simp [h])
            refine ⟨h1.1, ?_⟩
            rcases List.mem_cons.1 h1.2 with h2 | h2
            · exact absurd h2 (hne y hy)
            · exact h2
          w := by rw [Bun.le_iff]; simp only [Bun.sub]; omega
          o := by rw [Bun.le_iff]; simp only [Bun.sub]; omega }
      rw [sumV_mid]
      omega
    · have := fit_le hg (fs := fs) (l := l) (o := o) (L := L) ⟨h.nd, fun y hy => by
        have h1 := h.mem y hy
        refine ⟨h1.1, ?_⟩
        rcases List.mem_cons.1 h1.2 with h2 | h2
        · exact absurd ⟨y, hy, h2⟩ hx
        · exact h2, h.w, h.o⟩
      omega

theorem fit_at {p : Prob} (hg : Good p) : ∀ {fs : List Int} {l o : Bun}, fs.Nodup → Bun.zero.le l = true → Bun.zero.le o = true → ∃ L, FitL p fs l o L ∧ sumV L = valL p fs l o
  | [], l, o, _, hl, ho => ⟨[], ⟨by simp, by simp, hl, ho⟩, rfl⟩
  | f :: fs, l, o, hn, hl, ho => by
    have hn2 := List.nodup_cons.1 hn
    have hval : valL p (f :: fs) l o = (byB p f).foldl (stepV p fs l o) (valL p fs l o) := rfl
    rw [hval]
    rcases @fold_at p fs l o (byB p f) (valL p fs l o) with h | ⟨x, hx, h1, h2, h3⟩
    · rw [h]
      obtain ⟨L, hL, hv⟩ := fit_at hg (l := l) (o := o) hn2.2 hl ho
      exact ⟨L, ⟨hL.nd, fun y hy => ⟨(hL.mem y hy).1, by simp [(hL.mem y hy).2]⟩, hL.w, hL.o⟩, hv⟩
    · rw [h3]
      have w1 := Bun.le_iff.1 h1
      have w2 := Bun.le_iff.1 h2
      obtain ⟨L, hL, hv⟩ := fit_at hg (l := l.sub x.want) (o := o.sub (outS p x)) hn2.2 (by rw [Bun.le_iff]; simp only [Bun.zero, Bun.sub]; omega) (by rw [Bun.le_iff]; simp only [Bun.zero, Bun.sub]; omega)
      have hx2 := List.mem_filter.1 hx
      have hxf : x.bidder = f := by simpa using hx2.2
      refine ⟨x :: L, ⟨?_, ?_, ?_, ?_⟩, by simp only [sumV, hv]⟩
      · rw [List.map_cons, List.nodup_cons]
        refine ⟨fun hm => ?_, hL.nd⟩
        obtain ⟨y, hy, he⟩ := List.mem_map.1 hm
        exact hn2.1 (by rw [← hxf, ← he]; exact (hL.mem y hy).2)
      · intro y hy
        rcases List.mem_cons.1 hy with rfl | hy
        · exact ⟨hx2.1, by simp [hxf]⟩
        · exact ⟨(hL.mem y hy).1, by simp [(hL.mem y hy).2]⟩
      · have := Bun.le_iff.1 hL.w
        rw [List.map_cons, sumB_cons, Bun.le_iff]
        simp only [Bun.add, Bun.sub] at this ⊢
        omega
      · have := Bun.le_iff.1 hL.o
        rw [List.map_cons, sumB_cons, Bun.le_iff]
        simp only [Bun.add, Bun.sub] at this ⊢
        omega

end Go.Vi
/-
  Plain law: what the reference's search finds.
  Conditions: none.
-/
set_option maxRecDepth 100000
set_option maxHeartbeats 4000000
set_option linter.unusedSimpArgs false
set_option linter.unusedVariables false
namespace Go.Vi
open Go.Proofs

theorem offsI_append {p : Prob} {l m : List Int} : offsI p (l ++ m) = offsI p l ++ offsI p m := by simp [offsI]
theorem offsI_cons {p : Prob} {i : Int} {l : List Int} : offsI p (i :: l) = nthD p.offers i.toNat SId.off.dflt :: offsI p l := rfl

/-- Valid indices. -/
def IdxOk (p : Prob) (l : List Int) : Prop := ∀ i ∈ l, 0 ≤ i ∧ i < p.offers.length

theorem feas_pre {p : Prob} (hg : Good p) {L M : List Off} (hM : ∀ x ∈ M, x ∈ p.offers) (h : FeasL p (L ++ M)) : FeasL p L := by
  obtain ⟨b1, b2⟩ := fit_bd hg hM
  obtain ⟨h1, h2, h3⟩ := h
  rw [List.map_append, sumB_append, Bun.le_iff] at h2 h3
  simp only [Bun.add, Bun.bd] at h2 h3 b1 b2
  refine ⟨?_, ?_, ?_⟩
  · rw [List.map_append, List.nodup_append] at h1
    exact h1.1
  · rw [Bun.le_iff]; omega
  · rw [Bun.le_iff]; omega

theorem ref_pre {p : Prob} (hg : Good p) {l m : List Int} (hm : IdxOk p m) (h : ref23 p (l ++ m) = true) : ref23 p l = true := by
  unfold ref23 at h ⊢
  have h := of_decide_eq_true h
  rw [offsI_append] at h
  exact decide_eq_true (feas_pre hg (offs_ok hg hm) h)

/-- Increasing indices from 'i' on, below 'i + k'. -/
def IncR (i : Int) (k : Nat) (t : List Int) : Prop := t.Pairwise (· < ·) ∧ ∀ j ∈ t, i ≤ j ∧ j < i + k

theorem better_ge {a b : Alloc} : a.value ≤ (better a b).value ∧ b.value ≤ (better a b).value := by
  unfold better
  split <;> omega
theorem better_or {a b : Alloc} : better a b = a ∨ better a b = b := by
  unfold better
  split <;> simp

theorem ext_ge {p : Prob} : ∀ {k : Nat} {i : Int} {a b : Alloc}, b.value ≤ (extL p k i a b).value
  | 0, _, _, b => by simp [extL]
  | k + 1, i, a, b => by
    simp only [extL]
    refine Int.le_trans ?_ ext_ge
    split
    · exact Int.le_trans better_ge.2 ext_ge
    · omega

theorem ext_up {p : Prob} (hg : Good p) : ∀ {k : Nat} {i : Int} {a b : Alloc} {t : List Int}, 0 ≤ i → i + k ≤ p.offers.length → t ≠ [] → IncR i k t → ref23 p (a.chosen ++ t) = true → a.value + sumV (offsI p t) ≤ (extL p k i a b).value
  | 0, i, a, b, t, _, _, hn, ht, _ => by
    cases t with
    | nil => exact absurd rfl hn
    | cons j t =>
      have := ht.2 j (by simp)
      omega
  | k + 1, i, a, b, t, h0, h1, hn, ht, hr => by
    cases t with
    | nil => exact absurd rfl hn
    | cons j t =>
      have hj := ht.2 j (by simp)
      have hp := List.pairwise_cons.1 ht.1
      simp only [extL]
      by_cases hji : j = i
      · subst hji
        have hidx : IdxOk p t := fun m hm => by
          have := ht.2 m (by simp [hm])
          omega
        have hr2 : ref23 p (a.chosen ++ [j] ++ t) = true := by simpa using hr
        have hr1 : ref23 p (a.chosen ++ [j]) = true := ref_pre hg hidx hr2
        rw [if_pos hr1]
        refine Int.le_trans ?_ ext_ge
        rw [offsI_cons]
        simp only [sumV]
        cases t with
        | nil =>
          refine Int.le_trans ?_ ext_ge
          refine Int.le_trans ?_ better_ge.1
          simp [sumV, offsI, valI]
        | cons j2 t2 =>
          have := ext_up hg (k := k) (i := j + 1) (a := ⟨a.chosen ++ [j], a.value + valI p j⟩) (b := better ⟨a.chosen ++ [j], a.value + valI p j⟩ b) (t := j2 :: t2) (by omega) (by omega) (by simp) ⟨hp.2, fun m hm => by
            have q1 := ht.2 m (List.mem_cons_of_mem _ hm)
            have q2 := hp.1 m hm
            omega⟩ hr2
          refine Int.le_trans ?_ this
          simp only [valI]
          omega
      · exact ext_up hg (by omega) (by omega) (by simp) ⟨ht.1, fun m hm => by
          have q1 := ht.2 m hm
          rcases List.mem_cons.1 hm with rfl | hm
          · omega
          · have q2 := hp.1 m hm
            omega⟩ hr

theorem ext_at {p : Prob} (hg : Good p) : ∀ {k : Nat} {i : Int} {a b : Alloc}, extL p k i a b = b ∨ ∃ t, t ≠ [] ∧ IncR i k t ∧ ref23 p (a.chosen ++ t) = true ∧ extL p k i a b = ⟨a.chosen ++ t, a.value + sumV (offsI p t)⟩
  | 0, i, a, b => .inl rfl
  | k + 1, i, a, b => by
    have wide : ∀ {t : List Int}, IncR (i + 1) k t → IncR i (k + 1) t := fun h => ⟨h.1, fun j hj => by have := h.2 j hj; omega⟩
    simp only [extL]
    rcases @ext_at p hg k (i + 1) a (if ref23 p (a.chosen ++ [i]) then extL p k (i + 1) ⟨a.chosen ++ [i], a.value + valI p i⟩ (better ⟨a.chosen ++ [i], a.value + valI p i⟩ b) else b) with h | ⟨t, h1, h2, h3, h4⟩
    · rw [h]
      split
      · rename_i hr
        have hone : (⟨a.chosen ++ [i], a.value + valI p i⟩ : Alloc) = ⟨a.chosen ++ [i], a.value + sumV (offsI p [i])⟩ := by simp [sumV, offsI, valI]
        have hinc : IncR i (k + 1) [i] := ⟨by simp, fun j hj => by rw [List.mem_singleton.1 hj]; omega⟩
        rcases @ext_at p hg k (i + 1) ⟨a.chosen ++ [i], a.value + valI p i⟩ (better ⟨a.chosen ++ [i], a.value + valI p i⟩ b) with h | ⟨t, h1, h2, h3, h4⟩
        · rw [h]
          rcases @better_or ⟨a.chosen ++ [i], a.value + valI p i⟩ b with hb | hb
          · exact .inr ⟨[i], by simp, hinc, hr, by rw [hb, hone]⟩
          · exact .inl hb
        · refine .inr ⟨i :: t, by simp, ⟨List.pairwise_cons.2 ⟨fun j hj => by have := h2.2 j hj; omega, h2.1⟩, fun j hj => ?_⟩, by simpa using h3, ?_⟩
          · rcases List.mem_cons.1 hj with rfl | hj
            · omega
            · have := h2.2 j hj; omega
          · rw [h4, offsI_cons]
            simp only [sumV, valI, Alloc.mk.injEq]
            exact ⟨by simp, by omega⟩
      · exact .inl rfl
    · exact .inr ⟨t, h1, wide h2, h3, h4⟩

end Go.Vi
/-
  Plain law: the reference's best allocation, and its worth by bidders.
  Conditions: none.
-/
set_option maxRecDepth 100000
set_option maxHeartbeats 4000000
set_option linter.unusedSimpArgs false
set_option linter.unusedVariables false
namespace Go.Vi
open Go.Proofs

theorem bestA_eq {p : Prob} : bestA p = extL p p.offers.length 0 ⟨[], 0⟩ ⟨[], 0⟩ := by
  have h : leftN p 0 = p.offers.length := by unfold leftN; omega
  unfold bestA extS2
  rw [h]
  rcases @better_or ⟨[], 0⟩ ⟨[], 0⟩ with e | e <;> rw [e]

theorem bestA_up {p : Prob} (hg : Good p) {t : List Int} (ht : IncR 0 p.offers.length t) (hr : ref23 p t = true) : sumV (offsI p t) ≤ (bestA p).value := by
  rw [bestA_eq]
  by_cases hn : t = []
  · subst hn
    exact ext_ge
  · have := ext_up hg (k := p.offers.length) (i := 0) (a := ⟨[], 0⟩) (b := ⟨[], 0⟩) (t := t) (by omega) (by omega) hn ht hr
    simpa using this

theorem ref_nil {p : Prob} (hg : Good p) : ref23 p [] = true := by
  have h1 := Bun.ok_iff.1 hg.2.2.1
  have h2 := Bun.ok_iff.1 hg.2.2.2.1
  unfold ref23
  refine decide_eq_true ⟨by simp [offsI], ?_, ?_⟩
  · rw [Bun.le_iff]; simp [offsI, sumB]; omega
  · rw [Bun.le_iff]; simp [offsI, sumB]; omega

theorem bestA_at {p : Prob} (hg : Good p) : ∃ t, IncR 0 p.offers.length t ∧ ref23 p t = true ∧ bestA p = ⟨t, sumV (offsI p t)⟩ := by
  rw [bestA_eq]
  rcases @ext_at p hg p.offers.length 0 ⟨[], 0⟩ ⟨[], 0⟩ with h | ⟨t, h1, h2, h3, h4⟩
  · exact ⟨[], ⟨by simp, by simp⟩, ref_nil hg, by rw [h]; rfl⟩
  · exact ⟨t, h2, by simpa using h3, by rw [h4]; simp⟩

def memChk : Bool := (List.range 256).all fun m => [0, 1, 2, 3, 4, 5, 6, 7].all fun b : Int => hasB m b == decide (b ∈ memL m)
theorem mem_chk : memChk = true := by kernel_rfl
theorem has_mem {m b : Int} (h0 : 0 ≤ m) (h1 : m < 256) (h2 : 0 ≤ b) (h3 : b < 8) : hasB m b = decide (b ∈ memL m) := by
  have h := mem_chk
  simp only [memChk, List.all_eq_true, List.mem_range] at h
  have h := h m.toNat (by omega) b (by
    have : b = 0 ∨ b = 1 ∨ b = 2 ∨ b = 3 ∨ b = 4 ∨ b = 5 ∨ b = 6 ∨ b = 7 := by omega
    rcases this with rfl | rfl | rfl | rfl | rfl | rfl | rfl | rfl <;> simp)
  rw [show ((m.toNat : Nat) : Int) = m by omega] at h
  simpa using h

theorem inc_idx {p : Prob} {t : List Int} (h : IncR 0 p.offers.length t) : IdxOk p t := fun j hj => by
  have := h.2 j hj
  omega

theorem worth_le {p : Prob} (hg : Good p) {m : Int} (h0 : 0 ≤ m) (h1 : m < 256) : worthR p m ≤ valL p (memL m) p.supply p.opn := by
  obtain ⟨t, ht, hr, he⟩ := bestA_at (sub_good hg m)
  unfold worthR
  rw [he]
  have hF := of_decide_eq_true hr
  refine fit_le hg ⟨hF.1, fun x hx => ?_, hF.2.1, hF.2.2⟩
  have hxm := offs_ok (sub_good hg m) (inc_idx ht) x hx
  have hxf := List.mem_filter.1 hxm
  have hb := hg.2.2.2.2 x hxf.1
  have h8 := hg.1
  refine ⟨hxf.1, ?_⟩
  have := has_mem h0 h1 hb.1 (by omega)
  rw [hxf.2] at this
  exact of_decide_eq_true this.symm

theorem perm_V {L M : List Off} (h : L.Perm M) : sumV L = sumV M := by
  induction h with
  | nil => rfl
  | cons x _ ih => simp only [sumV]; omega
  | swap x y l => simp only [sumV]; omega
  | trans _ _ a b => omega
theorem perm_B {L M : List Bun} (h : L.Perm M) : sumB L = sumB M := by
  induction h with
  | nil => rfl
  | cons x _ ih => rw [sumB_cons, sumB_cons, ih]
  | swap x y l =>
    simp only [sumB_cons, Bun.add, Bun.mk.injEq]
    omega
  | trans _ _ a b => rw [a, b]
theorem perm_F {p : Prob} {L M : List Off} (h : L.Perm M) (hF : FeasL p L) : FeasL p M := by
  obtain ⟨h1, h2, h3⟩ := hF
  refine ⟨((h.map _).nodup_iff).1 h1, ?_, ?_⟩
  · rw [← perm_B (h.map _)]; exact h2
  · rw [← perm_B (h.map _)]; exact h3

theorem idx_filter (q : Off → Bool) : ∀ (O pre : List Off), ∃ t : List Int, t.Pairwise (· < ·) ∧ (∀ j ∈ t, (pre.length : Int) ≤ j ∧ j < pre.length + O.length) ∧ (t.map fun j => nthD (pre ++ O) j.toNat SId.off.dflt) = O.filter q
  | [], pre => ⟨[], by simp, by simp, by simp⟩
  | x :: O, pre => by
    obtain ⟨t, h1, h2, h3⟩ := idx_filter q O (pre ++ [x])
    have e : pre ++ [x] ++ O = pre ++ x :: O := by simp
    rw [e] at h3
    have hl : ((pre ++ [x]).length : Int) = pre.length + 1 := by simp
    have hr : ∀ j ∈ t, (pre.length : Int) + 1 ≤ j ∧ j < pre.length + 1 + O.length := fun j hj => by
      have := h2 j hj
      omega
    by_cases hq : q x = true
    · refine ⟨(pre.length : Int) :: t, List.pairwise_cons.2 ⟨fun j hj => by have := hr j hj; omega, h1⟩, fun j hj => ?_, ?_⟩
      · simp only [List.length_cons]
        rcases List.mem_cons.1 hj with rfl | hj
        · omega
        · have := hr j hj; omega
      · rw [List.map_cons, h3, List.filter_cons, if_pos hq]
        congr 1
        rw [nthD_eq (by simp)]
        simp
    · refine ⟨t, h1, fun j hj => ?_, ?_⟩
      · have := hr j hj
        simp only [List.length_cons]
        omega
      · rw [h3, List.filter_cons, if_neg hq]

theorem keys_nodup {p : Prob} : ∀ {l : List Off} {seen : List BKey}, checkL p seen l = 0 → (l.map Off.key).Nodup ∧ ∀ x ∈ l, x.key ∉ seen
  | [], _, _ => by simp
  | o :: r, seen, h => by
    simp only [checkL] at h
    split at h
    · rename_i h1; exact absurd h h1
    · split at h
      · cases h
      · rename_i h1 h2
        obtain ⟨k1, k2⟩ := keys_nodup h
        refine ⟨?_, fun x hx => ?_⟩
        · rw [List.map_cons, List.nodup_cons]
          refine ⟨fun hm => ?_, k1⟩
          obtain ⟨y, hy, he⟩ := List.mem_map.1 hm
          exact k2 y hy (by simp [he])
        · rcases List.mem_cons.1 hx with rfl | hx
          · exact h2
          · exact fun hm => k2 x hx (by simp [hm])

theorem nodup_of_map {α β : Type} (f : α → β) : ∀ {l : List α}, (l.map f).Nodup → l.Nodup
  | [], _ => by simp
  | x :: l, h => by
    rw [List.map_cons, List.nodup_cons] at h
    exact List.nodup_cons.2 ⟨fun hm => h.1 (List.mem_map_of_mem hm), nodup_of_map f h.2⟩

theorem offers_nodup {p : Prob} (h : checkE p = 0) : p.offers.Nodup := by
  unfold checkE at h
  split at h
  · rename_i h1; exact absurd h h1
  · exact nodup_of_map _ (keys_nodup h).1

theorem mem_nodup (m : Int) : (memL m).Nodup := by
  unfold memL
  exact List.Nodup.sublist List.filter_sublist (by decide)

theorem worth_ge {p : Prob} (hc : checkE p = 0) {m : Int} (h0 : 0 ≤ m) (h1 : m < 256) : valL p (memL m) p.supply p.opn ≤ worthR p m := by
  have hg := good_of hc
  have q1 := Bun.ok_iff.1 hg.2.2.1
  have q2 := Bun.ok_iff.1 hg.2.2.2.1
  obtain ⟨L, hL, hv⟩ := fit_at hg (mem_nodup m) (l := p.supply) (o := p.opn) (by rw [Bun.le_iff]; simp only [Bun.zero]; omega) (by rw [Bun.le_iff]; simp only [Bun.zero]; omega)
  obtain ⟨t, t1, t2, t3⟩ := idx_filter (fun x => decide (x ∈ L)) (subP p m).offers []
  have t4 : offsI (subP p m) t = (subP p m).offers.filter fun x => decide (x ∈ L) := t3
  have hLm : ∀ x ∈ L, x ∈ (subP p m).offers := fun x hx => by
    have hx1 := hL.mem x hx
    have hb := hg.2.2.2.2 x hx1.1
    have h8 := hg.1
    refine List.mem_filter.2 ⟨hx1.1, ?_⟩
    rw [has_mem h0 h1 hb.1 (by omega)]
    exact decide_eq_true hx1.2
  have hnd : ((subP p m).offers.filter fun x => decide (x ∈ L)).Nodup := List.Nodup.sublist (List.Sublist.trans List.filter_sublist List.filter_sublist) (offers_nodup hc)
  have hperm : L.Perm (offsI (subP p m) t) := by
    rw [t4]
    refine (List.perm_ext_iff_of_nodup (nodup_of_map _ hL.nd) hnd).2 fun x => ?_
    rw [List.mem_filter, decide_eq_true_eq]
    exact ⟨fun hx => ⟨hLm x hx, hx⟩, fun hx => hx.2⟩
  have hF : FeasL (subP p m) L := ⟨hL.nd, hL.w, hL.o⟩
  have hr : ref23 (subP p m) t = true := decide_eq_true (perm_F hperm hF)
  have := bestA_up (sub_good hg m) ⟨t1, fun j hj => by have := t2 j hj; simp only [List.length_nil] at this; omega⟩ hr
  rw [← perm_V hperm, hv] at this
  exact this

theorem worth_eq {p : Prob} (hc : checkE p = 0) {m : Int} (h0 : 0 ≤ m) (h1 : m < 256) : worthR p m = valL p (memL m) p.supply p.opn := by
  have a := worth_le (good_of hc) h0 h1
  have b := worth_ge hc h0 h1
  omega

end Go.Vi
/-
  Plain law: the two sides of the chapter agree.
  Conditions: none.
-/
set_option maxRecDepth 100000
set_option maxHeartbeats 4000000
set_option linter.unusedSimpArgs false
set_option linter.unusedVariables false
namespace Go.Vi
open Go.Proofs

theorem worthS_eq {p : Prob} (hc : checkE p = 0) {m : Int} (h0 : 0 ≤ m) (h1 : m < 2 ^ p.classes.length) : worthS p m = worthR p m := by
  have hf : faultE p m = 0 := by
    unfold faultE
    rw [if_neg (by simp [hc]), if_neg (by omega)]
  have h2 := pow_n (good_of hc).1
  unfold worthS
  rw [if_pos hf, worth_eq hc h0 (by omega)]
  rfl

def allChk : Bool := (List.range 9).all fun n => decide (allR Prob.zero (-1) n = 2 ^ n - 1) && (List.range n).all fun b => decide (allR Prob.zero b n = delI (2 ^ n - 1) b)
theorem all_chk : allChk = true := by kernel_rfl
theorem allR_m {p : Prob} (h : p.classes.length ≤ 8) : allR p (-1) p.classes.length = allM p := by
  have hk := all_chk
  simp only [allChk, List.all_eq_true, List.mem_range, Bool.and_eq_true, decide_eq_true_eq] at hk
  exact (hk p.classes.length (by omega)).1
theorem allR_d {p : Prob} (h : p.classes.length ≤ 8) {b : Int} (h0 : 0 ≤ b) (h1 : b < p.classes.length) : allR p b p.classes.length = delI (allM p) b := by
  have hk := all_chk
  simp only [allChk, List.all_eq_true, List.mem_range, Bool.and_eq_true, decide_eq_true_eq] at hk
  have := (hk p.classes.length (by omega)).2 b.toNat (by omega)
  rw [show ((b.toNat : Nat) : Int) = b by omega] at this
  exact this

theorem worth_all {p : Prob} (hc : checkE p = 0) : worthS p (allM p) = worthR p (allN p) := by
  have hg := good_of hc
  have h2 := pow_n hg.1
  unfold allN
  rw [allR_m hg.1]
  exact worthS_eq hc (by unfold allM; omega) (by unfold allM; omega)
theorem worth_del {p : Prob} (hc : checkE p = 0) {b : Int} (h0 : 0 ≤ b) (h1 : b < p.classes.length) : worthS p (delI (allM p) b) = worthR p (allR p b p.classes.length) := by
  have hg := good_of hc
  have h3 := allR_bd p b p.classes.length
  rw [← allR_d hg.1 h0 h1]
  exact worthS_eq hc h3.1 h3.2

end Go.Vi
/-
  Plain law: the errors of the two sides agree.
  Conditions: none.
-/
set_option maxRecDepth 100000
set_option maxHeartbeats 4000000
set_option linter.unusedSimpArgs false
set_option linter.unusedVariables false
namespace Go.Vi
open Go.Proofs

theorem sumC_go {p : Prob} : ∀ {c : List Int} {s : Int}, c.foldl (addV p) s = s + sumV (offsI p c)
  | [], s => by simp [offsI, sumV]
  | i :: c, s => by
    rw [List.foldl_cons, sumC_go, offsI_cons]
    simp only [sumV, addV]
    omega
theorem pick_offs {p : Prob} : ∀ {c : List Int} {last : Int} {r : List Off}, pickGo p.offers last c = some r → r = offsI p c
  | [], last, r, h => by simp [pickGo] at h; subst h; rfl
  | i :: c, last, r, h => by
    simp only [pickGo] at h
    split at h
    · cases h
    · obtain ⟨r', h2, rfl⟩ := Option.map_eq_some_iff.1 h
      rw [pick_offs h2, offsI_cons]
theorem value_sum {p : Prob} {c : List Int} (hz : feasE p c = 0) : valueS p c = sumC p c := by
  obtain ⟨q1, q2, hg, q4, q5⟩ := feas_ok hz
  obtain ⟨r, hr⟩ := Option.isSome_iff_exists.1 q2
  unfold valueS sumC
  rw [if_pos q1, sumC_go]
  simp only [pickL, hr, Option.getD_some, pick_offs hr]
  omega
theorem openE_eq {p : Prob} {c : List Int} : openE p c = faultR p c := by
  unfold openE faultR
  by_cases hz : feasE p c = 0
  · simp only [hz, ne_eq, not_true, if_false, value_sum hz, worth_all (feas_ok hz).1]
  · rw [if_pos hz, if_pos hz]

end Go.Vi
/-
  Plain law: bidders of feasible lists are different.
  Conditions: none.
-/
set_option maxRecDepth 100000
set_option linter.unusedSimpArgs false
set_option linter.unusedVariables false
namespace Go.Vi
open Go.Proofs

theorem own_row {p : Prob} {x : Off} (h0 : 0 ≤ x.bidder) (h1 : x.bidder < p.classes.length) : coefS p x.bidder x = 1 := by
  unfold coefS
  rw [if_pos (by omega), if_pos rfl]
theorem sum_cons {p : Prob} {x : Off} {L : List Off} {r : Int} : sumS p (x :: L) r = coefS p r x + sumS p L r := by simp [sumS]
theorem sum_own {p : Prob} {r : Int} : ∀ {L : List Off}, (∀ x ∈ L, x.want.ok = true) → (∃ x ∈ L, x.bidder = r ∧ 0 ≤ r ∧ r < p.classes.length) → 1 ≤ sumS p L r
  | [], _, h => by obtain ⟨x, hx, _⟩ := h; cases hx
  | y :: L, hw, ⟨x, hx, hb, h0, h1⟩ => by
    have hy := @coef_bd p r y (hw y (by simp))
    have hs := @sum_bd p r L fun z hz => hw z (by simp [hz])
    rw [sum_cons]
    rcases List.mem_cons.1 hx with rfl | hx
    · have : coefS p r x = 1 := by rw [← hb]; exact own_row (by omega) (by omega)
      omega
    · have := @sum_own p r L (fun z hz => hw z (by simp [hz])) ⟨x, hx, hb, h0, h1⟩
      omega
theorem nd_of {p : Prob} : ∀ {L : List Off}, (∀ x ∈ L, x.want.ok = true ∧ 0 ≤ x.bidder ∧ x.bidder < p.classes.length) → (∀ r : Int, 0 ≤ r → r < p.classes.length → sumS p L r ≤ 1) → (L.map Off.bidder).Nodup
  | [], _, _ => by simp
  | x :: L, hw, hs => by
    have hx := hw x (by simp)
    rw [List.map_cons, List.nodup_cons]
    have hs2 : ∀ r : Int, 0 ≤ r → r < p.classes.length → sumS p L r ≤ 1 := fun r h0 h1 => by
      have := hs r h0 h1
      have := @coef_bd p r x hx.1
      rw [sum_cons] at *
      omega
    refine ⟨fun hm => ?_, nd_of (fun y hy => hw y (by simp [hy])) hs2⟩
    obtain ⟨y, hy, he⟩ := List.mem_map.1 hm
    have h1 := hs x.bidder hx.2.1 hx.2.2
    have h2 := @sum_own p x.bidder L (fun z hz => (hw z (by simp [hz])).1) ⟨y, hy, he, hx.2.1, hx.2.2⟩
    rw [sum_cons, own_row hx.2.1 hx.2.2] at h1
    omega

theorem feas_nd {p : Prob} {c : List Int} (hz : feasE p c = 0) : ((offsI p c).map Off.bidder).Nodup := by
  obtain ⟨q1, q2, hg, q4, q5⟩ := feas_ok hz
  obtain ⟨r, hr⟩ := Option.isSome_iff_exists.1 q2
  have hp : pickL p c = offsI p c := by simp only [pickL, hr, Option.getD_some, pick_offs hr]
  have hf : fitsB p (offsI p c) = true := by
    unfold feasE at hz
    rw [if_neg (by simp [q1]), if_neg (by simp [q2]), hp] at hz
    split at hz
    · cases hz
    · rename_i h1; simpa using h1
  refine nd_of (p := p) (fun x hx => ?_) fun r h0 h1 => ?_
  · have := hg.2.2.2.2 x (offs_ok hg q5 x hx)
    exact ⟨this.2.2.1, this.1, this.2.1⟩
  · have h2 := fits_iff.1 hf r.toNat (by unfold nrows; omega)
    rw [show ((r.toNat : Nat) : Int) = r by omega] at h2
    have h3 : boundS p r = 1 := by unfold boundS; rw [if_pos (by omega)]
    omega

end Go.Vi
/-
  Plain law: what a bidder has won.
  Conditions: none.
-/
set_option maxRecDepth 100000
set_option linter.unusedSimpArgs false
set_option linter.unusedVariables false
namespace Go.Vi
open Go.Proofs

theorem won_tot {p : Prob} {b : Int} : ∀ {c : List Int} {s : Int × Int}, ((offsI p c).map Off.bidder).Nodup →
    (c.foldl (wonF p b) s).1 + (c.foldl (wonF p b) s).2 = s.2 + sumV (offsI p c) + (if b ∈ (offsI p c).map Off.bidder then 0 else s.1)
  | [], s, _ => by simp [offsI, sumV]; omega
  | i :: c, s, h => by
    rw [offsI_cons, List.map_cons, List.nodup_cons] at h
    rw [List.foldl_cons, won_tot h.2, offsI_cons, List.map_cons]
    simp only [sumV]
    generalize hx : nthD p.offers i.toNat SId.off.dflt = x at h ⊢
    by_cases hb : x.bidder = b
    · have hw : wonF p b s i = (x.value, s.2) := by unfold wonF; rw [hx, if_pos hb]
      rw [hw, if_neg (hb ▸ h.1), if_pos (by simp [hb])]
      simp only
      omega
    · have hw : wonF p b s i = (s.1, s.2 + x.value) := by unfold wonF; rw [hx, if_neg hb]
      have hb2 : ¬ b = x.bidder := fun e => hb e.symm
      rw [hw]
      simp only [List.mem_cons, hb2, false_or]
      split <;> omega

theorem won_sum {p : Prob} {c : List Int} {b : Int} (hz : feasE p c = 0) : (wonS p c b).2 = sumC p c - (wonS p c b).1 := by
  have h := @won_tot p b c (0, 0) (feas_nd hz)
  have h2 : sumC p c = sumV (offsI p c) := by unfold sumC; rw [sumC_go]; omega
  unfold wonS
  rw [h2]
  split at h <;> simp only at h <;> omega

end Go.Vi
/-
  Plain law: the payments of the two sides agree.
  Conditions: none.
-/
set_option maxRecDepth 100000
set_option linter.unusedSimpArgs false
set_option linter.unusedVariables false
namespace Go.Vi
open Go.Proofs

theorem vals_won {p : Prob} (hg : Good p) {b : Int} (h0 : 0 ≤ b) (h1 : b < p.classes.length) : ∀ {c v : List Int} {s : Int × Int}, IdxOk p c → v.length = p.classes.length → nthD v b.toNat 0 = s.1 → nthD (c.foldl (setV p) v) b.toNat 0 = (c.foldl (wonF p b) s).1
  | [], v, s, _, _, h => h
  | i :: c, v, s, hc, hl, h => by
    rw [List.foldl_cons, List.foldl_cons]
    have hi := hc i (by simp)
    have hx := hg.2.2.2.2 _ (nthD_mem (d := SId.off.dflt) (show i.toNat < p.offers.length by omega))
    refine vals_won hg h0 h1 (fun j hj => hc j (by simp [hj])) (by simp [setV, hl]) ?_
    unfold setV wonF
    rw [nthD_eq (by simp; omega), List.getElem_set]
    by_cases hb : (nthD p.offers i.toNat SId.off.dflt).bidder = b
    · rw [if_pos (by omega), if_pos hb]
    · rw [if_neg (by omega), if_neg hb]
      rw [nthD_eq (by omega)] at h
      exact h

theorem own_eq {p : Prob} {c : List Int} (hg : Good p) (hi : IdxOk p c) {b : Int} (h0 : 0 ≤ b) (h1 : b < p.classes.length) : nthD (valsS p c) b.toNat 0 = (wonS p c b).1 :=
  vals_won hg h0 h1 (s := (0, 0)) hi (by simp) (by rw [nthD_eq (by simp; omega)]; simp)

theorem pay_eq {p : Prob} {c : List Int} (hz : openE p c = 0) {b : Int} (h0 : 0 ≤ b) (h1 : b < p.classes.length) : payS (openD p c) b = payR p c b := by
  obtain ⟨_, hd, hg⟩ := open_ok hz
  have hf : feasE p c = 0 := faultR_ok (openE_eq ▸ hz)
  obtain ⟨q1, q2, _, q4, q5⟩ := feas_ok hf
  have ho := own_eq (c := c) hg q5 h0 h1
  have hw := won_sum (b := b) hf
  have hd2 := worth_del q1 h0 h1
  rw [hd]
  unfold payS payR
  simp only [ho, hd2, hw]
theorem disc_eq {p : Prob} {c : List Int} (hz : openE p c = 0) {b : Int} (h0 : 0 ≤ b) (h1 : b < p.classes.length) : discS (openD p c) b = discR p c b := by
  have hp := pay_eq hz h0 h1
  obtain ⟨_, hd, hg⟩ := open_ok hz
  have hf : feasE p c = 0 := faultR_ok (openE_eq ▸ hz)
  obtain ⟨q1, q2, _, q4, q5⟩ := feas_ok hf
  have ho := own_eq (c := c) hg q5 h0 h1
  unfold discS discR
  rw [hp, hd]
  simp only [ho]

theorem pays_eq {p : Prob} {c : List Int} : paysS p c = paysR p c := by
  unfold paysS paysR
  rw [← openE_eq]
  split
  · rename_i hz
    unfold eachL payRL
    refine List.map_congr_left fun i hi => ?_
    have := List.mem_range.1 hi
    exact pay_eq hz (by omega) (by omega)
  · rfl
theorem discs_eq {p : Prob} {c : List Int} : discsS p c = discsR p c := by
  unfold discsS discsR
  rw [← openE_eq]
  split
  · rename_i hz
    unfold eachL discRL
    refine List.map_congr_left fun i hi => ?_
    have := List.mem_range.1 hi
    exact disc_eq hz (by omega) (by omega)
  · rfl
theorem extE_eq {p : Prob} {c : List Int} {b : Int} : extE p c b = extRE p c b := by
  unfold extE extRE
  rw [openE_eq]
theorem ext_eq {p : Prob} {c : List Int} {b : Int} : extS p c b = extRS p c b := by
  unfold extS extRS
  rw [extE_eq]
  split
  · rename_i hz
    have hz2 := hz
    rw [← extE_eq] at hz2
    unfold extE at hz2
    split at hz2
    · rename_i h1; exact absurd hz2 h1
    · rename_i h1
      split at hz2
      · cases hz2
      · exact pay_eq (Classical.not_not.1 h1) (by omega) (by omega)
  · rfl

end Go.Vi
/-
  Contract: the law VickreyPays.
  Conditions: none.
-/
set_option maxRecDepth 100000
set_option maxHeartbeats 4000000
set_option linter.unusedSimpArgs false
set_option linter.unusedVariables false
namespace Go.Vi
open Go.Proofs.Ytigbjjkijfkeeaa.Ir
open Go.Proofs

def LH : List SCtr := r18 :: r20 :: r22 :: LG
theorem hLH : ∀ c ∈ LH, Holds Try.prog c := by
  simp only [LH, List.forall_mem_cons]
  exact ⟨h18, h20, h22, hLG⟩

def r3 : SCtr := ⟨3, Prob × List Int × Int, .cons codP (.cons (codR (.i .i64)) (.one (codI .i64))), fun _ => True, fun _ => .sb true⟩
theorem h3 : Holds Try.prog r3 := by
  refine con (L := LH) r3 F3 (fun _ _ => .look) (OwnOK.none _) hLH (by kernel_rfl) (by kernel_rfl) (fun _ => rfl) ?_
  rintro ⟨p, c, b⟩ _
  refine vcOf (True ∧ ((!fewB p (10 : Int)) = true → True ∧ (SV.sb true).same (SV.sb true)) ∧ ((!fewB p (10 : Int)) = false → (decide ((20 : Int) < (↑c.length : Int)) = true → True ∧ (SV.sb true).same (SV.sb true)) ∧ (decide ((20 : Int) < (↑c.length : Int)) = false → c.length ≤ 1000000000000 ∧ c.length ≤ 1000000000000 ∧ c.length ≤ 1000000000000 ∧ c.length ≤ 1000000000000 ∧ c.length ≤ 1000000000000 ∧ c.length ≤ 1000000000000 ∧ (decide (openE p c = faultR p c) = true → (paysS p c).length ≤ 1000000000000 ∧ (sameB (paysS p c) (paysR p c) = true → (decide (openE p c = faultR p c) = true → (discsS p c).length ≤ 1000000000000 ∧ (sameB (discsS p c) (discsR p c) = true → (decide (extE p c b = extRE p c b) = true → (decide (extS p c b = extRS p c b) = true → True ∧ (SV.sb true).same (SV.sb true)) ∧ (decide (extS p c b = extRS p c b) = false → (SV.bl false).same (SV.sb true))) ∧ (decide (extE p c b = extRE p c b) = false → (SV.bl false).same (SV.sb true))) ∧ (sameB (discsS p c) (discsR p c) = false → (SV.bl false).same (SV.sb true))) ∧ (decide (openE p c = faultR p c) = false → (SV.bl false).same (SV.sb true))) ∧ (sameB (paysS p c) (paysR p c) = false → (SV.bl false).same (SV.sb true))) ∧ (decide (openE p c = faultR p c) = false → (SV.bl false).same (SV.sb true))))) (by kernel_rfl) ?_
  have s1 : ∀ l : List Int, sameB l l = true := fun l => by simp [sameB]
  have hl : (paysS p c).length ≤ 1000000000000 := by
    unfold paysS
    split
    · rename_i h
      have := (open_ok h).2.2.1
      rw [eachL_len]
      omega
    · simp
  have hl2 : (discsS p c).length ≤ 1000000000000 := by
    unfold discsS
    split
    · rename_i h
      have := (open_ok h).2.2.1
      rw [eachL_len]
      omega
    · simp
  rw [← openE_eq, ← pays_eq, ← discs_eq, ← extE_eq, ← ext_eq, s1, s1]
  simp only [decide_eq_true_eq, decide_eq_false_iff_not, same_il_si, same_si_si, same_si_il, same_il_il, same_sb_sb, same_bl_sb, same_row, same_tup2, same_tup3, same_nil, same_row_nil, same_rfl, osame_rfl, inR_i64, eq_self, true_and, and_true, Bool.and_eq_true, Bool.not_eq_true', Bool.not_eq_false']
  have hx : ∀ {P : Prop}, ¬ True → P := fun h => absurd trivial h
  refine ⟨fun _ => trivial, fun _ => ⟨fun _ => trivial, fun h => ?_⟩⟩
  simp
  omega

end Go.Vi

/-
  Contracts: whether a problem is valid.
  Conditions: none.
-/
import Derived.Test.YtigbjjkijfkeeaaK3
set_option maxRecDepth 100000
set_option linter.unusedSimpArgs false
set_option linter.unusedVariables false
namespace Go.Vi
open Go.Proofs.Ytigbjjkijfkeeaa.Ir
open Go.Proofs

def L3 : List SCtr := [r134, r146, r156, r157, r158]
theorem hL3 : ∀ c ∈ L3, Holds Try.prog c := by
  simp only [L3, List.forall_mem_cons, List.not_mem_nil, false_implies, implies_true, and_true]
  exact ⟨h134, h146, h156, h157, h158⟩

def prodOk (p : Prob) (k : Nat) : Prop :=
  let c := nthD [p.cls.a0, p.cls.a1, p.cls.a2, p.cls.a3, p.cls.a4, p.cls.a5] k 0
  let o := nthD [p.opn.a0, p.opn.a1, p.opn.a2, p.opn.a3, p.opn.a4, p.opn.a5] k 0
  let s := nthD [p.supply.a0, p.supply.a1, p.supply.a2, p.supply.a3, p.supply.a4, p.supply.a5] k 0
  0 ≤ c ∧ c ≤ 4 ∧ 0 ≤ o ∧ o ≤ s ∧ (c ≠ 0 ∨ o = s)

instance (p : Prob) (k : Nat) : Decidable (prodOk p k) := by unfold prodOk; infer_instance

def prodsOk (p : Prob) : Bool := (List.range 6).all fun k => decide (prodOk p k)
theorem prodOk_iff {p : Prob} {k : Nat} : prodOk p k ↔ (0 ≤ nthD [p.cls.a0, p.cls.a1, p.cls.a2, p.cls.a3, p.cls.a4, p.cls.a5] k 0 ∧ nthD [p.cls.a0, p.cls.a1, p.cls.a2, p.cls.a3, p.cls.a4, p.cls.a5] k 0 ≤ 4 ∧ 0 ≤ nthD [p.opn.a0, p.opn.a1, p.opn.a2, p.opn.a3, p.opn.a4, p.opn.a5] k 0 ∧
    nthD [p.opn.a0, p.opn.a1, p.opn.a2, p.opn.a3, p.opn.a4, p.opn.a5] k 0 ≤ nthD [p.supply.a0, p.supply.a1, p.supply.a2, p.supply.a3, p.supply.a4, p.supply.a5] k 0 ∧
    (nthD [p.cls.a0, p.cls.a1, p.cls.a2, p.cls.a3, p.cls.a4, p.cls.a5] k 0 ≠ 0 ∨ nthD [p.opn.a0, p.opn.a1, p.opn.a2, p.opn.a3, p.opn.a4, p.opn.a5] k 0 = nthD [p.supply.a0, p.supply.a1, p.supply.a2, p.supply.a3, p.supply.a4, p.supply.a5] k 0)) := Iff.rfl
attribute [irreducible] prodOk
theorem prods_iff {p : Prob} : prodsOk p = true ↔ ∀ k, k < 6 → prodOk p k := by simp [prodsOk]

def frameE (p : Prob) : Int :=
  if p.supply.ok = false then 4
  else if prodsOk p = false then 4
  else if 8 < p.classes.length ∨ 160 < p.offers.length then 3
  else if ¬ ∀ c ∈ p.classes, 0 ≤ c ∧ c ≤ 4 then 4
  else 0

def r118 : SCtr := ⟨118, Prob, .one codP, fun p => True, fun p => .si .i64 (frameE p)⟩

def Λ118 (p : Prob) : Nat → LoopAnn
  | 5 => .inv Int (fun k => ⟨[(1, .ptr 0 0 20), (16, .si .i64 k)], [.cells p.ss 148 20 false]⟩) (fun s => iS s 16) (fun k => 0 ≤ k ∧ k ≤ 6 ∧ ∀ j : Nat, j < k → prodOk p j) (fun k => (6 - k).toNat) fun _ _ => .look
  | 14 => .inv Int (fun k => ⟨[(76, .row (.i .i64) p.classes), (77, .si .i64 p.classes.length), (78, .si .i64 k)], [.cells p.ss 148 20 false]⟩) (fun s => iS s 78)
    (fun k => 0 ≤ k ∧ k ≤ p.classes.length ∧ ∀ c ∈ p.classes.take k.toNat, 0 ≤ c ∧ c ≤ 4) (fun k => (p.classes.length - k).toNat) fun _ _ => .look
  | _ => .look

theorem frame_sup {p : Prob} (h : p.supply.ok = false) : frameE p = 4 := by simp [frameE, h]
theorem frame_prod {p : Prob} (h : p.supply.ok = true) {k : Nat} (hk : k < 6) (hn : ¬ prodOk p k) : frameE p = 4 := by
  have : prodsOk p = false := by
    rw [Bool.eq_false_iff]
    exact fun hh => hn (prods_iff.1 hh k hk)
  simp [frameE, h, this]
theorem frame_len {p : Prob} (h : p.supply.ok = true) (hp : ∀ j : Nat, j < 6 → prodOk p j) (hl : 8 < p.classes.length ∨ 160 < p.offers.length) : frameE p = 3 := by
  simp [frameE, h, prods_iff.2 hp, hl]
theorem frame_cls {p : Prob} (h : p.supply.ok = true) (hp : ∀ j : Nat, j < 6 → prodOk p j) (hl : ¬ (8 < p.classes.length ∨ 160 < p.offers.length)) {c : Int} (hc : c ∈ p.classes) (hn : ¬ (0 ≤ c ∧ c ≤ 4)) : frameE p = 4 := by
  have : ¬ ∀ c ∈ p.classes, 0 ≤ c ∧ c ≤ 4 := fun hh => hn (hh c hc)
  simp only [frameE, h, prods_iff.2 hp, if_neg hl, this, Bool.true_eq_false, if_false, not_false_iff, if_true]
theorem frame_ok {p : Prob} (h : p.supply.ok = true) (hp : ∀ j : Nat, j < 6 → prodOk p j) (hl : ¬ (8 < p.classes.length ∨ 160 < p.offers.length)) (hc : ∀ c ∈ p.classes, 0 ≤ c ∧ c ≤ 4) : frameE p = 0 := by
  simp only [frameE, h, prods_iff.2 hp, if_neg hl, Bool.true_eq_false, if_false, if_neg (Classical.not_not.2 hc)]
theorem frame_zero {p : Prob} (h : frameE p = 0) : p.supply.ok = true ∧ (∀ j : Nat, j < 6 → prodOk p j) ∧ p.classes.length ≤ 8 ∧ p.offers.length ≤ 160 ∧ ∀ c ∈ p.classes, 0 ≤ c ∧ c ≤ 4 := by
  unfold frameE at h
  split at h
  · cases h
  · split at h
    · cases h
    · split at h
      · cases h
      · split at h
        · cases h
        · rename_i h1 h2 h3 h4
          have h4 := Classical.not_not.1 h4
          exact ⟨by simpa using h1, prods_iff.1 (by simpa using h2), by omega, by omega, h4⟩

theorem mem_take_next {l : List Int} {i : Int} {P : Int → Prop} (h0 : 0 ≤ i) (h : i < l.length) (h1 : ∀ c ∈ l.take i.toNat, P c) (h2 : P (nthD l i.toNat 0)) : ∀ c ∈ l.take (i + 1).toNat, P c := by
  rw [take_nth (d := 0) h0 h]
  intro c hc
  rcases List.mem_append.1 hc with hc | hc
  · exact h1 c hc
  · rw [List.mem_singleton.1 hc]; exact h2

theorem h118 : Holds Try.prog r118 := by
  refine con (L := L3) r118 F118 Λ118 (OwnOK.none _) hL3 (by kernel_rfl) (by kernel_rfl) (fun _ => rfl) ?_
  intro p _
  refine vcOf (True ∧ (decide ((if p.supply.ok = true then (0 : Int) else (4 : Int)) ≠ (0 : Int)) = true → (SV.si IntKind.i64 (if p.supply.ok = true then (0 : Int) else (4 : Int))).same (SV.si IntKind.i64 (frameE p))) ∧ (decide ((if p.supply.ok = true then (0 : Int) else (4 : Int)) ≠ (0 : Int)) = false → ((((SV.ptr (0 : Nat) (0 : Nat) (20 : Nat)).same (SV.ptr (0 : Nat) (0 : Nat) (20 : Nat)) ∧ (SV.il IntKind.i64 (0 : Int)).same (SV.si IntKind.i64 (0 : Int)) ∧ True) ∧ (SObj.cells [SV.si IntKind.i64 p.supply.a0, SV.si IntKind.i64 p.supply.a1, SV.si IntKind.i64 p.supply.a2, SV.si IntKind.i64 p.supply.a3, SV.si IntKind.i64 p.supply.a4, SV.si IntKind.i64 p.supply.a5, SV.si IntKind.i64 p.opn.a0, SV.si IntKind.i64 p.opn.a1, SV.si IntKind.i64 p.opn.a2, SV.si IntKind.i64 p.opn.a3, SV.si IntKind.i64 p.opn.a4, SV.si IntKind.i64 p.opn.a5, SV.si IntKind.i64 p.cls.a0, SV.si IntKind.i64 p.cls.a1, SV.si IntKind.i64 p.cls.a2, SV.si IntKind.i64 p.cls.a3, SV.si IntKind.i64 p.cls.a4, SV.si IntKind.i64 p.cls.a5, SV.row (SId.i IntKind.i64) p.classes, SV.row SId.off p.offers] (148 : Nat) (20 : Nat) false).same (SObj.cells [SV.si IntKind.i64 p.supply.a0, SV.si IntKind.i64 p.supply.a1, SV.si IntKind.i64 p.supply.a2, SV.si IntKind.i64 p.supply.a3, SV.si IntKind.i64 p.supply.a4, SV.si IntKind.i64 p.supply.a5, SV.si IntKind.i64 p.opn.a0, SV.si IntKind.i64 p.opn.a1, SV.si IntKind.i64 p.opn.a2, SV.si IntKind.i64 p.opn.a3, SV.si IntKind.i64 p.opn.a4, SV.si IntKind.i64 p.opn.a5, SV.si IntKind.i64 p.cls.a0, SV.si IntKind.i64 p.cls.a1, SV.si IntKind.i64 p.cls.a2, SV.si IntKind.i64 p.cls.a3, SV.si IntKind.i64 p.cls.a4, SV.si IntKind.i64 p.cls.a5, SV.row (SId.i IntKind.i64) p.classes, SV.row SId.off p.offers] (148 : Nat) (20 : Nat) false) ∧ True) ∧ (0 : Int) ≤ (0 : Int) ∧ (0 : Int) ≤ (6 : Int) ∧ ∀ (j : Nat), ↑j < (0 : Int) → prodOk p j) ∧ ∀ (x : Int), ((0 : Int) ≤ x ∧ x ≤ (6 : Int) ∧ ∀ (j : Nat), ↑j < x → prodOk p j) → (decide (x < (6 : Int)) = true → (0 : Int) ≤ x ∧ x < (6 : Int) ∧ x.toNat < (6 : Nat) ∧ (0 : Int) ≤ x ∧ x < (6 : Int) ∧ x.toNat < (6 : Nat) ∧ (decide (nthD [p.cls.a0, p.cls.a1, p.cls.a2, p.cls.a3, p.cls.a4, p.cls.a5] x.toNat (0 : Int) < (0 : Int)) = true → (SV.il IntKind.i64 (4 : Int)).same (SV.si IntKind.i64 (frameE p))) ∧ (decide (nthD [p.cls.a0, p.cls.a1, p.cls.a2, p.cls.a3, p.cls.a4, p.cls.a5] x.toNat (0 : Int) < (0 : Int)) = false → (decide ((4 : Int) < nthD [p.cls.a0, p.cls.a1, p.cls.a2, p.cls.a3, p.cls.a4, p.cls.a5] x.toNat (0 : Int)) = true → (SV.il IntKind.i64 (4 : Int)).same (SV.si IntKind.i64 (frameE p))) ∧ (decide ((4 : Int) < nthD [p.cls.a0, p.cls.a1, p.cls.a2, p.cls.a3, p.cls.a4, p.cls.a5] x.toNat (0 : Int)) = false → (decide (nthD [p.opn.a0, p.opn.a1, p.opn.a2, p.opn.a3, p.opn.a4, p.opn.a5] x.toNat (0 : Int) < (0 : Int)) = true → (SV.il IntKind.i64 (4 : Int)).same (SV.si IntKind.i64 (frameE p))) ∧ (decide (nthD [p.opn.a0, p.opn.a1, p.opn.a2, p.opn.a3, p.opn.a4, p.opn.a5] x.toNat (0 : Int) < (0 : Int)) = false → (0 : Int) ≤ x ∧ x < (6 : Int) ∧ x.toNat < (6 : Nat) ∧ (decide (nthD [p.supply.a0, p.supply.a1, p.supply.a2, p.supply.a3, p.supply.a4, p.supply.a5] x.toNat (0 : Int) < nthD [p.opn.a0, p.opn.a1, p.opn.a2, p.opn.a3, p.opn.a4, p.opn.a5] x.toNat (0 : Int)) = true → (SV.il IntKind.i64 (4 : Int)).same (SV.si IntKind.i64 (frameE p))) ∧ (decide (nthD [p.supply.a0, p.supply.a1, p.supply.a2, p.supply.a3, p.supply.a4, p.supply.a5] x.toNat (0 : Int) < nthD [p.opn.a0, p.opn.a1, p.opn.a2, p.opn.a3, p.opn.a4, p.opn.a5] x.toNat (0 : Int)) = false → (decide (nthD [p.cls.a0, p.cls.a1, p.cls.a2, p.cls.a3, p.cls.a4, p.cls.a5] x.toNat (0 : Int) = (0 : Int)) = true → (0 : Int) ≤ x ∧ x < (6 : Int) ∧ x.toNat < (6 : Nat) ∧ (decide (nthD [p.opn.a0, p.opn.a1, p.opn.a2, p.opn.a3, p.opn.a4, p.opn.a5] x.toNat (0 : Int) ≠ nthD [p.supply.a0, p.supply.a1, p.supply.a2, p.supply.a3, p.supply.a4, p.supply.a5] x.toNat (0 : Int)) = true → (SV.il IntKind.i64 (4 : Int)).same (SV.si IntKind.i64 (frameE p))) ∧ (decide (nthD [p.opn.a0, p.opn.a1, p.opn.a2, p.opn.a3, p.opn.a4, p.opn.a5] x.toNat (0 : Int) ≠ nthD [p.supply.a0, p.supply.a1, p.supply.a2, p.supply.a3, p.supply.a4, p.supply.a5] x.toNat (0 : Int)) = false → inR IntKind.i64 (x + (1 : Int)) ∧ (((SV.ptr (0 : Nat) (0 : Nat) (20 : Nat)).same (SV.ptr (0 : Nat) (0 : Nat) (20 : Nat)) ∧ (SV.si IntKind.i64 (x + (1 : Int))).same (SV.si IntKind.i64 (x + (1 : Int))) ∧ True) ∧ (SObj.cells [SV.si IntKind.i64 p.supply.a0, SV.si IntKind.i64 p.supply.a1, SV.si IntKind.i64 p.supply.a2, SV.si IntKind.i64 p.supply.a3, SV.si IntKind.i64 p.supply.a4, SV.si IntKind.i64 p.supply.a5, SV.si IntKind.i64 p.opn.a0, SV.si IntKind.i64 p.opn.a1, SV.si IntKind.i64 p.opn.a2, SV.si IntKind.i64 p.opn.a3, SV.si IntKind.i64 p.opn.a4, SV.si IntKind.i64 p.opn.a5, SV.si IntKind.i64 p.cls.a0, SV.si IntKind.i64 p.cls.a1, SV.si IntKind.i64 p.cls.a2, SV.si IntKind.i64 p.cls.a3, SV.si IntKind.i64 p.cls.a4, SV.si IntKind.i64 p.cls.a5, SV.row (SId.i IntKind.i64) p.classes, SV.row SId.off p.offers] (148 : Nat) (20 : Nat) false).same (SObj.cells [SV.si IntKind.i64 p.supply.a0, SV.si IntKind.i64 p.supply.a1, SV.si IntKind.i64 p.supply.a2, SV.si IntKind.i64 p.supply.a3, SV.si IntKind.i64 p.supply.a4, SV.si IntKind.i64 p.supply.a5, SV.si IntKind.i64 p.opn.a0, SV.si IntKind.i64 p.opn.a1, SV.si IntKind.i64 p.opn.a2, SV.si IntKind.i64 p.opn.a3, SV.si IntKind.i64 p.opn.a4, SV.si IntKind.i64 p.opn.a5, SV.si IntKind.i64 p.cls.a0, SV.si IntKind.i64 p.cls.a1, SV.si IntKind.i64 p.cls.a2, SV.si IntKind.i64 p.cls.a3, SV.si IntKind.i64 p.cls.a4, SV.si IntKind.i64 p.cls.a5, SV.row (SId.i IntKind.i64) p.classes, SV.row SId.off p.offers] (148 : Nat) (20 : Nat) false) ∧ True) ∧ ((0 : Int) ≤ x + (1 : Int) ∧ x + (1 : Int) ≤ (6 : Int) ∧ ∀ (j : Nat), ↑j < x + (1 : Int) → prodOk p j) ∧ ((6 : Int) - (x + (1 : Int))).toNat < ((6 : Int) - x).toNat)) ∧ (decide (nthD [p.cls.a0, p.cls.a1, p.cls.a2, p.cls.a3, p.cls.a4, p.cls.a5] x.toNat (0 : Int) = (0 : Int)) = false → inR IntKind.i64 (x + (1 : Int)) ∧ (((SV.ptr (0 : Nat) (0 : Nat) (20 : Nat)).same (SV.ptr (0 : Nat) (0 : Nat) (20 : Nat)) ∧ (SV.si IntKind.i64 (x + (1 : Int))).same (SV.si IntKind.i64 (x + (1 : Int))) ∧ True) ∧ (SObj.cells [SV.si IntKind.i64 p.supply.a0, SV.si IntKind.i64 p.supply.a1, SV.si IntKind.i64 p.supply.a2, SV.si IntKind.i64 p.supply.a3, SV.si IntKind.i64 p.supply.a4, SV.si IntKind.i64 p.supply.a5, SV.si IntKind.i64 p.opn.a0, SV.si IntKind.i64 p.opn.a1, SV.si IntKind.i64 p.opn.a2, SV.si IntKind.i64 p.opn.a3, SV.si IntKind.i64 p.opn.a4, SV.si IntKind.i64 p.opn.a5, SV.si IntKind.i64 p.cls.a0, SV.si IntKind.i64 p.cls.a1, SV.si IntKind.i64 p.cls.a2, SV.si IntKind.i64 p.cls.a3, SV.si IntKind.i64 p.cls.a4, SV.si IntKind.i64 p.cls.a5, SV.row (SId.i IntKind.i64) p.classes, SV.row SId.off p.offers] (148 : Nat) (20 : Nat) false).same (SObj.cells [SV.si IntKind.i64 p.supply.a0, SV.si IntKind.i64 p.supply.a1, SV.si IntKind.i64 p.supply.a2, SV.si IntKind.i64 p.supply.a3, SV.si IntKind.i64 p.supply.a4, SV.si IntKind.i64 p.supply.a5, SV.si IntKind.i64 p.opn.a0, SV.si IntKind.i64 p.opn.a1, SV.si IntKind.i64 p.opn.a2, SV.si IntKind.i64 p.opn.a3, SV.si IntKind.i64 p.opn.a4, SV.si IntKind.i64 p.opn.a5, SV.si IntKind.i64 p.cls.a0, SV.si IntKind.i64 p.cls.a1, SV.si IntKind.i64 p.cls.a2, SV.si IntKind.i64 p.cls.a3, SV.si IntKind.i64 p.cls.a4, SV.si IntKind.i64 p.cls.a5, SV.row (SId.i IntKind.i64) p.classes, SV.row SId.off p.offers] (148 : Nat) (20 : Nat) false) ∧ True) ∧ ((0 : Int) ≤ x + (1 : Int) ∧ x + (1 : Int) ≤ (6 : Int) ∧ ∀ (j : Nat), ↑j < x + (1 : Int) → prodOk p j) ∧ ((6 : Int) - (x + (1 : Int))).toNat < ((6 : Int) - x).toNat)))))) ∧ (decide (x < (6 : Int)) = false → (decide ((8 : Int) < ↑p.classes.length) = true → (SV.il IntKind.i64 (3 : Int)).same (SV.si IntKind.i64 (frameE p))) ∧ (decide ((8 : Int) < ↑p.classes.length) = false → (decide ((160 : Int) < ↑p.offers.length) = true → (SV.il IntKind.i64 (3 : Int)).same (SV.si IntKind.i64 (frameE p))) ∧ (decide ((160 : Int) < ↑p.offers.length) = false → ((((SV.row (SId.i IntKind.i64) p.classes).same (SV.row (SId.i IntKind.i64) p.classes) ∧ (SV.si IntKind.i64 ↑p.classes.length).same (SV.si IntKind.i64 ↑p.classes.length) ∧ (SV.il IntKind.i64 (0 : Int)).same (SV.si IntKind.i64 (0 : Int)) ∧ True) ∧ (SObj.cells [SV.si IntKind.i64 p.supply.a0, SV.si IntKind.i64 p.supply.a1, SV.si IntKind.i64 p.supply.a2, SV.si IntKind.i64 p.supply.a3, SV.si IntKind.i64 p.supply.a4, SV.si IntKind.i64 p.supply.a5, SV.si IntKind.i64 p.opn.a0, SV.si IntKind.i64 p.opn.a1, SV.si IntKind.i64 p.opn.a2, SV.si IntKind.i64 p.opn.a3, SV.si IntKind.i64 p.opn.a4, SV.si IntKind.i64 p.opn.a5, SV.si IntKind.i64 p.cls.a0, SV.si IntKind.i64 p.cls.a1, SV.si IntKind.i64 p.cls.a2, SV.si IntKind.i64 p.cls.a3, SV.si IntKind.i64 p.cls.a4, SV.si IntKind.i64 p.cls.a5, SV.row (SId.i IntKind.i64) p.classes, SV.row SId.off p.offers] (148 : Nat) (20 : Nat) false).same (SObj.cells [SV.si IntKind.i64 p.supply.a0, SV.si IntKind.i64 p.supply.a1, SV.si IntKind.i64 p.supply.a2, SV.si IntKind.i64 p.supply.a3, SV.si IntKind.i64 p.supply.a4, SV.si IntKind.i64 p.supply.a5, SV.si IntKind.i64 p.opn.a0, SV.si IntKind.i64 p.opn.a1, SV.si IntKind.i64 p.opn.a2, SV.si IntKind.i64 p.opn.a3, SV.si IntKind.i64 p.opn.a4, SV.si IntKind.i64 p.opn.a5, SV.si IntKind.i64 p.cls.a0, SV.si IntKind.i64 p.cls.a1, SV.si IntKind.i64 p.cls.a2, SV.si IntKind.i64 p.cls.a3, SV.si IntKind.i64 p.cls.a4, SV.si IntKind.i64 p.cls.a5, SV.row (SId.i IntKind.i64) p.classes, SV.row SId.off p.offers] (148 : Nat) (20 : Nat) false) ∧ True) ∧ (0 : Int) ≤ (0 : Int) ∧ (0 : Int) ≤ ↑p.classes.length ∧ ∀ (c : Int), c ∈ [] → (0 : Int) ≤ c ∧ c ≤ (4 : Int)) ∧ ∀ (x : Int), ((0 : Int) ≤ x ∧ x ≤ ↑p.classes.length ∧ ∀ (c : Int), c ∈ List.take x.toNat p.classes → (0 : Int) ≤ c ∧ c ≤ (4 : Int)) → (decide (x < ↑p.classes.length) = true → (0 : Int) ≤ x ∧ x < ↑p.classes.length ∧ x.toNat < p.classes.length ∧ (decide (nthD p.classes x.toNat (0 : Int) < (0 : Int)) = true → (SV.il IntKind.i64 (4 : Int)).same (SV.si IntKind.i64 (frameE p))) ∧ (decide (nthD p.classes x.toNat (0 : Int) < (0 : Int)) = false → (decide ((4 : Int) < nthD p.classes x.toNat (0 : Int)) = true → (SV.il IntKind.i64 (4 : Int)).same (SV.si IntKind.i64 (frameE p))) ∧ (decide ((4 : Int) < nthD p.classes x.toNat (0 : Int)) = false → inR IntKind.i64 (x + (1 : Int)) ∧ (((SV.row (SId.i IntKind.i64) p.classes).same (SV.row (SId.i IntKind.i64) p.classes) ∧ (SV.si IntKind.i64 ↑p.classes.length).same (SV.si IntKind.i64 ↑p.classes.length) ∧ (SV.si IntKind.i64 (x + (1 : Int))).same (SV.si IntKind.i64 (x + (1 : Int))) ∧ True) ∧ (SObj.cells [SV.si IntKind.i64 p.supply.a0, SV.si IntKind.i64 p.supply.a1, SV.si IntKind.i64 p.supply.a2, SV.si IntKind.i64 p.supply.a3, SV.si IntKind.i64 p.supply.a4, SV.si IntKind.i64 p.supply.a5, SV.si IntKind.i64 p.opn.a0, SV.si IntKind.i64 p.opn.a1, SV.si IntKind.i64 p.opn.a2, SV.si IntKind.i64 p.opn.a3, SV.si IntKind.i64 p.opn.a4, SV.si IntKind.i64 p.opn.a5, SV.si IntKind.i64 p.cls.a0, SV.si IntKind.i64 p.cls.a1, SV.si IntKind.i64 p.cls.a2, SV.si IntKind.i64 p.cls.a3, SV.si IntKind.i64 p.cls.a4, SV.si IntKind.i64 p.cls.a5, SV.row (SId.i IntKind.i64) p.classes, SV.row SId.off p.offers] (148 : Nat) (20 : Nat) false).same (SObj.cells [SV.si IntKind.i64 p.supply.a0, SV.si IntKind.i64 p.supply.a1, SV.si IntKind.i64 p.supply.a2, SV.si IntKind.i64 p.supply.a3, SV.si IntKind.i64 p.supply.a4, SV.si IntKind.i64 p.supply.a5, SV.si IntKind.i64 p.opn.a0, SV.si IntKind.i64 p.opn.a1, SV.si IntKind.i64 p.opn.a2, SV.si IntKind.i64 p.opn.a3, SV.si IntKind.i64 p.opn.a4, SV.si IntKind.i64 p.opn.a5, SV.si IntKind.i64 p.cls.a0, SV.si IntKind.i64 p.cls.a1, SV.si IntKind.i64 p.cls.a2, SV.si IntKind.i64 p.cls.a3, SV.si IntKind.i64 p.cls.a4, SV.si IntKind.i64 p.cls.a5, SV.row (SId.i IntKind.i64) p.classes, SV.row SId.off p.offers] (148 : Nat) (20 : Nat) false) ∧ True) ∧ ((0 : Int) ≤ x + (1 : Int) ∧ x + (1 : Int) ≤ ↑p.classes.length ∧ ∀ (c : Int), c ∈ List.take (x + (1 : Int)).toNat p.classes → (0 : Int) ≤ c ∧ c ≤ (4 : Int)) ∧ (↑p.classes.length - (x + (1 : Int))).toNat < (↑p.classes.length - x).toNat))) ∧ (decide (x < ↑p.classes.length) = false → (SV.il IntKind.i64 (0 : Int)).same (SV.si IntKind.i64 (frameE p)))))))) (by kernel_rfl) ?_
  simp only [decide_eq_true_eq, decide_eq_false_iff_not, same_il_si, same_si_si, same_si_il, same_il_il, same_sb_sb, same_bl_sb, same_row, same_tup2, same_tup3, same_nil, same_row_nil, same_rfl, osame_rfl, inR_i64, eq_self, true_and, and_true, Bool.and_eq_true, Bool.not_eq_true', Bool.not_eq_false']
  by_cases hs : Bun.ok p.supply = true
  · simp only [hs, if_true]
    refine ⟨fun h => absurd rfl h, fun _ => ⟨⟨by omega, by omega, fun j hj => by omega⟩, ?_⟩⟩
    rintro k ⟨hk0, hk1, hk⟩
    refine ⟨fun hlt => ?_, fun hge => ?_⟩
    · have bad : ¬ prodOk p k.toNat → (4 : Int) = frameE p := fun h => (frame_prod hs (by omega) h).symm
      have nxt : prodOk p k.toNat → ∀ (j : Nat), (j : Int) < k + 1 → prodOk p j := fun h j hj => by
        by_cases hj2 : (j : Int) < k
        · exact hk j hj2
        · rw [show j = k.toNat from by omega]; exact h
      repeat' (first | refine And.intro ?_ ?_ | intro _)
      all_goals first
        | omega
        | exact bad fun hh => by have h2 := prodOk_iff.1 hh; omega
        | exact nxt (prodOk_iff.2 (by omega)) _ (by assumption)
    · have hall : ∀ j : Nat, j < 6 → prodOk p j := fun j hj => hk j (by omega)
      refine ⟨fun h => (frame_len hs hall (.inl (by omega))).symm, fun h8 => ⟨fun h => (frame_len hs hall (.inr (by omega))).symm, fun h160 => ⟨⟨by omega, by omega, by simp⟩, ?_⟩⟩⟩
      rintro i ⟨hi0, hi1, hi⟩
      refine ⟨fun hlt => ?_, fun hge => ?_⟩
      · have hm := nthD_mem (d := 0) (show i.toNat < p.classes.length by omega)
        refine ⟨by omega, by omega, by omega, fun h => (frame_cls hs hall (by omega) hm (by omega)).symm, fun h1 => ⟨fun h => (frame_cls hs hall (by omega) hm (by omega)).symm, fun h2 => ⟨by omega, ⟨by omega, by omega, ?_⟩, by omega⟩⟩⟩
        exact mem_take_next hi0 hlt hi (by omega)
      · rw [show i.toNat = p.classes.length from by omega, List.take_length] at hi
        exact (frame_ok hs hall (by omega) hi).symm
  · have hs2 : Bun.ok p.supply = false := by simpa using hs
    simp only [hs2, Bool.false_eq_true, if_false]
    exact ⟨fun _ => (frame_sup hs2).symm, fun h => absurd (by decide) h⟩

def simpleE (n : Int) (o : Off) : Int :=
  if o.bidder < 0 ∨ n ≤ o.bidder then 6 else if o.value < 1 ∨ 1000000 < o.value then 4 else if o.want.ok then 0 else 4

def r147 : SCtr := ⟨147, Int × Off, .cons (codI .i64) (.one (codE .off)), fun p => True, fun p => .si .i64 (simpleE p.1 p.2)⟩

theorem h147 : Holds Try.prog r147 := by
  refine con (L := L3) r147 F147 (fun p => fun _ => .look) (OwnOK.none _) hL3 (by kernel_rfl) (by kernel_rfl) (fun _ => rfl) ?_
  rintro ⟨n, x⟩ _
  refine vcOf ((decide (x.bidder < (0 : Int)) = true → (SV.il IntKind.i64 (6 : Int)).same (SV.si IntKind.i64 (simpleE n x))) ∧ (decide (x.bidder < (0 : Int)) = false → (decide (n ≤ x.bidder) = true → (SV.il IntKind.i64 (6 : Int)).same (SV.si IntKind.i64 (simpleE n x))) ∧ (decide (n ≤ x.bidder) = false → (decide (x.value < (1 : Int)) = true → (SV.il IntKind.i64 (4 : Int)).same (SV.si IntKind.i64 (simpleE n x))) ∧ (decide (x.value < (1 : Int)) = false → (decide ((1000000 : Int) < x.value) = true → (SV.il IntKind.i64 (4 : Int)).same (SV.si IntKind.i64 (simpleE n x))) ∧ (decide ((1000000 : Int) < x.value) = false → True ∧ (SV.si IntKind.i64 (if x.want.ok = true then (0 : Int) else (4 : Int))).same (SV.si IntKind.i64 (simpleE n x))))))) (by kernel_rfl) ?_
  simp only [decide_eq_true_eq, decide_eq_false_iff_not, same_il_si, same_si_si, same_si_il, same_il_il, same_sb_sb, same_bl_sb, same_row, same_tup2, same_tup3, same_nil, same_row_nil, same_rfl, osame_rfl, inR_i64, eq_self, true_and, and_true, Bool.and_eq_true, Bool.not_eq_true', Bool.not_eq_false']
  repeat' (first | refine And.intro ?_ ?_ | intro _)
  all_goals first
    | trivial
    | omega
    | (simp only [simpleE]; (repeat' split) <;> first | rfl | omega | simp_all)

def offerE (p : Prob) (o : Off) : Int :=
  if simpleE p.classes.length o ≠ 0 then simpleE p.classes.length o else if o.want = Bun.zero then 4 else if fitsB p [o] = false then 14 else 0

def r119 : SCtr := ⟨119, Prob × Off, .cons codP (.one (codE .off)), fun a => a.1.classes.length ≤ 8, fun a => .si .i64 (offerE a.1 a.2)⟩
def L4 : List SCtr := r147 :: L3
theorem hL4 : ∀ c ∈ L4, Holds Try.prog c := by
  simp only [L4, List.forall_mem_cons]
  exact ⟨h147, hL3⟩

theorem simple_zero {n : Int} {o : Off} (h : simpleE n o = 0) : 0 ≤ o.bidder ∧ o.bidder < n ∧ 1 ≤ o.value ∧ o.value ≤ 1000000 ∧ o.want.ok = true := by
  unfold simpleE at h
  split at h
  · cases h
  · split at h
    · cases h
    · split at h
      · exact ⟨by omega, by omega, by omega, by omega, by assumption⟩
      · cases h

theorem h119 : Holds Try.prog r119 := by
  refine con (L := L4) r119 F119 (fun p => fun _ => .look) (OwnOK.none _) hL4 (by kernel_rfl) (by kernel_rfl) (fun _ => rfl) ?_
  rintro ⟨p, x⟩ (hp : p.classes.length ≤ 8)
  refine vcOf (True ∧ (decide (simpleE (↑p.classes.length) x ≠ (0 : Int)) = true → (SV.si IntKind.i64 (simpleE (↑p.classes.length) x)).same (SV.si IntKind.i64 (offerE p x))) ∧ (decide (simpleE (↑p.classes.length) x ≠ (0 : Int)) = false → ((decide (x.want.a0 = (0 : Int)) && (decide (x.want.a1 = (0 : Int)) && (decide (x.want.a2 = (0 : Int)) && (decide (x.want.a3 = (0 : Int)) && (decide (x.want.a4 = (0 : Int)) && (decide (x.want.a5 = (0 : Int)) && true)))))) = true → (SV.il IntKind.i64 (4 : Int)).same (SV.si IntKind.i64 (offerE p x))) ∧ ((decide (x.want.a0 = (0 : Int)) && (decide (x.want.a1 = (0 : Int)) && (decide (x.want.a2 = (0 : Int)) && (decide (x.want.a3 = (0 : Int)) && (decide (x.want.a4 = (0 : Int)) && (decide (x.want.a5 = (0 : Int)) && true)))))) = false → (p.classes.length ≤ (8 : Nat) ∧ (1 : Nat) ≤ (1000 : Nat) ∧ ∀ (x_1 : Off), x_1 ∈ [x] → (0 : Int) ≤ x_1.bidder ∧ x_1.bidder < ↑p.classes.length ∧ x_1.want.ok = true) ∧ ((!fitsB p [x]) = true → (SV.il IntKind.i64 (14 : Int)).same (SV.si IntKind.i64 (offerE p x))) ∧ ((!fitsB p [x]) = false → (SV.il IntKind.i64 (0 : Int)).same (SV.si IntKind.i64 (offerE p x)))))) (by kernel_rfl) ?_
  have hw : (decide (x.want.a0 = 0) && (decide (x.want.a1 = 0) && (decide (x.want.a2 = 0) && (decide (x.want.a3 = 0) && (decide (x.want.a4 = 0) && decide (x.want.a5 = 0)))))) = decide (x.want = Bun.zero) := by
    rw [Bool.eq_iff_iff]
    simp [bun_eq, Bun.zero]
  simp only [Bool.and_true, hw]
  simp only [decide_eq_true_eq, decide_eq_false_iff_not, same_il_si, same_si_si, same_si_il, same_il_il, same_sb_sb, same_bl_sb, same_row, same_tup2, same_tup3, same_nil, same_row_nil, same_rfl, osame_rfl, inR_i64, eq_self, true_and, and_true, Bool.and_eq_true, Bool.not_eq_true', Bool.not_eq_false']
  refine ⟨fun h => by simp only [offerE, if_pos h], fun h => ?_⟩
  have hz : simpleE p.classes.length x = 0 := Classical.not_not.1 h
  have hx := simple_zero hz
  refine ⟨fun h3 => by simp [offerE, hz, h3], fun h3 => ⟨⟨hp, by omega, ?_⟩, fun h4 => ?_, fun h4 => ?_⟩⟩
  · intro y hy
    rw [List.mem_singleton.1 hy]
    exact ⟨hx.1, hx.2.1, hx.2.2.2.2⟩
  · simp [offerE, hz, h3, h4]
  · simp [offerE, hz, h3, h4]

end Go.Vi

/-
  The statement ThresholdRival holds.
  Conditions: none.
-/
import Derived.Test.YtigbjjkijfkeeaaTP06
import Derived.Test.YtigbjjkijfkeeaaTP11
import Derived.Test.YtigbjjkijfkeeaaRows
import Derived.ProofKit
set_option linter.unusedVariables false
set_option linter.unusedSimpArgs false
set_option maxRecDepth 100000
set_option maxHeartbeats 4000000
set_option linter.unusedSimpArgs false
set_option linter.unusedVariables false
namespace Go.Proofs.Ytigbjjkijfkeeaa
open Go.ChangeShapes Go.WideShapes Go.ChangeAt Go.RowKit Go.Vi

theorem rep_int7 {W : World} (n : Int) : Rep noA W [] [] ((codI .i64).put n).g (.int .i64 n) := by
  simp [codI, SV.g, Rep, Value.oneCell']

theorem rival_lifted (os : Os) (started : os.Started) (H : Type) (enc : TypeId × Value → H) :
    ReturnsInHanded {} Try.checked os 7 .any (Rows.thresholdRivalSpec.pre6 enc Try.prog Try.f7 Rows.thresholdRivalRow.domain false) (Rows.thresholdRivalSpec.post enc Try.prog Try.f7 false true false false) := by
  refine returnsInHanded_of_change (C := Try.checked) Try.own started (by kernel_rfl) Try.func7
    (ChangeSpec.witness6 (enc := enc) (C := Try.checked) false ⟨#[], #[.agg #[.int .i64 0, .int .i64 0, .int .i64 0, .int .i64 0, .int .i64 0, .int .i64 0, .int .i64 0, .int .i64 0, .int .i64 0, .int .i64 0, .int .i64 0, .int .i64 0, .int .i64 0, .int .i64 0, .int .i64 0, .int .i64 0, .int .i64 0, .int .i64 0, .slice none 0 0, .slice none 0 0], .int .i64 0], []⟩ 8 (by kernel_rfl) (by kernel_rfl) (by kernel_rfl) (by kernel_rfl)) ?_
  intro W base args ds gs before hval0 hW hcnd _
  have hval : ∀ (j : Nat) t v, Try.f7.params[j]? = some t → args[j]? = some v → Value.okWide Try.prog W .any base t v := hval0
  have hW' := hW
  obtain ⟨p, q, hA0, hV, rfl, hfz, hnd⟩ := hW
  have hA : DataW.TrodAll enc Try.prog W 0 (fun _ => true) true Try.f7.params.toList args.toList ds p := hA0
  have hA2 := hA
  rw [Try.params7] at hA hval
  obtain ⟨v0, v1, d0, d1, p0, p1, rfl, rfl, rfl, ⟨n0, h0⟩, ⟨n1, h1⟩⟩ := trodAll_two hA
  obtain ⟨rfl, rfl⟩ := trodVars_none hV
  obtain ⟨c0, rfl, e0⟩ := agg_cells Try.underlying27 (hval 0 27 v0 rfl rfl)
  rw [e0] at h0
  obtain ⟨pr, r0⟩ := rd_prob h0
  obtain ⟨y1, e1⟩ := rd_int _ _ _ _ _ _ _ _ _ h1
  have hw1 : v1 = .int .i64 y1 := by simpa [cell_int Try.underlying3 (hval 1 3 v1 rfl rfl), encV] using e1
  subst hw1
  have hcall := law_calls (W := W) (f := 7) (args := r7.A.put (pr, y1)) (h7 (pr, y1) trivial).2 (vs := [.agg c0, .int .i64 y1]) ⟨_, _, rfl, ⟨c0, rfl, r0⟩, _, _, rfl, rep_int7 y1, rfl⟩
  refine hcall.mono fun e W' ⟨he, hw⟩ => ?_
  subst he
  have hlt : ∀ x ∈ p0 ++ p1, x.block < W.heap.size := fun x hx => hW'.lt x (by simpa using hx)
  refine ⟨_, rfl, [d0, d1], [], p0 ++ p1 ++ [], [], p0 ++ p1, [], hW', trodAll_mk1 (shut_bool Try.underlying4 true), stays_all Try.laidOut hw hA2 ?_ hlt (fun x hx => by simpa using hlt x hx), rfl, hw.frame _, fun h => by cases h⟩
  intro t ht
  have ht2 : t = 27 ∨ t = 3 := by
    have : Try.f7.params.toList = [27, 3] := rfl
    rw [this] at ht
    simpa using ht
  rcases ht2 with rfl | rfl
  · exact ⟨by kernel_rfl, of_decide_eq_true (by kernel_rfl)⟩
  · exact ⟨by kernel_rfl, of_decide_eq_true (by kernel_rfl)⟩

theorem rival_holds : Rows.ThresholdRivalSaid :=
  OpenClaim.holds_of_wide 7 Try.f7 rfl rfl rfl rfl rfl rfl rfl ⟨rfl, rfl, rfl, rfl, rfl⟩ rfl rfl rfl rfl rfl (by kernel_rfl) Try.func7 (by kernel_rfl)
    (of_decide_eq_true (by kernel_rfl)) (by unfold Func.isWrapper; first | (rw [if_pos (by decide +kernel)]; kernel_rfl) | (rw [if_neg (by decide +kernel)]; exact ⟨rfl, rfl⟩))
    (fun os started H enc _ => rival_lifted os started H enc)

#print axioms rival_holds

end Go.Proofs.Ytigbjjkijfkeeaa

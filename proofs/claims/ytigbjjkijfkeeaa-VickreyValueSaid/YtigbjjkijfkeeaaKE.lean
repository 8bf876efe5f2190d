/-
  The statement VickreyValue holds.
  Conditions: none.
-/
import Derived.Test.YtigbjjkijfkeeaaKD
import Derived.Test.YtigbjjkijfkeeaaSxJoin
import Derived.Test.YtigbjjkijfkeeaaRows
import Derived.ProofKit
set_option maxRecDepth 100000
set_option maxHeartbeats 4000000
set_option linter.unusedSimpArgs false
set_option linter.unusedVariables false
namespace Go.Proofs.Ytigbjjkijfkeeaa
open Go.ChangeShapes Go.WideShapes Go.ChangeAt Go.RowKit Go.Vi

theorem Try.own : ownKnob Try.prog.godebug = none := by kernel_rfl
theorem Try.laidOut : laidOutB Try.prog = true := by kernel_rfl

theorem rd_int : Reads Try.prog 3 (.i .i64) := reads_int Try.underlying3
theorem rd_bun : Reads Try.prog 23 .bun := reads_bun Try.underlying23 Try.underlying3 (by kernel_rfl) (by kernel_rfl)
theorem rd_off : Reads Try.prog 43 .off := reads_off Try.underlying43 (by kernel_rfl) rfl rfl rfl Try.underlying3 (by kernel_rfl) Try.underlying2 (by kernel_rfl) rd_bun (by kernel_rfl) rfl

theorem rd_prob {H : Type} {enc : TypeId × Value → H} {w : World} {spare : Nat → Bool} {held : Bool} {fuel : Nat} {cs : List Value} {x : DataW H × List MemPlace} (h : DataW.trod enc Try.prog w 0 spare held fuel 27 cs = some x) :
    ∃ p : Prob, RepL noA w [] [] (gL p.ss) cs :=
  reads_prob Try.underlying27 (by kernel_rfl) rfl rfl rfl rfl rfl rfl rd_bun (by kernel_rfl) Try.underlying24 rd_int (by kernel_rfl) (by kernel_rfl) Try.underlying25 rd_off (by kernel_rfl) (by kernel_rfl) h

theorem rd_alloc {H : Type} {enc : TypeId × Value → H} {w : World} {spare : Nat → Bool} {held : Bool} {fuel : Nat} {cs : List Value} {x : DataW H × List MemPlace} (h : DataW.trod enc Try.prog w 0 spare held fuel 31 cs = some x) :
    ∃ a : Alloc, RepL noA w [] [] (gL [.row (.i .i64) a.chosen, .si .i64 a.value]) cs :=
  reads_alloc Try.underlying31 (by kernel_rfl) rfl rfl rfl Try.underlying24 rd_int (by kernel_rfl) (by kernel_rfl) Try.underlying2 (by kernel_rfl) h

/-- A law's call returns true, and nothing that was there has turned. -/
theorem law_calls {f : FuncId} {args : List SV} (h : CallO Try.prog f (gL args) [] (SV.sb true).g []) {W : World} {vs : List Value} (hr : RepL noA W [] [] (gL args) vs) :
    Calls Try.prog f vs.toArray W fun e W' => e = .returned (.bool true) ∧ Below W.heap.size W W' := by
  refine (h noA W [] vs (simO_nil W (fun b hb => hb.elim)) hr).mono ?_
  rintro e W' ⟨u, σ', rfl, _, hu, hx⟩
  simp only [SV.g, Rep] at hu
  exact ⟨by rw [hu.1], below_of_ext hx⟩

theorem value_lifted (os : Os) (started : os.Started) (H : Type) (enc : TypeId × Value → H) :
    ReturnsInHanded {} Try.checked os 5 .any (Rows.vickreyValueSpec.pre6 enc Try.prog Try.f5 Rows.vickreyValueRow.domain false) (Rows.vickreyValueSpec.post enc Try.prog Try.f5 false true false false) := by
  refine returnsInHanded_of_change (C := Try.checked) Try.own started (by kernel_rfl) Try.func5
    (ChangeSpec.witness6 (enc := enc) (C := Try.checked) false ⟨#[], #[.agg #[.int .i64 0, .int .i64 0, .int .i64 0, .int .i64 0, .int .i64 0, .int .i64 0, .int .i64 0, .int .i64 0, .int .i64 0, .int .i64 0, .int .i64 0, .int .i64 0, .int .i64 0, .int .i64 0, .int .i64 0, .int .i64 0, .int .i64 0, .int .i64 0, .slice none 0 0, .slice none 0 0], .agg #[.slice none 0 0, .int .i64 0]], []⟩ 8 (by kernel_rfl) (by kernel_rfl) (by kernel_rfl) (by kernel_rfl)) ?_
  intro W base args ds gs before hval0 hW hcnd _
  have hval : ∀ (j : Nat) t v, Try.f5.params[j]? = some t → args[j]? = some v → Value.okWide Try.prog W .any base t v := hval0
  have hW' := hW
  obtain ⟨p, q, hA0, hV, rfl, hfz, hnd⟩ := hW
  have hA : DataW.TrodAll enc Try.prog W 0 (fun _ => true) true Try.f5.params.toList args.toList ds p := hA0
  have hA2 := hA
  rw [Try.params5] at hA hval
  obtain ⟨v0, v1, d0, d1, p0, p1, rfl, rfl, rfl, ⟨n0, h0⟩, ⟨n1, h1⟩⟩ := trodAll_two hA
  obtain ⟨rfl, rfl⟩ := trodVars_none hV
  obtain ⟨c0, rfl, e0⟩ := agg_cells Try.underlying27 (hval 0 27 v0 rfl rfl)
  obtain ⟨c1, rfl, e1⟩ := agg_cells Try.underlying31 (hval 1 31 v1 rfl rfl)
  rw [e0] at h0
  rw [e1] at h1
  obtain ⟨pr, r0⟩ := rd_prob h0
  obtain ⟨al, r1⟩ := rd_alloc h1
  have hcall := law_calls (W := W) (f := 5) (args := r5.A.put (pr, al)) (h5 (pr, al) trivial).2 (vs := [.agg c0, .agg c1]) ⟨_, _, rfl, ⟨c0, rfl, r0⟩, _, _, rfl, ⟨c1, rfl, r1⟩, rfl⟩
  refine hcall.mono fun e W' ⟨he, hw⟩ => ?_
  subst he
  have hlt : ∀ x ∈ p0 ++ p1, x.block < W.heap.size := fun x hx => hW'.lt x (by simpa using hx)
  refine ⟨_, rfl, [d0, d1], [], p0 ++ p1 ++ [], [], p0 ++ p1, [], hW', trodAll_mk1 (shut_bool Try.underlying4 true), stays_all Try.laidOut hw hA2 ?_ hlt (fun x hx => by simpa using hlt x hx), rfl, hw.frame _, fun h => by cases h⟩
  intro t ht
  have ht2 : t = 27 ∨ t = 31 := by
    have : Try.f5.params.toList = [27, 31] := rfl
    rw [this] at ht
    simpa using ht
  rcases ht2 with rfl | rfl
  · exact ⟨by kernel_rfl, of_decide_eq_true (by kernel_rfl)⟩
  · exact ⟨by kernel_rfl, of_decide_eq_true (by kernel_rfl)⟩

theorem value_holds : Rows.VickreyValueSaid :=
  OpenClaim.holds_of_wide 5 Try.f5 rfl rfl rfl rfl rfl rfl rfl ⟨rfl, rfl, rfl, rfl, rfl⟩ rfl rfl rfl rfl rfl (by kernel_rfl) Try.func5 (by kernel_rfl)
    (of_decide_eq_true (by kernel_rfl)) (by unfold Func.isWrapper; first | (rw [if_pos (by decide +kernel)]; kernel_rfl) | (rw [if_neg (by decide +kernel)]; exact ⟨rfl, rfl⟩))
    (fun os started H enc _ => value_lifted os started H enc)

#print axioms value_holds

end Go.Proofs.Ytigbjjkijfkeeaa

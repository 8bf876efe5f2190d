/-
  No cell of these rows narrows 'for every input' (looked for: loops, veiled, ifaces, maps, wideKeys, modest, calm, conditions, laid).
  DERIVED. THE GIVEN ROWS OF THIS SEAT. 5 by the template 'for every input the law returns true; each argument reads behind the call as it read before'; 0 by the template 'total and deterministic' (their statements: YtojbjnpkdlfijaaTotals.lean).
  GIVEN WITH THE SEED: the statements are not yours to turn. If you find one false, say at which input.
  Laid BY PROGRAM, IN A SANDBOX (cutbox-rows.mjs): the forced cells as the released guide's own fill.sh prints them over the translation 9a731a8aaecca507… (all of the seat's roots in one cut). By AI agents, Wed Nov 11 2026. No macro, syntax, notation, axiom, sorry.
-/
import Derived.Test.YtojbjnpkdlfijaaChecked
import GoSem.Claim
import GoSem.ClaimJoined
import GoSem.ClaimMapViews
import Derived.JoinedTies
import Derived.KernelRfl
namespace Go.Proofs.Ytojbjnpkdlfijaa
/- THE CELL 'sum', in the pinned program and in every row, IS THE sha256 OF THE DUMP (.gsa) THAT YtojbjnpkdlfijaaProg.lean LOADS. Nothing in Lean hashes anything: it is a label: what it is worth is what the hold of that sum in a sandbox is worth. -/
noncomputable def Try.pinned : Pinned := { name := "ytojbjnpkdlfijaa", sum := "9a731a8aaecca50726a4cf3e6ea78dc5fd5073cb2d6b0574523834edcd9d5876", checked := Try.checked }
namespace Rows
def none {H : Type} : Left H := { results := [], args := [] }

/-- 'saleroomlaw21.GreedyOrders': WHATEVER THE INPUT: true; the input reads as it did. -/
def greedyOrdersSpec : ChangeSpec := { name := "greedyOrders", fn := fun _ => fun
  | [d] => { results := [.lit (.bool true)], args := [d] }
  | _ => none }
def greedyOrdersRow : OpenClaim := { program := "ytojbjnpkdlfijaa", sum := "9a731a8aaecca50726a4cf3e6ea78dc5fd5073cb2d6b0574523834edcd9d5876", func := "saleroom/saleroomlaw21.GreedyOrders", spec := "greedyOrders", unfollowed := true, recurses := true, plainKeys := false, apart := false }
def GreedyOrdersSaid : Prop := greedyOrdersRow.holds Try.pinned (OpenSpec.ofChange greedyOrdersSpec)

/-- ITS FALSE NEIGHBOUR: 'it returns false'. Refute it at one input. -/
def greedyOrdersWrong : ChangeSpec := { name := "greedyOrders", fn := fun _ => fun
  | [d] => { results := [.lit (.bool false)], args := [d] }
  | _ => none }
def GreedyOrdersWrongFalsely : Prop := greedyOrdersRow.holds Try.pinned (OpenSpec.ofChange greedyOrdersWrong)

/-- 'saleroomlaw21.GreedyStarts': WHATEVER THE INPUT: true; the input reads as it did. -/
def greedyStartsSpec : ChangeSpec := { name := "greedyStarts", fn := fun _ => fun
  | [d] => { results := [.lit (.bool true)], args := [d] }
  | _ => none }
def greedyStartsRow : OpenClaim := { program := "ytojbjnpkdlfijaa", sum := "9a731a8aaecca50726a4cf3e6ea78dc5fd5073cb2d6b0574523834edcd9d5876", func := "saleroom/saleroomlaw21.GreedyStarts", spec := "greedyStarts", unfollowed := true, recurses := true, plainKeys := false, apart := false }
def GreedyStartsSaid : Prop := greedyStartsRow.holds Try.pinned (OpenSpec.ofChange greedyStartsSpec)

/-- ITS FALSE NEIGHBOUR: 'it returns false'. Refute it at one input. -/
def greedyStartsWrong : ChangeSpec := { name := "greedyStarts", fn := fun _ => fun
  | [d] => { results := [.lit (.bool false)], args := [d] }
  | _ => none }
def GreedyStartsWrongFalsely : Prop := greedyStartsRow.holds Try.pinned (OpenSpec.ofChange greedyStartsWrong)

/-- 'saleroomlaw21.GreedyImproves': WHATEVER THE INPUT: true; the input reads as it did. -/
def greedyImprovesSpec : ChangeSpec := { name := "greedyImproves", fn := fun _ => fun
  | [d1, d2] => { results := [.lit (.bool true)], args := [d1, d2] }
  | _ => none }
def greedyImprovesRow : OpenClaim := { program := "ytojbjnpkdlfijaa", sum := "9a731a8aaecca50726a4cf3e6ea78dc5fd5073cb2d6b0574523834edcd9d5876", func := "saleroom/saleroomlaw21.GreedyImproves", spec := "greedyImproves", unfollowed := true, recurses := true, plainKeys := false, apart := false }
def GreedyImprovesSaid : Prop := greedyImprovesRow.holds Try.pinned (OpenSpec.ofChange greedyImprovesSpec)

/-- ITS FALSE NEIGHBOUR: 'it returns false'. Refute it at one input. -/
def greedyImprovesWrong : ChangeSpec := { name := "greedyImproves", fn := fun _ => fun
  | [d1, d2] => { results := [.lit (.bool false)], args := [d1, d2] }
  | _ => none }
def GreedyImprovesWrongFalsely : Prop := greedyImprovesRow.holds Try.pinned (OpenSpec.ofChange greedyImprovesWrong)

/-- 'saleroomlaw21.GreedyFeasible': WHATEVER THE INPUT: true; the input reads as it did. -/
def greedyFeasibleSpec : ChangeSpec := { name := "greedyFeasible", fn := fun _ => fun
  | [d] => { results := [.lit (.bool true)], args := [d] }
  | _ => none }
def greedyFeasibleRow : OpenClaim := { program := "ytojbjnpkdlfijaa", sum := "9a731a8aaecca50726a4cf3e6ea78dc5fd5073cb2d6b0574523834edcd9d5876", func := "saleroom/saleroomlaw21.GreedyFeasible", spec := "greedyFeasible", unfollowed := true, recurses := true, plainKeys := false, apart := false }
def GreedyFeasibleSaid : Prop := greedyFeasibleRow.holds Try.pinned (OpenSpec.ofChange greedyFeasibleSpec)

/-- ITS FALSE NEIGHBOUR: 'it returns false'. Refute it at one input. -/
def greedyFeasibleWrong : ChangeSpec := { name := "greedyFeasible", fn := fun _ => fun
  | [d] => { results := [.lit (.bool false)], args := [d] }
  | _ => none }
def GreedyFeasibleWrongFalsely : Prop := greedyFeasibleRow.holds Try.pinned (OpenSpec.ofChange greedyFeasibleWrong)

/-- 'saleroomlaw21.GreedyDense': WHATEVER THE INPUT: true; the input reads as it did. -/
def greedyDenseSpec : ChangeSpec := { name := "greedyDense", fn := fun _ => fun
  | [d] => { results := [.lit (.bool true)], args := [d] }
  | _ => none }
def greedyDenseRow : OpenClaim := { program := "ytojbjnpkdlfijaa", sum := "9a731a8aaecca50726a4cf3e6ea78dc5fd5073cb2d6b0574523834edcd9d5876", func := "saleroom/saleroomlaw21.GreedyDense", spec := "greedyDense", unfollowed := true, recurses := true, plainKeys := false, apart := false }
def GreedyDenseSaid : Prop := greedyDenseRow.holds Try.pinned (OpenSpec.ofChange greedyDenseSpec)

/-- ITS FALSE NEIGHBOUR: 'it returns false'. Refute it at one input. -/
def greedyDenseWrong : ChangeSpec := { name := "greedyDense", fn := fun _ => fun
  | [d] => { results := [.lit (.bool false)], args := [d] }
  | _ => none }
def GreedyDenseWrongFalsely : Prop := greedyDenseRow.holds Try.pinned (OpenSpec.ofChange greedyDenseWrong)

/- THE SECOND FORM. 'bulk': how many values and letters a reading holds, each counted each time it is reached (what is shared counts as often as it is met; a slice's spare places count too). A statement '..UptoSaid' is the law's where the arguments, and the package variables that the reading takes, are together of bulk at most 1048576: NARROWER than '..Said'. Prove '..Said' where nothing that the law and all that it calls make is longer than what came in: it says more and counts as full. Else prove '..UptoSaid'. A law counts once. -/
mutual
def uptoBulk {H : Type} : DataW H → Nat
  | .lit (.string bytes) => bytes.length + 1
  | .lit _ => 1
  | .nil => 1
  | .ptr d => uptoBulk d + 1
  | .slice elems spare => uptoBulkAll elems + uptoBulkAll spare + 1
  | .agg parts => uptoBulkAll parts + 1
  | .iface _ d => uptoBulk d + 1
  | .map entries => uptoBulkEntries entries + 1
  | .held _ => 1
def uptoBulkAll {H : Type} : List (DataW H) → Nat
  | [] => 0
  | d :: r => uptoBulk d + uptoBulkAll r
def uptoBulkEntries {H : Type} : List (Lit × DataW H) → Nat
  | [] => 0
  | x :: r => uptoBulkEntry x + uptoBulkEntries r
def uptoBulkEntry {H : Type} : Lit × DataW H → Nat
  | (.string bytes, d) => bytes.length + uptoBulk d + 1
  | (_, d) => uptoBulk d + 1
 end
def uptoSmall : (H : Type) → List (DataW H) → Bool := fun _ ds => decide (uptoBulkAll ds ≤ 1048576)
def OpenSpec.upto (s : _root_.Go.ChangeSpec) : _root_.Go.OpenSpec := { _root_.Go.OpenSpec.ofChange s with cond := some uptoSmall }

/-- 'saleroomlaw21.GreedyOrders', WHERE WHAT IT READS IS OF BULK AT MOST 1048576: true; the input reads as it did. -/
def greedyOrdersUptoRow : OpenClaim := { program := "ytojbjnpkdlfijaa", sum := "9a731a8aaecca50726a4cf3e6ea78dc5fd5073cb2d6b0574523834edcd9d5876", func := "saleroom/saleroomlaw21.GreedyOrders", spec := "greedyOrders", unfollowed := true, recurses := true, plainKeys := false, apart := false, narrowed := true }
def GreedyOrdersUptoSaid : Prop := greedyOrdersUptoRow.holds Try.pinned (OpenSpec.upto greedyOrdersSpec)

/-- 'saleroomlaw21.GreedyStarts', WHERE WHAT IT READS IS OF BULK AT MOST 1048576: true; the input reads as it did. -/
def greedyStartsUptoRow : OpenClaim := { program := "ytojbjnpkdlfijaa", sum := "9a731a8aaecca50726a4cf3e6ea78dc5fd5073cb2d6b0574523834edcd9d5876", func := "saleroom/saleroomlaw21.GreedyStarts", spec := "greedyStarts", unfollowed := true, recurses := true, plainKeys := false, apart := false, narrowed := true }
def GreedyStartsUptoSaid : Prop := greedyStartsUptoRow.holds Try.pinned (OpenSpec.upto greedyStartsSpec)

/-- 'saleroomlaw21.GreedyImproves', WHERE WHAT IT READS IS OF BULK AT MOST 1048576: true; the input reads as it did. -/
def greedyImprovesUptoRow : OpenClaim := { program := "ytojbjnpkdlfijaa", sum := "9a731a8aaecca50726a4cf3e6ea78dc5fd5073cb2d6b0574523834edcd9d5876", func := "saleroom/saleroomlaw21.GreedyImproves", spec := "greedyImproves", unfollowed := true, recurses := true, plainKeys := false, apart := false, narrowed := true }
def GreedyImprovesUptoSaid : Prop := greedyImprovesUptoRow.holds Try.pinned (OpenSpec.upto greedyImprovesSpec)

/-- 'saleroomlaw21.GreedyFeasible', WHERE WHAT IT READS IS OF BULK AT MOST 1048576: true; the input reads as it did. -/
def greedyFeasibleUptoRow : OpenClaim := { program := "ytojbjnpkdlfijaa", sum := "9a731a8aaecca50726a4cf3e6ea78dc5fd5073cb2d6b0574523834edcd9d5876", func := "saleroom/saleroomlaw21.GreedyFeasible", spec := "greedyFeasible", unfollowed := true, recurses := true, plainKeys := false, apart := false, narrowed := true }
def GreedyFeasibleUptoSaid : Prop := greedyFeasibleUptoRow.holds Try.pinned (OpenSpec.upto greedyFeasibleSpec)

/-- 'saleroomlaw21.GreedyDense', WHERE WHAT IT READS IS OF BULK AT MOST 1048576: true; the input reads as it did. -/
def greedyDenseUptoRow : OpenClaim := { program := "ytojbjnpkdlfijaa", sum := "9a731a8aaecca50726a4cf3e6ea78dc5fd5073cb2d6b0574523834edcd9d5876", func := "saleroom/saleroomlaw21.GreedyDense", spec := "greedyDense", unfollowed := true, recurses := true, plainKeys := false, apart := false, narrowed := true }
def GreedyDenseUptoSaid : Prop := greedyDenseUptoRow.holds Try.pinned (OpenSpec.upto greedyDenseSpec)

end Rows
end Go.Proofs.Ytojbjnpkdlfijaa

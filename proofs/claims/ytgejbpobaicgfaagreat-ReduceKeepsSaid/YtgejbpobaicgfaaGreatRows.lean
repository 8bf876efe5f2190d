/-
  No cell of these rows narrows 'for every input' (looked for: loops, veiled, ifaces, maps, wideKeys, modest, calm, conditions, laid).
  DERIVED. THE GIVEN ROWS OF THIS SEAT. 7 by the template 'for every input the law returns true; each argument reads behind the call as it read before'; 0 by the template 'total and deterministic' (their statements: YtgejbpobaicgfaaGreatTotals.lean).
  GIVEN WITH THE SEED: the statements are not yours to turn. If you find one false, say at which input.
  Laid BY PROGRAM, IN A SANDBOX (cutbox-rows.mjs): the forced cells as the released guide's own fill.sh prints them over the translation 75c2b46311f26590… (all of the seat's roots in one cut). By AI agents, Wed Nov 11 2026. No macro, syntax, notation, axiom, sorry.
-/
import Derived.Test.YtgejbpobaicgfaaGreatChecked
import GoSem.Claim
import GoSem.ClaimJoined
import GoSem.ClaimMapViews
import Derived.JoinedTies
import Derived.KernelRfl
namespace Go.Proofs.YtgejbpobaicgfaaGreat
/- THE CELL 'sum', in the pinned program and in every row, IS THE sha256 OF THE DUMP (.gsa) THAT YtgejbpobaicgfaaGreatProg.lean LOADS. Nothing in Lean hashes anything: it is a label: what it is worth is what the hold of that sum in a sandbox is worth. -/
noncomputable def Tryz.pinned : Pinned := { name := "ytgejbpobaicgfaagreat", sum := "75c2b46311f26590f7daf23d08e63e24466d0f4ed174d2b44debca1abc12da36", checked := Tryz.checked }
namespace Rows
def none {H : Type} : Left H := { results := [], args := [] }

/-- 'saleroomlaw51.ReduceFixes': WHATEVER THE INPUT: true; the input reads as it did. -/
def reduceFixesSpec : ChangeSpec := { name := "reduceFixes", fn := fun _ => fun
  | [d1, d2] => { results := [.lit (.bool true)], args := [d1, d2] }
  | _ => none }
def reduceFixesRow : OpenClaim := { program := "ytgejbpobaicgfaagreat", sum := "75c2b46311f26590f7daf23d08e63e24466d0f4ed174d2b44debca1abc12da36", func := "saleroom/saleroomlaw51.ReduceFixes", spec := "reduceFixes", unfollowed := true, recurses := true, plainKeys := false, apart := false }
def ReduceFixesSaid : Prop := reduceFixesRow.holds Tryz.pinned (OpenSpec.ofChange reduceFixesSpec)

/-- ITS FALSE NEIGHBOUR: 'it returns false'. Refute it at one input. -/
def reduceFixesWrong : ChangeSpec := { name := "reduceFixes", fn := fun _ => fun
  | [d1, d2] => { results := [.lit (.bool false)], args := [d1, d2] }
  | _ => none }
def ReduceFixesWrongFalsely : Prop := reduceFixesRow.holds Tryz.pinned (OpenSpec.ofChange reduceFixesWrong)

/-- 'saleroomlaw23.BranchOptimal': WHATEVER THE INPUT: true; the input reads as it did. -/
def branchOptimalSpec : ChangeSpec := { name := "branchOptimal", fn := fun _ => fun
  | [d1, d2, d3] => { results := [.lit (.bool true)], args := [d1, d2, d3] }
  | _ => none }
def branchOptimalRow : OpenClaim := { program := "ytgejbpobaicgfaagreat", sum := "75c2b46311f26590f7daf23d08e63e24466d0f4ed174d2b44debca1abc12da36", func := "saleroom/saleroomlaw23.BranchOptimal", spec := "branchOptimal", unfollowed := true, recurses := true, plainKeys := false, apart := false }
def BranchOptimalSaid : Prop := branchOptimalRow.holds Tryz.pinned (OpenSpec.ofChange branchOptimalSpec)

/-- ITS FALSE NEIGHBOUR: 'it returns false'. Refute it at one input. -/
def branchOptimalWrong : ChangeSpec := { name := "branchOptimal", fn := fun _ => fun
  | [d1, d2, d3] => { results := [.lit (.bool false)], args := [d1, d2, d3] }
  | _ => none }
def BranchOptimalWrongFalsely : Prop := branchOptimalRow.holds Tryz.pinned (OpenSpec.ofChange branchOptimalWrong)

/-- 'saleroomlaw23.BranchBetter': WHATEVER THE INPUT: true; the input reads as it did. -/
def branchBetterSpec : ChangeSpec := { name := "branchBetter", fn := fun _ => fun
  | [d1, d2, d3] => { results := [.lit (.bool true)], args := [d1, d2, d3] }
  | _ => none }
def branchBetterRow : OpenClaim := { program := "ytgejbpobaicgfaagreat", sum := "75c2b46311f26590f7daf23d08e63e24466d0f4ed174d2b44debca1abc12da36", func := "saleroom/saleroomlaw23.BranchBetter", spec := "branchBetter", unfollowed := true, recurses := true, plainKeys := false, apart := false }
def BranchBetterSaid : Prop := branchBetterRow.holds Tryz.pinned (OpenSpec.ofChange branchBetterSpec)

/-- ITS FALSE NEIGHBOUR: 'it returns false'. Refute it at one input. -/
def branchBetterWrong : ChangeSpec := { name := "branchBetter", fn := fun _ => fun
  | [d1, d2, d3] => { results := [.lit (.bool false)], args := [d1, d2, d3] }
  | _ => none }
def BranchBetterWrongFalsely : Prop := branchBetterRow.holds Tryz.pinned (OpenSpec.ofChange branchBetterWrong)

/-- 'saleroomlaw23.BranchNever': WHATEVER THE INPUT: true; the input reads as it did. -/
def branchNeverSpec : ChangeSpec := { name := "branchNever", fn := fun _ => fun
  | [d1, d2, d3] => { results := [.lit (.bool true)], args := [d1, d2, d3] }
  | _ => none }
def branchNeverRow : OpenClaim := { program := "ytgejbpobaicgfaagreat", sum := "75c2b46311f26590f7daf23d08e63e24466d0f4ed174d2b44debca1abc12da36", func := "saleroom/saleroomlaw23.BranchNever", spec := "branchNever", unfollowed := true, recurses := true, plainKeys := false, apart := false }
def BranchNeverSaid : Prop := branchNeverRow.holds Tryz.pinned (OpenSpec.ofChange branchNeverSpec)

/-- ITS FALSE NEIGHBOUR: 'it returns false'. Refute it at one input. -/
def branchNeverWrong : ChangeSpec := { name := "branchNever", fn := fun _ => fun
  | [d1, d2, d3] => { results := [.lit (.bool false)], args := [d1, d2, d3] }
  | _ => none }
def BranchNeverWrongFalsely : Prop := branchNeverRow.holds Tryz.pinned (OpenSpec.ofChange branchNeverWrong)

/-- 'saleroomlaw23.BranchAgrees': WHATEVER THE INPUT: true; the input reads as it did. -/
def branchAgreesSpec : ChangeSpec := { name := "branchAgrees", fn := fun _ => fun
  | [d] => { results := [.lit (.bool true)], args := [d] }
  | _ => none }
def branchAgreesRow : OpenClaim := { program := "ytgejbpobaicgfaagreat", sum := "75c2b46311f26590f7daf23d08e63e24466d0f4ed174d2b44debca1abc12da36", func := "saleroom/saleroomlaw23.BranchAgrees", spec := "branchAgrees", unfollowed := true, recurses := true, plainKeys := false, apart := false }
def BranchAgreesSaid : Prop := branchAgreesRow.holds Tryz.pinned (OpenSpec.ofChange branchAgreesSpec)

/-- ITS FALSE NEIGHBOUR: 'it returns false'. Refute it at one input. -/
def branchAgreesWrong : ChangeSpec := { name := "branchAgrees", fn := fun _ => fun
  | [d] => { results := [.lit (.bool false)], args := [d] }
  | _ => none }
def BranchAgreesWrongFalsely : Prop := branchAgreesRow.holds Tryz.pinned (OpenSpec.ofChange branchAgreesWrong)

/-- 'saleroomlaw23.BranchValue': WHATEVER THE INPUT: true; the input reads as it did. -/
def branchValueSpec : ChangeSpec := { name := "branchValue", fn := fun _ => fun
  | [d1, d2, d3] => { results := [.lit (.bool true)], args := [d1, d2, d3] }
  | _ => none }
def branchValueRow : OpenClaim := { program := "ytgejbpobaicgfaagreat", sum := "75c2b46311f26590f7daf23d08e63e24466d0f4ed174d2b44debca1abc12da36", func := "saleroom/saleroomlaw23.BranchValue", spec := "branchValue", unfollowed := true, recurses := true, plainKeys := false, apart := false }
def BranchValueSaid : Prop := branchValueRow.holds Tryz.pinned (OpenSpec.ofChange branchValueSpec)

/-- ITS FALSE NEIGHBOUR: 'it returns false'. Refute it at one input. -/
def branchValueWrong : ChangeSpec := { name := "branchValue", fn := fun _ => fun
  | [d1, d2, d3] => { results := [.lit (.bool false)], args := [d1, d2, d3] }
  | _ => none }
def BranchValueWrongFalsely : Prop := branchValueRow.holds Tryz.pinned (OpenSpec.ofChange branchValueWrong)

/-- 'saleroomlaw51.ReduceKeeps': WHATEVER THE INPUT: true; the input reads as it did. -/
def reduceKeepsSpec : ChangeSpec := { name := "reduceKeeps", fn := fun _ => fun
  | [d1, d2] => { results := [.lit (.bool true)], args := [d1, d2] }
  | _ => none }
def reduceKeepsRow : OpenClaim := { program := "ytgejbpobaicgfaagreat", sum := "75c2b46311f26590f7daf23d08e63e24466d0f4ed174d2b44debca1abc12da36", func := "saleroom/saleroomlaw51.ReduceKeeps", spec := "reduceKeeps", unfollowed := true, recurses := true, plainKeys := false, apart := false }
def ReduceKeepsSaid : Prop := reduceKeepsRow.holds Tryz.pinned (OpenSpec.ofChange reduceKeepsSpec)

/-- ITS FALSE NEIGHBOUR: 'it returns false'. Refute it at one input. -/
def reduceKeepsWrong : ChangeSpec := { name := "reduceKeeps", fn := fun _ => fun
  | [d1, d2] => { results := [.lit (.bool false)], args := [d1, d2] }
  | _ => none }
def ReduceKeepsWrongFalsely : Prop := reduceKeepsRow.holds Tryz.pinned (OpenSpec.ofChange reduceKeepsWrong)

/- THE SECOND FORM. 'bulk': how many values and letters a reading holds, each counted each time it is reached (what is shared counts as often as it is met; a slice's spare places count too). A statement '..UptoSaid' is the law's where the arguments, and the package variables that the reading takes, are together of bulk at most 1048576: NARROWER than '..Said'. Prove '..Said' where nothing that the law and all that it calls make is longer than what came in: it says more and counts as full. Else prove '..UptoSaid'. A law counts once. -/
mutual
def uptoBulk {H : Type} : DataW H → Nat
  | .lit (.string bytes) => bytes.length + 1
  | .lit _ => 1
  | .nil => 1
  | .ptr d => uptoBulk d + 1
  | .slice elems spare => uptoBulkAll elems + uptoBulkAll spare + 1
  | .agg parts => uptoBulkAll parts + 1
  | .iface _ d => uptoBulk d + 1
  | .map entries => uptoBulkEntries entries + 1
  | .held _ => 1
def uptoBulkAll {H : Type} : List (DataW H) → Nat
  | [] => 0
  | d :: r => uptoBulk d + uptoBulkAll r
def uptoBulkEntries {H : Type} : List (Lit × DataW H) → Nat
  | [] => 0
  | x :: r => uptoBulkEntry x + uptoBulkEntries r
def uptoBulkEntry {H : Type} : Lit × DataW H → Nat
  | (.string bytes, d) => bytes.length + uptoBulk d + 1
  | (_, d) => uptoBulk d + 1
 end
def uptoSmall : (H : Type) → List (DataW H) → Bool := fun _ ds => decide (uptoBulkAll ds ≤ 1048576)
def OpenSpec.upto (s : _root_.Go.ChangeSpec) : _root_.Go.OpenSpec := { _root_.Go.OpenSpec.ofChange s with cond := some uptoSmall }

/-- 'saleroomlaw51.ReduceFixes', WHERE WHAT IT READS IS OF BULK AT MOST 1048576: true; the input reads as it did. -/
def reduceFixesUptoRow : OpenClaim := { program := "ytgejbpobaicgfaagreat", sum := "75c2b46311f26590f7daf23d08e63e24466d0f4ed174d2b44debca1abc12da36", func := "saleroom/saleroomlaw51.ReduceFixes", spec := "reduceFixes", unfollowed := true, recurses := true, plainKeys := false, apart := false, narrowed := true }
def ReduceFixesUptoSaid : Prop := reduceFixesUptoRow.holds Tryz.pinned (OpenSpec.upto reduceFixesSpec)

/-- 'saleroomlaw23.BranchOptimal', WHERE WHAT IT READS IS OF BULK AT MOST 1048576: true; the input reads as it did. -/
def branchOptimalUptoRow : OpenClaim := { program := "ytgejbpobaicgfaagreat", sum := "75c2b46311f26590f7daf23d08e63e24466d0f4ed174d2b44debca1abc12da36", func := "saleroom/saleroomlaw23.BranchOptimal", spec := "branchOptimal", unfollowed := true, recurses := true, plainKeys := false, apart := false, narrowed := true }
def BranchOptimalUptoSaid : Prop := branchOptimalUptoRow.holds Tryz.pinned (OpenSpec.upto branchOptimalSpec)

/-- 'saleroomlaw23.BranchBetter', WHERE WHAT IT READS IS OF BULK AT MOST 1048576: true; the input reads as it did. -/
def branchBetterUptoRow : OpenClaim := { program := "ytgejbpobaicgfaagreat", sum := "75c2b46311f26590f7daf23d08e63e24466d0f4ed174d2b44debca1abc12da36", func := "saleroom/saleroomlaw23.BranchBetter", spec := "branchBetter", unfollowed := true, recurses := true, plainKeys := false, apart := false, narrowed := true }
def BranchBetterUptoSaid : Prop := branchBetterUptoRow.holds Tryz.pinned (OpenSpec.upto branchBetterSpec)

/-- 'saleroomlaw23.BranchNever', WHERE WHAT IT READS IS OF BULK AT MOST 1048576: true; the input reads as it did. -/
def branchNeverUptoRow : OpenClaim := { program := "ytgejbpobaicgfaagreat", sum := "75c2b46311f26590f7daf23d08e63e24466d0f4ed174d2b44debca1abc12da36", func := "saleroom/saleroomlaw23.BranchNever", spec := "branchNever", unfollowed := true, recurses := true, plainKeys := false, apart := false, narrowed := true }
def BranchNeverUptoSaid : Prop := branchNeverUptoRow.holds Tryz.pinned (OpenSpec.upto branchNeverSpec)

/-- 'saleroomlaw23.BranchAgrees', WHERE WHAT IT READS IS OF BULK AT MOST 1048576: true; the input reads as it did. -/
def branchAgreesUptoRow : OpenClaim := { program := "ytgejbpobaicgfaagreat", sum := "75c2b46311f26590f7daf23d08e63e24466d0f4ed174d2b44debca1abc12da36", func := "saleroom/saleroomlaw23.BranchAgrees", spec := "branchAgrees", unfollowed := true, recurses := true, plainKeys := false, apart := false, narrowed := true }
def BranchAgreesUptoSaid : Prop := branchAgreesUptoRow.holds Tryz.pinned (OpenSpec.upto branchAgreesSpec)

/-- 'saleroomlaw23.BranchValue', WHERE WHAT IT READS IS OF BULK AT MOST 1048576: true; the input reads as it did. -/
def branchValueUptoRow : OpenClaim := { program := "ytgejbpobaicgfaagreat", sum := "75c2b46311f26590f7daf23d08e63e24466d0f4ed174d2b44debca1abc12da36", func := "saleroom/saleroomlaw23.BranchValue", spec := "branchValue", unfollowed := true, recurses := true, plainKeys := false, apart := false, narrowed := true }
def BranchValueUptoSaid : Prop := branchValueUptoRow.holds Tryz.pinned (OpenSpec.upto branchValueSpec)

/-- 'saleroomlaw51.ReduceKeeps', WHERE WHAT IT READS IS OF BULK AT MOST 1048576: true; the input reads as it did. -/
def reduceKeepsUptoRow : OpenClaim := { program := "ytgejbpobaicgfaagreat", sum := "75c2b46311f26590f7daf23d08e63e24466d0f4ed174d2b44debca1abc12da36", func := "saleroom/saleroomlaw51.ReduceKeeps", spec := "reduceKeeps", unfollowed := true, recurses := true, plainKeys := false, apart := false, narrowed := true }
def ReduceKeepsUptoSaid : Prop := reduceKeepsUptoRow.holds Tryz.pinned (OpenSpec.upto reduceKeepsSpec)

end Rows
end Go.Proofs.YtgejbpobaicgfaaGreat

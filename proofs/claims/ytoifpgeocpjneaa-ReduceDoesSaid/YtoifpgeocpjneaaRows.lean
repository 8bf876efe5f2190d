/-
  No cell of these rows narrows 'for every input' (looked for: loops, veiled, ifaces, maps, wideKeys, modest, calm, conditions, laid).
  DERIVED. THE GIVEN ROWS OF THIS SEAT. 4 by the template 'for every input the law returns true; each argument reads behind the call as it read before'; 0 by the template 'total and deterministic' (their statements: YtoifpgeocpjneaaTotals.lean).
  GIVEN WITH THE SEED: the statements are not yours to turn. If you find one false, say at which input.
  Laid BY PROGRAM, IN A SANDBOX (cutbox-rows.mjs): the forced cells as the released guide's own fill.sh prints them over the translation 832118916f474b20… (all of the seat's roots in one cut). By AI agents, Wed Nov 11 2026. No macro, syntax, notation, axiom, sorry.
-/
import Derived.Test.YtoifpgeocpjneaaChecked
import GoSem.Claim
import GoSem.ClaimJoined
import GoSem.ClaimMapViews
import Derived.JoinedTies
import Derived.KernelRfl
namespace Go.Proofs.Ytoifpgeocpjneaa
/- THE CELL 'sum', in the pinned program and in every row, IS THE sha256 OF THE DUMP (.gsa) THAT YtoifpgeocpjneaaProg.lean LOADS. Nothing in Lean hashes anything: it is a label: what it is worth is what the hold of that sum in a sandbox is worth. -/
noncomputable def Try.pinned : Pinned := { name := "ytoifpgeocpjneaa", sum := "832118916f474b20c39e4dfa2d0d3e92373b38a3f99a5926b794cbb746f1962b", checked := Try.checked }
namespace Rows
def none {H : Type} : Left H := { results := [], args := [] }

/-- 'saleroomlaw51.ReduceDominated': WHATEVER THE INPUT: true; the input reads as it did. -/
def reduceDominatedSpec : ChangeSpec := { name := "reduceDominated", fn := fun _ => fun
  | [d] => { results := [.lit (.bool true)], args := [d] }
  | _ => none }
def reduceDominatedRow : OpenClaim := { program := "ytoifpgeocpjneaa", sum := "832118916f474b20c39e4dfa2d0d3e92373b38a3f99a5926b794cbb746f1962b", func := "saleroom/saleroomlaw51.ReduceDominated", spec := "reduceDominated", unfollowed := true, recurses := true, plainKeys := false, apart := false }
def ReduceDominatedSaid : Prop := reduceDominatedRow.holds Try.pinned (OpenSpec.ofChange reduceDominatedSpec)

/-- ITS FALSE NEIGHBOUR: 'it returns false'. Refute it at one input. -/
def reduceDominatedWrong : ChangeSpec := { name := "reduceDominated", fn := fun _ => fun
  | [d] => { results := [.lit (.bool false)], args := [d] }
  | _ => none }
def ReduceDominatedWrongFalsely : Prop := reduceDominatedRow.holds Try.pinned (OpenSpec.ofChange reduceDominatedWrong)

/-- 'saleroomlaw51.ReduceRemoves': WHATEVER THE INPUT: true; the input reads as it did. -/
def reduceRemovesSpec : ChangeSpec := { name := "reduceRemoves", fn := fun _ => fun
  | [d1, d2] => { results := [.lit (.bool true)], args := [d1, d2] }
  | _ => none }
def reduceRemovesRow : OpenClaim := { program := "ytoifpgeocpjneaa", sum := "832118916f474b20c39e4dfa2d0d3e92373b38a3f99a5926b794cbb746f1962b", func := "saleroom/saleroomlaw51.ReduceRemoves", spec := "reduceRemoves", unfollowed := true, recurses := true, plainKeys := false, apart := false }
def ReduceRemovesSaid : Prop := reduceRemovesRow.holds Try.pinned (OpenSpec.ofChange reduceRemovesSpec)

/-- ITS FALSE NEIGHBOUR: 'it returns false'. Refute it at one input. -/
def reduceRemovesWrong : ChangeSpec := { name := "reduceRemoves", fn := fun _ => fun
  | [d1, d2] => { results := [.lit (.bool false)], args := [d1, d2] }
  | _ => none }
def ReduceRemovesWrongFalsely : Prop := reduceRemovesRow.holds Try.pinned (OpenSpec.ofChange reduceRemovesWrong)

/-- 'saleroomlaw51.ReduceSound': WHATEVER THE INPUT: true; the input reads as it did. -/
def reduceSoundSpec : ChangeSpec := { name := "reduceSound", fn := fun _ => fun
  | [d1, d2] => { results := [.lit (.bool true)], args := [d1, d2] }
  | _ => none }
def reduceSoundRow : OpenClaim := { program := "ytoifpgeocpjneaa", sum := "832118916f474b20c39e4dfa2d0d3e92373b38a3f99a5926b794cbb746f1962b", func := "saleroom/saleroomlaw51.ReduceSound", spec := "reduceSound", unfollowed := true, recurses := true, plainKeys := false, apart := false }
def ReduceSoundSaid : Prop := reduceSoundRow.holds Try.pinned (OpenSpec.ofChange reduceSoundSpec)

/-- ITS FALSE NEIGHBOUR: 'it returns false'. Refute it at one input. -/
def reduceSoundWrong : ChangeSpec := { name := "reduceSound", fn := fun _ => fun
  | [d1, d2] => { results := [.lit (.bool false)], args := [d1, d2] }
  | _ => none }
def ReduceSoundWrongFalsely : Prop := reduceSoundRow.holds Try.pinned (OpenSpec.ofChange reduceSoundWrong)

/-- 'saleroomlaw51.ReduceDoes': WHATEVER THE INPUT: true; the input reads as it did. -/
def reduceDoesSpec : ChangeSpec := { name := "reduceDoes", fn := fun _ => fun
  | [d1, d2] => { results := [.lit (.bool true)], args := [d1, d2] }
  | _ => none }
def reduceDoesRow : OpenClaim := { program := "ytoifpgeocpjneaa", sum := "832118916f474b20c39e4dfa2d0d3e92373b38a3f99a5926b794cbb746f1962b", func := "saleroom/saleroomlaw51.ReduceDoes", spec := "reduceDoes", unfollowed := true, recurses := true, plainKeys := false, apart := false }
def ReduceDoesSaid : Prop := reduceDoesRow.holds Try.pinned (OpenSpec.ofChange reduceDoesSpec)

/-- ITS FALSE NEIGHBOUR: 'it returns false'. Refute it at one input. -/
def reduceDoesWrong : ChangeSpec := { name := "reduceDoes", fn := fun _ => fun
  | [d1, d2] => { results := [.lit (.bool false)], args := [d1, d2] }
  | _ => none }
def ReduceDoesWrongFalsely : Prop := reduceDoesRow.holds Try.pinned (OpenSpec.ofChange reduceDoesWrong)

/- THE SECOND FORM. 'bulk': how many values and letters a reading holds, each counted each time it is reached (what is shared counts as often as it is met; a slice's spare places count too). A statement '..UptoSaid' is the law's where the arguments, and the package variables that the reading takes, are together of bulk at most 1048576: NARROWER than '..Said'. Prove '..Said' where nothing that the law and all that it calls make is longer than what came in: it says more and counts as full. Else prove '..UptoSaid'. A law counts once. -/
mutual
def uptoBulk {H : Type} : DataW H → Nat
  | .lit (.string bytes) => bytes.length + 1
  | .lit _ => 1
  | .nil => 1
  | .ptr d => uptoBulk d + 1
  | .slice elems spare => uptoBulkAll elems + uptoBulkAll spare + 1
  | .agg parts => uptoBulkAll parts + 1
  | .iface _ d => uptoBulk d + 1
  | .map entries => uptoBulkEntries entries + 1
  | .held _ => 1
def uptoBulkAll {H : Type} : List (DataW H) → Nat
  | [] => 0
  | d :: r => uptoBulk d + uptoBulkAll r
def uptoBulkEntries {H : Type} : List (Lit × DataW H) → Nat
  | [] => 0
  | x :: r => uptoBulkEntry x + uptoBulkEntries r
def uptoBulkEntry {H : Type} : Lit × DataW H → Nat
  | (.string bytes, d) => bytes.length + uptoBulk d + 1
  | (_, d) => uptoBulk d + 1
 end
def uptoSmall : (H : Type) → List (DataW H) → Bool := fun _ ds => decide (uptoBulkAll ds ≤ 1048576)
def OpenSpec.upto (s : _root_.Go.ChangeSpec) : _root_.Go.OpenSpec := { _root_.Go.OpenSpec.ofChange s with cond := some uptoSmall }

/-- 'saleroomlaw51.ReduceDominated', WHERE WHAT IT READS IS OF BULK AT MOST 1048576: true; the input reads as it did. -/
def reduceDominatedUptoRow : OpenClaim := { program := "ytoifpgeocpjneaa", sum := "832118916f474b20c39e4dfa2d0d3e92373b38a3f99a5926b794cbb746f1962b", func := "saleroom/saleroomlaw51.ReduceDominated", spec := "reduceDominated", unfollowed := true, recurses := true, plainKeys := false, apart := false, narrowed := true }
def ReduceDominatedUptoSaid : Prop := reduceDominatedUptoRow.holds Try.pinned (OpenSpec.upto reduceDominatedSpec)

/-- 'saleroomlaw51.ReduceRemoves', WHERE WHAT IT READS IS OF BULK AT MOST 1048576: true; the input reads as it did. -/
def reduceRemovesUptoRow : OpenClaim := { program := "ytoifpgeocpjneaa", sum := "832118916f474b20c39e4dfa2d0d3e92373b38a3f99a5926b794cbb746f1962b", func := "saleroom/saleroomlaw51.ReduceRemoves", spec := "reduceRemoves", unfollowed := true, recurses := true, plainKeys := false, apart := false, narrowed := true }
def ReduceRemovesUptoSaid : Prop := reduceRemovesUptoRow.holds Try.pinned (OpenSpec.upto reduceRemovesSpec)

/-- 'saleroomlaw51.ReduceSound', WHERE WHAT IT READS IS OF BULK AT MOST 1048576: true; the input reads as it did. -/
def reduceSoundUptoRow : OpenClaim := { program := "ytoifpgeocpjneaa", sum := "832118916f474b20c39e4dfa2d0d3e92373b38a3f99a5926b794cbb746f1962b", func := "saleroom/saleroomlaw51.ReduceSound", spec := "reduceSound", unfollowed := true, recurses := true, plainKeys := false, apart := false, narrowed := true }
def ReduceSoundUptoSaid : Prop := reduceSoundUptoRow.holds Try.pinned (OpenSpec.upto reduceSoundSpec)

/-- 'saleroomlaw51.ReduceDoes', WHERE WHAT IT READS IS OF BULK AT MOST 1048576: true; the input reads as it did. -/
def reduceDoesUptoRow : OpenClaim := { program := "ytoifpgeocpjneaa", sum := "832118916f474b20c39e4dfa2d0d3e92373b38a3f99a5926b794cbb746f1962b", func := "saleroom/saleroomlaw51.ReduceDoes", spec := "reduceDoes", unfollowed := true, recurses := true, plainKeys := false, apart := false, narrowed := true }
def ReduceDoesUptoSaid : Prop := reduceDoesUptoRow.holds Try.pinned (OpenSpec.upto reduceDoesSpec)

end Rows
end Go.Proofs.Ytoifpgeocpjneaa

/-
  No cell of these rows narrows 'for every input' (looked for: loops, veiled, ifaces, maps, wideKeys, modest, calm, conditions, laid).
  DERIVED. THE GIVEN ROWS OF THIS SEAT. 3 by the template 'for every input the law returns true; each argument reads behind the call as it read before'; 0 by the template 'total and deterministic' (their statements: YtddpfdamlefbgaaTotals.lean).
  GIVEN WITH THE SEED: the statements are not yours to turn. If you find one false, say at which input.
  Laid BY PROGRAM, IN A SANDBOX (cutbox-rows.mjs): the forced cells as the released guide's own fill.sh prints them over the translation bb62e79b5b2a3fff… (all of the seat's roots in one cut). By AI agents, Wed Nov 11 2026. No macro, syntax, notation, axiom, sorry.
-/
import Derived.Test.YtddpfdamlefbgaaChecked
import GoSem.Claim
import GoSem.ClaimJoined
import GoSem.ClaimMapViews
import Derived.JoinedTies
import Derived.KernelRfl
namespace Go.Proofs.Ytddpfdamlefbgaa
/- THE CELL 'sum', in the pinned program and in every row, IS THE sha256 OF THE DUMP (.gsa) THAT YtddpfdamlefbgaaProg.lean LOADS. Nothing in Lean hashes anything: it is a label: what it is worth is what the hold of that sum in a sandbox is worth. -/
noncomputable def Try.pinned : Pinned := { name := "ytddpfdamlefbgaa", sum := "bb62e79b5b2a3fff4c180c50bff4866e5e8e6baa4074d0c3cfcc3e314ed42af8", checked := Try.checked }
namespace Rows
def none {H : Type} : Left H := { results := [], args := [] }

/-- 'saleroomlaw29.SeparateNeeds': WHATEVER THE INPUT: true; the input reads as it did. -/
def separateNeedsSpec : ChangeSpec := { name := "separateNeeds", fn := fun _ => fun
  | [d1, d2, d3] => { results := [.lit (.bool true)], args := [d1, d2, d3] }
  | _ => none }
def separateNeedsRow : OpenClaim := { program := "ytddpfdamlefbgaa", sum := "bb62e79b5b2a3fff4c180c50bff4866e5e8e6baa4074d0c3cfcc3e314ed42af8", func := "saleroom/saleroomlaw29.SeparateNeeds", spec := "separateNeeds", unfollowed := true, recurses := true, plainKeys := false, apart := false }
def SeparateNeedsSaid : Prop := separateNeedsRow.holds Try.pinned (OpenSpec.ofChange separateNeedsSpec)

/-- ITS FALSE NEIGHBOUR: 'it returns false'. Refute it at one input. -/
def separateNeedsWrong : ChangeSpec := { name := "separateNeeds", fn := fun _ => fun
  | [d1, d2, d3] => { results := [.lit (.bool false)], args := [d1, d2, d3] }
  | _ => none }
def SeparateNeedsWrongFalsely : Prop := separateNeedsRow.holds Try.pinned (OpenSpec.ofChange separateNeedsWrong)

/-- 'saleroomlaw29.SeparateLosers': WHATEVER THE INPUT: true; the input reads as it did. -/
def separateLosersSpec : ChangeSpec := { name := "separateLosers", fn := fun _ => fun
  | [d1, d2, d3, d4] => { results := [.lit (.bool true)], args := [d1, d2, d3, d4] }
  | _ => none }
def separateLosersRow : OpenClaim := { program := "ytddpfdamlefbgaa", sum := "bb62e79b5b2a3fff4c180c50bff4866e5e8e6baa4074d0c3cfcc3e314ed42af8", func := "saleroom/saleroomlaw29.SeparateLosers", spec := "separateLosers", unfollowed := true, recurses := true, plainKeys := false, apart := false }
def SeparateLosersSaid : Prop := separateLosersRow.holds Try.pinned (OpenSpec.ofChange separateLosersSpec)

/-- ITS FALSE NEIGHBOUR: 'it returns false'. Refute it at one input. -/
def separateLosersWrong : ChangeSpec := { name := "separateLosers", fn := fun _ => fun
  | [d1, d2, d3, d4] => { results := [.lit (.bool false)], args := [d1, d2, d3, d4] }
  | _ => none }
def SeparateLosersWrongFalsely : Prop := separateLosersRow.holds Try.pinned (OpenSpec.ofChange separateLosersWrong)

/-- 'saleroomlaw29.SeparateNil': WHATEVER THE INPUT: true; the input reads as it did. -/
def separateNilSpec : ChangeSpec := { name := "separateNil", fn := fun _ => fun
  | [d] => { results := [.lit (.bool true)], args := [d] }
  | _ => none }
def separateNilRow : OpenClaim := { program := "ytddpfdamlefbgaa", sum := "bb62e79b5b2a3fff4c180c50bff4866e5e8e6baa4074d0c3cfcc3e314ed42af8", func := "saleroom/saleroomlaw29.SeparateNil", spec := "separateNil", unfollowed := true, recurses := true, plainKeys := false, apart := false }
def SeparateNilSaid : Prop := separateNilRow.holds Try.pinned (OpenSpec.ofChange separateNilSpec)

/-- ITS FALSE NEIGHBOUR: 'it returns false'. Refute it at one input. -/
def separateNilWrong : ChangeSpec := { name := "separateNil", fn := fun _ => fun
  | [d] => { results := [.lit (.bool false)], args := [d] }
  | _ => none }
def SeparateNilWrongFalsely : Prop := separateNilRow.holds Try.pinned (OpenSpec.ofChange separateNilWrong)

/- THE SECOND FORM. 'bulk': how many values and letters a reading holds, each counted each time it is reached (what is shared counts as often as it is met; a slice's spare places count too). A statement '..UptoSaid' is the law's where the arguments, and the package variables that the reading takes, are together of bulk at most 1048576: NARROWER than '..Said'. Prove '..Said' where nothing that the law and all that it calls make is longer than what came in: it says more and counts as full. Else prove '..UptoSaid'. A law counts once. -/
mutual
def uptoBulk {H : Type} : DataW H → Nat
  | .lit (.string bytes) => bytes.length + 1
  | .lit _ => 1
  | .nil => 1
  | .ptr d => uptoBulk d + 1
  | .slice elems spare => uptoBulkAll elems + uptoBulkAll spare + 1
  | .agg parts => uptoBulkAll parts + 1
  | .iface _ d => uptoBulk d + 1
  | .map entries => uptoBulkEntries entries + 1
  | .held _ => 1
def uptoBulkAll {H : Type} : List (DataW H) → Nat
  | [] => 0
  | d :: r => uptoBulk d + uptoBulkAll r
def uptoBulkEntries {H : Type} : List (Lit × DataW H) → Nat
  | [] => 0
  | x :: r => uptoBulkEntry x + uptoBulkEntries r
def uptoBulkEntry {H : Type} : Lit × DataW H → Nat
  | (.string bytes, d) => bytes.length + uptoBulk d + 1
  | (_, d) => uptoBulk d + 1
 end
def uptoSmall : (H : Type) → List (DataW H) → Bool := fun _ ds => decide (uptoBulkAll ds ≤ 1048576)
def OpenSpec.upto (s : _root_.Go.ChangeSpec) : _root_.Go.OpenSpec := { _root_.Go.OpenSpec.ofChange s with cond := some uptoSmall }

/-- 'saleroomlaw29.SeparateNeeds', WHERE WHAT IT READS IS OF BULK AT MOST 1048576: true; the input reads as it did. -/
def separateNeedsUptoRow : OpenClaim := { program := "ytddpfdamlefbgaa", sum := "bb62e79b5b2a3fff4c180c50bff4866e5e8e6baa4074d0c3cfcc3e314ed42af8", func := "saleroom/saleroomlaw29.SeparateNeeds", spec := "separateNeeds", unfollowed := true, recurses := true, plainKeys := false, apart := false, narrowed := true }
def SeparateNeedsUptoSaid : Prop := separateNeedsUptoRow.holds Try.pinned (OpenSpec.upto separateNeedsSpec)

/-- 'saleroomlaw29.SeparateLosers', WHERE WHAT IT READS IS OF BULK AT MOST 1048576: true; the input reads as it did. -/
def separateLosersUptoRow : OpenClaim := { program := "ytddpfdamlefbgaa", sum := "bb62e79b5b2a3fff4c180c50bff4866e5e8e6baa4074d0c3cfcc3e314ed42af8", func := "saleroom/saleroomlaw29.SeparateLosers", spec := "separateLosers", unfollowed := true, recurses := true, plainKeys := false, apart := false, narrowed := true }
def SeparateLosersUptoSaid : Prop := separateLosersUptoRow.holds Try.pinned (OpenSpec.upto separateLosersSpec)

/-- 'saleroomlaw29.SeparateNil', WHERE WHAT IT READS IS OF BULK AT MOST 1048576: true; the input reads as it did. -/
def separateNilUptoRow : OpenClaim := { program := "ytddpfdamlefbgaa", sum := "bb62e79b5b2a3fff4c180c50bff4866e5e8e6baa4074d0c3cfcc3e314ed42af8", func := "saleroom/saleroomlaw29.SeparateNil", spec := "separateNil", unfollowed := true, recurses := true, plainKeys := false, apart := false, narrowed := true }
def SeparateNilUptoSaid : Prop := separateNilUptoRow.holds Try.pinned (OpenSpec.upto separateNilSpec)

end Rows
end Go.Proofs.Ytddpfdamlefbgaa

/-
  No cell of these rows narrows 'for every input' (looked for: loops, veiled, ifaces, maps, wideKeys, modest, calm, conditions, laid).
  DERIVED. THE GIVEN ROWS OF THIS SEAT. 7 by the template 'for every input the law returns true; each argument reads behind the call as it read before'; 0 by the template 'total and deterministic' (their statements: YtbnhiekmnpikhaaGreatTotals.lean).
  GIVEN WITH THE SEED: the statements are not yours to turn. If you find one false, say at which input.
  Laid BY PROGRAM, IN A SANDBOX (cutbox-rows.mjs): the forced cells as the released guide's own fill.sh prints them over the translation 610a861123b7d1f2… (all of the seat's roots in one cut). By AI agents, Wed Nov 11 2026. No macro, syntax, notation, axiom, sorry.
-/
import Derived.Test.YtbnhiekmnpikhaaGreatChecked
import GoSem.Claim
import GoSem.ClaimJoined
import GoSem.ClaimMapViews
import Derived.JoinedTies
import Derived.KernelRfl
namespace Go.Proofs.YtbnhiekmnpikhaaGreat
/- THE CELL 'sum', in the pinned program and in every row, IS THE sha256 OF THE DUMP (.gsa) THAT YtbnhiekmnpikhaaGreatProg.lean LOADS. Nothing in Lean hashes anything: it is a label: what it is worth is what the hold of that sum in a sandbox is worth. -/
noncomputable def Tryz.pinned : Pinned := { name := "ytbnhiekmnpikhaagreat", sum := "610a861123b7d1f20d486c532c3bf771bd8129e80ffea4d5afcdd769393fb2c0", checked := Tryz.checked }
namespace Rows
def none {H : Type} : Left H := { results := [], args := [] }

/-- 'saleroomlaw50.DecomposeComponents': WHATEVER THE INPUT: true; the input reads as it did. -/
def decomposeComponentsSpec : ChangeSpec := { name := "decomposeComponents", fn := fun _ => fun
  | [d] => { results := [.lit (.bool true)], args := [d] }
  | _ => none }
def decomposeComponentsRow : OpenClaim := { program := "ytbnhiekmnpikhaagreat", sum := "610a861123b7d1f20d486c532c3bf771bd8129e80ffea4d5afcdd769393fb2c0", func := "saleroom/saleroomlaw50.DecomposeComponents", spec := "decomposeComponents", unfollowed := true, recurses := true, plainKeys := false, apart := false }
def DecomposeComponentsSaid : Prop := decomposeComponentsRow.holds Tryz.pinned (OpenSpec.ofChange decomposeComponentsSpec)

/-- ITS FALSE NEIGHBOUR: 'it returns false'. Refute it at one input. -/
def decomposeComponentsWrong : ChangeSpec := { name := "decomposeComponents", fn := fun _ => fun
  | [d] => { results := [.lit (.bool false)], args := [d] }
  | _ => none }
def DecomposeComponentsWrongFalsely : Prop := decomposeComponentsRow.holds Tryz.pinned (OpenSpec.ofChange decomposeComponentsWrong)

/-- 'saleroomlaw50.DecomposePart': WHATEVER THE INPUT: true; the input reads as it did. -/
def decomposePartSpec : ChangeSpec := { name := "decomposePart", fn := fun _ => fun
  | [d1, d2] => { results := [.lit (.bool true)], args := [d1, d2] }
  | _ => none }
def decomposePartRow : OpenClaim := { program := "ytbnhiekmnpikhaagreat", sum := "610a861123b7d1f20d486c532c3bf771bd8129e80ffea4d5afcdd769393fb2c0", func := "saleroom/saleroomlaw50.DecomposePart", spec := "decomposePart", unfollowed := true, recurses := true, plainKeys := false, apart := false }
def DecomposePartSaid : Prop := decomposePartRow.holds Tryz.pinned (OpenSpec.ofChange decomposePartSpec)

/-- ITS FALSE NEIGHBOUR: 'it returns false'. Refute it at one input. -/
def decomposePartWrong : ChangeSpec := { name := "decomposePart", fn := fun _ => fun
  | [d1, d2] => { results := [.lit (.bool false)], args := [d1, d2] }
  | _ => none }
def DecomposePartWrongFalsely : Prop := decomposePartRow.holds Tryz.pinned (OpenSpec.ofChange decomposePartWrong)

/-- 'saleroomlaw50.DecomposeExact': WHATEVER THE INPUT: true; the input reads as it did. -/
def decomposeExactSpec : ChangeSpec := { name := "decomposeExact", fn := fun _ => fun
  | [d] => { results := [.lit (.bool true)], args := [d] }
  | _ => none }
def decomposeExactRow : OpenClaim := { program := "ytbnhiekmnpikhaagreat", sum := "610a861123b7d1f20d486c532c3bf771bd8129e80ffea4d5afcdd769393fb2c0", func := "saleroom/saleroomlaw50.DecomposeExact", spec := "decomposeExact", unfollowed := true, recurses := true, plainKeys := false, apart := false }
def DecomposeExactSaid : Prop := decomposeExactRow.holds Tryz.pinned (OpenSpec.ofChange decomposeExactSpec)

/-- ITS FALSE NEIGHBOUR: 'it returns false'. Refute it at one input. -/
def decomposeExactWrong : ChangeSpec := { name := "decomposeExact", fn := fun _ => fun
  | [d] => { results := [.lit (.bool false)], args := [d] }
  | _ => none }
def DecomposeExactWrongFalsely : Prop := decomposeExactRow.holds Tryz.pinned (OpenSpec.ofChange decomposeExactWrong)

/-- 'saleroomlaw50.DecomposeParts': WHATEVER THE INPUT: true; the input reads as it did. -/
def decomposePartsSpec : ChangeSpec := { name := "decomposeParts", fn := fun _ => fun
  | [d] => { results := [.lit (.bool true)], args := [d] }
  | _ => none }
def decomposePartsRow : OpenClaim := { program := "ytbnhiekmnpikhaagreat", sum := "610a861123b7d1f20d486c532c3bf771bd8129e80ffea4d5afcdd769393fb2c0", func := "saleroom/saleroomlaw50.DecomposeParts", spec := "decomposeParts", unfollowed := true, recurses := true, plainKeys := false, apart := false }
def DecomposePartsSaid : Prop := decomposePartsRow.holds Tryz.pinned (OpenSpec.ofChange decomposePartsSpec)

/-- ITS FALSE NEIGHBOUR: 'it returns false'. Refute it at one input. -/
def decomposePartsWrong : ChangeSpec := { name := "decomposeParts", fn := fun _ => fun
  | [d] => { results := [.lit (.bool false)], args := [d] }
  | _ => none }
def DecomposePartsWrongFalsely : Prop := decomposePartsRow.holds Tryz.pinned (OpenSpec.ofChange decomposePartsWrong)

/-- 'saleroomlaw50.DecomposeFeasible': WHATEVER THE INPUT: true; the input reads as it did. -/
def decomposeFeasibleSpec : ChangeSpec := { name := "decomposeFeasible", fn := fun _ => fun
  | [d1, d2] => { results := [.lit (.bool true)], args := [d1, d2] }
  | _ => none }
def decomposeFeasibleRow : OpenClaim := { program := "ytbnhiekmnpikhaagreat", sum := "610a861123b7d1f20d486c532c3bf771bd8129e80ffea4d5afcdd769393fb2c0", func := "saleroom/saleroomlaw50.DecomposeFeasible", spec := "decomposeFeasible", unfollowed := true, recurses := true, plainKeys := false, apart := false }
def DecomposeFeasibleSaid : Prop := decomposeFeasibleRow.holds Tryz.pinned (OpenSpec.ofChange decomposeFeasibleSpec)

/-- ITS FALSE NEIGHBOUR: 'it returns false'. Refute it at one input. -/
def decomposeFeasibleWrong : ChangeSpec := { name := "decomposeFeasible", fn := fun _ => fun
  | [d1, d2] => { results := [.lit (.bool false)], args := [d1, d2] }
  | _ => none }
def DecomposeFeasibleWrongFalsely : Prop := decomposeFeasibleRow.holds Tryz.pinned (OpenSpec.ofChange decomposeFeasibleWrong)

/-- 'saleroomlaw50.DecomposeChecks': WHATEVER THE INPUT: true; the input reads as it did. -/
def decomposeChecksSpec : ChangeSpec := { name := "decomposeChecks", fn := fun _ => fun
  | [d1, d2, d3, d4] => { results := [.lit (.bool true)], args := [d1, d2, d3, d4] }
  | _ => none }
def decomposeChecksRow : OpenClaim := { program := "ytbnhiekmnpikhaagreat", sum := "610a861123b7d1f20d486c532c3bf771bd8129e80ffea4d5afcdd769393fb2c0", func := "saleroom/saleroomlaw50.DecomposeChecks", spec := "decomposeChecks", unfollowed := true, recurses := true, plainKeys := false, apart := false }
def DecomposeChecksSaid : Prop := decomposeChecksRow.holds Tryz.pinned (OpenSpec.ofChange decomposeChecksSpec)

/-- ITS FALSE NEIGHBOUR: 'it returns false'. Refute it at one input. -/
def decomposeChecksWrong : ChangeSpec := { name := "decomposeChecks", fn := fun _ => fun
  | [d1, d2, d3, d4] => { results := [.lit (.bool false)], args := [d1, d2, d3, d4] }
  | _ => none }
def DecomposeChecksWrongFalsely : Prop := decomposeChecksRow.holds Tryz.pinned (OpenSpec.ofChange decomposeChecksWrong)

/-- 'saleroomlaw50.DecomposeWorth': WHATEVER THE INPUT: true; the input reads as it did. -/
def decomposeWorthSpec : ChangeSpec := { name := "decomposeWorth", fn := fun _ => fun
  | [d] => { results := [.lit (.bool true)], args := [d] }
  | _ => none }
def decomposeWorthRow : OpenClaim := { program := "ytbnhiekmnpikhaagreat", sum := "610a861123b7d1f20d486c532c3bf771bd8129e80ffea4d5afcdd769393fb2c0", func := "saleroom/saleroomlaw50.DecomposeWorth", spec := "decomposeWorth", unfollowed := true, recurses := true, plainKeys := false, apart := false }
def DecomposeWorthSaid : Prop := decomposeWorthRow.holds Tryz.pinned (OpenSpec.ofChange decomposeWorthSpec)

/-- ITS FALSE NEIGHBOUR: 'it returns false'. Refute it at one input. -/
def decomposeWorthWrong : ChangeSpec := { name := "decomposeWorth", fn := fun _ => fun
  | [d] => { results := [.lit (.bool false)], args := [d] }
  | _ => none }
def DecomposeWorthWrongFalsely : Prop := decomposeWorthRow.holds Tryz.pinned (OpenSpec.ofChange decomposeWorthWrong)

/- THE SECOND FORM. 'bulk': how many values and letters a reading holds, each counted each time it is reached (what is shared counts as often as it is met; a slice's spare places count too). A statement '..UptoSaid' is the law's where the arguments, and the package variables that the reading takes, are together of bulk at most 1048576: NARROWER than '..Said'. Prove '..Said' where nothing that the law and all that it calls make is longer than what came in: it says more and counts as full. Else prove '..UptoSaid'. A law counts once. -/
mutual
def uptoBulk {H : Type} : DataW H → Nat
  | .lit (.string bytes) => bytes.length + 1
  | .lit _ => 1
  | .nil => 1
  | .ptr d => uptoBulk d + 1
  | .slice elems spare => uptoBulkAll elems + uptoBulkAll spare + 1
  | .agg parts => uptoBulkAll parts + 1
  | .iface _ d => uptoBulk d + 1
  | .map entries => uptoBulkEntries entries + 1
  | .held _ => 1
def uptoBulkAll {H : Type} : List (DataW H) → Nat
  | [] => 0
  | d :: r => uptoBulk d + uptoBulkAll r
def uptoBulkEntries {H : Type} : List (Lit × DataW H) → Nat
  | [] => 0
  | x :: r => uptoBulkEntry x + uptoBulkEntries r
def uptoBulkEntry {H : Type} : Lit × DataW H → Nat
  | (.string bytes, d) => bytes.length + uptoBulk d + 1
  | (_, d) => uptoBulk d + 1
 end
def uptoSmall : (H : Type) → List (DataW H) → Bool := fun _ ds => decide (uptoBulkAll ds ≤ 1048576)
def OpenSpec.upto (s : _root_.Go.ChangeSpec) : _root_.Go.OpenSpec := { _root_.Go.OpenSpec.ofChange s with cond := some uptoSmall }

/-- 'saleroomlaw50.DecomposeComponents', WHERE WHAT IT READS IS OF BULK AT MOST 1048576: true; the input reads as it did. -/
def decomposeComponentsUptoRow : OpenClaim := { program := "ytbnhiekmnpikhaagreat", sum := "610a861123b7d1f20d486c532c3bf771bd8129e80ffea4d5afcdd769393fb2c0", func := "saleroom/saleroomlaw50.DecomposeComponents", spec := "decomposeComponents", unfollowed := true, recurses := true, plainKeys := false, apart := false, narrowed := true }
def DecomposeComponentsUptoSaid : Prop := decomposeComponentsUptoRow.holds Tryz.pinned (OpenSpec.upto decomposeComponentsSpec)

/-- 'saleroomlaw50.DecomposePart', WHERE WHAT IT READS IS OF BULK AT MOST 1048576: true; the input reads as it did. -/
def decomposePartUptoRow : OpenClaim := { program := "ytbnhiekmnpikhaagreat", sum := "610a861123b7d1f20d486c532c3bf771bd8129e80ffea4d5afcdd769393fb2c0", func := "saleroom/saleroomlaw50.DecomposePart", spec := "decomposePart", unfollowed := true, recurses := true, plainKeys := false, apart := false, narrowed := true }
def DecomposePartUptoSaid : Prop := decomposePartUptoRow.holds Tryz.pinned (OpenSpec.upto decomposePartSpec)

/-- 'saleroomlaw50.DecomposeExact', WHERE WHAT IT READS IS OF BULK AT MOST 1048576: true; the input reads as it did. -/
def decomposeExactUptoRow : OpenClaim := { program := "ytbnhiekmnpikhaagreat", sum := "610a861123b7d1f20d486c532c3bf771bd8129e80ffea4d5afcdd769393fb2c0", func := "saleroom/saleroomlaw50.DecomposeExact", spec := "decomposeExact", unfollowed := true, recurses := true, plainKeys := false, apart := false, narrowed := true }
def DecomposeExactUptoSaid : Prop := decomposeExactUptoRow.holds Tryz.pinned (OpenSpec.upto decomposeExactSpec)

/-- 'saleroomlaw50.DecomposeParts', WHERE WHAT IT READS IS OF BULK AT MOST 1048576: true; the input reads as it did. -/
def decomposePartsUptoRow : OpenClaim := { program := "ytbnhiekmnpikhaagreat", sum := "610a861123b7d1f20d486c532c3bf771bd8129e80ffea4d5afcdd769393fb2c0", func := "saleroom/saleroomlaw50.DecomposeParts", spec := "decomposeParts", unfollowed := true, recurses := true, plainKeys := false, apart := false, narrowed := true }
def DecomposePartsUptoSaid : Prop := decomposePartsUptoRow.holds Tryz.pinned (OpenSpec.upto decomposePartsSpec)

/-- 'saleroomlaw50.DecomposeFeasible', WHERE WHAT IT READS IS OF BULK AT MOST 1048576: true; the input reads as it did. -/
def decomposeFeasibleUptoRow : OpenClaim := { program := "ytbnhiekmnpikhaagreat", sum := "610a861123b7d1f20d486c532c3bf771bd8129e80ffea4d5afcdd769393fb2c0", func := "saleroom/saleroomlaw50.DecomposeFeasible", spec := "decomposeFeasible", unfollowed := true, recurses := true, plainKeys := false, apart := false, narrowed := true }
def DecomposeFeasibleUptoSaid : Prop := decomposeFeasibleUptoRow.holds Tryz.pinned (OpenSpec.upto decomposeFeasibleSpec)

/-- 'saleroomlaw50.DecomposeChecks', WHERE WHAT IT READS IS OF BULK AT MOST 1048576: true; the input reads as it did. -/
def decomposeChecksUptoRow : OpenClaim := { program := "ytbnhiekmnpikhaagreat", sum := "610a861123b7d1f20d486c532c3bf771bd8129e80ffea4d5afcdd769393fb2c0", func := "saleroom/saleroomlaw50.DecomposeChecks", spec := "decomposeChecks", unfollowed := true, recurses := true, plainKeys := false, apart := false, narrowed := true }
def DecomposeChecksUptoSaid : Prop := decomposeChecksUptoRow.holds Tryz.pinned (OpenSpec.upto decomposeChecksSpec)

/-- 'saleroomlaw50.DecomposeWorth', WHERE WHAT IT READS IS OF BULK AT MOST 1048576: true; the input reads as it did. -/
def decomposeWorthUptoRow : OpenClaim := { program := "ytbnhiekmnpikhaagreat", sum := "610a861123b7d1f20d486c532c3bf771bd8129e80ffea4d5afcdd769393fb2c0", func := "saleroom/saleroomlaw50.DecomposeWorth", spec := "decomposeWorth", unfollowed := true, recurses := true, plainKeys := false, apart := false, narrowed := true }
def DecomposeWorthUptoSaid : Prop := decomposeWorthUptoRow.holds Tryz.pinned (OpenSpec.upto decomposeWorthSpec)

end Rows
end Go.Proofs.YtbnhiekmnpikhaaGreat

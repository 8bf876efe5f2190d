/-
  No cell of these rows narrows 'for every input' (looked for: loops, veiled, ifaces, maps, wideKeys, modest, calm, conditions, laid).
  DERIVED. THE GIVEN ROWS OF THIS SEAT. 7 by the template 'for every input the law returns true; each argument reads behind the call as it read before'; 0 by the template 'total and deterministic' (their statements: YtlphnffeeefcdaaGreatTotals.lean).
  GIVEN WITH THE SEED: the statements are not yours to turn. If you find one false, say at which input.
  Laid BY PROGRAM, IN A SANDBOX (cutbox-rows.mjs): the forced cells as the released guide's own fill.sh prints them over the translation 34aea5f282b63ddf… (all of the seat's roots in one cut). By AI agents, Wed Nov 11 2026. No macro, syntax, notation, axiom, sorry.
-/
import Derived.Test.YtlphnffeeefcdaaGreatChecked
import GoSem.Claim
import GoSem.ClaimJoined
import GoSem.ClaimMapViews
import Derived.JoinedTies
import Derived.KernelRfl
namespace Go.Proofs.YtlphnffeeefcdaaGreat
/- THE CELL 'sum', in the pinned program and in every row, IS THE sha256 OF THE DUMP (.gsa) THAT YtlphnffeeefcdaaGreatProg.lean LOADS. Nothing in Lean hashes anything: it is a label: what it is worth is what the hold of that sum in a sandbox is worth. -/
noncomputable def Tryz.pinned : Pinned := { name := "ytlphnffeeefcdaagreat", sum := "34aea5f282b63ddfdb730c419ca6339174b352a56d0dad742dbb344e8ed6125c", checked := Tryz.checked }
namespace Rows
def none {H : Type} : Left H := { results := [], args := [] }

/-- 'saleroomlaw25.WinnerOptimal': WHATEVER THE INPUT: true; the input reads as it did. -/
def winnerOptimalSpec : ChangeSpec := { name := "winnerOptimal", fn := fun _ => fun
  | [d] => { results := [.lit (.bool true)], args := [d] }
  | _ => none }
def winnerOptimalRow : OpenClaim := { program := "ytlphnffeeefcdaagreat", sum := "34aea5f282b63ddfdb730c419ca6339174b352a56d0dad742dbb344e8ed6125c", func := "saleroom/saleroomlaw25.WinnerOptimal", spec := "winnerOptimal", unfollowed := true, recurses := true, plainKeys := false, apart := false }
def WinnerOptimalSaid : Prop := winnerOptimalRow.holds Tryz.pinned (OpenSpec.ofChange winnerOptimalSpec)

/-- ITS FALSE NEIGHBOUR: 'it returns false'. Refute it at one input. -/
def winnerOptimalWrong : ChangeSpec := { name := "winnerOptimal", fn := fun _ => fun
  | [d] => { results := [.lit (.bool false)], args := [d] }
  | _ => none }
def WinnerOptimalWrongFalsely : Prop := winnerOptimalRow.holds Tryz.pinned (OpenSpec.ofChange winnerOptimalWrong)

/-- 'saleroomlaw25.WinnerErrors': WHATEVER THE INPUT: true; the input reads as it did. -/
def winnerErrorsSpec : ChangeSpec := { name := "winnerErrors", fn := fun _ => fun
  | [d] => { results := [.lit (.bool true)], args := [d] }
  | _ => none }
def winnerErrorsRow : OpenClaim := { program := "ytlphnffeeefcdaagreat", sum := "34aea5f282b63ddfdb730c419ca6339174b352a56d0dad742dbb344e8ed6125c", func := "saleroom/saleroomlaw25.WinnerErrors", spec := "winnerErrors", unfollowed := true, recurses := true, plainKeys := false, apart := false }
def WinnerErrorsSaid : Prop := winnerErrorsRow.holds Tryz.pinned (OpenSpec.ofChange winnerErrorsSpec)

/-- ITS FALSE NEIGHBOUR: 'it returns false'. Refute it at one input. -/
def winnerErrorsWrong : ChangeSpec := { name := "winnerErrors", fn := fun _ => fun
  | [d] => { results := [.lit (.bool false)], args := [d] }
  | _ => none }
def WinnerErrorsWrongFalsely : Prop := winnerErrorsRow.holds Tryz.pinned (OpenSpec.ofChange winnerErrorsWrong)

/-- 'saleroomlaw25.WinnerChecks': WHATEVER THE INPUT: true; the input reads as it did. -/
def winnerChecksSpec : ChangeSpec := { name := "winnerChecks", fn := fun _ => fun
  | [d1, d2, d3] => { results := [.lit (.bool true)], args := [d1, d2, d3] }
  | _ => none }
def winnerChecksRow : OpenClaim := { program := "ytlphnffeeefcdaagreat", sum := "34aea5f282b63ddfdb730c419ca6339174b352a56d0dad742dbb344e8ed6125c", func := "saleroom/saleroomlaw25.WinnerChecks", spec := "winnerChecks", unfollowed := true, recurses := true, plainKeys := false, apart := false }
def WinnerChecksSaid : Prop := winnerChecksRow.holds Tryz.pinned (OpenSpec.ofChange winnerChecksSpec)

/-- ITS FALSE NEIGHBOUR: 'it returns false'. Refute it at one input. -/
def winnerChecksWrong : ChangeSpec := { name := "winnerChecks", fn := fun _ => fun
  | [d1, d2, d3] => { results := [.lit (.bool false)], args := [d1, d2, d3] }
  | _ => none }
def WinnerChecksWrongFalsely : Prop := winnerChecksRow.holds Tryz.pinned (OpenSpec.ofChange winnerChecksWrong)

/-- 'saleroomlaw25.WinnerSound': WHATEVER THE INPUT: true; the input reads as it did. -/
def winnerSoundSpec : ChangeSpec := { name := "winnerSound", fn := fun _ => fun
  | [d1, d2, d3] => { results := [.lit (.bool true)], args := [d1, d2, d3] }
  | _ => none }
def winnerSoundRow : OpenClaim := { program := "ytlphnffeeefcdaagreat", sum := "34aea5f282b63ddfdb730c419ca6339174b352a56d0dad742dbb344e8ed6125c", func := "saleroom/saleroomlaw25.WinnerSound", spec := "winnerSound", unfollowed := true, recurses := true, plainKeys := false, apart := false }
def WinnerSoundSaid : Prop := winnerSoundRow.holds Tryz.pinned (OpenSpec.ofChange winnerSoundSpec)

/-- ITS FALSE NEIGHBOUR: 'it returns false'. Refute it at one input. -/
def winnerSoundWrong : ChangeSpec := { name := "winnerSound", fn := fun _ => fun
  | [d1, d2, d3] => { results := [.lit (.bool false)], args := [d1, d2, d3] }
  | _ => none }
def WinnerSoundWrongFalsely : Prop := winnerSoundRow.holds Tryz.pinned (OpenSpec.ofChange winnerSoundWrong)

/-- 'saleroomlaw25.WinnerBundles': WHATEVER THE INPUT: true; the input reads as it did. -/
def winnerBundlesSpec : ChangeSpec := { name := "winnerBundles", fn := fun _ => fun
  | [d1, d2] => { results := [.lit (.bool true)], args := [d1, d2] }
  | _ => none }
def winnerBundlesRow : OpenClaim := { program := "ytlphnffeeefcdaagreat", sum := "34aea5f282b63ddfdb730c419ca6339174b352a56d0dad742dbb344e8ed6125c", func := "saleroom/saleroomlaw25.WinnerBundles", spec := "winnerBundles", unfollowed := true, recurses := true, plainKeys := false, apart := false }
def WinnerBundlesSaid : Prop := winnerBundlesRow.holds Tryz.pinned (OpenSpec.ofChange winnerBundlesSpec)

/-- ITS FALSE NEIGHBOUR: 'it returns false'. Refute it at one input. -/
def winnerBundlesWrong : ChangeSpec := { name := "winnerBundles", fn := fun _ => fun
  | [d1, d2] => { results := [.lit (.bool false)], args := [d1, d2] }
  | _ => none }
def WinnerBundlesWrongFalsely : Prop := winnerBundlesRow.holds Tryz.pinned (OpenSpec.ofChange winnerBundlesWrong)

/-- 'saleroomlaw25.WinnerReordered': WHATEVER THE INPUT: true; the input reads as it did. -/
def winnerReorderedSpec : ChangeSpec := { name := "winnerReordered", fn := fun _ => fun
  | [d1, d2] => { results := [.lit (.bool true)], args := [d1, d2] }
  | _ => none }
def winnerReorderedRow : OpenClaim := { program := "ytlphnffeeefcdaagreat", sum := "34aea5f282b63ddfdb730c419ca6339174b352a56d0dad742dbb344e8ed6125c", func := "saleroom/saleroomlaw25.WinnerReordered", spec := "winnerReordered", unfollowed := true, recurses := true, plainKeys := false, apart := false }
def WinnerReorderedSaid : Prop := winnerReorderedRow.holds Tryz.pinned (OpenSpec.ofChange winnerReorderedSpec)

/-- ITS FALSE NEIGHBOUR: 'it returns false'. Refute it at one input. -/
def winnerReorderedWrong : ChangeSpec := { name := "winnerReordered", fn := fun _ => fun
  | [d1, d2] => { results := [.lit (.bool false)], args := [d1, d2] }
  | _ => none }
def WinnerReorderedWrongFalsely : Prop := winnerReorderedRow.holds Tryz.pinned (OpenSpec.ofChange winnerReorderedWrong)

/-- 'saleroomlaw25.WinnerGrows': WHATEVER THE INPUT: true; the input reads as it did. -/
def winnerGrowsSpec : ChangeSpec := { name := "winnerGrows", fn := fun _ => fun
  | [d] => { results := [.lit (.bool true)], args := [d] }
  | _ => none }
def winnerGrowsRow : OpenClaim := { program := "ytlphnffeeefcdaagreat", sum := "34aea5f282b63ddfdb730c419ca6339174b352a56d0dad742dbb344e8ed6125c", func := "saleroom/saleroomlaw25.WinnerGrows", spec := "winnerGrows", unfollowed := true, recurses := true, plainKeys := false, apart := false }
def WinnerGrowsSaid : Prop := winnerGrowsRow.holds Tryz.pinned (OpenSpec.ofChange winnerGrowsSpec)

/-- ITS FALSE NEIGHBOUR: 'it returns false'. Refute it at one input. -/
def winnerGrowsWrong : ChangeSpec := { name := "winnerGrows", fn := fun _ => fun
  | [d] => { results := [.lit (.bool false)], args := [d] }
  | _ => none }
def WinnerGrowsWrongFalsely : Prop := winnerGrowsRow.holds Tryz.pinned (OpenSpec.ofChange winnerGrowsWrong)

/- THE SECOND FORM. 'bulk': how many values and letters a reading holds, each counted each time it is reached (what is shared counts as often as it is met; a slice's spare places count too). A statement '..UptoSaid' is the law's where the arguments, and the package variables that the reading takes, are together of bulk at most 1048576: NARROWER than '..Said'. Prove '..Said' where nothing that the law and all that it calls make is longer than what came in: it says more and counts as full. Else prove '..UptoSaid'. A law counts once. -/
mutual
def uptoBulk {H : Type} : DataW H → Nat
  | .lit (.string bytes) => bytes.length + 1
  | .lit _ => 1
  | .nil => 1
  | .ptr d => uptoBulk d + 1
  | .slice elems spare => uptoBulkAll elems + uptoBulkAll spare + 1
  | .agg parts => uptoBulkAll parts + 1
  | .iface _ d => uptoBulk d + 1
  | .map entries => uptoBulkEntries entries + 1
  | .held _ => 1
def uptoBulkAll {H : Type} : List (DataW H) → Nat
  | [] => 0
  | d :: r => uptoBulk d + uptoBulkAll r
def uptoBulkEntries {H : Type} : List (Lit × DataW H) → Nat
  | [] => 0
  | x :: r => uptoBulkEntry x + uptoBulkEntries r
def uptoBulkEntry {H : Type} : Lit × DataW H → Nat
  | (.string bytes, d) => bytes.length + uptoBulk d + 1
  | (_, d) => uptoBulk d + 1
 end
def uptoSmall : (H : Type) → List (DataW H) → Bool := fun _ ds => decide (uptoBulkAll ds ≤ 1048576)
def OpenSpec.upto (s : _root_.Go.ChangeSpec) : _root_.Go.OpenSpec := { _root_.Go.OpenSpec.ofChange s with cond := some uptoSmall }

/-- 'saleroomlaw25.WinnerOptimal', WHERE WHAT IT READS IS OF BULK AT MOST 1048576: true; the input reads as it did. -/
def winnerOptimalUptoRow : OpenClaim := { program := "ytlphnffeeefcdaagreat", sum := "34aea5f282b63ddfdb730c419ca6339174b352a56d0dad742dbb344e8ed6125c", func := "saleroom/saleroomlaw25.WinnerOptimal", spec := "winnerOptimal", unfollowed := true, recurses := true, plainKeys := false, apart := false, narrowed := true }
def WinnerOptimalUptoSaid : Prop := winnerOptimalUptoRow.holds Tryz.pinned (OpenSpec.upto winnerOptimalSpec)

/-- 'saleroomlaw25.WinnerErrors', WHERE WHAT IT READS IS OF BULK AT MOST 1048576: true; the input reads as it did. -/
def winnerErrorsUptoRow : OpenClaim := { program := "ytlphnffeeefcdaagreat", sum := "34aea5f282b63ddfdb730c419ca6339174b352a56d0dad742dbb344e8ed6125c", func := "saleroom/saleroomlaw25.WinnerErrors", spec := "winnerErrors", unfollowed := true, recurses := true, plainKeys := false, apart := false, narrowed := true }
def WinnerErrorsUptoSaid : Prop := winnerErrorsUptoRow.holds Tryz.pinned (OpenSpec.upto winnerErrorsSpec)

/-- 'saleroomlaw25.WinnerChecks', WHERE WHAT IT READS IS OF BULK AT MOST 1048576: true; the input reads as it did. -/
def winnerChecksUptoRow : OpenClaim := { program := "ytlphnffeeefcdaagreat", sum := "34aea5f282b63ddfdb730c419ca6339174b352a56d0dad742dbb344e8ed6125c", func := "saleroom/saleroomlaw25.WinnerChecks", spec := "winnerChecks", unfollowed := true, recurses := true, plainKeys := false, apart := false, narrowed := true }
def WinnerChecksUptoSaid : Prop := winnerChecksUptoRow.holds Tryz.pinned (OpenSpec.upto winnerChecksSpec)

/-- 'saleroomlaw25.WinnerSound', WHERE WHAT IT READS IS OF BULK AT MOST 1048576: true; the input reads as it did. -/
def winnerSoundUptoRow : OpenClaim := { program := "ytlphnffeeefcdaagreat", sum := "34aea5f282b63ddfdb730c419ca6339174b352a56d0dad742dbb344e8ed6125c", func := "saleroom/saleroomlaw25.WinnerSound", spec := "winnerSound", unfollowed := true, recurses := true, plainKeys := false, apart := false, narrowed := true }
def WinnerSoundUptoSaid : Prop := winnerSoundUptoRow.holds Tryz.pinned (OpenSpec.upto winnerSoundSpec)

/-- 'saleroomlaw25.WinnerBundles', WHERE WHAT IT READS IS OF BULK AT MOST 1048576: true; the input reads as it did. -/
def winnerBundlesUptoRow : OpenClaim := { program := "ytlphnffeeefcdaagreat", sum := "34aea5f282b63ddfdb730c419ca6339174b352a56d0dad742dbb344e8ed6125c", func := "saleroom/saleroomlaw25.WinnerBundles", spec := "winnerBundles", unfollowed := true, recurses := true, plainKeys := false, apart := false, narrowed := true }
def WinnerBundlesUptoSaid : Prop := winnerBundlesUptoRow.holds Tryz.pinned (OpenSpec.upto winnerBundlesSpec)

/-- 'saleroomlaw25.WinnerReordered', WHERE WHAT IT READS IS OF BULK AT MOST 1048576: true; the input reads as it did. -/
def winnerReorderedUptoRow : OpenClaim := { program := "ytlphnffeeefcdaagreat", sum := "34aea5f282b63ddfdb730c419ca6339174b352a56d0dad742dbb344e8ed6125c", func := "saleroom/saleroomlaw25.WinnerReordered", spec := "winnerReordered", unfollowed := true, recurses := true, plainKeys := false, apart := false, narrowed := true }
def WinnerReorderedUptoSaid : Prop := winnerReorderedUptoRow.holds Tryz.pinned (OpenSpec.upto winnerReorderedSpec)

/-- 'saleroomlaw25.WinnerGrows', WHERE WHAT IT READS IS OF BULK AT MOST 1048576: true; the input reads as it did. -/
def winnerGrowsUptoRow : OpenClaim := { program := "ytlphnffeeefcdaagreat", sum := "34aea5f282b63ddfdb730c419ca6339174b352a56d0dad742dbb344e8ed6125c", func := "saleroom/saleroomlaw25.WinnerGrows", spec := "winnerGrows", unfollowed := true, recurses := true, plainKeys := false, apart := false, narrowed := true }
def WinnerGrowsUptoSaid : Prop := winnerGrowsUptoRow.holds Tryz.pinned (OpenSpec.upto winnerGrowsSpec)

end Rows
end Go.Proofs.YtlphnffeeefcdaaGreat

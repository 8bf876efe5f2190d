/-
  No cell of these rows narrows 'for every input' (looked for: loops, veiled, ifaces, maps, wideKeys, modest, calm, conditions, laid).
  DERIVED. THE GIVEN ROWS OF THIS SEAT. 12 by the template 'for every input the law returns true; each argument reads behind the call as it read before'; 0 by the template 'total and deterministic' (their statements: YtigbjjkijfkeeaaTotals.lean).
  GIVEN WITH THE SEED: the statements are not yours to turn. If you find one false, say at which input.
  Laid BY PROGRAM, IN A SANDBOX (cutbox-rows.mjs): the forced cells as the released guide's own fill.sh prints them over the translation 0610ad40ce165d32… (all of the seat's roots in one cut). By AI agents, Wed Nov 11 2026. No macro, syntax, notation, axiom, sorry.
-/
import Derived.Test.YtigbjjkijfkeeaaChecked
import GoSem.Claim
import GoSem.ClaimJoined
import GoSem.ClaimMapViews
import Derived.JoinedTies
import Derived.KernelRfl
namespace Go.Proofs.Ytigbjjkijfkeeaa
/- THE CELL 'sum', in the pinned program and in every row, IS THE sha256 OF THE DUMP (.gsa) THAT YtigbjjkijfkeeaaProg.lean LOADS. Nothing in Lean hashes anything: it is a label: what it is worth is what the hold of that sum in a sandbox is worth. -/
noncomputable def Try.pinned : Pinned := { name := "ytigbjjkijfkeeaa", sum := "0610ad40ce165d324ce97dca4dd47849c57d012d984bf482b88bf709befa0116", checked := Try.checked }
namespace Rows
def none {H : Type} : Left H := { results := [], args := [] }

/-- 'saleroomlaw27.VickreyPays': WHATEVER THE INPUT: true; the input reads as it did. -/
def vickreyPaysSpec : ChangeSpec := { name := "vickreyPays", fn := fun _ => fun
  | [d1, d2, d3] => { results := [.lit (.bool true)], args := [d1, d2, d3] }
  | _ => none }
def vickreyPaysRow : OpenClaim := { program := "ytigbjjkijfkeeaa", sum := "0610ad40ce165d324ce97dca4dd47849c57d012d984bf482b88bf709befa0116", func := "saleroom/saleroomlaw27.VickreyPays", spec := "vickreyPays", unfollowed := true, recurses := true, plainKeys := false, apart := false }
def VickreyPaysSaid : Prop := vickreyPaysRow.holds Try.pinned (OpenSpec.ofChange vickreyPaysSpec)

/-- ITS FALSE NEIGHBOUR: 'it returns false'. Refute it at one input. -/
def vickreyPaysWrong : ChangeSpec := { name := "vickreyPays", fn := fun _ => fun
  | [d1, d2, d3] => { results := [.lit (.bool false)], args := [d1, d2, d3] }
  | _ => none }
def VickreyPaysWrongFalsely : Prop := vickreyPaysRow.holds Try.pinned (OpenSpec.ofChange vickreyPaysWrong)

/-- 'saleroomlaw27.VickreyBounds': WHATEVER THE INPUT: true; the input reads as it did. -/
def vickreyBoundsSpec : ChangeSpec := { name := "vickreyBounds", fn := fun _ => fun
  | [d] => { results := [.lit (.bool true)], args := [d] }
  | _ => none }
def vickreyBoundsRow : OpenClaim := { program := "ytigbjjkijfkeeaa", sum := "0610ad40ce165d324ce97dca4dd47849c57d012d984bf482b88bf709befa0116", func := "saleroom/saleroomlaw27.VickreyBounds", spec := "vickreyBounds", unfollowed := true, recurses := true, plainKeys := false, apart := false }
def VickreyBoundsSaid : Prop := vickreyBoundsRow.holds Try.pinned (OpenSpec.ofChange vickreyBoundsSpec)

/-- ITS FALSE NEIGHBOUR: 'it returns false'. Refute it at one input. -/
def vickreyBoundsWrong : ChangeSpec := { name := "vickreyBounds", fn := fun _ => fun
  | [d] => { results := [.lit (.bool false)], args := [d] }
  | _ => none }
def VickreyBoundsWrongFalsely : Prop := vickreyBoundsRow.holds Try.pinned (OpenSpec.ofChange vickreyBoundsWrong)

/-- 'saleroomlaw27.VickreyValue': WHATEVER THE INPUT: true; the input reads as it did. -/
def vickreyValueSpec : ChangeSpec := { name := "vickreyValue", fn := fun _ => fun
  | [d1, d2] => { results := [.lit (.bool true)], args := [d1, d2] }
  | _ => none }
def vickreyValueRow : OpenClaim := { program := "ytigbjjkijfkeeaa", sum := "0610ad40ce165d324ce97dca4dd47849c57d012d984bf482b88bf709befa0116", func := "saleroom/saleroomlaw27.VickreyValue", spec := "vickreyValue", unfollowed := true, recurses := true, plainKeys := false, apart := false }
def VickreyValueSaid : Prop := vickreyValueRow.holds Try.pinned (OpenSpec.ofChange vickreyValueSpec)

/-- ITS FALSE NEIGHBOUR: 'it returns false'. Refute it at one input. -/
def vickreyValueWrong : ChangeSpec := { name := "vickreyValue", fn := fun _ => fun
  | [d1, d2] => { results := [.lit (.bool false)], args := [d1, d2] }
  | _ => none }
def VickreyValueWrongFalsely : Prop := vickreyValueRow.holds Try.pinned (OpenSpec.ofChange vickreyValueWrong)

/-- 'saleroomlaw27.VickreyCompetes': WHATEVER THE INPUT: true; the input reads as it did. -/
def vickreyCompetesSpec : ChangeSpec := { name := "vickreyCompetes", fn := fun _ => fun
  | [d1, d2] => { results := [.lit (.bool true)], args := [d1, d2] }
  | _ => none }
def vickreyCompetesRow : OpenClaim := { program := "ytigbjjkijfkeeaa", sum := "0610ad40ce165d324ce97dca4dd47849c57d012d984bf482b88bf709befa0116", func := "saleroom/saleroomlaw27.VickreyCompetes", spec := "vickreyCompetes", unfollowed := true, recurses := true, plainKeys := false, apart := false }
def VickreyCompetesSaid : Prop := vickreyCompetesRow.holds Try.pinned (OpenSpec.ofChange vickreyCompetesSpec)

/-- ITS FALSE NEIGHBOUR: 'it returns false'. Refute it at one input. -/
def vickreyCompetesWrong : ChangeSpec := { name := "vickreyCompetes", fn := fun _ => fun
  | [d1, d2] => { results := [.lit (.bool false)], args := [d1, d2] }
  | _ => none }
def VickreyCompetesWrongFalsely : Prop := vickreyCompetesRow.holds Try.pinned (OpenSpec.ofChange vickreyCompetesWrong)

/-- 'saleroomlaw52.ThresholdRival': WHATEVER THE INPUT: true; the input reads as it did. -/
def thresholdRivalSpec : ChangeSpec := { name := "thresholdRival", fn := fun _ => fun
  | [d1, d2] => { results := [.lit (.bool true)], args := [d1, d2] }
  | _ => none }
def thresholdRivalRow : OpenClaim := { program := "ytigbjjkijfkeeaa", sum := "0610ad40ce165d324ce97dca4dd47849c57d012d984bf482b88bf709befa0116", func := "saleroom/saleroomlaw52.ThresholdRival", spec := "thresholdRival", unfollowed := true, recurses := true, plainKeys := false, apart := false }
def ThresholdRivalSaid : Prop := thresholdRivalRow.holds Try.pinned (OpenSpec.ofChange thresholdRivalSpec)

/-- ITS FALSE NEIGHBOUR: 'it returns false'. Refute it at one input. -/
def thresholdRivalWrong : ChangeSpec := { name := "thresholdRival", fn := fun _ => fun
  | [d1, d2] => { results := [.lit (.bool false)], args := [d1, d2] }
  | _ => none }
def ThresholdRivalWrongFalsely : Prop := thresholdRivalRow.holds Try.pinned (OpenSpec.ofChange thresholdRivalWrong)

/-- 'saleroomlaw52.ThresholdPivotal': WHATEVER THE INPUT: true; the input reads as it did. -/
def thresholdPivotalSpec : ChangeSpec := { name := "thresholdPivotal", fn := fun _ => fun
  | [d1, d2] => { results := [.lit (.bool true)], args := [d1, d2] }
  | _ => none }
def thresholdPivotalRow : OpenClaim := { program := "ytigbjjkijfkeeaa", sum := "0610ad40ce165d324ce97dca4dd47849c57d012d984bf482b88bf709befa0116", func := "saleroom/saleroomlaw52.ThresholdPivotal", spec := "thresholdPivotal", unfollowed := true, recurses := true, plainKeys := false, apart := false }
def ThresholdPivotalSaid : Prop := thresholdPivotalRow.holds Try.pinned (OpenSpec.ofChange thresholdPivotalSpec)

/-- ITS FALSE NEIGHBOUR: 'it returns false'. Refute it at one input. -/
def thresholdPivotalWrong : ChangeSpec := { name := "thresholdPivotal", fn := fun _ => fun
  | [d1, d2] => { results := [.lit (.bool false)], args := [d1, d2] }
  | _ => none }
def ThresholdPivotalWrongFalsely : Prop := thresholdPivotalRow.holds Try.pinned (OpenSpec.ofChange thresholdPivotalWrong)

/-- 'saleroomlaw52.ThresholdMargins': WHATEVER THE INPUT: true; the input reads as it did. -/
def thresholdMarginsSpec : ChangeSpec := { name := "thresholdMargins", fn := fun _ => fun
  | [d1, d2] => { results := [.lit (.bool true)], args := [d1, d2] }
  | _ => none }
def thresholdMarginsRow : OpenClaim := { program := "ytigbjjkijfkeeaa", sum := "0610ad40ce165d324ce97dca4dd47849c57d012d984bf482b88bf709befa0116", func := "saleroom/saleroomlaw52.ThresholdMargins", spec := "thresholdMargins", unfollowed := true, recurses := true, plainKeys := false, apart := false }
def ThresholdMarginsSaid : Prop := thresholdMarginsRow.holds Try.pinned (OpenSpec.ofChange thresholdMarginsSpec)

/-- ITS FALSE NEIGHBOUR: 'it returns false'. Refute it at one input. -/
def thresholdMarginsWrong : ChangeSpec := { name := "thresholdMargins", fn := fun _ => fun
  | [d1, d2] => { results := [.lit (.bool false)], args := [d1, d2] }
  | _ => none }
def ThresholdMarginsWrongFalsely : Prop := thresholdMarginsRow.holds Try.pinned (OpenSpec.ofChange thresholdMarginsWrong)

/-- 'saleroomlaw28.CorecheckNeeds': WHATEVER THE INPUT: true; the input reads as it did. -/
def corecheckNeedsSpec : ChangeSpec := { name := "corecheckNeeds", fn := fun _ => fun
  | [d1, d2] => { results := [.lit (.bool true)], args := [d1, d2] }
  | _ => none }
def corecheckNeedsRow : OpenClaim := { program := "ytigbjjkijfkeeaa", sum := "0610ad40ce165d324ce97dca4dd47849c57d012d984bf482b88bf709befa0116", func := "saleroom/saleroomlaw28.CorecheckNeeds", spec := "corecheckNeeds", unfollowed := true, recurses := true, plainKeys := false, apart := false }
def CorecheckNeedsSaid : Prop := corecheckNeedsRow.holds Try.pinned (OpenSpec.ofChange corecheckNeedsSpec)

/-- ITS FALSE NEIGHBOUR: 'it returns false'. Refute it at one input. -/
def corecheckNeedsWrong : ChangeSpec := { name := "corecheckNeeds", fn := fun _ => fun
  | [d1, d2] => { results := [.lit (.bool false)], args := [d1, d2] }
  | _ => none }
def CorecheckNeedsWrongFalsely : Prop := corecheckNeedsRow.holds Try.pinned (OpenSpec.ofChange corecheckNeedsWrong)

/-- 'saleroomlaw28.CorecheckBlocks': WHATEVER THE INPUT: true; the input reads as it did. -/
def corecheckBlocksSpec : ChangeSpec := { name := "corecheckBlocks", fn := fun _ => fun
  | [d1, d2, d3] => { results := [.lit (.bool true)], args := [d1, d2, d3] }
  | _ => none }
def corecheckBlocksRow : OpenClaim := { program := "ytigbjjkijfkeeaa", sum := "0610ad40ce165d324ce97dca4dd47849c57d012d984bf482b88bf709befa0116", func := "saleroom/saleroomlaw28.CorecheckBlocks", spec := "corecheckBlocks", unfollowed := true, recurses := true, plainKeys := false, apart := false }
def CorecheckBlocksSaid : Prop := corecheckBlocksRow.holds Try.pinned (OpenSpec.ofChange corecheckBlocksSpec)

/-- ITS FALSE NEIGHBOUR: 'it returns false'. Refute it at one input. -/
def corecheckBlocksWrong : ChangeSpec := { name := "corecheckBlocks", fn := fun _ => fun
  | [d1, d2, d3] => { results := [.lit (.bool false)], args := [d1, d2, d3] }
  | _ => none }
def CorecheckBlocksWrongFalsely : Prop := corecheckBlocksRow.holds Try.pinned (OpenSpec.ofChange corecheckBlocksWrong)

/-- 'saleroomlaw28.CorecheckComplete': WHATEVER THE INPUT: true; the input reads as it did. -/
def corecheckCompleteSpec : ChangeSpec := { name := "corecheckComplete", fn := fun _ => fun
  | [d1, d2, d3] => { results := [.lit (.bool true)], args := [d1, d2, d3] }
  | _ => none }
def corecheckCompleteRow : OpenClaim := { program := "ytigbjjkijfkeeaa", sum := "0610ad40ce165d324ce97dca4dd47849c57d012d984bf482b88bf709befa0116", func := "saleroom/saleroomlaw28.CorecheckComplete", spec := "corecheckComplete", unfollowed := true, recurses := true, plainKeys := false, apart := false }
def CorecheckCompleteSaid : Prop := corecheckCompleteRow.holds Try.pinned (OpenSpec.ofChange corecheckCompleteSpec)

/-- ITS FALSE NEIGHBOUR: 'it returns false'. Refute it at one input. -/
def corecheckCompleteWrong : ChangeSpec := { name := "corecheckComplete", fn := fun _ => fun
  | [d1, d2, d3] => { results := [.lit (.bool false)], args := [d1, d2, d3] }
  | _ => none }
def CorecheckCompleteWrongFalsely : Prop := corecheckCompleteRow.holds Try.pinned (OpenSpec.ofChange corecheckCompleteWrong)

/-- 'saleroomlaw28.CorecheckCoalitions': WHATEVER THE INPUT: true; the input reads as it did. -/
def corecheckCoalitionsSpec : ChangeSpec := { name := "corecheckCoalitions", fn := fun _ => fun
  | [d1, d2, d3, d4] => { results := [.lit (.bool true)], args := [d1, d2, d3, d4] }
  | _ => none }
def corecheckCoalitionsRow : OpenClaim := { program := "ytigbjjkijfkeeaa", sum := "0610ad40ce165d324ce97dca4dd47849c57d012d984bf482b88bf709befa0116", func := "saleroom/saleroomlaw28.CorecheckCoalitions", spec := "corecheckCoalitions", unfollowed := true, recurses := true, plainKeys := false, apart := false }
def CorecheckCoalitionsSaid : Prop := corecheckCoalitionsRow.holds Try.pinned (OpenSpec.ofChange corecheckCoalitionsSpec)

/-- ITS FALSE NEIGHBOUR: 'it returns false'. Refute it at one input. -/
def corecheckCoalitionsWrong : ChangeSpec := { name := "corecheckCoalitions", fn := fun _ => fun
  | [d1, d2, d3, d4] => { results := [.lit (.bool false)], args := [d1, d2, d3, d4] }
  | _ => none }
def CorecheckCoalitionsWrongFalsely : Prop := corecheckCoalitionsRow.holds Try.pinned (OpenSpec.ofChange corecheckCoalitionsWrong)

/-- 'saleroomlaw28.CorecheckOwn': WHATEVER THE INPUT: true; the input reads as it did. -/
def corecheckOwnSpec : ChangeSpec := { name := "corecheckOwn", fn := fun _ => fun
  | [d1, d2] => { results := [.lit (.bool true)], args := [d1, d2] }
  | _ => none }
def corecheckOwnRow : OpenClaim := { program := "ytigbjjkijfkeeaa", sum := "0610ad40ce165d324ce97dca4dd47849c57d012d984bf482b88bf709befa0116", func := "saleroom/saleroomlaw28.CorecheckOwn", spec := "corecheckOwn", unfollowed := true, recurses := true, plainKeys := false, apart := false }
def CorecheckOwnSaid : Prop := corecheckOwnRow.holds Try.pinned (OpenSpec.ofChange corecheckOwnSpec)

/-- ITS FALSE NEIGHBOUR: 'it returns false'. Refute it at one input. -/
def corecheckOwnWrong : ChangeSpec := { name := "corecheckOwn", fn := fun _ => fun
  | [d1, d2] => { results := [.lit (.bool false)], args := [d1, d2] }
  | _ => none }
def CorecheckOwnWrongFalsely : Prop := corecheckOwnRow.holds Try.pinned (OpenSpec.ofChange corecheckOwnWrong)

/- THE SECOND FORM. 'bulk': how many values and letters a reading holds, each counted each time it is reached (what is shared counts as often as it is met; a slice's spare places count too). A statement '..UptoSaid' is the law's where the arguments, and the package variables that the reading takes, are together of bulk at most 1048576: NARROWER than '..Said'. Prove '..Said' where nothing that the law and all that it calls make is longer than what came in: it says more and counts as full. Else prove '..UptoSaid'. A law counts once. -/
mutual
def uptoBulk {H : Type} : DataW H → Nat
  | .lit (.string bytes) => bytes.length + 1
  | .lit _ => 1
  | .nil => 1
  | .ptr d => uptoBulk d + 1
  | .slice elems spare => uptoBulkAll elems + uptoBulkAll spare + 1
  | .agg parts => uptoBulkAll parts + 1
  | .iface _ d => uptoBulk d + 1
  | .map entries => uptoBulkEntries entries + 1
  | .held _ => 1
def uptoBulkAll {H : Type} : List (DataW H) → Nat
  | [] => 0
  | d :: r => uptoBulk d + uptoBulkAll r
def uptoBulkEntries {H : Type} : List (Lit × DataW H) → Nat
  | [] => 0
  | x :: r => uptoBulkEntry x + uptoBulkEntries r
def uptoBulkEntry {H : Type} : Lit × DataW H → Nat
  | (.string bytes, d) => bytes.length + uptoBulk d + 1
  | (_, d) => uptoBulk d + 1
 end
def uptoSmall : (H : Type) → List (DataW H) → Bool := fun _ ds => decide (uptoBulkAll ds ≤ 1048576)
def OpenSpec.upto (s : _root_.Go.ChangeSpec) : _root_.Go.OpenSpec := { _root_.Go.OpenSpec.ofChange s with cond := some uptoSmall }

/-- 'saleroomlaw27.VickreyPays', WHERE WHAT IT READS IS OF BULK AT MOST 1048576: true; the input reads as it did. -/
def vickreyPaysUptoRow : OpenClaim := { program := "ytigbjjkijfkeeaa", sum := "0610ad40ce165d324ce97dca4dd47849c57d012d984bf482b88bf709befa0116", func := "saleroom/saleroomlaw27.VickreyPays", spec := "vickreyPays", unfollowed := true, recurses := true, plainKeys := false, apart := false, narrowed := true }
def VickreyPaysUptoSaid : Prop := vickreyPaysUptoRow.holds Try.pinned (OpenSpec.upto vickreyPaysSpec)

/-- 'saleroomlaw27.VickreyBounds', WHERE WHAT IT READS IS OF BULK AT MOST 1048576: true; the input reads as it did. -/
def vickreyBoundsUptoRow : OpenClaim := { program := "ytigbjjkijfkeeaa", sum := "0610ad40ce165d324ce97dca4dd47849c57d012d984bf482b88bf709befa0116", func := "saleroom/saleroomlaw27.VickreyBounds", spec := "vickreyBounds", unfollowed := true, recurses := true, plainKeys := false, apart := false, narrowed := true }
def VickreyBoundsUptoSaid : Prop := vickreyBoundsUptoRow.holds Try.pinned (OpenSpec.upto vickreyBoundsSpec)

/-- 'saleroomlaw27.VickreyValue', WHERE WHAT IT READS IS OF BULK AT MOST 1048576: true; the input reads as it did. -/
def vickreyValueUptoRow : OpenClaim := { program := "ytigbjjkijfkeeaa", sum := "0610ad40ce165d324ce97dca4dd47849c57d012d984bf482b88bf709befa0116", func := "saleroom/saleroomlaw27.VickreyValue", spec := "vickreyValue", unfollowed := true, recurses := true, plainKeys := false, apart := false, narrowed := true }
def VickreyValueUptoSaid : Prop := vickreyValueUptoRow.holds Try.pinned (OpenSpec.upto vickreyValueSpec)

/-- 'saleroomlaw27.VickreyCompetes', WHERE WHAT IT READS IS OF BULK AT MOST 1048576: true; the input reads as it did. -/
def vickreyCompetesUptoRow : OpenClaim := { program := "ytigbjjkijfkeeaa", sum := "0610ad40ce165d324ce97dca4dd47849c57d012d984bf482b88bf709befa0116", func := "saleroom/saleroomlaw27.VickreyCompetes", spec := "vickreyCompetes", unfollowed := true, recurses := true, plainKeys := false, apart := false, narrowed := true }
def VickreyCompetesUptoSaid : Prop := vickreyCompetesUptoRow.holds Try.pinned (OpenSpec.upto vickreyCompetesSpec)

/-- 'saleroomlaw52.ThresholdRival', WHERE WHAT IT READS IS OF BULK AT MOST 1048576: true; the input reads as it did. -/
def thresholdRivalUptoRow : OpenClaim := { program := "ytigbjjkijfkeeaa", sum := "0610ad40ce165d324ce97dca4dd47849c57d012d984bf482b88bf709befa0116", func := "saleroom/saleroomlaw52.ThresholdRival", spec := "thresholdRival", unfollowed := true, recurses := true, plainKeys := false, apart := false, narrowed := true }
def ThresholdRivalUptoSaid : Prop := thresholdRivalUptoRow.holds Try.pinned (OpenSpec.upto thresholdRivalSpec)

/-- 'saleroomlaw52.ThresholdPivotal', WHERE WHAT IT READS IS OF BULK AT MOST 1048576: true; the input reads as it did. -/
def thresholdPivotalUptoRow : OpenClaim := { program := "ytigbjjkijfkeeaa", sum := "0610ad40ce165d324ce97dca4dd47849c57d012d984bf482b88bf709befa0116", func := "saleroom/saleroomlaw52.ThresholdPivotal", spec := "thresholdPivotal", unfollowed := true, recurses := true, plainKeys := false, apart := false, narrowed := true }
def ThresholdPivotalUptoSaid : Prop := thresholdPivotalUptoRow.holds Try.pinned (OpenSpec.upto thresholdPivotalSpec)

/-- 'saleroomlaw52.ThresholdMargins', WHERE WHAT IT READS IS OF BULK AT MOST 1048576: true; the input reads as it did. -/
def thresholdMarginsUptoRow : OpenClaim := { program := "ytigbjjkijfkeeaa", sum := "0610ad40ce165d324ce97dca4dd47849c57d012d984bf482b88bf709befa0116", func := "saleroom/saleroomlaw52.ThresholdMargins", spec := "thresholdMargins", unfollowed := true, recurses := true, plainKeys := false, apart := false, narrowed := true }
def ThresholdMarginsUptoSaid : Prop := thresholdMarginsUptoRow.holds Try.pinned (OpenSpec.upto thresholdMarginsSpec)

/-- 'saleroomlaw28.CorecheckNeeds', WHERE WHAT IT READS IS OF BULK AT MOST 1048576: true; the input reads as it did. -/
def corecheckNeedsUptoRow : OpenClaim := { program := "ytigbjjkijfkeeaa", sum := "0610ad40ce165d324ce97dca4dd47849c57d012d984bf482b88bf709befa0116", func := "saleroom/saleroomlaw28.CorecheckNeeds", spec := "corecheckNeeds", unfollowed := true, recurses := true, plainKeys := false, apart := false, narrowed := true }
def CorecheckNeedsUptoSaid : Prop := corecheckNeedsUptoRow.holds Try.pinned (OpenSpec.upto corecheckNeedsSpec)

/-- 'saleroomlaw28.CorecheckBlocks', WHERE WHAT IT READS IS OF BULK AT MOST 1048576: true; the input reads as it did. -/
def corecheckBlocksUptoRow : OpenClaim := { program := "ytigbjjkijfkeeaa", sum := "0610ad40ce165d324ce97dca4dd47849c57d012d984bf482b88bf709befa0116", func := "saleroom/saleroomlaw28.CorecheckBlocks", spec := "corecheckBlocks", unfollowed := true, recurses := true, plainKeys := false, apart := false, narrowed := true }
def CorecheckBlocksUptoSaid : Prop := corecheckBlocksUptoRow.holds Try.pinned (OpenSpec.upto corecheckBlocksSpec)

/-- 'saleroomlaw28.CorecheckComplete', WHERE WHAT IT READS IS OF BULK AT MOST 1048576: true; the input reads as it did. -/
def corecheckCompleteUptoRow : OpenClaim := { program := "ytigbjjkijfkeeaa", sum := "0610ad40ce165d324ce97dca4dd47849c57d012d984bf482b88bf709befa0116", func := "saleroom/saleroomlaw28.CorecheckComplete", spec := "corecheckComplete", unfollowed := true, recurses := true, plainKeys := false, apart := false, narrowed := true }
def CorecheckCompleteUptoSaid : Prop := corecheckCompleteUptoRow.holds Try.pinned (OpenSpec.upto corecheckCompleteSpec)

/-- 'saleroomlaw28.CorecheckCoalitions', WHERE WHAT IT READS IS OF BULK AT MOST 1048576: true; the input reads as it did. -/
def corecheckCoalitionsUptoRow : OpenClaim := { program := "ytigbjjkijfkeeaa", sum := "0610ad40ce165d324ce97dca4dd47849c57d012d984bf482b88bf709befa0116", func := "saleroom/saleroomlaw28.CorecheckCoalitions", spec := "corecheckCoalitions", unfollowed := true, recurses := true, plainKeys := false, apart := false, narrowed := true }
def CorecheckCoalitionsUptoSaid : Prop := corecheckCoalitionsUptoRow.holds Try.pinned (OpenSpec.upto corecheckCoalitionsSpec)

/-- 'saleroomlaw28.CorecheckOwn', WHERE WHAT IT READS IS OF BULK AT MOST 1048576: true; the input reads as it did. -/
def corecheckOwnUptoRow : OpenClaim := { program := "ytigbjjkijfkeeaa", sum := "0610ad40ce165d324ce97dca4dd47849c57d012d984bf482b88bf709befa0116", func := "saleroom/saleroomlaw28.CorecheckOwn", spec := "corecheckOwn", unfollowed := true, recurses := true, plainKeys := false, apart := false, narrowed := true }
def CorecheckOwnUptoSaid : Prop := corecheckOwnUptoRow.holds Try.pinned (OpenSpec.upto corecheckOwnSpec)

end Rows
end Go.Proofs.Ytigbjjkijfkeeaa

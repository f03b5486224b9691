/-
  No cell of these rows narrows 'for every input' (looked for: loops, veiled, ifaces, maps, wideKeys, modest, calm, conditions, laid).
  DERIVED. THE GIVEN ROWS OF THIS SEAT. 12 by the template 'for every input the law returns true; each argument reads behind the call as it read before'; 0 by the template 'total and deterministic' (their statements: YtoccfbkklponnaaTotals.lean).
  GIVEN WITH THE SEED: the statements are not yours to turn. If you find one false, say at which input.
  Laid BY PROGRAM, IN A SANDBOX (cutbox-rows.mjs): the forced cells as the released guide's own fill.sh prints them over the translation bb6180c46721e7a4… (all of the seat's roots in one cut). By AI agents, Wed Nov 11 2026. No macro, syntax, notation, axiom, sorry.
-/
import Derived.Test.YtoccfbkklponnaaChecked
import GoSem.Claim
import GoSem.ClaimJoined
import GoSem.ClaimMapViews
import Derived.JoinedTies
import Derived.KernelRfl
namespace Go.Proofs.Ytoccfbkklponnaa
/- THE CELL 'sum', in the pinned program and in every row, IS THE sha256 OF THE DUMP (.gsa) THAT YtoccfbkklponnaaProg.lean LOADS. Nothing in Lean hashes anything: it is a label: what it is worth is what the hold of that sum in a sandbox is worth. -/
noncomputable def Try.pinned : Pinned := { name := "ytoccfbkklponnaa", sum := "bb6180c46721e7a401c65f6ad98dc5831e8d04e8cbd00f55c02b1569a0a146d5", checked := Try.checked }
namespace Rows
def none {H : Type} : Left H := { results := [], args := [] }

/-- 'laws.FnExactIsFleets': WHATEVER THE INPUT: true; the input reads as it did. -/
def fnExactIsFleetsSpec : ChangeSpec := { name := "fnExactIsFleets", fn := fun _ => fun
  | [d1, d2] => { results := [.lit (.bool true)], args := [d1, d2] }
  | _ => none }
def fnExactIsFleetsRow : OpenClaim := { program := "ytoccfbkklponnaa", sum := "bb6180c46721e7a401c65f6ad98dc5831e8d04e8cbd00f55c02b1569a0a146d5", func := "loop.example/g00887/laws.FnExactIsFleets", spec := "fnExactIsFleets", apart := false }
def FnExactIsFleetsSaid : Prop := fnExactIsFleetsRow.holds Try.pinned (OpenSpec.ofChange fnExactIsFleetsSpec)

/-- ITS FALSE NEIGHBOUR: 'it returns false'. Refute it at one input. -/
def fnExactIsFleetsWrong : ChangeSpec := { name := "fnExactIsFleets", fn := fun _ => fun
  | [d1, d2] => { results := [.lit (.bool false)], args := [d1, d2] }
  | _ => none }
def FnExactIsFleetsWrongFalsely : Prop := fnExactIsFleetsRow.holds Try.pinned (OpenSpec.ofChange fnExactIsFleetsWrong)

/-- 'laws.FnExactSnakeFleets': WHATEVER THE INPUT: true; the input reads as it did. -/
def fnExactSnakeFleetsSpec : ChangeSpec := { name := "fnExactSnakeFleets", fn := fun _ => fun
  | [d1, d2] => { results := [.lit (.bool true)], args := [d1, d2] }
  | _ => none }
def fnExactSnakeFleetsRow : OpenClaim := { program := "ytoccfbkklponnaa", sum := "bb6180c46721e7a401c65f6ad98dc5831e8d04e8cbd00f55c02b1569a0a146d5", func := "loop.example/g00887/laws.FnExactSnakeFleets", spec := "fnExactSnakeFleets", apart := false }
def FnExactSnakeFleetsSaid : Prop := fnExactSnakeFleetsRow.holds Try.pinned (OpenSpec.ofChange fnExactSnakeFleetsSpec)

/-- ITS FALSE NEIGHBOUR: 'it returns false'. Refute it at one input. -/
def fnExactSnakeFleetsWrong : ChangeSpec := { name := "fnExactSnakeFleets", fn := fun _ => fun
  | [d1, d2] => { results := [.lit (.bool false)], args := [d1, d2] }
  | _ => none }
def FnExactSnakeFleetsWrongFalsely : Prop := fnExactSnakeFleetsRow.holds Try.pinned (OpenSpec.ofChange fnExactSnakeFleetsWrong)

/-- 'laws.FnExactFleetBoats': WHATEVER THE INPUT: true; the input reads as it did. -/
def fnExactFleetBoatsSpec : ChangeSpec := { name := "fnExactFleetBoats", fn := fun _ => fun
  | [d1, d2, d3] => { results := [.lit (.bool true)], args := [d1, d2, d3] }
  | _ => none }
def fnExactFleetBoatsRow : OpenClaim := { program := "ytoccfbkklponnaa", sum := "bb6180c46721e7a401c65f6ad98dc5831e8d04e8cbd00f55c02b1569a0a146d5", func := "loop.example/g00887/laws.FnExactFleetBoats", spec := "fnExactFleetBoats", apart := false }
def FnExactFleetBoatsSaid : Prop := fnExactFleetBoatsRow.holds Try.pinned (OpenSpec.ofChange fnExactFleetBoatsSpec)

/-- ITS FALSE NEIGHBOUR: 'it returns false'. Refute it at one input. -/
def fnExactFleetBoatsWrong : ChangeSpec := { name := "fnExactFleetBoats", fn := fun _ => fun
  | [d1, d2, d3] => { results := [.lit (.bool false)], args := [d1, d2, d3] }
  | _ => none }
def FnExactFleetBoatsWrongFalsely : Prop := fnExactFleetBoatsRow.holds Try.pinned (OpenSpec.ofChange fnExactFleetBoatsWrong)

/-- 'laws.FnExactFleetSizes': WHATEVER THE INPUT: true; the input reads as it did. -/
def fnExactFleetSizesSpec : ChangeSpec := { name := "fnExactFleetSizes", fn := fun _ => fun
  | [d1, d2] => { results := [.lit (.bool true)], args := [d1, d2] }
  | _ => none }
def fnExactFleetSizesRow : OpenClaim := { program := "ytoccfbkklponnaa", sum := "bb6180c46721e7a401c65f6ad98dc5831e8d04e8cbd00f55c02b1569a0a146d5", func := "loop.example/g00887/laws.FnExactFleetSizes", spec := "fnExactFleetSizes", apart := false }
def FnExactFleetSizesSaid : Prop := fnExactFleetSizesRow.holds Try.pinned (OpenSpec.ofChange fnExactFleetSizesSpec)

/-- ITS FALSE NEIGHBOUR: 'it returns false'. Refute it at one input. -/
def fnExactFleetSizesWrong : ChangeSpec := { name := "fnExactFleetSizes", fn := fun _ => fun
  | [d1, d2] => { results := [.lit (.bool false)], args := [d1, d2] }
  | _ => none }
def FnExactFleetSizesWrongFalsely : Prop := fnExactFleetSizesRow.holds Try.pinned (OpenSpec.ofChange fnExactFleetSizesWrong)

/-- 'laws.FnExactBlockFleets': WHATEVER THE INPUT: true; the input reads as it did. -/
def fnExactBlockFleetsSpec : ChangeSpec := { name := "fnExactBlockFleets", fn := fun _ => fun
  | [d1, d2] => { results := [.lit (.bool true)], args := [d1, d2] }
  | _ => none }
def fnExactBlockFleetsRow : OpenClaim := { program := "ytoccfbkklponnaa", sum := "bb6180c46721e7a401c65f6ad98dc5831e8d04e8cbd00f55c02b1569a0a146d5", func := "loop.example/g00887/laws.FnExactBlockFleets", spec := "fnExactBlockFleets", apart := false }
def FnExactBlockFleetsSaid : Prop := fnExactBlockFleetsRow.holds Try.pinned (OpenSpec.ofChange fnExactBlockFleetsSpec)

/-- ITS FALSE NEIGHBOUR: 'it returns false'. Refute it at one input. -/
def fnExactBlockFleetsWrong : ChangeSpec := { name := "fnExactBlockFleets", fn := fun _ => fun
  | [d1, d2] => { results := [.lit (.bool false)], args := [d1, d2] }
  | _ => none }
def FnExactBlockFleetsWrongFalsely : Prop := fnExactBlockFleetsRow.holds Try.pinned (OpenSpec.ofChange fnExactBlockFleetsWrong)

/-- 'laws.FnExactLeastMet': WHATEVER THE INPUT: true; the input reads as it did. -/
def fnExactLeastMetSpec : ChangeSpec := { name := "fnExactLeastMet", fn := fun _ => fun
  | [d1, d2] => { results := [.lit (.bool true)], args := [d1, d2] }
  | _ => none }
def fnExactLeastMetRow : OpenClaim := { program := "ytoccfbkklponnaa", sum := "bb6180c46721e7a401c65f6ad98dc5831e8d04e8cbd00f55c02b1569a0a146d5", func := "loop.example/g00887/laws.FnExactLeastMet", spec := "fnExactLeastMet", apart := false }
def FnExactLeastMetSaid : Prop := fnExactLeastMetRow.holds Try.pinned (OpenSpec.ofChange fnExactLeastMetSpec)

/-- ITS FALSE NEIGHBOUR: 'it returns false'. Refute it at one input. -/
def fnExactLeastMetWrong : ChangeSpec := { name := "fnExactLeastMet", fn := fun _ => fun
  | [d1, d2] => { results := [.lit (.bool false)], args := [d1, d2] }
  | _ => none }
def FnExactLeastMetWrongFalsely : Prop := fnExactLeastMetRow.holds Try.pinned (OpenSpec.ofChange fnExactLeastMetWrong)

/-- 'laws.FnFleets': WHATEVER THE INPUT: true; the input reads as it did. -/
def fnFleetsSpec : ChangeSpec := { name := "fnFleets", fn := fun _ => fun
  | [d] => { results := [.lit (.bool true)], args := [d] }
  | _ => none }
def fnFleetsRow : OpenClaim := { program := "ytoccfbkklponnaa", sum := "bb6180c46721e7a401c65f6ad98dc5831e8d04e8cbd00f55c02b1569a0a146d5", func := "loop.example/g00887/laws.FnFleets", spec := "fnFleets", apart := false }
def FnFleetsSaid : Prop := fnFleetsRow.holds Try.pinned (OpenSpec.ofChange fnFleetsSpec)

/-- ITS FALSE NEIGHBOUR: 'it returns false'. Refute it at one input. -/
def fnFleetsWrong : ChangeSpec := { name := "fnFleets", fn := fun _ => fun
  | [d] => { results := [.lit (.bool false)], args := [d] }
  | _ => none }
def FnFleetsWrongFalsely : Prop := fnFleetsRow.holds Try.pinned (OpenSpec.ofChange fnFleetsWrong)

/-- 'laws.FnExactMeetCounts': WHATEVER THE INPUT: true; the input reads as it did. -/
def fnExactMeetCountsSpec : ChangeSpec := { name := "fnExactMeetCounts", fn := fun _ => fun
  | [d1, d2] => { results := [.lit (.bool true)], args := [d1, d2] }
  | _ => none }
def fnExactMeetCountsRow : OpenClaim := { program := "ytoccfbkklponnaa", sum := "bb6180c46721e7a401c65f6ad98dc5831e8d04e8cbd00f55c02b1569a0a146d5", func := "loop.example/g00887/laws.FnExactMeetCounts", spec := "fnExactMeetCounts", apart := false }
def FnExactMeetCountsSaid : Prop := fnExactMeetCountsRow.holds Try.pinned (OpenSpec.ofChange fnExactMeetCountsSpec)

/-- ITS FALSE NEIGHBOUR: 'it returns false'. Refute it at one input. -/
def fnExactMeetCountsWrong : ChangeSpec := { name := "fnExactMeetCounts", fn := fun _ => fun
  | [d1, d2] => { results := [.lit (.bool false)], args := [d1, d2] }
  | _ => none }
def FnExactMeetCountsWrongFalsely : Prop := fnExactMeetCountsRow.holds Try.pinned (OpenSpec.ofChange fnExactMeetCountsWrong)

/-- 'laws.FnBlocks': WHATEVER THE INPUT: true; the input reads as it did. -/
def fnBlocksSpec : ChangeSpec := { name := "fnBlocks", fn := fun _ => fun
  | [d] => { results := [.lit (.bool true)], args := [d] }
  | _ => none }
def fnBlocksRow : OpenClaim := { program := "ytoccfbkklponnaa", sum := "bb6180c46721e7a401c65f6ad98dc5831e8d04e8cbd00f55c02b1569a0a146d5", func := "loop.example/g00887/laws.FnBlocks", spec := "fnBlocks", apart := false }
def FnBlocksSaid : Prop := fnBlocksRow.holds Try.pinned (OpenSpec.ofChange fnBlocksSpec)

/-- ITS FALSE NEIGHBOUR: 'it returns false'. Refute it at one input. -/
def fnBlocksWrong : ChangeSpec := { name := "fnBlocks", fn := fun _ => fun
  | [d] => { results := [.lit (.bool false)], args := [d] }
  | _ => none }
def FnBlocksWrongFalsely : Prop := fnBlocksRow.holds Try.pinned (OpenSpec.ofChange fnBlocksWrong)

/-- 'laws.FnMeetings': WHATEVER THE INPUT: true; the input reads as it did. -/
def fnMeetingsSpec : ChangeSpec := { name := "fnMeetings", fn := fun _ => fun
  | [d] => { results := [.lit (.bool true)], args := [d] }
  | _ => none }
def fnMeetingsRow : OpenClaim := { program := "ytoccfbkklponnaa", sum := "bb6180c46721e7a401c65f6ad98dc5831e8d04e8cbd00f55c02b1569a0a146d5", func := "loop.example/g00887/laws.FnMeetings", spec := "fnMeetings", apart := false }
def FnMeetingsSaid : Prop := fnMeetingsRow.holds Try.pinned (OpenSpec.ofChange fnMeetingsSpec)

/-- ITS FALSE NEIGHBOUR: 'it returns false'. Refute it at one input. -/
def fnMeetingsWrong : ChangeSpec := { name := "fnMeetings", fn := fun _ => fun
  | [d] => { results := [.lit (.bool false)], args := [d] }
  | _ => none }
def FnMeetingsWrongFalsely : Prop := fnMeetingsRow.holds Try.pinned (OpenSpec.ofChange fnMeetingsWrong)

/-- 'laws.FnExactFleetPoints': WHATEVER THE INPUT: true; the input reads as it did. -/
def fnExactFleetPointsSpec : ChangeSpec := { name := "fnExactFleetPoints", fn := fun _ => fun
  | [d1, d2, d3] => { results := [.lit (.bool true)], args := [d1, d2, d3] }
  | _ => none }
def fnExactFleetPointsRow : OpenClaim := { program := "ytoccfbkklponnaa", sum := "bb6180c46721e7a401c65f6ad98dc5831e8d04e8cbd00f55c02b1569a0a146d5", func := "loop.example/g00887/laws.FnExactFleetPoints", spec := "fnExactFleetPoints", apart := false }
def FnExactFleetPointsSaid : Prop := fnExactFleetPointsRow.holds Try.pinned (OpenSpec.ofChange fnExactFleetPointsSpec)

/-- ITS FALSE NEIGHBOUR: 'it returns false'. Refute it at one input. -/
def fnExactFleetPointsWrong : ChangeSpec := { name := "fnExactFleetPoints", fn := fun _ => fun
  | [d1, d2, d3] => { results := [.lit (.bool false)], args := [d1, d2, d3] }
  | _ => none }
def FnExactFleetPointsWrongFalsely : Prop := fnExactFleetPointsRow.holds Try.pinned (OpenSpec.ofChange fnExactFleetPointsWrong)

/-- 'laws.FnFleetPoints': WHATEVER THE INPUT: true; the input reads as it did. -/
def fnFleetPointsSpec : ChangeSpec := { name := "fnFleetPoints", fn := fun _ => fun
  | [d] => { results := [.lit (.bool true)], args := [d] }
  | _ => none }
def fnFleetPointsRow : OpenClaim := { program := "ytoccfbkklponnaa", sum := "bb6180c46721e7a401c65f6ad98dc5831e8d04e8cbd00f55c02b1569a0a146d5", func := "loop.example/g00887/laws.FnFleetPoints", spec := "fnFleetPoints", apart := false }
def FnFleetPointsSaid : Prop := fnFleetPointsRow.holds Try.pinned (OpenSpec.ofChange fnFleetPointsSpec)

/-- ITS FALSE NEIGHBOUR: 'it returns false'. Refute it at one input. -/
def fnFleetPointsWrong : ChangeSpec := { name := "fnFleetPoints", fn := fun _ => fun
  | [d] => { results := [.lit (.bool false)], args := [d] }
  | _ => none }
def FnFleetPointsWrongFalsely : Prop := fnFleetPointsRow.holds Try.pinned (OpenSpec.ofChange fnFleetPointsWrong)

/- THE SECOND FORM. 'bulk': how many values and letters a reading holds, each counted each time it is reached (what is shared counts as often as it is met; a slice's spare places count too). A statement '..UptoSaid' is the law's where the arguments, and the package variables that the reading takes, are together of bulk at most 1048576: NARROWER than '..Said'. Prove '..Said' where nothing that the law and all that it calls make is longer than what came in: it says more and counts as full. Else prove '..UptoSaid'. A law counts once. -/
mutual
def uptoBulk {H : Type} : DataW H → Nat
  | .lit (.string bytes) => bytes.length + 1
  | .lit _ => 1
  | .nil => 1
  | .ptr d => uptoBulk d + 1
  | .slice elems spare => uptoBulkAll elems + uptoBulkAll spare + 1
  | .agg parts => uptoBulkAll parts + 1
  | .iface _ d => uptoBulk d + 1
  | .map entries => uptoBulkEntries entries + 1
  | .held _ => 1
def uptoBulkAll {H : Type} : List (DataW H) → Nat
  | [] => 0
  | d :: r => uptoBulk d + uptoBulkAll r
def uptoBulkEntries {H : Type} : List (Lit × DataW H) → Nat
  | [] => 0
  | x :: r => uptoBulkEntry x + uptoBulkEntries r
def uptoBulkEntry {H : Type} : Lit × DataW H → Nat
  | (.string bytes, d) => bytes.length + uptoBulk d + 1
  | (_, d) => uptoBulk d + 1
 end
def uptoSmall : (H : Type) → List (DataW H) → Bool := fun _ ds => decide (uptoBulkAll ds ≤ 1048576)
def OpenSpec.upto (s : _root_.Go.ChangeSpec) : _root_.Go.OpenSpec := { _root_.Go.OpenSpec.ofChange s with cond := some uptoSmall }

/-- 'laws.FnExactIsFleets', WHERE WHAT IT READS IS OF BULK AT MOST 1048576: true; the input reads as it did. -/
def fnExactIsFleetsUptoRow : OpenClaim := { program := "ytoccfbkklponnaa", sum := "bb6180c46721e7a401c65f6ad98dc5831e8d04e8cbd00f55c02b1569a0a146d5", func := "loop.example/g00887/laws.FnExactIsFleets", spec := "fnExactIsFleets", apart := false, narrowed := true }
def FnExactIsFleetsUptoSaid : Prop := fnExactIsFleetsUptoRow.holds Try.pinned (OpenSpec.upto fnExactIsFleetsSpec)

/-- 'laws.FnExactSnakeFleets', WHERE WHAT IT READS IS OF BULK AT MOST 1048576: true; the input reads as it did. -/
def fnExactSnakeFleetsUptoRow : OpenClaim := { program := "ytoccfbkklponnaa", sum := "bb6180c46721e7a401c65f6ad98dc5831e8d04e8cbd00f55c02b1569a0a146d5", func := "loop.example/g00887/laws.FnExactSnakeFleets", spec := "fnExactSnakeFleets", apart := false, narrowed := true }
def FnExactSnakeFleetsUptoSaid : Prop := fnExactSnakeFleetsUptoRow.holds Try.pinned (OpenSpec.upto fnExactSnakeFleetsSpec)

/-- 'laws.FnExactFleetBoats', WHERE WHAT IT READS IS OF BULK AT MOST 1048576: true; the input reads as it did. -/
def fnExactFleetBoatsUptoRow : OpenClaim := { program := "ytoccfbkklponnaa", sum := "bb6180c46721e7a401c65f6ad98dc5831e8d04e8cbd00f55c02b1569a0a146d5", func := "loop.example/g00887/laws.FnExactFleetBoats", spec := "fnExactFleetBoats", apart := false, narrowed := true }
def FnExactFleetBoatsUptoSaid : Prop := fnExactFleetBoatsUptoRow.holds Try.pinned (OpenSpec.upto fnExactFleetBoatsSpec)

/-- 'laws.FnExactFleetSizes', WHERE WHAT IT READS IS OF BULK AT MOST 1048576: true; the input reads as it did. -/
def fnExactFleetSizesUptoRow : OpenClaim := { program := "ytoccfbkklponnaa", sum := "bb6180c46721e7a401c65f6ad98dc5831e8d04e8cbd00f55c02b1569a0a146d5", func := "loop.example/g00887/laws.FnExactFleetSizes", spec := "fnExactFleetSizes", apart := false, narrowed := true }
def FnExactFleetSizesUptoSaid : Prop := fnExactFleetSizesUptoRow.holds Try.pinned (OpenSpec.upto fnExactFleetSizesSpec)

/-- 'laws.FnExactBlockFleets', WHERE WHAT IT READS IS OF BULK AT MOST 1048576: true; the input reads as it did. -/
def fnExactBlockFleetsUptoRow : OpenClaim := { program := "ytoccfbkklponnaa", sum := "bb6180c46721e7a401c65f6ad98dc5831e8d04e8cbd00f55c02b1569a0a146d5", func := "loop.example/g00887/laws.FnExactBlockFleets", spec := "fnExactBlockFleets", apart := false, narrowed := true }
def FnExactBlockFleetsUptoSaid : Prop := fnExactBlockFleetsUptoRow.holds Try.pinned (OpenSpec.upto fnExactBlockFleetsSpec)

/-- 'laws.FnExactLeastMet', WHERE WHAT IT READS IS OF BULK AT MOST 1048576: true; the input reads as it did. -/
def fnExactLeastMetUptoRow : OpenClaim := { program := "ytoccfbkklponnaa", sum := "bb6180c46721e7a401c65f6ad98dc5831e8d04e8cbd00f55c02b1569a0a146d5", func := "loop.example/g00887/laws.FnExactLeastMet", spec := "fnExactLeastMet", apart := false, narrowed := true }
def FnExactLeastMetUptoSaid : Prop := fnExactLeastMetUptoRow.holds Try.pinned (OpenSpec.upto fnExactLeastMetSpec)

/-- 'laws.FnFleets', WHERE WHAT IT READS IS OF BULK AT MOST 1048576: true; the input reads as it did. -/
def fnFleetsUptoRow : OpenClaim := { program := "ytoccfbkklponnaa", sum := "bb6180c46721e7a401c65f6ad98dc5831e8d04e8cbd00f55c02b1569a0a146d5", func := "loop.example/g00887/laws.FnFleets", spec := "fnFleets", apart := false, narrowed := true }
def FnFleetsUptoSaid : Prop := fnFleetsUptoRow.holds Try.pinned (OpenSpec.upto fnFleetsSpec)

/-- 'laws.FnExactMeetCounts', WHERE WHAT IT READS IS OF BULK AT MOST 1048576: true; the input reads as it did. -/
def fnExactMeetCountsUptoRow : OpenClaim := { program := "ytoccfbkklponnaa", sum := "bb6180c46721e7a401c65f6ad98dc5831e8d04e8cbd00f55c02b1569a0a146d5", func := "loop.example/g00887/laws.FnExactMeetCounts", spec := "fnExactMeetCounts", apart := false, narrowed := true }
def FnExactMeetCountsUptoSaid : Prop := fnExactMeetCountsUptoRow.holds Try.pinned (OpenSpec.upto fnExactMeetCountsSpec)

/-- 'laws.FnBlocks', WHERE WHAT IT READS IS OF BULK AT MOST 1048576: true; the input reads as it did. -/
def fnBlocksUptoRow : OpenClaim := { program := "ytoccfbkklponnaa", sum := "bb6180c46721e7a401c65f6ad98dc5831e8d04e8cbd00f55c02b1569a0a146d5", func := "loop.example/g00887/laws.FnBlocks", spec := "fnBlocks", apart := false, narrowed := true }
def FnBlocksUptoSaid : Prop := fnBlocksUptoRow.holds Try.pinned (OpenSpec.upto fnBlocksSpec)

/-- 'laws.FnMeetings', WHERE WHAT IT READS IS OF BULK AT MOST 1048576: true; the input reads as it did. -/
def fnMeetingsUptoRow : OpenClaim := { program := "ytoccfbkklponnaa", sum := "bb6180c46721e7a401c65f6ad98dc5831e8d04e8cbd00f55c02b1569a0a146d5", func := "loop.example/g00887/laws.FnMeetings", spec := "fnMeetings", apart := false, narrowed := true }
def FnMeetingsUptoSaid : Prop := fnMeetingsUptoRow.holds Try.pinned (OpenSpec.upto fnMeetingsSpec)

/-- 'laws.FnExactFleetPoints', WHERE WHAT IT READS IS OF BULK AT MOST 1048576: true; the input reads as it did. -/
def fnExactFleetPointsUptoRow : OpenClaim := { program := "ytoccfbkklponnaa", sum := "bb6180c46721e7a401c65f6ad98dc5831e8d04e8cbd00f55c02b1569a0a146d5", func := "loop.example/g00887/laws.FnExactFleetPoints", spec := "fnExactFleetPoints", apart := false, narrowed := true }
def FnExactFleetPointsUptoSaid : Prop := fnExactFleetPointsUptoRow.holds Try.pinned (OpenSpec.upto fnExactFleetPointsSpec)

/-- 'laws.FnFleetPoints', WHERE WHAT IT READS IS OF BULK AT MOST 1048576: true; the input reads as it did. -/
def fnFleetPointsUptoRow : OpenClaim := { program := "ytoccfbkklponnaa", sum := "bb6180c46721e7a401c65f6ad98dc5831e8d04e8cbd00f55c02b1569a0a146d5", func := "loop.example/g00887/laws.FnFleetPoints", spec := "fnFleetPoints", apart := false, narrowed := true }
def FnFleetPointsUptoSaid : Prop := fnFleetPointsUptoRow.holds Try.pinned (OpenSpec.upto fnFleetPointsSpec)

end Rows
end Go.Proofs.Ytoccfbkklponnaa

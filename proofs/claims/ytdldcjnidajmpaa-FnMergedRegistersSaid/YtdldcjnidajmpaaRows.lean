/-
  No cell of these rows narrows 'for every input' (looked for: loops, veiled, ifaces, maps, wideKeys, modest, calm, conditions, laid).
  DERIVED. THE GIVEN ROWS OF THIS SEAT. 12 by the template 'for every input the law returns true; each argument reads behind the call as it read before'; 0 by the template 'total and deterministic' (their statements: YtdldcjnidajmpaaTotals.lean).
  GIVEN WITH THE SEED: the statements are not yours to turn. If you find one false, say at which input.
  Laid BY PROGRAM, IN A SANDBOX (cutbox-rows.mjs): the forced cells as the released guide's own fill.sh prints them over the translation e4249f02a0ce7ffd… (all of the seat's roots in one cut). By AI agents, Wed Nov 11 2026. No macro, syntax, notation, axiom, sorry.
-/
import Derived.Test.YtdldcjnidajmpaaChecked
import GoSem.Claim
import GoSem.ClaimJoined
import GoSem.ClaimMapViews
import Derived.JoinedTies
import Derived.KernelRfl
namespace Go.Proofs.Ytdldcjnidajmpaa
/- THE CELL 'sum', in the pinned program and in every row, IS THE sha256 OF THE DUMP (.gsa) THAT YtdldcjnidajmpaaProg.lean LOADS. Nothing in Lean hashes anything: it is a label: what it is worth is what the hold of that sum in a sandbox is worth. -/
noncomputable def Try.pinned : Pinned := { name := "ytdldcjnidajmpaa", sum := "e4249f02a0ce7ffd31d7be74859d68d46a10d46d441e255e31ca9c70548eb1d4", checked := Try.checked }
namespace Rows
def none {H : Type} : Left H := { results := [], args := [] }

/-- 'laws.FnExactFleetPoints': WHATEVER THE INPUT: true; the input reads as it did. -/
def fnExactFleetPointsSpec : ChangeSpec := { name := "fnExactFleetPoints", fn := fun _ => fun
  | [d1, d2, d3] => { results := [.lit (.bool true)], args := [d1, d2, d3] }
  | _ => none }
def fnExactFleetPointsRow : OpenClaim := { program := "ytdldcjnidajmpaa", sum := "e4249f02a0ce7ffd31d7be74859d68d46a10d46d441e255e31ca9c70548eb1d4", func := "loop.example/g00887/laws.FnExactFleetPoints", spec := "fnExactFleetPoints", apart := false }
def FnExactFleetPointsSaid : Prop := fnExactFleetPointsRow.holds Try.pinned (OpenSpec.ofChange fnExactFleetPointsSpec)

/-- ITS FALSE NEIGHBOUR: 'it returns false'. Refute it at one input. -/
def fnExactFleetPointsWrong : ChangeSpec := { name := "fnExactFleetPoints", fn := fun _ => fun
  | [d1, d2, d3] => { results := [.lit (.bool false)], args := [d1, d2, d3] }
  | _ => none }
def FnExactFleetPointsWrongFalsely : Prop := fnExactFleetPointsRow.holds Try.pinned (OpenSpec.ofChange fnExactFleetPointsWrong)

/-- 'laws.FnFleetPoints': WHATEVER THE INPUT: true; the input reads as it did. -/
def fnFleetPointsSpec : ChangeSpec := { name := "fnFleetPoints", fn := fun _ => fun
  | [d] => { results := [.lit (.bool true)], args := [d] }
  | _ => none }
def fnFleetPointsRow : OpenClaim := { program := "ytdldcjnidajmpaa", sum := "e4249f02a0ce7ffd31d7be74859d68d46a10d46d441e255e31ca9c70548eb1d4", func := "loop.example/g00887/laws.FnFleetPoints", spec := "fnFleetPoints", apart := false }
def FnFleetPointsSaid : Prop := fnFleetPointsRow.holds Try.pinned (OpenSpec.ofChange fnFleetPointsSpec)

/-- ITS FALSE NEIGHBOUR: 'it returns false'. Refute it at one input. -/
def fnFleetPointsWrong : ChangeSpec := { name := "fnFleetPoints", fn := fun _ => fun
  | [d] => { results := [.lit (.bool false)], args := [d] }
  | _ => none }
def FnFleetPointsWrongFalsely : Prop := fnFleetPointsRow.holds Try.pinned (OpenSpec.ofChange fnFleetPointsWrong)

/-- 'laws.FnExactIsRegister': WHATEVER THE INPUT: true; the input reads as it did. -/
def fnExactIsRegisterSpec : ChangeSpec := { name := "fnExactIsRegister", fn := fun _ => fun
  | [d] => { results := [.lit (.bool true)], args := [d] }
  | _ => none }
def fnExactIsRegisterRow : OpenClaim := { program := "ytdldcjnidajmpaa", sum := "e4249f02a0ce7ffd31d7be74859d68d46a10d46d441e255e31ca9c70548eb1d4", func := "loop.example/g00887/laws.FnExactIsRegister", spec := "fnExactIsRegister", unfollowed := true, recurses := true, apart := false }
def FnExactIsRegisterSaid : Prop := fnExactIsRegisterRow.holds Try.pinned (OpenSpec.ofChange fnExactIsRegisterSpec)

/-- ITS FALSE NEIGHBOUR: 'it returns false'. Refute it at one input. -/
def fnExactIsRegisterWrong : ChangeSpec := { name := "fnExactIsRegister", fn := fun _ => fun
  | [d] => { results := [.lit (.bool false)], args := [d] }
  | _ => none }
def FnExactIsRegisterWrongFalsely : Prop := fnExactIsRegisterRow.holds Try.pinned (OpenSpec.ofChange fnExactIsRegisterWrong)

/-- 'laws.FnExactHistoryOf': WHATEVER THE INPUT: true; the input reads as it did. -/
def fnExactHistoryOfSpec : ChangeSpec := { name := "fnExactHistoryOf", fn := fun _ => fun
  | [d1, d2, d3] => { results := [.lit (.bool true)], args := [d1, d2, d3] }
  | _ => none }
def fnExactHistoryOfRow : OpenClaim := { program := "ytdldcjnidajmpaa", sum := "e4249f02a0ce7ffd31d7be74859d68d46a10d46d441e255e31ca9c70548eb1d4", func := "loop.example/g00887/laws.FnExactHistoryOf", spec := "fnExactHistoryOf", unfollowed := true, recurses := true, apart := false }
def FnExactHistoryOfSaid : Prop := fnExactHistoryOfRow.holds Try.pinned (OpenSpec.ofChange fnExactHistoryOfSpec)

/-- ITS FALSE NEIGHBOUR: 'it returns false'. Refute it at one input. -/
def fnExactHistoryOfWrong : ChangeSpec := { name := "fnExactHistoryOf", fn := fun _ => fun
  | [d1, d2, d3] => { results := [.lit (.bool false)], args := [d1, d2, d3] }
  | _ => none }
def FnExactHistoryOfWrongFalsely : Prop := fnExactHistoryOfRow.holds Try.pinned (OpenSpec.ofChange fnExactHistoryOfWrong)

/-- 'laws.FnExactCurrentEntries': WHATEVER THE INPUT: true; the input reads as it did. -/
def fnExactCurrentEntriesSpec : ChangeSpec := { name := "fnExactCurrentEntries", fn := fun _ => fun
  | [d] => { results := [.lit (.bool true)], args := [d] }
  | _ => none }
def fnExactCurrentEntriesRow : OpenClaim := { program := "ytdldcjnidajmpaa", sum := "e4249f02a0ce7ffd31d7be74859d68d46a10d46d441e255e31ca9c70548eb1d4", func := "loop.example/g00887/laws.FnExactCurrentEntries", spec := "fnExactCurrentEntries", unfollowed := true, recurses := true, apart := false }
def FnExactCurrentEntriesSaid : Prop := fnExactCurrentEntriesRow.holds Try.pinned (OpenSpec.ofChange fnExactCurrentEntriesSpec)

/-- ITS FALSE NEIGHBOUR: 'it returns false'. Refute it at one input. -/
def fnExactCurrentEntriesWrong : ChangeSpec := { name := "fnExactCurrentEntries", fn := fun _ => fun
  | [d] => { results := [.lit (.bool false)], args := [d] }
  | _ => none }
def FnExactCurrentEntriesWrongFalsely : Prop := fnExactCurrentEntriesRow.holds Try.pinned (OpenSpec.ofChange fnExactCurrentEntriesWrong)

/-- 'laws.FnExactAddEntry': WHATEVER THE INPUT: true; the input reads as it did. -/
def fnExactAddEntrySpec : ChangeSpec := { name := "fnExactAddEntry", fn := fun _ => fun
  | [d1, d2] => { results := [.lit (.bool true)], args := [d1, d2] }
  | _ => none }
def fnExactAddEntryRow : OpenClaim := { program := "ytdldcjnidajmpaa", sum := "e4249f02a0ce7ffd31d7be74859d68d46a10d46d441e255e31ca9c70548eb1d4", func := "loop.example/g00887/laws.FnExactAddEntry", spec := "fnExactAddEntry", unfollowed := true, recurses := true, apart := false }
def FnExactAddEntrySaid : Prop := fnExactAddEntryRow.holds Try.pinned (OpenSpec.ofChange fnExactAddEntrySpec)

/-- ITS FALSE NEIGHBOUR: 'it returns false'. Refute it at one input. -/
def fnExactAddEntryWrong : ChangeSpec := { name := "fnExactAddEntry", fn := fun _ => fun
  | [d1, d2] => { results := [.lit (.bool false)], args := [d1, d2] }
  | _ => none }
def FnExactAddEntryWrongFalsely : Prop := fnExactAddEntryRow.holds Try.pinned (OpenSpec.ofChange fnExactAddEntryWrong)

/-- 'laws.FnExactMergeRegisters': WHATEVER THE INPUT: true; the input reads as it did. -/
def fnExactMergeRegistersSpec : ChangeSpec := { name := "fnExactMergeRegisters", fn := fun _ => fun
  | [d1, d2] => { results := [.lit (.bool true)], args := [d1, d2] }
  | _ => none }
def fnExactMergeRegistersRow : OpenClaim := { program := "ytdldcjnidajmpaa", sum := "e4249f02a0ce7ffd31d7be74859d68d46a10d46d441e255e31ca9c70548eb1d4", func := "loop.example/g00887/laws.FnExactMergeRegisters", spec := "fnExactMergeRegisters", unfollowed := true, recurses := true, apart := false }
def FnExactMergeRegistersSaid : Prop := fnExactMergeRegistersRow.holds Try.pinned (OpenSpec.ofChange fnExactMergeRegistersSpec)

/-- ITS FALSE NEIGHBOUR: 'it returns false'. Refute it at one input. -/
def fnExactMergeRegistersWrong : ChangeSpec := { name := "fnExactMergeRegisters", fn := fun _ => fun
  | [d1, d2] => { results := [.lit (.bool false)], args := [d1, d2] }
  | _ => none }
def FnExactMergeRegistersWrongFalsely : Prop := fnExactMergeRegistersRow.holds Try.pinned (OpenSpec.ofChange fnExactMergeRegistersWrong)

/-- 'laws.FnExactCorrectEntry': WHATEVER THE INPUT: true; the input reads as it did. -/
def fnExactCorrectEntrySpec : ChangeSpec := { name := "fnExactCorrectEntry", fn := fun _ => fun
  | [d1, d2] => { results := [.lit (.bool true)], args := [d1, d2] }
  | _ => none }
def fnExactCorrectEntryRow : OpenClaim := { program := "ytdldcjnidajmpaa", sum := "e4249f02a0ce7ffd31d7be74859d68d46a10d46d441e255e31ca9c70548eb1d4", func := "loop.example/g00887/laws.FnExactCorrectEntry", spec := "fnExactCorrectEntry", unfollowed := true, recurses := true, apart := false }
def FnExactCorrectEntrySaid : Prop := fnExactCorrectEntryRow.holds Try.pinned (OpenSpec.ofChange fnExactCorrectEntrySpec)

/-- ITS FALSE NEIGHBOUR: 'it returns false'. Refute it at one input. -/
def fnExactCorrectEntryWrong : ChangeSpec := { name := "fnExactCorrectEntry", fn := fun _ => fun
  | [d1, d2] => { results := [.lit (.bool false)], args := [d1, d2] }
  | _ => none }
def FnExactCorrectEntryWrongFalsely : Prop := fnExactCorrectEntryRow.holds Try.pinned (OpenSpec.ofChange fnExactCorrectEntryWrong)

/-- 'laws.FnExactRegisterSeries': WHATEVER THE INPUT: true; the input reads as it did. -/
def fnExactRegisterSeriesSpec : ChangeSpec := { name := "fnExactRegisterSeries", fn := fun _ => fun
  | [d] => { results := [.lit (.bool true)], args := [d] }
  | _ => none }
def fnExactRegisterSeriesRow : OpenClaim := { program := "ytdldcjnidajmpaa", sum := "e4249f02a0ce7ffd31d7be74859d68d46a10d46d441e255e31ca9c70548eb1d4", func := "loop.example/g00887/laws.FnExactRegisterSeries", spec := "fnExactRegisterSeries", unfollowed := true, recurses := true, apart := false }
def FnExactRegisterSeriesSaid : Prop := fnExactRegisterSeriesRow.holds Try.pinned (OpenSpec.ofChange fnExactRegisterSeriesSpec)

/-- ITS FALSE NEIGHBOUR: 'it returns false'. Refute it at one input. -/
def fnExactRegisterSeriesWrong : ChangeSpec := { name := "fnExactRegisterSeries", fn := fun _ => fun
  | [d] => { results := [.lit (.bool false)], args := [d] }
  | _ => none }
def FnExactRegisterSeriesWrongFalsely : Prop := fnExactRegisterSeriesRow.holds Try.pinned (OpenSpec.ofChange fnExactRegisterSeriesWrong)

/-- 'laws.FnRegisterEntries': WHATEVER THE INPUT: true; the input reads as it did. -/
def fnRegisterEntriesSpec : ChangeSpec := { name := "fnRegisterEntries", fn := fun _ => fun
  | [d] => { results := [.lit (.bool true)], args := [d] }
  | _ => none }
def fnRegisterEntriesRow : OpenClaim := { program := "ytdldcjnidajmpaa", sum := "e4249f02a0ce7ffd31d7be74859d68d46a10d46d441e255e31ca9c70548eb1d4", func := "loop.example/g00887/laws.FnRegisterEntries", spec := "fnRegisterEntries", unfollowed := true, recurses := true, apart := false }
def FnRegisterEntriesSaid : Prop := fnRegisterEntriesRow.holds Try.pinned (OpenSpec.ofChange fnRegisterEntriesSpec)

/-- ITS FALSE NEIGHBOUR: 'it returns false'. Refute it at one input. -/
def fnRegisterEntriesWrong : ChangeSpec := { name := "fnRegisterEntries", fn := fun _ => fun
  | [d] => { results := [.lit (.bool false)], args := [d] }
  | _ => none }
def FnRegisterEntriesWrongFalsely : Prop := fnRegisterEntriesRow.holds Try.pinned (OpenSpec.ofChange fnRegisterEntriesWrong)

/-- 'laws.FnCorrections': WHATEVER THE INPUT: true; the input reads as it did. -/
def fnCorrectionsSpec : ChangeSpec := { name := "fnCorrections", fn := fun _ => fun
  | [d] => { results := [.lit (.bool true)], args := [d] }
  | _ => none }
def fnCorrectionsRow : OpenClaim := { program := "ytdldcjnidajmpaa", sum := "e4249f02a0ce7ffd31d7be74859d68d46a10d46d441e255e31ca9c70548eb1d4", func := "loop.example/g00887/laws.FnCorrections", spec := "fnCorrections", unfollowed := true, recurses := true, apart := false }
def FnCorrectionsSaid : Prop := fnCorrectionsRow.holds Try.pinned (OpenSpec.ofChange fnCorrectionsSpec)

/-- ITS FALSE NEIGHBOUR: 'it returns false'. Refute it at one input. -/
def fnCorrectionsWrong : ChangeSpec := { name := "fnCorrections", fn := fun _ => fun
  | [d] => { results := [.lit (.bool false)], args := [d] }
  | _ => none }
def FnCorrectionsWrongFalsely : Prop := fnCorrectionsRow.holds Try.pinned (OpenSpec.ofChange fnCorrectionsWrong)

/-- 'laws.FnMergedRegisters': WHATEVER THE INPUT: true; the input reads as it did. -/
def fnMergedRegistersSpec : ChangeSpec := { name := "fnMergedRegisters", fn := fun _ => fun
  | [d] => { results := [.lit (.bool true)], args := [d] }
  | _ => none }
def fnMergedRegistersRow : OpenClaim := { program := "ytdldcjnidajmpaa", sum := "e4249f02a0ce7ffd31d7be74859d68d46a10d46d441e255e31ca9c70548eb1d4", func := "loop.example/g00887/laws.FnMergedRegisters", spec := "fnMergedRegisters", unfollowed := true, recurses := true, apart := false }
def FnMergedRegistersSaid : Prop := fnMergedRegistersRow.holds Try.pinned (OpenSpec.ofChange fnMergedRegistersSpec)

/-- ITS FALSE NEIGHBOUR: 'it returns false'. Refute it at one input. -/
def fnMergedRegistersWrong : ChangeSpec := { name := "fnMergedRegisters", fn := fun _ => fun
  | [d] => { results := [.lit (.bool false)], args := [d] }
  | _ => none }
def FnMergedRegistersWrongFalsely : Prop := fnMergedRegistersRow.holds Try.pinned (OpenSpec.ofChange fnMergedRegistersWrong)

/- THE SECOND FORM. 'bulk': how many values and letters a reading holds, each counted each time it is reached (what is shared counts as often as it is met; a slice's spare places count too). A statement '..UptoSaid' is the law's where the arguments, and the package variables that the reading takes, are together of bulk at most 1048576: NARROWER than '..Said'. Prove '..Said' where nothing that the law and all that it calls make is longer than what came in: it says more and counts as full. Else prove '..UptoSaid'. A law counts once. -/
mutual
def uptoBulk {H : Type} : DataW H → Nat
  | .lit (.string bytes) => bytes.length + 1
  | .lit _ => 1
  | .nil => 1
  | .ptr d => uptoBulk d + 1
  | .slice elems spare => uptoBulkAll elems + uptoBulkAll spare + 1
  | .agg parts => uptoBulkAll parts + 1
  | .iface _ d => uptoBulk d + 1
  | .map entries => uptoBulkEntries entries + 1
  | .held _ => 1
def uptoBulkAll {H : Type} : List (DataW H) → Nat
  | [] => 0
  | d :: r => uptoBulk d + uptoBulkAll r
def uptoBulkEntries {H : Type} : List (Lit × DataW H) → Nat
  | [] => 0
  | x :: r => uptoBulkEntry x + uptoBulkEntries r
def uptoBulkEntry {H : Type} : Lit × DataW H → Nat
  | (.string bytes, d) => bytes.length + uptoBulk d + 1
  | (_, d) => uptoBulk d + 1
 end
def uptoSmall : (H : Type) → List (DataW H) → Bool := fun _ ds => decide (uptoBulkAll ds ≤ 1048576)
def OpenSpec.upto (s : _root_.Go.ChangeSpec) : _root_.Go.OpenSpec := { _root_.Go.OpenSpec.ofChange s with cond := some uptoSmall }

/-- 'laws.FnExactFleetPoints', WHERE WHAT IT READS IS OF BULK AT MOST 1048576: true; the input reads as it did. -/
def fnExactFleetPointsUptoRow : OpenClaim := { program := "ytdldcjnidajmpaa", sum := "e4249f02a0ce7ffd31d7be74859d68d46a10d46d441e255e31ca9c70548eb1d4", func := "loop.example/g00887/laws.FnExactFleetPoints", spec := "fnExactFleetPoints", apart := false, narrowed := true }
def FnExactFleetPointsUptoSaid : Prop := fnExactFleetPointsUptoRow.holds Try.pinned (OpenSpec.upto fnExactFleetPointsSpec)

/-- 'laws.FnFleetPoints', WHERE WHAT IT READS IS OF BULK AT MOST 1048576: true; the input reads as it did. -/
def fnFleetPointsUptoRow : OpenClaim := { program := "ytdldcjnidajmpaa", sum := "e4249f02a0ce7ffd31d7be74859d68d46a10d46d441e255e31ca9c70548eb1d4", func := "loop.example/g00887/laws.FnFleetPoints", spec := "fnFleetPoints", apart := false, narrowed := true }
def FnFleetPointsUptoSaid : Prop := fnFleetPointsUptoRow.holds Try.pinned (OpenSpec.upto fnFleetPointsSpec)

/-- 'laws.FnExactIsRegister', WHERE WHAT IT READS IS OF BULK AT MOST 1048576: true; the input reads as it did. -/
def fnExactIsRegisterUptoRow : OpenClaim := { program := "ytdldcjnidajmpaa", sum := "e4249f02a0ce7ffd31d7be74859d68d46a10d46d441e255e31ca9c70548eb1d4", func := "loop.example/g00887/laws.FnExactIsRegister", spec := "fnExactIsRegister", unfollowed := true, recurses := true, apart := false, narrowed := true }
def FnExactIsRegisterUptoSaid : Prop := fnExactIsRegisterUptoRow.holds Try.pinned (OpenSpec.upto fnExactIsRegisterSpec)

/-- 'laws.FnExactHistoryOf', WHERE WHAT IT READS IS OF BULK AT MOST 1048576: true; the input reads as it did. -/
def fnExactHistoryOfUptoRow : OpenClaim := { program := "ytdldcjnidajmpaa", sum := "e4249f02a0ce7ffd31d7be74859d68d46a10d46d441e255e31ca9c70548eb1d4", func := "loop.example/g00887/laws.FnExactHistoryOf", spec := "fnExactHistoryOf", unfollowed := true, recurses := true, apart := false, narrowed := true }
def FnExactHistoryOfUptoSaid : Prop := fnExactHistoryOfUptoRow.holds Try.pinned (OpenSpec.upto fnExactHistoryOfSpec)

/-- 'laws.FnExactCurrentEntries', WHERE WHAT IT READS IS OF BULK AT MOST 1048576: true; the input reads as it did. -/
def fnExactCurrentEntriesUptoRow : OpenClaim := { program := "ytdldcjnidajmpaa", sum := "e4249f02a0ce7ffd31d7be74859d68d46a10d46d441e255e31ca9c70548eb1d4", func := "loop.example/g00887/laws.FnExactCurrentEntries", spec := "fnExactCurrentEntries", unfollowed := true, recurses := true, apart := false, narrowed := true }
def FnExactCurrentEntriesUptoSaid : Prop := fnExactCurrentEntriesUptoRow.holds Try.pinned (OpenSpec.upto fnExactCurrentEntriesSpec)

/-- 'laws.FnExactAddEntry', WHERE WHAT IT READS IS OF BULK AT MOST 1048576: true; the input reads as it did. -/
def fnExactAddEntryUptoRow : OpenClaim := { program := "ytdldcjnidajmpaa", sum := "e4249f02a0ce7ffd31d7be74859d68d46a10d46d441e255e31ca9c70548eb1d4", func := "loop.example/g00887/laws.FnExactAddEntry", spec := "fnExactAddEntry", unfollowed := true, recurses := true, apart := false, narrowed := true }
def FnExactAddEntryUptoSaid : Prop := fnExactAddEntryUptoRow.holds Try.pinned (OpenSpec.upto fnExactAddEntrySpec)

/-- 'laws.FnExactMergeRegisters', WHERE WHAT IT READS IS OF BULK AT MOST 1048576: true; the input reads as it did. -/
def fnExactMergeRegistersUptoRow : OpenClaim := { program := "ytdldcjnidajmpaa", sum := "e4249f02a0ce7ffd31d7be74859d68d46a10d46d441e255e31ca9c70548eb1d4", func := "loop.example/g00887/laws.FnExactMergeRegisters", spec := "fnExactMergeRegisters", unfollowed := true, recurses := true, apart := false, narrowed := true }
def FnExactMergeRegistersUptoSaid : Prop := fnExactMergeRegistersUptoRow.holds Try.pinned (OpenSpec.upto fnExactMergeRegistersSpec)

/-- 'laws.FnExactCorrectEntry', WHERE WHAT IT READS IS OF BULK AT MOST 1048576: true; the input reads as it did. -/
def fnExactCorrectEntryUptoRow : OpenClaim := { program := "ytdldcjnidajmpaa", sum := "e4249f02a0ce7ffd31d7be74859d68d46a10d46d441e255e31ca9c70548eb1d4", func := "loop.example/g00887/laws.FnExactCorrectEntry", spec := "fnExactCorrectEntry", unfollowed := true, recurses := true, apart := false, narrowed := true }
def FnExactCorrectEntryUptoSaid : Prop := fnExactCorrectEntryUptoRow.holds Try.pinned (OpenSpec.upto fnExactCorrectEntrySpec)

/-- 'laws.FnExactRegisterSeries', WHERE WHAT IT READS IS OF BULK AT MOST 1048576: true; the input reads as it did. -/
def fnExactRegisterSeriesUptoRow : OpenClaim := { program := "ytdldcjnidajmpaa", sum := "e4249f02a0ce7ffd31d7be74859d68d46a10d46d441e255e31ca9c70548eb1d4", func := "loop.example/g00887/laws.FnExactRegisterSeries", spec := "fnExactRegisterSeries", unfollowed := true, recurses := true, apart := false, narrowed := true }
def FnExactRegisterSeriesUptoSaid : Prop := fnExactRegisterSeriesUptoRow.holds Try.pinned (OpenSpec.upto fnExactRegisterSeriesSpec)

/-- 'laws.FnRegisterEntries', WHERE WHAT IT READS IS OF BULK AT MOST 1048576: true; the input reads as it did. -/
def fnRegisterEntriesUptoRow : OpenClaim := { program := "ytdldcjnidajmpaa", sum := "e4249f02a0ce7ffd31d7be74859d68d46a10d46d441e255e31ca9c70548eb1d4", func := "loop.example/g00887/laws.FnRegisterEntries", spec := "fnRegisterEntries", unfollowed := true, recurses := true, apart := false, narrowed := true }
def FnRegisterEntriesUptoSaid : Prop := fnRegisterEntriesUptoRow.holds Try.pinned (OpenSpec.upto fnRegisterEntriesSpec)

/-- 'laws.FnCorrections', WHERE WHAT IT READS IS OF BULK AT MOST 1048576: true; the input reads as it did. -/
def fnCorrectionsUptoRow : OpenClaim := { program := "ytdldcjnidajmpaa", sum := "e4249f02a0ce7ffd31d7be74859d68d46a10d46d441e255e31ca9c70548eb1d4", func := "loop.example/g00887/laws.FnCorrections", spec := "fnCorrections", unfollowed := true, recurses := true, apart := false, narrowed := true }
def FnCorrectionsUptoSaid : Prop := fnCorrectionsUptoRow.holds Try.pinned (OpenSpec.upto fnCorrectionsSpec)

/-- 'laws.FnMergedRegisters', WHERE WHAT IT READS IS OF BULK AT MOST 1048576: true; the input reads as it did. -/
def fnMergedRegistersUptoRow : OpenClaim := { program := "ytdldcjnidajmpaa", sum := "e4249f02a0ce7ffd31d7be74859d68d46a10d46d441e255e31ca9c70548eb1d4", func := "loop.example/g00887/laws.FnMergedRegisters", spec := "fnMergedRegisters", unfollowed := true, recurses := true, apart := false, narrowed := true }
def FnMergedRegistersUptoSaid : Prop := fnMergedRegistersUptoRow.holds Try.pinned (OpenSpec.upto fnMergedRegistersSpec)

end Rows
end Go.Proofs.Ytdldcjnidajmpaa

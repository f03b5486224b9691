/-
  No cell of these rows narrows 'for every input' (looked for: loops, veiled, ifaces, maps, wideKeys, modest, calm, conditions, laid).
  DERIVED. THE GIVEN ROWS OF THIS SEAT. 3 by the template 'for every input the law returns true; each argument reads behind the call as it read before'; 0 by the template 'total and deterministic' (their statements: YtmgkoldipchljaaTotals.lean).
  GIVEN WITH THE SEED: the statements are not yours to turn. If you find one false, say at which input.
  Laid BY PROGRAM, IN A SANDBOX (cutbox-rows.mjs): the forced cells as the released guide's own fill.sh prints them over the translation d4ddbf5b2e6254b2… (all of the seat's roots in one cut). By AI agents, Wed Nov 11 2026. No macro, syntax, notation, axiom, sorry.
-/
import Derived.Test.YtmgkoldipchljaaChecked
import GoSem.Claim
import GoSem.ClaimJoined
import GoSem.ClaimMapViews
import Derived.JoinedTies
import Derived.KernelRfl
namespace Go.Proofs.Ytmgkoldipchljaa
/- THE CELL 'sum', in the pinned program and in every row, IS THE sha256 OF THE DUMP (.gsa) THAT YtmgkoldipchljaaProg.lean LOADS. Nothing in Lean hashes anything: it is a label: what it is worth is what the hold of that sum in a sandbox is worth. -/
noncomputable def Try.pinned : Pinned := { name := "ytmgkoldipchljaa", sum := "d4ddbf5b2e6254b2e0f6a8f62ea4bcfa96e4d049616b673468685bea2dc3b67d", checked := Try.checked }
namespace Rows
def none {H : Type} : Left H := { results := [], args := [] }

/-- 'laws.FnAverages': WHATEVER THE INPUT: true; the input reads as it did. -/
def fnAveragesSpec : ChangeSpec := { name := "fnAverages", fn := fun _ => fun
  | [d] => { results := [.lit (.bool true)], args := [d] }
  | _ => none }
def fnAveragesRow : OpenClaim := { program := "ytmgkoldipchljaa", sum := "d4ddbf5b2e6254b2e0f6a8f62ea4bcfa96e4d049616b673468685bea2dc3b67d", func := "loop.example/g00887/laws.FnAverages", spec := "fnAverages", apart := false }
def FnAveragesSaid : Prop := fnAveragesRow.holds Try.pinned (OpenSpec.ofChange fnAveragesSpec)

/-- ITS FALSE NEIGHBOUR: 'it returns false'. Refute it at one input. -/
def fnAveragesWrong : ChangeSpec := { name := "fnAverages", fn := fun _ => fun
  | [d] => { results := [.lit (.bool false)], args := [d] }
  | _ => none }
def FnAveragesWrongFalsely : Prop := fnAveragesRow.holds Try.pinned (OpenSpec.ofChange fnAveragesWrong)

/-- 'laws.FnRedress': WHATEVER THE INPUT: true; the input reads as it did. -/
def fnRedressSpec : ChangeSpec := { name := "fnRedress", fn := fun _ => fun
  | [d] => { results := [.lit (.bool true)], args := [d] }
  | _ => none }
def fnRedressRow : OpenClaim := { program := "ytmgkoldipchljaa", sum := "d4ddbf5b2e6254b2e0f6a8f62ea4bcfa96e4d049616b673468685bea2dc3b67d", func := "loop.example/g00887/laws.FnRedress", spec := "fnRedress", unfollowed := true, recurses := true, apart := false }
def FnRedressSaid : Prop := fnRedressRow.holds Try.pinned (OpenSpec.ofChange fnRedressSpec)

/-- ITS FALSE NEIGHBOUR: 'it returns false'. Refute it at one input. -/
def fnRedressWrong : ChangeSpec := { name := "fnRedress", fn := fun _ => fun
  | [d] => { results := [.lit (.bool false)], args := [d] }
  | _ => none }
def FnRedressWrongFalsely : Prop := fnRedressRow.holds Try.pinned (OpenSpec.ofChange fnRedressWrong)

/-- 'laws.FnExactRankChange': WHATEVER THE INPUT: true; the input reads as it did. -/
def fnExactRankChangeSpec : ChangeSpec := { name := "fnExactRankChange", fn := fun _ => fun
  | [d1, d2, d3, d4] => { results := [.lit (.bool true)], args := [d1, d2, d3, d4] }
  | _ => none }
def fnExactRankChangeRow : OpenClaim := { program := "ytmgkoldipchljaa", sum := "d4ddbf5b2e6254b2e0f6a8f62ea4bcfa96e4d049616b673468685bea2dc3b67d", func := "loop.example/g00887/laws.FnExactRankChange", spec := "fnExactRankChange", unfollowed := true, recurses := true, apart := false }
def FnExactRankChangeSaid : Prop := fnExactRankChangeRow.holds Try.pinned (OpenSpec.ofChange fnExactRankChangeSpec)

/-- ITS FALSE NEIGHBOUR: 'it returns false'. Refute it at one input. -/
def fnExactRankChangeWrong : ChangeSpec := { name := "fnExactRankChange", fn := fun _ => fun
  | [d1, d2, d3, d4] => { results := [.lit (.bool false)], args := [d1, d2, d3, d4] }
  | _ => none }
def FnExactRankChangeWrongFalsely : Prop := fnExactRankChangeRow.holds Try.pinned (OpenSpec.ofChange fnExactRankChangeWrong)

/- THE SECOND FORM. 'bulk': how many values and letters a reading holds, each counted each time it is reached (what is shared counts as often as it is met; a slice's spare places count too). A statement '..UptoSaid' is the law's where the arguments, and the package variables that the reading takes, are together of bulk at most 1048576: NARROWER than '..Said'. Prove '..Said' where nothing that the law and all that it calls make is longer than what came in: it says more and counts as full. Else prove '..UptoSaid'. A law counts once. -/
mutual
def uptoBulk {H : Type} : DataW H → Nat
  | .lit (.string bytes) => bytes.length + 1
  | .lit _ => 1
  | .nil => 1
  | .ptr d => uptoBulk d + 1
  | .slice elems spare => uptoBulkAll elems + uptoBulkAll spare + 1
  | .agg parts => uptoBulkAll parts + 1
  | .iface _ d => uptoBulk d + 1
  | .map entries => uptoBulkEntries entries + 1
  | .held _ => 1
def uptoBulkAll {H : Type} : List (DataW H) → Nat
  | [] => 0
  | d :: r => uptoBulk d + uptoBulkAll r
def uptoBulkEntries {H : Type} : List (Lit × DataW H) → Nat
  | [] => 0
  | x :: r => uptoBulkEntry x + uptoBulkEntries r
def uptoBulkEntry {H : Type} : Lit × DataW H → Nat
  | (.string bytes, d) => bytes.length + uptoBulk d + 1
  | (_, d) => uptoBulk d + 1
 end
def uptoSmall : (H : Type) → List (DataW H) → Bool := fun _ ds => decide (uptoBulkAll ds ≤ 1048576)
def OpenSpec.upto (s : _root_.Go.ChangeSpec) : _root_.Go.OpenSpec := { _root_.Go.OpenSpec.ofChange s with cond := some uptoSmall }

/-- 'laws.FnAverages', WHERE WHAT IT READS IS OF BULK AT MOST 1048576: true; the input reads as it did. -/
def fnAveragesUptoRow : OpenClaim := { program := "ytmgkoldipchljaa", sum := "d4ddbf5b2e6254b2e0f6a8f62ea4bcfa96e4d049616b673468685bea2dc3b67d", func := "loop.example/g00887/laws.FnAverages", spec := "fnAverages", apart := false, narrowed := true }
def FnAveragesUptoSaid : Prop := fnAveragesUptoRow.holds Try.pinned (OpenSpec.upto fnAveragesSpec)

/-- 'laws.FnRedress', WHERE WHAT IT READS IS OF BULK AT MOST 1048576: true; the input reads as it did. -/
def fnRedressUptoRow : OpenClaim := { program := "ytmgkoldipchljaa", sum := "d4ddbf5b2e6254b2e0f6a8f62ea4bcfa96e4d049616b673468685bea2dc3b67d", func := "loop.example/g00887/laws.FnRedress", spec := "fnRedress", unfollowed := true, recurses := true, apart := false, narrowed := true }
def FnRedressUptoSaid : Prop := fnRedressUptoRow.holds Try.pinned (OpenSpec.upto fnRedressSpec)

/-- 'laws.FnExactRankChange', WHERE WHAT IT READS IS OF BULK AT MOST 1048576: true; the input reads as it did. -/
def fnExactRankChangeUptoRow : OpenClaim := { program := "ytmgkoldipchljaa", sum := "d4ddbf5b2e6254b2e0f6a8f62ea4bcfa96e4d049616b673468685bea2dc3b67d", func := "loop.example/g00887/laws.FnExactRankChange", spec := "fnExactRankChange", unfollowed := true, recurses := true, apart := false, narrowed := true }
def FnExactRankChangeUptoSaid : Prop := fnExactRankChangeUptoRow.holds Try.pinned (OpenSpec.upto fnExactRankChangeSpec)

end Rows
end Go.Proofs.Ytmgkoldipchljaa

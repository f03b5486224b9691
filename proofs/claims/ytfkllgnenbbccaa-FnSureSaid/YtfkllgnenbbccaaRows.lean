/-
  No cell of these rows narrows 'for every input' (looked for: loops, veiled, ifaces, maps, wideKeys, modest, calm, conditions, laid).
  DERIVED. THE GIVEN ROWS OF THIS SEAT. 11 by the template 'for every input the law returns true; each argument reads behind the call as it read before'; 0 by the template 'total and deterministic' (their statements: YtfkllgnenbbccaaTotals.lean).
  GIVEN WITH THE SEED: the statements are not yours to turn. If you find one false, say at which input.
  Laid BY PROGRAM, IN A SANDBOX (cutbox-rows.mjs): the forced cells as the released guide's own fill.sh prints them over the translation c68865065ec05741… (all of the seat's roots in one cut). By AI agents, Wed Nov 11 2026. No macro, syntax, notation, axiom, sorry.
-/
import Derived.Test.YtfkllgnenbbccaaChecked
import GoSem.Claim
import GoSem.ClaimJoined
import GoSem.ClaimMapViews
import Derived.JoinedTies
import Derived.KernelRfl
namespace Go.Proofs.Ytfkllgnenbbccaa
/- THE CELL 'sum', in the pinned program and in every row, IS THE sha256 OF THE DUMP (.gsa) THAT YtfkllgnenbbccaaProg.lean LOADS. Nothing in Lean hashes anything: it is a label: what it is worth is what the hold of that sum in a sandbox is worth. -/
noncomputable def Try.pinned : Pinned := { name := "ytfkllgnenbbccaa", sum := "c68865065ec057413d312b15e3e9e8f9a6671b245ff1726853a72ca07f439cf2", checked := Try.checked }
namespace Rows
def none {H : Type} : Left H := { results := [], args := [] }

/-- 'laws.FnExactIsMedalList': WHATEVER THE INPUT: true; the input reads as it did. -/
def fnExactIsMedalListSpec : ChangeSpec := { name := "fnExactIsMedalList", fn := fun _ => fun
  | [d] => { results := [.lit (.bool true)], args := [d] }
  | _ => none }
def fnExactIsMedalListRow : OpenClaim := { program := "ytfkllgnenbbccaa", sum := "c68865065ec057413d312b15e3e9e8f9a6671b245ff1726853a72ca07f439cf2", func := "loop.example/g00887/laws.FnExactIsMedalList", spec := "fnExactIsMedalList", apart := false }
def FnExactIsMedalListSaid : Prop := fnExactIsMedalListRow.holds Try.pinned (OpenSpec.ofChange fnExactIsMedalListSpec)

/-- ITS FALSE NEIGHBOUR: 'it returns false'. Refute it at one input. -/
def fnExactIsMedalListWrong : ChangeSpec := { name := "fnExactIsMedalList", fn := fun _ => fun
  | [d] => { results := [.lit (.bool false)], args := [d] }
  | _ => none }
def FnExactIsMedalListWrongFalsely : Prop := fnExactIsMedalListRow.holds Try.pinned (OpenSpec.ofChange fnExactIsMedalListWrong)

/-- 'laws.FnExactFinalPoints': WHATEVER THE INPUT: true; the input reads as it did. -/
def fnExactFinalPointsSpec : ChangeSpec := { name := "fnExactFinalPoints", fn := fun _ => fun
  | [d1, d2, d3] => { results := [.lit (.bool true)], args := [d1, d2, d3] }
  | _ => none }
def fnExactFinalPointsRow : OpenClaim := { program := "ytfkllgnenbbccaa", sum := "c68865065ec057413d312b15e3e9e8f9a6671b245ff1726853a72ca07f439cf2", func := "loop.example/g00887/laws.FnExactFinalPoints", spec := "fnExactFinalPoints", apart := false }
def FnExactFinalPointsSaid : Prop := fnExactFinalPointsRow.holds Try.pinned (OpenSpec.ofChange fnExactFinalPointsSpec)

/-- ITS FALSE NEIGHBOUR: 'it returns false'. Refute it at one input. -/
def fnExactFinalPointsWrong : ChangeSpec := { name := "fnExactFinalPoints", fn := fun _ => fun
  | [d1, d2, d3] => { results := [.lit (.bool false)], args := [d1, d2, d3] }
  | _ => none }
def FnExactFinalPointsWrongFalsely : Prop := fnExactFinalPointsRow.holds Try.pinned (OpenSpec.ofChange fnExactFinalPointsWrong)

/-- 'laws.FnExactFinalRank': WHATEVER THE INPUT: true; the input reads as it did. -/
def fnExactFinalRankSpec : ChangeSpec := { name := "fnExactFinalRank", fn := fun _ => fun
  | [d1, d2, d3, d4] => { results := [.lit (.bool true)], args := [d1, d2, d3, d4] }
  | _ => none }
def fnExactFinalRankRow : OpenClaim := { program := "ytfkllgnenbbccaa", sum := "c68865065ec057413d312b15e3e9e8f9a6671b245ff1726853a72ca07f439cf2", func := "loop.example/g00887/laws.FnExactFinalRank", spec := "fnExactFinalRank", unfollowed := true, recurses := true, apart := false }
def FnExactFinalRankSaid : Prop := fnExactFinalRankRow.holds Try.pinned (OpenSpec.ofChange fnExactFinalRankSpec)

/-- ITS FALSE NEIGHBOUR: 'it returns false'. Refute it at one input. -/
def fnExactFinalRankWrong : ChangeSpec := { name := "fnExactFinalRank", fn := fun _ => fun
  | [d1, d2, d3, d4] => { results := [.lit (.bool false)], args := [d1, d2, d3, d4] }
  | _ => none }
def FnExactFinalRankWrongFalsely : Prop := fnExactFinalRankRow.holds Try.pinned (OpenSpec.ofChange fnExactFinalRankWrong)

/-- 'laws.FnExactFinalOrder': WHATEVER THE INPUT: true; the input reads as it did. -/
def fnExactFinalOrderSpec : ChangeSpec := { name := "fnExactFinalOrder", fn := fun _ => fun
  | [d1, d2, d3] => { results := [.lit (.bool true)], args := [d1, d2, d3] }
  | _ => none }
def fnExactFinalOrderRow : OpenClaim := { program := "ytfkllgnenbbccaa", sum := "c68865065ec057413d312b15e3e9e8f9a6671b245ff1726853a72ca07f439cf2", func := "loop.example/g00887/laws.FnExactFinalOrder", spec := "fnExactFinalOrder", unfollowed := true, recurses := true, apart := false }
def FnExactFinalOrderSaid : Prop := fnExactFinalOrderRow.holds Try.pinned (OpenSpec.ofChange fnExactFinalOrderSpec)

/-- ITS FALSE NEIGHBOUR: 'it returns false'. Refute it at one input. -/
def fnExactFinalOrderWrong : ChangeSpec := { name := "fnExactFinalOrder", fn := fun _ => fun
  | [d1, d2, d3] => { results := [.lit (.bool false)], args := [d1, d2, d3] }
  | _ => none }
def FnExactFinalOrderWrongFalsely : Prop := fnExactFinalOrderRow.holds Try.pinned (OpenSpec.ofChange fnExactFinalOrderWrong)

/-- 'laws.FnExactCanWin': WHATEVER THE INPUT: true; the input reads as it did. -/
def fnExactCanWinSpec : ChangeSpec := { name := "fnExactCanWin", fn := fun _ => fun
  | [d1, d2, d3] => { results := [.lit (.bool true)], args := [d1, d2, d3] }
  | _ => none }
def fnExactCanWinRow : OpenClaim := { program := "ytfkllgnenbbccaa", sum := "c68865065ec057413d312b15e3e9e8f9a6671b245ff1726853a72ca07f439cf2", func := "loop.example/g00887/laws.FnExactCanWin", spec := "fnExactCanWin", unfollowed := true, recurses := true, apart := false }
def FnExactCanWinSaid : Prop := fnExactCanWinRow.holds Try.pinned (OpenSpec.ofChange fnExactCanWinSpec)

/-- ITS FALSE NEIGHBOUR: 'it returns false'. Refute it at one input. -/
def fnExactCanWinWrong : ChangeSpec := { name := "fnExactCanWin", fn := fun _ => fun
  | [d1, d2, d3] => { results := [.lit (.bool false)], args := [d1, d2, d3] }
  | _ => none }
def FnExactCanWinWrongFalsely : Prop := fnExactCanWinRow.holds Try.pinned (OpenSpec.ofChange fnExactCanWinWrong)

/-- 'laws.FnExactRankRange': WHATEVER THE INPUT: true; the input reads as it did. -/
def fnExactRankRangeSpec : ChangeSpec := { name := "fnExactRankRange", fn := fun _ => fun
  | [d1, d2, d3] => { results := [.lit (.bool true)], args := [d1, d2, d3] }
  | _ => none }
def fnExactRankRangeRow : OpenClaim := { program := "ytfkllgnenbbccaa", sum := "c68865065ec057413d312b15e3e9e8f9a6671b245ff1726853a72ca07f439cf2", func := "loop.example/g00887/laws.FnExactRankRange", spec := "fnExactRankRange", unfollowed := true, recurses := true, apart := false }
def FnExactRankRangeSaid : Prop := fnExactRankRangeRow.holds Try.pinned (OpenSpec.ofChange fnExactRankRangeSpec)

/-- ITS FALSE NEIGHBOUR: 'it returns false'. Refute it at one input. -/
def fnExactRankRangeWrong : ChangeSpec := { name := "fnExactRankRange", fn := fun _ => fun
  | [d1, d2, d3] => { results := [.lit (.bool false)], args := [d1, d2, d3] }
  | _ => none }
def FnExactRankRangeWrongFalsely : Prop := fnExactRankRangeRow.holds Try.pinned (OpenSpec.ofChange fnExactRankRangeWrong)

/-- 'laws.FnExactSurePlace': WHATEVER THE INPUT: true; the input reads as it did. -/
def fnExactSurePlaceSpec : ChangeSpec := { name := "fnExactSurePlace", fn := fun _ => fun
  | [d1, d2, d3, d4] => { results := [.lit (.bool true)], args := [d1, d2, d3, d4] }
  | _ => none }
def fnExactSurePlaceRow : OpenClaim := { program := "ytfkllgnenbbccaa", sum := "c68865065ec057413d312b15e3e9e8f9a6671b245ff1726853a72ca07f439cf2", func := "loop.example/g00887/laws.FnExactSurePlace", spec := "fnExactSurePlace", unfollowed := true, recurses := true, apart := false }
def FnExactSurePlaceSaid : Prop := fnExactSurePlaceRow.holds Try.pinned (OpenSpec.ofChange fnExactSurePlaceSpec)

/-- ITS FALSE NEIGHBOUR: 'it returns false'. Refute it at one input. -/
def fnExactSurePlaceWrong : ChangeSpec := { name := "fnExactSurePlace", fn := fun _ => fun
  | [d1, d2, d3, d4] => { results := [.lit (.bool false)], args := [d1, d2, d3, d4] }
  | _ => none }
def FnExactSurePlaceWrongFalsely : Prop := fnExactSurePlaceRow.holds Try.pinned (OpenSpec.ofChange fnExactSurePlaceWrong)

/-- 'laws.FnExactFullOrder': WHATEVER THE INPUT: true; the input reads as it did. -/
def fnExactFullOrderSpec : ChangeSpec := { name := "fnExactFullOrder", fn := fun _ => fun
  | [d1, d2, d3, d4] => { results := [.lit (.bool true)], args := [d1, d2, d3, d4] }
  | _ => none }
def fnExactFullOrderRow : OpenClaim := { program := "ytfkllgnenbbccaa", sum := "c68865065ec057413d312b15e3e9e8f9a6671b245ff1726853a72ca07f439cf2", func := "loop.example/g00887/laws.FnExactFullOrder", spec := "fnExactFullOrder", unfollowed := true, recurses := true, apart := false }
def FnExactFullOrderSaid : Prop := fnExactFullOrderRow.holds Try.pinned (OpenSpec.ofChange fnExactFullOrderSpec)

/-- ITS FALSE NEIGHBOUR: 'it returns false'. Refute it at one input. -/
def fnExactFullOrderWrong : ChangeSpec := { name := "fnExactFullOrder", fn := fun _ => fun
  | [d1, d2, d3, d4] => { results := [.lit (.bool false)], args := [d1, d2, d3, d4] }
  | _ => none }
def FnExactFullOrderWrongFalsely : Prop := fnExactFullOrderRow.holds Try.pinned (OpenSpec.ofChange fnExactFullOrderWrong)

/-- 'laws.FnWinners': WHATEVER THE INPUT: true; the input reads as it did. -/
def fnWinnersSpec : ChangeSpec := { name := "fnWinners", fn := fun _ => fun
  | [d] => { results := [.lit (.bool true)], args := [d] }
  | _ => none }
def fnWinnersRow : OpenClaim := { program := "ytfkllgnenbbccaa", sum := "c68865065ec057413d312b15e3e9e8f9a6671b245ff1726853a72ca07f439cf2", func := "loop.example/g00887/laws.FnWinners", spec := "fnWinners", unfollowed := true, recurses := true, apart := false }
def FnWinnersSaid : Prop := fnWinnersRow.holds Try.pinned (OpenSpec.ofChange fnWinnersSpec)

/-- ITS FALSE NEIGHBOUR: 'it returns false'. Refute it at one input. -/
def fnWinnersWrong : ChangeSpec := { name := "fnWinners", fn := fun _ => fun
  | [d] => { results := [.lit (.bool false)], args := [d] }
  | _ => none }
def FnWinnersWrongFalsely : Prop := fnWinnersRow.holds Try.pinned (OpenSpec.ofChange fnWinnersWrong)

/-- 'laws.FnFinals': WHATEVER THE INPUT: true; the input reads as it did. -/
def fnFinalsSpec : ChangeSpec := { name := "fnFinals", fn := fun _ => fun
  | [d] => { results := [.lit (.bool true)], args := [d] }
  | _ => none }
def fnFinalsRow : OpenClaim := { program := "ytfkllgnenbbccaa", sum := "c68865065ec057413d312b15e3e9e8f9a6671b245ff1726853a72ca07f439cf2", func := "loop.example/g00887/laws.FnFinals", spec := "fnFinals", unfollowed := true, recurses := true, apart := false }
def FnFinalsSaid : Prop := fnFinalsRow.holds Try.pinned (OpenSpec.ofChange fnFinalsSpec)

/-- ITS FALSE NEIGHBOUR: 'it returns false'. Refute it at one input. -/
def fnFinalsWrong : ChangeSpec := { name := "fnFinals", fn := fun _ => fun
  | [d] => { results := [.lit (.bool false)], args := [d] }
  | _ => none }
def FnFinalsWrongFalsely : Prop := fnFinalsRow.holds Try.pinned (OpenSpec.ofChange fnFinalsWrong)

/-- 'laws.FnSure': WHATEVER THE INPUT: true; the input reads as it did. -/
def fnSureSpec : ChangeSpec := { name := "fnSure", fn := fun _ => fun
  | [d] => { results := [.lit (.bool true)], args := [d] }
  | _ => none }
def fnSureRow : OpenClaim := { program := "ytfkllgnenbbccaa", sum := "c68865065ec057413d312b15e3e9e8f9a6671b245ff1726853a72ca07f439cf2", func := "loop.example/g00887/laws.FnSure", spec := "fnSure", unfollowed := true, recurses := true, apart := false }
def FnSureSaid : Prop := fnSureRow.holds Try.pinned (OpenSpec.ofChange fnSureSpec)

/-- ITS FALSE NEIGHBOUR: 'it returns false'. Refute it at one input. -/
def fnSureWrong : ChangeSpec := { name := "fnSure", fn := fun _ => fun
  | [d] => { results := [.lit (.bool false)], args := [d] }
  | _ => none }
def FnSureWrongFalsely : Prop := fnSureRow.holds Try.pinned (OpenSpec.ofChange fnSureWrong)

/- THE SECOND FORM. 'bulk': how many values and letters a reading holds, each counted each time it is reached (what is shared counts as often as it is met; a slice's spare places count too). A statement '..UptoSaid' is the law's where the arguments, and the package variables that the reading takes, are together of bulk at most 1048576: NARROWER than '..Said'. Prove '..Said' where nothing that the law and all that it calls make is longer than what came in: it says more and counts as full. Else prove '..UptoSaid'. A law counts once. -/
mutual
def uptoBulk {H : Type} : DataW H → Nat
  | .lit (.string bytes) => bytes.length + 1
  | .lit _ => 1
  | .nil => 1
  | .ptr d => uptoBulk d + 1
  | .slice elems spare => uptoBulkAll elems + uptoBulkAll spare + 1
  | .agg parts => uptoBulkAll parts + 1
  | .iface _ d => uptoBulk d + 1
  | .map entries => uptoBulkEntries entries + 1
  | .held _ => 1
def uptoBulkAll {H : Type} : List (DataW H) → Nat
  | [] => 0
  | d :: r => uptoBulk d + uptoBulkAll r
def uptoBulkEntries {H : Type} : List (Lit × DataW H) → Nat
  | [] => 0
  | x :: r => uptoBulkEntry x + uptoBulkEntries r
def uptoBulkEntry {H : Type} : Lit × DataW H → Nat
  | (.string bytes, d) => bytes.length + uptoBulk d + 1
  | (_, d) => uptoBulk d + 1
 end
def uptoSmall : (H : Type) → List (DataW H) → Bool := fun _ ds => decide (uptoBulkAll ds ≤ 1048576)
def OpenSpec.upto (s : _root_.Go.ChangeSpec) : _root_.Go.OpenSpec := { _root_.Go.OpenSpec.ofChange s with cond := some uptoSmall }

/-- 'laws.FnExactIsMedalList', WHERE WHAT IT READS IS OF BULK AT MOST 1048576: true; the input reads as it did. -/
def fnExactIsMedalListUptoRow : OpenClaim := { program := "ytfkllgnenbbccaa", sum := "c68865065ec057413d312b15e3e9e8f9a6671b245ff1726853a72ca07f439cf2", func := "loop.example/g00887/laws.FnExactIsMedalList", spec := "fnExactIsMedalList", apart := false, narrowed := true }
def FnExactIsMedalListUptoSaid : Prop := fnExactIsMedalListUptoRow.holds Try.pinned (OpenSpec.upto fnExactIsMedalListSpec)

/-- 'laws.FnExactFinalPoints', WHERE WHAT IT READS IS OF BULK AT MOST 1048576: true; the input reads as it did. -/
def fnExactFinalPointsUptoRow : OpenClaim := { program := "ytfkllgnenbbccaa", sum := "c68865065ec057413d312b15e3e9e8f9a6671b245ff1726853a72ca07f439cf2", func := "loop.example/g00887/laws.FnExactFinalPoints", spec := "fnExactFinalPoints", apart := false, narrowed := true }
def FnExactFinalPointsUptoSaid : Prop := fnExactFinalPointsUptoRow.holds Try.pinned (OpenSpec.upto fnExactFinalPointsSpec)

/-- 'laws.FnExactFinalRank', WHERE WHAT IT READS IS OF BULK AT MOST 1048576: true; the input reads as it did. -/
def fnExactFinalRankUptoRow : OpenClaim := { program := "ytfkllgnenbbccaa", sum := "c68865065ec057413d312b15e3e9e8f9a6671b245ff1726853a72ca07f439cf2", func := "loop.example/g00887/laws.FnExactFinalRank", spec := "fnExactFinalRank", unfollowed := true, recurses := true, apart := false, narrowed := true }
def FnExactFinalRankUptoSaid : Prop := fnExactFinalRankUptoRow.holds Try.pinned (OpenSpec.upto fnExactFinalRankSpec)

/-- 'laws.FnExactFinalOrder', WHERE WHAT IT READS IS OF BULK AT MOST 1048576: true; the input reads as it did. -/
def fnExactFinalOrderUptoRow : OpenClaim := { program := "ytfkllgnenbbccaa", sum := "c68865065ec057413d312b15e3e9e8f9a6671b245ff1726853a72ca07f439cf2", func := "loop.example/g00887/laws.FnExactFinalOrder", spec := "fnExactFinalOrder", unfollowed := true, recurses := true, apart := false, narrowed := true }
def FnExactFinalOrderUptoSaid : Prop := fnExactFinalOrderUptoRow.holds Try.pinned (OpenSpec.upto fnExactFinalOrderSpec)

/-- 'laws.FnExactCanWin', WHERE WHAT IT READS IS OF BULK AT MOST 1048576: true; the input reads as it did. -/
def fnExactCanWinUptoRow : OpenClaim := { program := "ytfkllgnenbbccaa", sum := "c68865065ec057413d312b15e3e9e8f9a6671b245ff1726853a72ca07f439cf2", func := "loop.example/g00887/laws.FnExactCanWin", spec := "fnExactCanWin", unfollowed := true, recurses := true, apart := false, narrowed := true }
def FnExactCanWinUptoSaid : Prop := fnExactCanWinUptoRow.holds Try.pinned (OpenSpec.upto fnExactCanWinSpec)

/-- 'laws.FnExactRankRange', WHERE WHAT IT READS IS OF BULK AT MOST 1048576: true; the input reads as it did. -/
def fnExactRankRangeUptoRow : OpenClaim := { program := "ytfkllgnenbbccaa", sum := "c68865065ec057413d312b15e3e9e8f9a6671b245ff1726853a72ca07f439cf2", func := "loop.example/g00887/laws.FnExactRankRange", spec := "fnExactRankRange", unfollowed := true, recurses := true, apart := false, narrowed := true }
def FnExactRankRangeUptoSaid : Prop := fnExactRankRangeUptoRow.holds Try.pinned (OpenSpec.upto fnExactRankRangeSpec)

/-- 'laws.FnExactSurePlace', WHERE WHAT IT READS IS OF BULK AT MOST 1048576: true; the input reads as it did. -/
def fnExactSurePlaceUptoRow : OpenClaim := { program := "ytfkllgnenbbccaa", sum := "c68865065ec057413d312b15e3e9e8f9a6671b245ff1726853a72ca07f439cf2", func := "loop.example/g00887/laws.FnExactSurePlace", spec := "fnExactSurePlace", unfollowed := true, recurses := true, apart := false, narrowed := true }
def FnExactSurePlaceUptoSaid : Prop := fnExactSurePlaceUptoRow.holds Try.pinned (OpenSpec.upto fnExactSurePlaceSpec)

/-- 'laws.FnExactFullOrder', WHERE WHAT IT READS IS OF BULK AT MOST 1048576: true; the input reads as it did. -/
def fnExactFullOrderUptoRow : OpenClaim := { program := "ytfkllgnenbbccaa", sum := "c68865065ec057413d312b15e3e9e8f9a6671b245ff1726853a72ca07f439cf2", func := "loop.example/g00887/laws.FnExactFullOrder", spec := "fnExactFullOrder", unfollowed := true, recurses := true, apart := false, narrowed := true }
def FnExactFullOrderUptoSaid : Prop := fnExactFullOrderUptoRow.holds Try.pinned (OpenSpec.upto fnExactFullOrderSpec)

/-- 'laws.FnWinners', WHERE WHAT IT READS IS OF BULK AT MOST 1048576: true; the input reads as it did. -/
def fnWinnersUptoRow : OpenClaim := { program := "ytfkllgnenbbccaa", sum := "c68865065ec057413d312b15e3e9e8f9a6671b245ff1726853a72ca07f439cf2", func := "loop.example/g00887/laws.FnWinners", spec := "fnWinners", unfollowed := true, recurses := true, apart := false, narrowed := true }
def FnWinnersUptoSaid : Prop := fnWinnersUptoRow.holds Try.pinned (OpenSpec.upto fnWinnersSpec)

/-- 'laws.FnFinals', WHERE WHAT IT READS IS OF BULK AT MOST 1048576: true; the input reads as it did. -/
def fnFinalsUptoRow : OpenClaim := { program := "ytfkllgnenbbccaa", sum := "c68865065ec057413d312b15e3e9e8f9a6671b245ff1726853a72ca07f439cf2", func := "loop.example/g00887/laws.FnFinals", spec := "fnFinals", unfollowed := true, recurses := true, apart := false, narrowed := true }
def FnFinalsUptoSaid : Prop := fnFinalsUptoRow.holds Try.pinned (OpenSpec.upto fnFinalsSpec)

/-- 'laws.FnSure', WHERE WHAT IT READS IS OF BULK AT MOST 1048576: true; the input reads as it did. -/
def fnSureUptoRow : OpenClaim := { program := "ytfkllgnenbbccaa", sum := "c68865065ec057413d312b15e3e9e8f9a6671b245ff1726853a72ca07f439cf2", func := "loop.example/g00887/laws.FnSure", spec := "fnSure", unfollowed := true, recurses := true, apart := false, narrowed := true }
def FnSureUptoSaid : Prop := fnSureUptoRow.holds Try.pinned (OpenSpec.upto fnSureSpec)

end Rows
end Go.Proofs.Ytfkllgnenbbccaa

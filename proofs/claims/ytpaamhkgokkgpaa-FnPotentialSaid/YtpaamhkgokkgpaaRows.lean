/-
  No cell of these rows narrows 'for every input' (looked for: loops, veiled, ifaces, maps, wideKeys, modest, calm, conditions, laid).
  DERIVED. THE GIVEN ROWS OF THIS SEAT. 12 by the template 'for every input the law returns true; each argument reads behind the call as it read before'; 0 by the template 'total and deterministic' (their statements: YtpaamhkgokkgpaaTotals.lean).
  GIVEN WITH THE SEED: the statements are not yours to turn. If you find one false, say at which input.
  Laid BY PROGRAM, IN A SANDBOX (cutbox-rows.mjs): the forced cells as the released guide's own fill.sh prints them over the translation 9f8a1d7826439c6b… (all of the seat's roots in one cut). By AI agents, Wed Nov 11 2026. No macro, syntax, notation, axiom, sorry.
-/
import Derived.Test.YtpaamhkgokkgpaaChecked
import GoSem.Claim
import GoSem.ClaimJoined
import GoSem.ClaimMapViews
import Derived.JoinedTies
import Derived.KernelRfl
namespace Go.Proofs.Ytpaamhkgokkgpaa
/- THE CELL 'sum', in the pinned program and in every row, IS THE sha256 OF THE DUMP (.gsa) THAT YtpaamhkgokkgpaaProg.lean LOADS. Nothing in Lean hashes anything: it is a label: what it is worth is what the hold of that sum in a sandbox is worth. -/
noncomputable def Try.pinned : Pinned := { name := "ytpaamhkgokkgpaa", sum := "9f8a1d7826439c6b1e5123fae48494981fb395a80fbc7384df802234e40494f4", checked := Try.checked }
namespace Rows
def none {H : Type} : Left H := { results := [], args := [] }

/-- 'laws.FnExactIsWindGrid': WHATEVER THE INPUT: true; the input reads as it did. -/
def fnExactIsWindGridSpec : ChangeSpec := { name := "fnExactIsWindGrid", fn := fun _ => fun
  | [d] => { results := [.lit (.bool true)], args := [d] }
  | _ => none }
def fnExactIsWindGridRow : OpenClaim := { program := "ytpaamhkgokkgpaa", sum := "9f8a1d7826439c6b1e5123fae48494981fb395a80fbc7384df802234e40494f4", func := "loop.example/g00887/laws.FnExactIsWindGrid", spec := "fnExactIsWindGrid", unfollowed := true, recurses := true, apart := false }
def FnExactIsWindGridSaid : Prop := fnExactIsWindGridRow.holds Try.pinned (OpenSpec.ofChange fnExactIsWindGridSpec)

/-- ITS FALSE NEIGHBOUR: 'it returns false'. Refute it at one input. -/
def fnExactIsWindGridWrong : ChangeSpec := { name := "fnExactIsWindGrid", fn := fun _ => fun
  | [d] => { results := [.lit (.bool false)], args := [d] }
  | _ => none }
def FnExactIsWindGridWrongFalsely : Prop := fnExactIsWindGridRow.holds Try.pinned (OpenSpec.ofChange fnExactIsWindGridWrong)

/-- 'laws.FnExactNeighbourOf': WHATEVER THE INPUT: true; the input reads as it did. -/
def fnExactNeighbourOfSpec : ChangeSpec := { name := "fnExactNeighbourOf", fn := fun _ => fun
  | [d1, d2, d3] => { results := [.lit (.bool true)], args := [d1, d2, d3] }
  | _ => none }
def fnExactNeighbourOfRow : OpenClaim := { program := "ytpaamhkgokkgpaa", sum := "9f8a1d7826439c6b1e5123fae48494981fb395a80fbc7384df802234e40494f4", func := "loop.example/g00887/laws.FnExactNeighbourOf", spec := "fnExactNeighbourOf", unfollowed := true, recurses := true, apart := false }
def FnExactNeighbourOfSaid : Prop := fnExactNeighbourOfRow.holds Try.pinned (OpenSpec.ofChange fnExactNeighbourOfSpec)

/-- ITS FALSE NEIGHBOUR: 'it returns false'. Refute it at one input. -/
def fnExactNeighbourOfWrong : ChangeSpec := { name := "fnExactNeighbourOf", fn := fun _ => fun
  | [d1, d2, d3] => { results := [.lit (.bool false)], args := [d1, d2, d3] }
  | _ => none }
def FnExactNeighbourOfWrongFalsely : Prop := fnExactNeighbourOfRow.holds Try.pinned (OpenSpec.ofChange fnExactNeighbourOfWrong)

/-- 'laws.FnExactMoveTime': WHATEVER THE INPUT: true; the input reads as it did. -/
def fnExactMoveTimeSpec : ChangeSpec := { name := "fnExactMoveTime", fn := fun _ => fun
  | [d1, d2, d3] => { results := [.lit (.bool true)], args := [d1, d2, d3] }
  | _ => none }
def fnExactMoveTimeRow : OpenClaim := { program := "ytpaamhkgokkgpaa", sum := "9f8a1d7826439c6b1e5123fae48494981fb395a80fbc7384df802234e40494f4", func := "loop.example/g00887/laws.FnExactMoveTime", spec := "fnExactMoveTime", inPlace := ["math.sqrt"], unfollowed := true, recurses := true, apart := false }
def FnExactMoveTimeSaid : Prop := fnExactMoveTimeRow.holds Try.pinned (OpenSpec.ofChange fnExactMoveTimeSpec)

/-- ITS FALSE NEIGHBOUR: 'it returns false'. Refute it at one input. -/
def fnExactMoveTimeWrong : ChangeSpec := { name := "fnExactMoveTime", fn := fun _ => fun
  | [d1, d2, d3] => { results := [.lit (.bool false)], args := [d1, d2, d3] }
  | _ => none }
def FnExactMoveTimeWrongFalsely : Prop := fnExactMoveTimeRow.holds Try.pinned (OpenSpec.ofChange fnExactMoveTimeWrong)

/-- 'laws.FnExactIsPotential': WHATEVER THE INPUT: true; the input reads as it did. -/
def fnExactIsPotentialSpec : ChangeSpec := { name := "fnExactIsPotential", fn := fun _ => fun
  | [d1, d2, d3] => { results := [.lit (.bool true)], args := [d1, d2, d3] }
  | _ => none }
def fnExactIsPotentialRow : OpenClaim := { program := "ytpaamhkgokkgpaa", sum := "9f8a1d7826439c6b1e5123fae48494981fb395a80fbc7384df802234e40494f4", func := "loop.example/g00887/laws.FnExactIsPotential", spec := "fnExactIsPotential", inPlace := ["math.sqrt"], unfollowed := true, recurses := true, apart := false }
def FnExactIsPotentialSaid : Prop := fnExactIsPotentialRow.holds Try.pinned (OpenSpec.ofChange fnExactIsPotentialSpec)

/-- ITS FALSE NEIGHBOUR: 'it returns false'. Refute it at one input. -/
def fnExactIsPotentialWrong : ChangeSpec := { name := "fnExactIsPotential", fn := fun _ => fun
  | [d1, d2, d3] => { results := [.lit (.bool false)], args := [d1, d2, d3] }
  | _ => none }
def FnExactIsPotentialWrongFalsely : Prop := fnExactIsPotentialRow.holds Try.pinned (OpenSpec.ofChange fnExactIsPotentialWrong)

/-- 'laws.FnExactRouteTime': WHATEVER THE INPUT: true; the input reads as it did. -/
def fnExactRouteTimeSpec : ChangeSpec := { name := "fnExactRouteTime", fn := fun _ => fun
  | [d1, d2, d3] => { results := [.lit (.bool true)], args := [d1, d2, d3] }
  | _ => none }
def fnExactRouteTimeRow : OpenClaim := { program := "ytpaamhkgokkgpaa", sum := "9f8a1d7826439c6b1e5123fae48494981fb395a80fbc7384df802234e40494f4", func := "loop.example/g00887/laws.FnExactRouteTime", spec := "fnExactRouteTime", inPlace := ["math.sqrt"], unfollowed := true, recurses := true, apart := false }
def FnExactRouteTimeSaid : Prop := fnExactRouteTimeRow.holds Try.pinned (OpenSpec.ofChange fnExactRouteTimeSpec)

/-- ITS FALSE NEIGHBOUR: 'it returns false'. Refute it at one input. -/
def fnExactRouteTimeWrong : ChangeSpec := { name := "fnExactRouteTime", fn := fun _ => fun
  | [d1, d2, d3] => { results := [.lit (.bool false)], args := [d1, d2, d3] }
  | _ => none }
def FnExactRouteTimeWrongFalsely : Prop := fnExactRouteTimeRow.holds Try.pinned (OpenSpec.ofChange fnExactRouteTimeWrong)

/-- 'laws.FnExactCellsOnRoute': WHATEVER THE INPUT: true; the input reads as it did. -/
def fnExactCellsOnRouteSpec : ChangeSpec := { name := "fnExactCellsOnRoute", fn := fun _ => fun
  | [d1, d2, d3] => { results := [.lit (.bool true)], args := [d1, d2, d3] }
  | _ => none }
def fnExactCellsOnRouteRow : OpenClaim := { program := "ytpaamhkgokkgpaa", sum := "9f8a1d7826439c6b1e5123fae48494981fb395a80fbc7384df802234e40494f4", func := "loop.example/g00887/laws.FnExactCellsOnRoute", spec := "fnExactCellsOnRoute", inPlace := ["math.sqrt"], unfollowed := true, recurses := true, apart := false }
def FnExactCellsOnRouteSaid : Prop := fnExactCellsOnRouteRow.holds Try.pinned (OpenSpec.ofChange fnExactCellsOnRouteSpec)

/-- ITS FALSE NEIGHBOUR: 'it returns false'. Refute it at one input. -/
def fnExactCellsOnRouteWrong : ChangeSpec := { name := "fnExactCellsOnRoute", fn := fun _ => fun
  | [d1, d2, d3] => { results := [.lit (.bool false)], args := [d1, d2, d3] }
  | _ => none }
def FnExactCellsOnRouteWrongFalsely : Prop := fnExactCellsOnRouteRow.holds Try.pinned (OpenSpec.ofChange fnExactCellsOnRouteWrong)

/-- 'laws.FnExactRouteProved': WHATEVER THE INPUT: true; the input reads as it did. -/
def fnExactRouteProvedSpec : ChangeSpec := { name := "fnExactRouteProved", fn := fun _ => fun
  | [d1, d2, d3, d4] => { results := [.lit (.bool true)], args := [d1, d2, d3, d4] }
  | _ => none }
def fnExactRouteProvedRow : OpenClaim := { program := "ytpaamhkgokkgpaa", sum := "9f8a1d7826439c6b1e5123fae48494981fb395a80fbc7384df802234e40494f4", func := "loop.example/g00887/laws.FnExactRouteProved", spec := "fnExactRouteProved", inPlace := ["math.sqrt"], unfollowed := true, recurses := true, apart := false }
def FnExactRouteProvedSaid : Prop := fnExactRouteProvedRow.holds Try.pinned (OpenSpec.ofChange fnExactRouteProvedSpec)

/-- ITS FALSE NEIGHBOUR: 'it returns false'. Refute it at one input. -/
def fnExactRouteProvedWrong : ChangeSpec := { name := "fnExactRouteProved", fn := fun _ => fun
  | [d1, d2, d3, d4] => { results := [.lit (.bool false)], args := [d1, d2, d3, d4] }
  | _ => none }
def FnExactRouteProvedWrongFalsely : Prop := fnExactRouteProvedRow.holds Try.pinned (OpenSpec.ofChange fnExactRouteProvedWrong)

/-- 'laws.FnExactFastestTimes': WHATEVER THE INPUT: true; the input reads as it did. -/
def fnExactFastestTimesSpec : ChangeSpec := { name := "fnExactFastestTimes", fn := fun _ => fun
  | [d1, d2] => { results := [.lit (.bool true)], args := [d1, d2] }
  | _ => none }
def fnExactFastestTimesRow : OpenClaim := { program := "ytpaamhkgokkgpaa", sum := "9f8a1d7826439c6b1e5123fae48494981fb395a80fbc7384df802234e40494f4", func := "loop.example/g00887/laws.FnExactFastestTimes", spec := "fnExactFastestTimes", inPlace := ["math.sqrt"], unfollowed := true, recurses := true, apart := false }
def FnExactFastestTimesSaid : Prop := fnExactFastestTimesRow.holds Try.pinned (OpenSpec.ofChange fnExactFastestTimesSpec)

/-- ITS FALSE NEIGHBOUR: 'it returns false'. Refute it at one input. -/
def fnExactFastestTimesWrong : ChangeSpec := { name := "fnExactFastestTimes", fn := fun _ => fun
  | [d1, d2] => { results := [.lit (.bool false)], args := [d1, d2] }
  | _ => none }
def FnExactFastestTimesWrongFalsely : Prop := fnExactFastestTimesRow.holds Try.pinned (OpenSpec.ofChange fnExactFastestTimesWrong)

/-- 'laws.FnRoutes': WHATEVER THE INPUT: true; the input reads as it did. -/
def fnRoutesSpec : ChangeSpec := { name := "fnRoutes", fn := fun _ => fun
  | [d] => { results := [.lit (.bool true)], args := [d] }
  | _ => none }
def fnRoutesRow : OpenClaim := { program := "ytpaamhkgokkgpaa", sum := "9f8a1d7826439c6b1e5123fae48494981fb395a80fbc7384df802234e40494f4", func := "loop.example/g00887/laws.FnRoutes", spec := "fnRoutes", inPlace := ["math.sqrt"], unfollowed := true, recurses := true, apart := false }
def FnRoutesSaid : Prop := fnRoutesRow.holds Try.pinned (OpenSpec.ofChange fnRoutesSpec)

/-- ITS FALSE NEIGHBOUR: 'it returns false'. Refute it at one input. -/
def fnRoutesWrong : ChangeSpec := { name := "fnRoutes", fn := fun _ => fun
  | [d] => { results := [.lit (.bool false)], args := [d] }
  | _ => none }
def FnRoutesWrongFalsely : Prop := fnRoutesRow.holds Try.pinned (OpenSpec.ofChange fnRoutesWrong)

/-- 'laws.FnExactFastestRoute': WHATEVER THE INPUT: true; the input reads as it did. -/
def fnExactFastestRouteSpec : ChangeSpec := { name := "fnExactFastestRoute", fn := fun _ => fun
  | [d1, d2, d3] => { results := [.lit (.bool true)], args := [d1, d2, d3] }
  | _ => none }
def fnExactFastestRouteRow : OpenClaim := { program := "ytpaamhkgokkgpaa", sum := "9f8a1d7826439c6b1e5123fae48494981fb395a80fbc7384df802234e40494f4", func := "loop.example/g00887/laws.FnExactFastestRoute", spec := "fnExactFastestRoute", inPlace := ["math.sqrt"], unfollowed := true, recurses := true, apart := false }
def FnExactFastestRouteSaid : Prop := fnExactFastestRouteRow.holds Try.pinned (OpenSpec.ofChange fnExactFastestRouteSpec)

/-- ITS FALSE NEIGHBOUR: 'it returns false'. Refute it at one input. -/
def fnExactFastestRouteWrong : ChangeSpec := { name := "fnExactFastestRoute", fn := fun _ => fun
  | [d1, d2, d3] => { results := [.lit (.bool false)], args := [d1, d2, d3] }
  | _ => none }
def FnExactFastestRouteWrongFalsely : Prop := fnExactFastestRouteRow.holds Try.pinned (OpenSpec.ofChange fnExactFastestRouteWrong)

/-- 'laws.FnPotential': WHATEVER THE INPUT: true; the input reads as it did. -/
def fnPotentialSpec : ChangeSpec := { name := "fnPotential", fn := fun _ => fun
  | [d] => { results := [.lit (.bool true)], args := [d] }
  | _ => none }
def fnPotentialRow : OpenClaim := { program := "ytpaamhkgokkgpaa", sum := "9f8a1d7826439c6b1e5123fae48494981fb395a80fbc7384df802234e40494f4", func := "loop.example/g00887/laws.FnPotential", spec := "fnPotential", inPlace := ["math.sqrt"], unfollowed := true, recurses := true, apart := false }
def FnPotentialSaid : Prop := fnPotentialRow.holds Try.pinned (OpenSpec.ofChange fnPotentialSpec)

/-- ITS FALSE NEIGHBOUR: 'it returns false'. Refute it at one input. -/
def fnPotentialWrong : ChangeSpec := { name := "fnPotential", fn := fun _ => fun
  | [d] => { results := [.lit (.bool false)], args := [d] }
  | _ => none }
def FnPotentialWrongFalsely : Prop := fnPotentialRow.holds Try.pinned (OpenSpec.ofChange fnPotentialWrong)

/-- 'laws.FnFastest': WHATEVER THE INPUT: true; the input reads as it did. -/
def fnFastestSpec : ChangeSpec := { name := "fnFastest", fn := fun _ => fun
  | [d] => { results := [.lit (.bool true)], args := [d] }
  | _ => none }
def fnFastestRow : OpenClaim := { program := "ytpaamhkgokkgpaa", sum := "9f8a1d7826439c6b1e5123fae48494981fb395a80fbc7384df802234e40494f4", func := "loop.example/g00887/laws.FnFastest", spec := "fnFastest", inPlace := ["math.sqrt"], unfollowed := true, recurses := true, apart := false }
def FnFastestSaid : Prop := fnFastestRow.holds Try.pinned (OpenSpec.ofChange fnFastestSpec)

/-- ITS FALSE NEIGHBOUR: 'it returns false'. Refute it at one input. -/
def fnFastestWrong : ChangeSpec := { name := "fnFastest", fn := fun _ => fun
  | [d] => { results := [.lit (.bool false)], args := [d] }
  | _ => none }
def FnFastestWrongFalsely : Prop := fnFastestRow.holds Try.pinned (OpenSpec.ofChange fnFastestWrong)

/- THE SECOND FORM. 'bulk': how many values and letters a reading holds, each counted each time it is reached (what is shared counts as often as it is met; a slice's spare places count too). A statement '..UptoSaid' is the law's where the arguments, and the package variables that the reading takes, are together of bulk at most 1048576: NARROWER than '..Said'. Prove '..Said' where nothing that the law and all that it calls make is longer than what came in: it says more and counts as full. Else prove '..UptoSaid'. A law counts once. -/
mutual
def uptoBulk {H : Type} : DataW H → Nat
  | .lit (.string bytes) => bytes.length + 1
  | .lit _ => 1
  | .nil => 1
  | .ptr d => uptoBulk d + 1
  | .slice elems spare => uptoBulkAll elems + uptoBulkAll spare + 1
  | .agg parts => uptoBulkAll parts + 1
  | .iface _ d => uptoBulk d + 1
  | .map entries => uptoBulkEntries entries + 1
  | .held _ => 1
def uptoBulkAll {H : Type} : List (DataW H) → Nat
  | [] => 0
  | d :: r => uptoBulk d + uptoBulkAll r
def uptoBulkEntries {H : Type} : List (Lit × DataW H) → Nat
  | [] => 0
  | x :: r => uptoBulkEntry x + uptoBulkEntries r
def uptoBulkEntry {H : Type} : Lit × DataW H → Nat
  | (.string bytes, d) => bytes.length + uptoBulk d + 1
  | (_, d) => uptoBulk d + 1
 end
def uptoSmall : (H : Type) → List (DataW H) → Bool := fun _ ds => decide (uptoBulkAll ds ≤ 1048576)
def OpenSpec.upto (s : _root_.Go.ChangeSpec) : _root_.Go.OpenSpec := { _root_.Go.OpenSpec.ofChange s with cond := some uptoSmall }

/-- 'laws.FnExactIsWindGrid', WHERE WHAT IT READS IS OF BULK AT MOST 1048576: true; the input reads as it did. -/
def fnExactIsWindGridUptoRow : OpenClaim := { program := "ytpaamhkgokkgpaa", sum := "9f8a1d7826439c6b1e5123fae48494981fb395a80fbc7384df802234e40494f4", func := "loop.example/g00887/laws.FnExactIsWindGrid", spec := "fnExactIsWindGrid", unfollowed := true, recurses := true, apart := false, narrowed := true }
def FnExactIsWindGridUptoSaid : Prop := fnExactIsWindGridUptoRow.holds Try.pinned (OpenSpec.upto fnExactIsWindGridSpec)

/-- 'laws.FnExactNeighbourOf', WHERE WHAT IT READS IS OF BULK AT MOST 1048576: true; the input reads as it did. -/
def fnExactNeighbourOfUptoRow : OpenClaim := { program := "ytpaamhkgokkgpaa", sum := "9f8a1d7826439c6b1e5123fae48494981fb395a80fbc7384df802234e40494f4", func := "loop.example/g00887/laws.FnExactNeighbourOf", spec := "fnExactNeighbourOf", unfollowed := true, recurses := true, apart := false, narrowed := true }
def FnExactNeighbourOfUptoSaid : Prop := fnExactNeighbourOfUptoRow.holds Try.pinned (OpenSpec.upto fnExactNeighbourOfSpec)

/-- 'laws.FnExactMoveTime', WHERE WHAT IT READS IS OF BULK AT MOST 1048576: true; the input reads as it did. -/
def fnExactMoveTimeUptoRow : OpenClaim := { program := "ytpaamhkgokkgpaa", sum := "9f8a1d7826439c6b1e5123fae48494981fb395a80fbc7384df802234e40494f4", func := "loop.example/g00887/laws.FnExactMoveTime", spec := "fnExactMoveTime", inPlace := ["math.sqrt"], unfollowed := true, recurses := true, apart := false, narrowed := true }
def FnExactMoveTimeUptoSaid : Prop := fnExactMoveTimeUptoRow.holds Try.pinned (OpenSpec.upto fnExactMoveTimeSpec)

/-- 'laws.FnExactIsPotential', WHERE WHAT IT READS IS OF BULK AT MOST 1048576: true; the input reads as it did. -/
def fnExactIsPotentialUptoRow : OpenClaim := { program := "ytpaamhkgokkgpaa", sum := "9f8a1d7826439c6b1e5123fae48494981fb395a80fbc7384df802234e40494f4", func := "loop.example/g00887/laws.FnExactIsPotential", spec := "fnExactIsPotential", inPlace := ["math.sqrt"], unfollowed := true, recurses := true, apart := false, narrowed := true }
def FnExactIsPotentialUptoSaid : Prop := fnExactIsPotentialUptoRow.holds Try.pinned (OpenSpec.upto fnExactIsPotentialSpec)

/-- 'laws.FnExactRouteTime', WHERE WHAT IT READS IS OF BULK AT MOST 1048576: true; the input reads as it did. -/
def fnExactRouteTimeUptoRow : OpenClaim := { program := "ytpaamhkgokkgpaa", sum := "9f8a1d7826439c6b1e5123fae48494981fb395a80fbc7384df802234e40494f4", func := "loop.example/g00887/laws.FnExactRouteTime", spec := "fnExactRouteTime", inPlace := ["math.sqrt"], unfollowed := true, recurses := true, apart := false, narrowed := true }
def FnExactRouteTimeUptoSaid : Prop := fnExactRouteTimeUptoRow.holds Try.pinned (OpenSpec.upto fnExactRouteTimeSpec)

/-- 'laws.FnExactCellsOnRoute', WHERE WHAT IT READS IS OF BULK AT MOST 1048576: true; the input reads as it did. -/
def fnExactCellsOnRouteUptoRow : OpenClaim := { program := "ytpaamhkgokkgpaa", sum := "9f8a1d7826439c6b1e5123fae48494981fb395a80fbc7384df802234e40494f4", func := "loop.example/g00887/laws.FnExactCellsOnRoute", spec := "fnExactCellsOnRoute", inPlace := ["math.sqrt"], unfollowed := true, recurses := true, apart := false, narrowed := true }
def FnExactCellsOnRouteUptoSaid : Prop := fnExactCellsOnRouteUptoRow.holds Try.pinned (OpenSpec.upto fnExactCellsOnRouteSpec)

/-- 'laws.FnExactRouteProved', WHERE WHAT IT READS IS OF BULK AT MOST 1048576: true; the input reads as it did. -/
def fnExactRouteProvedUptoRow : OpenClaim := { program := "ytpaamhkgokkgpaa", sum := "9f8a1d7826439c6b1e5123fae48494981fb395a80fbc7384df802234e40494f4", func := "loop.example/g00887/laws.FnExactRouteProved", spec := "fnExactRouteProved", inPlace := ["math.sqrt"], unfollowed := true, recurses := true, apart := false, narrowed := true }
def FnExactRouteProvedUptoSaid : Prop := fnExactRouteProvedUptoRow.holds Try.pinned (OpenSpec.upto fnExactRouteProvedSpec)

/-- 'laws.FnExactFastestTimes', WHERE WHAT IT READS IS OF BULK AT MOST 1048576: true; the input reads as it did. -/
def fnExactFastestTimesUptoRow : OpenClaim := { program := "ytpaamhkgokkgpaa", sum := "9f8a1d7826439c6b1e5123fae48494981fb395a80fbc7384df802234e40494f4", func := "loop.example/g00887/laws.FnExactFastestTimes", spec := "fnExactFastestTimes", inPlace := ["math.sqrt"], unfollowed := true, recurses := true, apart := false, narrowed := true }
def FnExactFastestTimesUptoSaid : Prop := fnExactFastestTimesUptoRow.holds Try.pinned (OpenSpec.upto fnExactFastestTimesSpec)

/-- 'laws.FnRoutes', WHERE WHAT IT READS IS OF BULK AT MOST 1048576: true; the input reads as it did. -/
def fnRoutesUptoRow : OpenClaim := { program := "ytpaamhkgokkgpaa", sum := "9f8a1d7826439c6b1e5123fae48494981fb395a80fbc7384df802234e40494f4", func := "loop.example/g00887/laws.FnRoutes", spec := "fnRoutes", inPlace := ["math.sqrt"], unfollowed := true, recurses := true, apart := false, narrowed := true }
def FnRoutesUptoSaid : Prop := fnRoutesUptoRow.holds Try.pinned (OpenSpec.upto fnRoutesSpec)

/-- 'laws.FnExactFastestRoute', WHERE WHAT IT READS IS OF BULK AT MOST 1048576: true; the input reads as it did. -/
def fnExactFastestRouteUptoRow : OpenClaim := { program := "ytpaamhkgokkgpaa", sum := "9f8a1d7826439c6b1e5123fae48494981fb395a80fbc7384df802234e40494f4", func := "loop.example/g00887/laws.FnExactFastestRoute", spec := "fnExactFastestRoute", inPlace := ["math.sqrt"], unfollowed := true, recurses := true, apart := false, narrowed := true }
def FnExactFastestRouteUptoSaid : Prop := fnExactFastestRouteUptoRow.holds Try.pinned (OpenSpec.upto fnExactFastestRouteSpec)

/-- 'laws.FnPotential', WHERE WHAT IT READS IS OF BULK AT MOST 1048576: true; the input reads as it did. -/
def fnPotentialUptoRow : OpenClaim := { program := "ytpaamhkgokkgpaa", sum := "9f8a1d7826439c6b1e5123fae48494981fb395a80fbc7384df802234e40494f4", func := "loop.example/g00887/laws.FnPotential", spec := "fnPotential", inPlace := ["math.sqrt"], unfollowed := true, recurses := true, apart := false, narrowed := true }
def FnPotentialUptoSaid : Prop := fnPotentialUptoRow.holds Try.pinned (OpenSpec.upto fnPotentialSpec)

/-- 'laws.FnFastest', WHERE WHAT IT READS IS OF BULK AT MOST 1048576: true; the input reads as it did. -/
def fnFastestUptoRow : OpenClaim := { program := "ytpaamhkgokkgpaa", sum := "9f8a1d7826439c6b1e5123fae48494981fb395a80fbc7384df802234e40494f4", func := "loop.example/g00887/laws.FnFastest", spec := "fnFastest", inPlace := ["math.sqrt"], unfollowed := true, recurses := true, apart := false, narrowed := true }
def FnFastestUptoSaid : Prop := fnFastestUptoRow.holds Try.pinned (OpenSpec.upto fnFastestSpec)

end Rows
end Go.Proofs.Ytpaamhkgokkgpaa

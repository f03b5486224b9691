/-
  DERIVED. GIVEN WITH THE SEED: THE CARDS: each row of YthlnoahjfllhfaaGreatDoorRows.lean that lists a variable, with what it lists TIED to the program's text (the seventh form; the later family's looks); each row that meets fmt, with fmt's text TOLD by the authors' own Lean function (tested against real Go, not proved from fmt's source: count such statements apart). THE CARD IS WHAT COUNTS. Prove the row's statement (the work); the ties are given (YthlnoahjfllhfaaGreatDoorTie.lean); close each card by the builder's one call (the guide's Derived/Test/ToyasCard.lean, 'card_holds'). Laid BY PROGRAM, IN A SANDBOX (cutbox-door.mjs). By AI agents, Wed Nov 11 2026. No macro, syntax, notation, axiom, sorry.
-/
import Derived.Test.YthlnoahjfllhfaaGreatDoorRows
import GoSem.ClaimSeven
namespace Go.Proofs.YthlnoahjfllhfaaGreatDoor
namespace Rows

/-- THE TIED CARD OF 'laws.FnExactReadEnterLine'. -/
def fnExactReadEnterLineCard : Claim7 := { stood := { row := fnExactReadEnterLineRow, standIns := [], harness := (true, "cebbda11fc308bf5533303b8167c51e5b12b279a95310c53e5a8d701cd60447b"), looks := true }, kinds := [], alts := [], laidByText := true, laidKinds := [.data, .data, .data, .data, .sentinel, .sentinel, .pinned], laidTests := true, laidLooks := .later }
def FnExactReadEnterLineCardSaid : Prop := Claim7.holds Tryz.pinned (.plain (OpenSpec.ofChange fnExactReadEnterLineSpec)) fnExactReadEnterLineCard

/-- THE SECOND FORM's CARD OF 'laws.FnExactReadEnterLine'. -/
def fnExactReadEnterLineUptoCard : Claim7 := { stood := { row := fnExactReadEnterLineUptoRow, standIns := [], harness := (true, "cebbda11fc308bf5533303b8167c51e5b12b279a95310c53e5a8d701cd60447b"), looks := true }, kinds := [], alts := [], laidByText := true, laidKinds := [.data, .data, .data, .data, .sentinel, .sentinel, .pinned], laidTests := true, laidLooks := .later }
def FnExactReadEnterLineUptoCardSaid : Prop := Claim7.holds Tryz.pinned (.plain (OpenSpec.upto fnExactReadEnterLineSpec)) fnExactReadEnterLineUptoCard
end Rows
end Go.Proofs.YthlnoahjfllhfaaGreatDoor

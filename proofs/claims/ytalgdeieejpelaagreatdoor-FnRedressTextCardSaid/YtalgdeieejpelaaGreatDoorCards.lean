/-
  DERIVED. GIVEN WITH THE SEED: THE CARDS: each row of YtalgdeieejpelaaGreatDoorRows.lean that lists a variable, with what it lists TIED to the program's text (the seventh form; the later family's looks); each row that meets fmt, with fmt's text TOLD by the authors' own Lean function (tested against real Go, not proved from fmt's source: count such statements apart). THE CARD IS WHAT COUNTS. Prove the row's statement (the work); the ties are given (YtalgdeieejpelaaGreatDoorTie.lean); close each card by the builder's one call (the guide's Derived/Test/ToyasCard.lean, 'card_holds'). Laid BY PROGRAM, IN A SANDBOX (cutbox-door.mjs). By AI agents, Wed Nov 11 2026. No macro, syntax, notation, axiom, sorry.
-/
import Derived.Test.YtalgdeieejpelaaGreatDoorRows
import GoSem.ClaimSeven
namespace Go.Proofs.YtalgdeieejpelaaGreatDoor
namespace Rows

/-- THE TIED CARD OF 'laws.FnRedressText'. -/
def fnRedressTextCard : Claim7 := { stood := { row := fnRedressTextRow, standIns := [], harness := (true, "ca161b7005b36073323213a4c642b562196c0318a317ddb3172215cd13ad7ea6"), looks := true }, kinds := [], alts := [], laidByText := true, laidKinds := [.data, .data, .data, .data, .sentinel, .sentinel, .pinned], laidTests := true, laidLooks := .later }
def FnRedressTextCardSaid : Prop := Claim7.holds Tryz.pinned (.plain (OpenSpec.ofChange fnRedressTextSpec)) fnRedressTextCard

/-- THE SECOND FORM's CARD OF 'laws.FnRedressText'. -/
def fnRedressTextUptoCard : Claim7 := { stood := { row := fnRedressTextUptoRow, standIns := [], harness := (true, "ca161b7005b36073323213a4c642b562196c0318a317ddb3172215cd13ad7ea6"), looks := true }, kinds := [], alts := [], laidByText := true, laidKinds := [.data, .data, .data, .data, .sentinel, .sentinel, .pinned], laidTests := true, laidLooks := .later }
def FnRedressTextUptoCardSaid : Prop := Claim7.holds Tryz.pinned (.plain (OpenSpec.upto fnRedressTextSpec)) fnRedressTextUptoCard
end Rows
end Go.Proofs.YtalgdeieejpelaaGreatDoor

/-
  DERIVED. GIVEN WITH THE SEED: THE CARDS: each row of YtnpldahkhaacnaaGreatDoorRows.lean that lists a variable, with what it lists TIED to the program's text (the seventh form; the later family's looks); each row that meets fmt, with fmt's text TOLD by the authors' own Lean function (tested against real Go, not proved from fmt's source: count such statements apart). THE CARD IS WHAT COUNTS. Prove the row's statement (the work); the ties are given (YtnpldahkhaacnaaGreatDoorTie.lean); close each card by the builder's one call (the guide's Derived/Test/ToyasCard.lean, 'card_holds'). Laid BY PROGRAM, IN A SANDBOX (cutbox-door.mjs). By AI agents, Wed Nov 11 2026. No macro, syntax, notation, axiom, sorry.
-/
import Derived.Test.YtnpldahkhaacnaaGreatDoorRows
import GoSem.ClaimSeven
namespace Go.Proofs.YtnpldahkhaacnaaGreatDoor
namespace Rows

/-- THE TIED CARD OF 'laws.FnEnterLine'. -/
def fnEnterLineCard : Claim7 := { stood := { row := fnEnterLineRow, standIns := [], harness := (true, "4d12a36193ad20f2f9aa8617bc075cfb10abe744f3fed53fbed7879668351c2f"), looks := true }, kinds := [], alts := [], laidByText := true, laidKinds := [.data, .data, .data, .data, .sentinel, .sentinel, .pinned], laidTests := true, laidLooks := .later }
def FnEnterLineCardSaid : Prop := Claim7.holds Tryz.pinned (.plain (OpenSpec.ofChange fnEnterLineSpec)) fnEnterLineCard

/-- THE TIED CARD OF 'laws.FnExactRunConsole'. -/
def fnExactRunConsoleCard : Claim7 := { stood := { row := fnExactRunConsoleRow, standIns := [], harness := (true, "4d12a36193ad20f2f9aa8617bc075cfb10abe744f3fed53fbed7879668351c2f"), looks := true }, kinds := [], alts := [], laidByText := true, laidKinds := [.data, .data, .data, .data, .sentinel, .sentinel, .pinned], laidTests := true, laidLooks := .later }
def FnExactRunConsoleCardSaid : Prop := Claim7.holds Tryz.pinned (.plain (OpenSpec.ofChange fnExactRunConsoleSpec)) fnExactRunConsoleCard

/-- THE TIED CARD OF 'laws.FnExactConsoleRegister'. -/
def fnExactConsoleRegisterCard : Claim7 := { stood := { row := fnExactConsoleRegisterRow, standIns := [], harness := (true, "4d12a36193ad20f2f9aa8617bc075cfb10abe744f3fed53fbed7879668351c2f"), looks := true }, kinds := [], alts := [], laidByText := true, laidKinds := [.data, .data, .data, .data, .sentinel, .sentinel, .pinned], laidTests := true, laidLooks := .later }
def FnExactConsoleRegisterCardSaid : Prop := Claim7.holds Tryz.pinned (.plain (OpenSpec.ofChange fnExactConsoleRegisterSpec)) fnExactConsoleRegisterCard

/-- THE TIED CARD OF 'laws.FnConsoleOutputs'. -/
def fnConsoleOutputsCard : Claim7 := { stood := { row := fnConsoleOutputsRow, standIns := [], harness := (true, "4d12a36193ad20f2f9aa8617bc075cfb10abe744f3fed53fbed7879668351c2f"), looks := true }, kinds := [], alts := [], laidByText := true, laidKinds := [.data, .data, .data, .data, .sentinel, .sentinel, .pinned], laidTests := true, laidLooks := .later }
def FnConsoleOutputsCardSaid : Prop := Claim7.holds Tryz.pinned (.plain (OpenSpec.ofChange fnConsoleOutputsSpec)) fnConsoleOutputsCard

/-- THE TIED CARD OF 'laws.FnConsoleRegister'. -/
def fnConsoleRegisterCard : Claim7 := { stood := { row := fnConsoleRegisterRow, standIns := [], harness := (true, "4d12a36193ad20f2f9aa8617bc075cfb10abe744f3fed53fbed7879668351c2f"), looks := true }, kinds := [], alts := [], laidByText := true, laidKinds := [.data, .data, .data, .data, .sentinel, .sentinel, .pinned], laidTests := true, laidLooks := .later }
def FnConsoleRegisterCardSaid : Prop := Claim7.holds Tryz.pinned (.plain (OpenSpec.ofChange fnConsoleRegisterSpec)) fnConsoleRegisterCard

/-- THE SECOND FORM's CARD OF 'laws.FnEnterLine'. -/
def fnEnterLineUptoCard : Claim7 := { stood := { row := fnEnterLineUptoRow, standIns := [], harness := (true, "4d12a36193ad20f2f9aa8617bc075cfb10abe744f3fed53fbed7879668351c2f"), looks := true }, kinds := [], alts := [], laidByText := true, laidKinds := [.data, .data, .data, .data, .sentinel, .sentinel, .pinned], laidTests := true, laidLooks := .later }
def FnEnterLineUptoCardSaid : Prop := Claim7.holds Tryz.pinned (.plain (OpenSpec.upto fnEnterLineSpec)) fnEnterLineUptoCard

/-- THE SECOND FORM's CARD OF 'laws.FnExactRunConsole'. -/
def fnExactRunConsoleUptoCard : Claim7 := { stood := { row := fnExactRunConsoleUptoRow, standIns := [], harness := (true, "4d12a36193ad20f2f9aa8617bc075cfb10abe744f3fed53fbed7879668351c2f"), looks := true }, kinds := [], alts := [], laidByText := true, laidKinds := [.data, .data, .data, .data, .sentinel, .sentinel, .pinned], laidTests := true, laidLooks := .later }
def FnExactRunConsoleUptoCardSaid : Prop := Claim7.holds Tryz.pinned (.plain (OpenSpec.upto fnExactRunConsoleSpec)) fnExactRunConsoleUptoCard

/-- THE SECOND FORM's CARD OF 'laws.FnExactConsoleRegister'. -/
def fnExactConsoleRegisterUptoCard : Claim7 := { stood := { row := fnExactConsoleRegisterUptoRow, standIns := [], harness := (true, "4d12a36193ad20f2f9aa8617bc075cfb10abe744f3fed53fbed7879668351c2f"), looks := true }, kinds := [], alts := [], laidByText := true, laidKinds := [.data, .data, .data, .data, .sentinel, .sentinel, .pinned], laidTests := true, laidLooks := .later }
def FnExactConsoleRegisterUptoCardSaid : Prop := Claim7.holds Tryz.pinned (.plain (OpenSpec.upto fnExactConsoleRegisterSpec)) fnExactConsoleRegisterUptoCard

/-- THE SECOND FORM's CARD OF 'laws.FnConsoleOutputs'. -/
def fnConsoleOutputsUptoCard : Claim7 := { stood := { row := fnConsoleOutputsUptoRow, standIns := [], harness := (true, "4d12a36193ad20f2f9aa8617bc075cfb10abe744f3fed53fbed7879668351c2f"), looks := true }, kinds := [], alts := [], laidByText := true, laidKinds := [.data, .data, .data, .data, .sentinel, .sentinel, .pinned], laidTests := true, laidLooks := .later }
def FnConsoleOutputsUptoCardSaid : Prop := Claim7.holds Tryz.pinned (.plain (OpenSpec.upto fnConsoleOutputsSpec)) fnConsoleOutputsUptoCard

/-- THE SECOND FORM's CARD OF 'laws.FnConsoleRegister'. -/
def fnConsoleRegisterUptoCard : Claim7 := { stood := { row := fnConsoleRegisterUptoRow, standIns := [], harness := (true, "4d12a36193ad20f2f9aa8617bc075cfb10abe744f3fed53fbed7879668351c2f"), looks := true }, kinds := [], alts := [], laidByText := true, laidKinds := [.data, .data, .data, .data, .sentinel, .sentinel, .pinned], laidTests := true, laidLooks := .later }
def FnConsoleRegisterUptoCardSaid : Prop := Claim7.holds Tryz.pinned (.plain (OpenSpec.upto fnConsoleRegisterSpec)) fnConsoleRegisterUptoCard
end Rows
end Go.Proofs.YtnpldahkhaacnaaGreatDoor

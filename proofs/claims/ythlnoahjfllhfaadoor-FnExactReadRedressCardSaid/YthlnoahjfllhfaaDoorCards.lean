/-
  DERIVED. GIVEN WITH THE SEED: THE CARDS: each row of YthlnoahjfllhfaaDoorRows.lean that lists a variable, with what it lists TIED to the program's text (the seventh form; the later family's looks); each row that meets fmt, with fmt's text TOLD by the authors' own Lean function (tested against real Go, not proved from fmt's source: count such statements apart). THE CARD IS WHAT COUNTS. Prove the row's statement (the work); the ties are given (YthlnoahjfllhfaaDoorTie.lean); close each card by the builder's one call (the guide's Derived/Test/ToyasCard.lean, 'card_holds'). Laid BY PROGRAM, IN A SANDBOX (cutbox-door.mjs). By AI agents, Wed Nov 11 2026. No macro, syntax, notation, axiom, sorry.
-/
import Derived.Test.YthlnoahjfllhfaaDoorRows
import GoSem.ClaimSeven
namespace Go.Proofs.YthlnoahjfllhfaaDoor
namespace Rows

/-- THE TIED CARD OF 'laws.FnExactEnterLine'. -/
def fnExactEnterLineCard : Claim7 := { stood := { row := fnExactEnterLineRow, standIns := [], harness := (true, "7332968f2a7840cba3773deea96a267207ebaa2d41604b417522ea790b631a22"), looks := true }, kinds := [], alts := [], laidByText := true, laidKinds := [.data, .data, .data], laidTests := true, laidLooks := .later }
def FnExactEnterLineCardSaid : Prop := Claim7.holds Tryd.pinned (.plain (OpenSpec.ofChange fnExactEnterLineSpec)) fnExactEnterLineCard

/-- THE TIED CARD OF 'laws.FnExactReadRedress'. -/
def fnExactReadRedressCard : Claim7 := { stood := { row := fnExactReadRedressRow, standIns := [], harness := (true, "7332968f2a7840cba3773deea96a267207ebaa2d41604b417522ea790b631a22"), looks := true }, kinds := [], alts := [], laidByText := true, laidKinds := [.data, .data, .data, .data, .sentinel, .sentinel, .pinned], laidTests := true, laidLooks := .later }
def FnExactReadRedressCardSaid : Prop := Claim7.holds Tryd.pinned (.plain (OpenSpec.ofChange fnExactReadRedressSpec)) fnExactReadRedressCard

/-- THE SECOND FORM's CARD OF 'laws.FnExactEnterLine'. -/
def fnExactEnterLineUptoCard : Claim7 := { stood := { row := fnExactEnterLineUptoRow, standIns := [], harness := (true, "7332968f2a7840cba3773deea96a267207ebaa2d41604b417522ea790b631a22"), looks := true }, kinds := [], alts := [], laidByText := true, laidKinds := [.data, .data, .data], laidTests := true, laidLooks := .later }
def FnExactEnterLineUptoCardSaid : Prop := Claim7.holds Tryd.pinned (.plain (OpenSpec.upto fnExactEnterLineSpec)) fnExactEnterLineUptoCard

/-- THE SECOND FORM's CARD OF 'laws.FnExactReadRedress'. -/
def fnExactReadRedressUptoCard : Claim7 := { stood := { row := fnExactReadRedressUptoRow, standIns := [], harness := (true, "7332968f2a7840cba3773deea96a267207ebaa2d41604b417522ea790b631a22"), looks := true }, kinds := [], alts := [], laidByText := true, laidKinds := [.data, .data, .data, .data, .sentinel, .sentinel, .pinned], laidTests := true, laidLooks := .later }
def FnExactReadRedressUptoCardSaid : Prop := Claim7.holds Tryd.pinned (.plain (OpenSpec.upto fnExactReadRedressSpec)) fnExactReadRedressUptoCard
end Rows
end Go.Proofs.YthlnoahjfllhfaaDoor

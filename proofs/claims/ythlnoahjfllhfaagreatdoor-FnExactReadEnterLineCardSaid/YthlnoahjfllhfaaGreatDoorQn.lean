/- Walks: a word read as a number (the reference). -/
import Derived.Test.YthlnoahjfllhfaaGreatDoorQm
import Derived.Test.YthlnoahjfllhfaaGreatDoorQk
namespace Go.Proofs.YthlnoahjfllhfaaGreatDoor
open Go.RowKit Go.Sort
set_option linter.unusedVariables false
set_option maxRecDepth 100000

theorem valL_snoc (n : Nat) (l : List UInt8) (c : UInt8) : valL n (l ++ [c]) = stepV (valL n l) c := by rw [valL_app, valL_cons, valL_nil]
end Go.Proofs.YthlnoahjfllhfaaGreatDoor

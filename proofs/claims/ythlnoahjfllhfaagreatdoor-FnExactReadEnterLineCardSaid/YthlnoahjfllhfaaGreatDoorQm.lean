/- Walks: numbers as texts and texts as numbers (the reference's second pair). -/
import Derived.Test.YthlnoahjfllhfaaGreatDoorQac
import Derived.Test.YthlnoahjfllhfaaGreatDoorQi
namespace Go.Proofs.YthlnoahjfllhfaaGreatDoor
open Go.RowKit Go.Sort
set_option linter.unusedVariables false
set_option maxRecDepth 100000

def lenS : Value → Nat
  | .slice _ n _ => n
  | _ => 0
end Go.Proofs.YthlnoahjfllhfaaGreatDoor

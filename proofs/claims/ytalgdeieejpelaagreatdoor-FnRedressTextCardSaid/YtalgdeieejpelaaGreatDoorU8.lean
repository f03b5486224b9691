/- Bytes as cells. -/
import Derived.Test.YtalgdeieejpelaaGreatDoorZma
namespace Go.Proofs.YtalgdeieejpelaaGreatDoor
open Go.RowKit
set_option linter.unusedVariables false

def u8s (xs : List Int) : List Value := xs.map (Value.int .u8)
theorem u8s_length (xs : List Int) : (u8s xs).length = xs.length := by simp [u8s]
theorem u8s_get {xs : List Int} {k : Nat} {x : Int} (h : xs[k]? = some x) : (u8s xs)[k]? = some (.int .u8 x) := by simp [u8s, h]
end Go.Proofs.YtalgdeieejpelaaGreatDoor

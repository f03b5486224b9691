/- Walks: valid registers (chapter 33), the program. -/
import Derived.Test.YtalgdeieejpelaaGreatDoorRi
namespace Go.Proofs.YtalgdeieejpelaaGreatDoor
open Go.RowKit Go.Sort
set_option linter.unusedVariables false
set_option maxRecDepth 100000

theorem int_beq (m n : Nat) : (((m : Int)) == (n : Int)) = decide (m = n) := by
  rw [Bool.eq_iff_iff]; simp; omega
end Go.Proofs.YtalgdeieejpelaaGreatDoor

/- Walks: lists of redress of the program (chapter 29). -/
import Derived.Test.YtalgdeieejpelaaGreatZmc
import Derived.IntWalk
import Derived.Lib.QuietBelow
namespace Go.Proofs.YtalgdeieejpelaaGreat
open Go.RowKit Go.Sort
set_option linter.unusedVariables false
set_option maxRecDepth 100000

theorem within_bl {n a b : Int} {r : Bool} (h : withinB n a b = r) (w : World) : Calls Tryz.prog 53 #[.int .i64 n, .int .i64 a, .int .i64 b] w fun e w' => e = .returned (.bool r) ∧ Below w.heap.size w w' :=
  (within_litT h w).mono fun _ _ ⟨a, b⟩ => ⟨a, by rw [b]; exact Below.refl _ _⟩
end Go.Proofs.YtalgdeieejpelaaGreat

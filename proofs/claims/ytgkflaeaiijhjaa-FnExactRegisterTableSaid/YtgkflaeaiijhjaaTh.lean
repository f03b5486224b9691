/- Walks: codes and open redress of the program (chapter 29). -/
import Derived.Test.YtgkflaeaiijhjaaTf
import Derived.Test.YtgkflaeaiijhjaaTg
namespace Go.Proofs.Ytgkflaeaiijhjaa
open Go.RowKit Go.Sort
set_option linter.unusedVariables false
set_option maxRecDepth 100000

/-- The first element for which p holds. -/
def givenF (p : RedressT → Bool) : Nat → List RedressT → Int
  | _, [] => -1
  | i, x :: r => if p x = true then (i : Int) else givenF p (i + 1) r
theorem givenF_any (p : RedressT → Bool) (i : Nat) (xs : List RedressT) : decide (0 ≤ givenF p i xs) = xs.any p := by
  induction xs generalizing i with
  | nil => rfl
  | cons x r ih =>
    unfold givenF
    by_cases h : p x = true
    · rw [if_pos h, List.any_cons, h]; simp
    · rw [if_neg h, ih, List.any_cons]; simp [h]
end Go.Proofs.Ytgkflaeaiijhjaa

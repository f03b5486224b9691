/- Walks: an entry is added (chapter 33), both sides. -/
import Derived.Test.YtalgdeieejpelaaGreatDoorZmh
namespace Go.Proofs.YtalgdeieejpelaaGreatDoor
open Go.RowKit Go.Sort Go.Lib
set_option linter.unusedVariables false
set_option maxRecDepth 100000

/-- The first element for which p holds. -/
def findEF (p : EntryT → Bool) : Nat → List EntryT → Int
  | _, [] => -1
  | i, x :: r => if p x = true then (i : Int) else findEF p (i + 1) r
theorem findEF_any (p : EntryT → Bool) (i : Nat) (xs : List EntryT) : decide (0 ≤ findEF p i xs) = xs.any p := by
  induction xs generalizing i with
  | nil => rfl
  | cons x r ih =>
    unfold findEF
    by_cases h : p x = true
    · rw [if_pos h, List.any_cons, h]; simp
    · rw [if_neg h, ih, List.any_cons]; simp [h]
def addC (b s : Int) (xs : List EntryT) (x : EntryT) : Int := if regB b s xs = true then (if (entB b x && revB (E.rev x)) = true then (if hasB xs x = true then 5 else if xs.length = 400 then 3 else 0) else 2) else 1
def addB (b s : Int) (xs : List EntryT) (x : EntryT) : Int := if addC b s xs x = 0 then b else 0
def addS (b s : Int) (xs : List EntryT) (x : EntryT) : Int := if addC b s xs x = 0 then s else 0
def addL (b s : Int) (xs : List EntryT) (x : EntryT) : List EntryT := if addC b s xs x = 0 then xs ++ [x] else []
end Go.Proofs.YtalgdeieejpelaaGreatDoor

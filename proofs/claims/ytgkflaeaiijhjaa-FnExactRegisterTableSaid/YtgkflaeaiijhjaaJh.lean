/- Walks: an entry is added (chapter 33), both sides. -/
import Derived.Test.YtgkflaeaiijhjaaJg
namespace Go.Proofs.Ytgkflaeaiijhjaa
open Go.RowKit Go.Sort Go.Lib
set_option linter.unusedVariables false
set_option maxRecDepth 100000

/-- The first element for which p holds. -/
def findEF (p : EntryT → Bool) : Nat → List EntryT → Int
  | _, [] => -1
  | i, x :: r => if p x = true then (i : Int) else findEF p (i + 1) r
theorem findEF_any (p : EntryT → Bool) (i : Nat) (xs : List EntryT) : decide (0 ≤ findEF p i xs) = xs.any p := by
  induction xs generalizing i with
  | nil => rfl
  | cons x r ih =>
    unfold findEF
    by_cases h : p x = true
    · rw [if_pos h, List.any_cons, h]; simp
    · rw [if_neg h, ih, List.any_cons]; simp [h]
theorem one_entry_rd {w : World} {V : Nat} {x0 x1 x2 x3 x4 x5 x6 : Int} (h : Box w V #[.int .i64 x0, .int .i64 x1, .int .i64 x2, .int .i64 x3, .int .i64 x4, .int .i64 x5, .int .i64 x6] 51) : Rd w 7 (some ⟨V, 0, none⟩) 1 (ents [(x0, x1, x2, x3, x4, x5, x6)]) :=
  ⟨rfl, by omega, fun _ => ⟨V, 0, rfl, fun i u hu => by rw [Nat.zero_add]; exact h.cell (by simpa [ents, entC] using hu)⟩⟩
def addC (b s : Int) (xs : List EntryT) (x : EntryT) : Int := if regB b s xs = true then (if (entB b x && revB (E.rev x)) = true then (if hasB xs x = true then 5 else if xs.length = 400 then 3 else 0) else 2) else 1
def addB (b s : Int) (xs : List EntryT) (x : EntryT) : Int := if addC b s xs x = 0 then b else 0
def addS (b s : Int) (xs : List EntryT) (x : EntryT) : Int := if addC b s xs x = 0 then s else 0
def addL (b s : Int) (xs : List EntryT) (x : EntryT) : List EntryT := if addC b s xs x = 0 then xs ++ [x] else []
/-- A register and a code. -/
def RetReg2 (w : World) (b s : Int) (l : List EntryT) (code : Int) (e : Ending) (w' : World) : Prop :=
  ∃ A n c, e = .returned (.tuple #[.agg #[.int .i64 b, .int .i64 s, .slice A n c], .int .i64 code]) ∧ w'.ownsRow w.heap.size 51 7 (.slice A n c) n (ents l) ∧ n ≤ 1048576 ∧ Below w.heap.size w w'
end Go.Proofs.Ytgkflaeaiijhjaa

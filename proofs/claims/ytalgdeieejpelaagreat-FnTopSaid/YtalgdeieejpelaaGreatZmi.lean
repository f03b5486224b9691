/- General and plain lemmas, and light walks (merged): Tf Tg. -/
import Derived.Test.YtalgdeieejpelaaGreatZmc
import Derived.IntWalk
import Derived.Lib.QuietBelow
/- Walks: lists of redress of the program (chapter 29). -/
namespace Go.Proofs.YtalgdeieejpelaaGreat
open Go.RowKit Go.Sort
set_option linter.unusedVariables false
set_option maxRecDepth 100000

theorem within_bl {n a b : Int} {r : Bool} (h : withinB n a b = r) (w : World) : Calls Tryz.prog 53 #[.int .i64 n, .int .i64 a, .int .i64 b] w fun e w' => e = .returned (.bool r) ∧ Below w.heap.size w w' :=
  (within_litT h w).mono fun _ _ ⟨a, b⟩ => ⟨a, by rw [b]; exact Below.refl _ _⟩
end Go.Proofs.YtalgdeieejpelaaGreat

/- Walks: lists of redress of the reference (chapter 29). -/
namespace Go.Proofs.YtalgdeieejpelaaGreat
open Go.RowKit Go.Sort
set_option linter.unusedVariables false
set_option maxRecDepth 100000

theorem isRedB_no {k p : Int} (h : withinB k 1 3 = false ∨ withinB p 0 10000 = false) : isRedBT k p = false := by
  unfold isRedBT
  by_cases h3 : k = 3
  · rw [if_pos h3]
    rcases h with h | h
    · subst h3; simp [withinB] at h
    · exact h
  · rw [if_neg h3]
    rcases h with h | h
    · have : withinB k 1 2 = false := by rw [withinB_not] at h ⊢; omega
      rw [this]; rfl
    · have : (p == 0) = false := by
        rw [withinB_not] at h
        simp; omega
      rw [this, Bool.and_false]
theorem isRedB_yes {k p : Int} (h : withinB k 1 3 = true) (h2 : withinB p 0 10000 = true) (h3 : k = 3 ∨ p = 0) : isRedBT k p = true := by
  unfold isRedBT
  by_cases h4 : k = 3
  · rw [if_pos h4]; exact h2
  · rw [if_neg h4]
    have e : p = 0 := by omega
    rw [withinB_iff] at h
    have : withinB k 1 2 = true := withinB_iff.2 (by omega)
    rw [this, e]; rfl
end Go.Proofs.YtalgdeieejpelaaGreat

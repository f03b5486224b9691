/- Walks: averages of a table, both sides; plain: an average lies between the least and the greatest points. -/
import Derived.Test.YtalgdeieejpelaaTd
import Derived.Test.YtalgdeieejpelaaTe
namespace Go.Proofs.Ytalgdeieejpelaa
open Go.RowKit
set_option linter.unusedVariables false
set_option maxRecDepth 100000

/-- Least and greatest points of the races that count. -/
def mmGo (race kind : Int) (b : Nat) : Nat → List (List Int) → List (List Int) → Int → Int → Int × Int
  | k, p :: ps, c :: cs, lo, hi => if (otherB race kind k && !(c.getD b 0 == 9)) = true then mmGo race kind b (k + 1) ps cs (min lo (p.getD b 0)) (max hi (p.getD b 0)) else mmGo race kind b (k + 1) ps cs lo hi
  | _, _, _, lo, hi => (lo, hi)
theorem mm_avg (race kind : Int) (b : Nat) : ∀ (ps cs : List (List Int)) (k : Nat) (s m lo hi : Int), 0 ≤ m → lo * m ≤ s → s ≤ hi * m →
    0 ≤ (avgGo race kind b k ps cs s m).2 ∧ (mmGo race kind b k ps cs lo hi).1 * (avgGo race kind b k ps cs s m).2 ≤ (avgGo race kind b k ps cs s m).1 ∧ (avgGo race kind b k ps cs s m).1 ≤ (mmGo race kind b k ps cs lo hi).2 * (avgGo race kind b k ps cs s m).2 := by
  intro ps
  induction ps with
  | nil => intro cs k s m lo hi h0 h1 h2; cases cs <;> exact ⟨h0, h1, h2⟩
  | cons p ps ih =>
    intro cs k s m lo hi h0 h1 h2
    cases cs with
    | nil => exact ⟨h0, h1, h2⟩
    | cons c cs =>
      unfold avgGo mmGo
      split
      · refine ih cs (k + 1) _ _ _ _ (by omega) ?_ ?_
        · have e1 : min lo (p.getD b 0) * m ≤ lo * m := Int.mul_le_mul_of_nonneg_right (Int.min_le_left _ _) h0
          have e2 : min lo (p.getD b 0) ≤ p.getD b 0 := Int.min_le_right _ _
          rw [Int.mul_add, Int.mul_one]
          omega
        · have e1 : hi * m ≤ max hi (p.getD b 0) * m := Int.mul_le_mul_of_nonneg_right (Int.le_max_left _ _) h0
          have e2 : p.getD b 0 ≤ max hi (p.getD b 0) := Int.le_max_right _ _
          rw [Int.mul_add, Int.mul_one]
          omega
      · exact ih cs (k + 1) s m lo hi h0 h1 h2
/-- An average lies between the least and the greatest points. -/
theorem avg_between (t : Tb) (race boat kind : Int) (h : (avgF t race boat kind).2 = true) :
    (mmGo race kind boat.toNat 0 t.pts t.cds 10000 0).1 ≤ (avgF t race boat kind).1 ∧ (avgF t race boat kind).1 ≤ (mmGo race kind boat.toNat 0 t.pts t.cds 10000 0).2 := by
  have hm := mm_avg race kind boat.toNat t.pts t.cds 0 0 0 10000 0 (by omega) (by omega) (by omega)
  unfold avgF avgOf at h ⊢
  generalize avgGo race kind boat.toNat 0 t.pts t.cds 0 0 = r at *
  generalize mmGo race kind boat.toNat 0 t.pts t.cds 10000 0 = q at *
  obtain ⟨s, m⟩ := r
  obtain ⟨lo, hi⟩ := q
  simp only at hm h ⊢
  by_cases h0 : m = 0
  · rw [if_pos h0] at h; cases h
  · rw [if_neg h0]
    simp only
    obtain ⟨a1, a2, a3⟩ := hm
    constructor
    · refine Int.le_ediv_of_mul_le (by omega) ?_
      have : lo * (2 * m) = 2 * (lo * m) := by rw [Int.mul_left_comm]
      omega
    · have : (2 * s + m) / (2 * m) < hi + 1 := by
        refine Int.ediv_lt_of_lt_mul (by omega) ?_
        have e : (hi + 1) * (2 * m) = 2 * (hi * m) + 2 * m := by rw [Int.add_mul, Int.one_mul, Int.mul_left_comm]
        omega
      omega
end Go.Proofs.Ytalgdeieejpelaa

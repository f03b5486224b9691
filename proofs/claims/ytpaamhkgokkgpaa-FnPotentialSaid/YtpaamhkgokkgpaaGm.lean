/- Plain: winds and grids (chapter 32): no Go in sight. -/
import Derived.Test.YtpaamhkgokkgpaaSt
namespace Go.Proofs.Ytpaamhkgokkgpaa
open Go.RowKit
set_option linter.unusedVariables false

def windB (p : Int × Int) : Bool := withinB p.1 (-1000) 1000 && withinB p.2 (-1000) 1000 && !(p.1 == 0 && p.2 == 0)
def gridB (W H : Int) (xs : List (Int × Int)) : Bool := withinB W 1 10 && withinB H 1 10 && decide ((xs.length : Int) = W * H) && xs.all windB
/-- A valid grid. -/
structure GridOk (W H : Int) (xs : List (Int × Int)) : Prop where
  w1 : 1 ≤ W
  w2 : W ≤ 10
  h1 : 1 ≤ H
  h2 : H ≤ 10
  len : (xs.length : Int) = W * H
  all : ∀ p ∈ xs, windB p = true
theorem gridB_ok {W H : Int} {xs : List (Int × Int)} (h : gridB W H xs = true) : GridOk W H xs := by
  unfold gridB at h
  simp only [Bool.and_eq_true, decide_eq_true_eq, List.all_eq_true, withinB_iff] at h
  obtain ⟨⟨⟨⟨a, b⟩, c, d⟩, e⟩, f⟩ := h
  exact ⟨a, b, c, d, e, f⟩
theorem mul_bd {a b A B : Int} (h0 : 0 ≤ a) (h1 : a ≤ A) (h2 : 0 ≤ b) (h3 : b ≤ B) : 0 ≤ a * b ∧ a * b ≤ A * B :=
  ⟨Int.mul_nonneg h0 h2, Int.mul_le_mul h1 h3 h2 (by omega)⟩
theorem GridOk.n100 {W H : Int} {xs : List (Int × Int)} (h : GridOk W H xs) : 1 ≤ xs.length ∧ xs.length ≤ 100 := by
  have h1 := h.len
  have h2 := mul_bd (show 0 ≤ W by have := h.w1; omega) h.w2 (show 0 ≤ H by have := h.h1; omega) h.h2
  have h3 : 1 * 1 ≤ W * H := Int.mul_le_mul h.w1 h.h1 (by omega) (by have := h.w1; omega)
  omega
theorem windB_bd {x y : Int} (h : windB (x, y) = true) : -1000 ≤ x ∧ x ≤ 1000 ∧ -1000 ≤ y ∧ y ≤ 1000 ∧ ¬ (x = 0 ∧ y = 0) := by
  unfold windB at h
  simp only [Bool.and_eq_true, withinB_iff, Bool.not_eq_true', Bool.and_eq_false_iff, beq_eq_false_iff_ne] at h
  omega
end Go.Proofs.Ytpaamhkgokkgpaa

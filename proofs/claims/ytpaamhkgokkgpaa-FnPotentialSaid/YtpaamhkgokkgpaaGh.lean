/- Plain: headings (chapter 32). -/
import Derived.Test.YtpaamhkgokkgpaaGm
namespace Go.Proofs.Ytpaamhkgokkgpaa
open Go.RowKit
set_option linter.unusedVariables false
set_option maxRecDepth 100000

def headF (d : Int) : Int × Int :=
  match d.toNat with
  | 0 => (1, 0) | 1 => (1, 1) | 2 => (0, 1) | 3 => (-1, 1) | 4 => (-1, 0) | 5 => (-1, -1) | 6 => (0, -1) | _ => (1, -1)
theorem eight {d : Int} (h0 : 0 ≤ d) (h1 : d ≤ 7) : d = 0 ∨ d = 1 ∨ d = 2 ∨ d = 3 ∨ d = 4 ∨ d = 5 ∨ d = 6 ∨ d = 7 := by omega
def headV (p : Int × Int) : Value := .agg #[.int .i64 p.1, .int .i64 p.2]
theorem headF_bd (d : Int) : -1 ≤ (headF d).1 ∧ (headF d).1 ≤ 1 ∧ -1 ≤ (headF d).2 ∧ (headF d).2 ≤ 1 := by
  unfold headF
  split <;> decide
def New2 (w w' : World) : Prop := ∃ o1 o2, w' = (w.alloc o1).alloc o2
def New3 (w w' : World) : Prop := ∃ o1 o2 o3, w' = (((w.alloc o1).alloc o2).alloc o3).drew
theorem New2.below {w w' : World} (h : New2 w w') : Below w.heap.size w w' := by
  obtain ⟨o1, o2, rfl⟩ := h
  exact ((Below.refl _ _).alloc (Nat.le_refl _) o1).alloc (by simp) o2
theorem New3.below {w w' : World} (h : New3 w w') : Below w.heap.size w w' := by
  obtain ⟨o1, o2, o3, rfl⟩ := h
  exact below_drewN ((((Below.refl _ _).alloc (Nat.le_refl _) o1).alloc (by simp) o2).alloc (by simp <;> omega) o3) 1
def nbX (W cell d : Int) : Int := cell % W + (headF d).1
def nbY (W cell d : Int) : Int := cell / W + (headF d).2
/-- Is there a neighbour? -/
def nbB (W H cell d : Int) : Bool := withinB (nbX W cell d) 0 (W - 1) && withinB (nbY W cell d) 0 (H - 1)
/-- The neighbour, or -1. -/
def nbF (W H cell d : Int) : Int := if nbB W H cell d = true then nbY W cell d * W + nbX W cell d else -1
theorem nb_cell {W H cell d : Int} (w1 : 1 ≤ W) (h1 : 1 ≤ H) (h : nbB W H cell d = true) : 0 ≤ nbF W H cell d ∧ nbF W H cell d < W * H := by
  unfold nbF
  rw [if_pos h]
  unfold nbB at h
  simp only [Bool.and_eq_true, withinB_iff] at h
  obtain ⟨⟨a, b⟩, e, f⟩ := h
  have g1 := Int.mul_nonneg e (show 0 ≤ W by omega)
  have g2 : nbY W cell d * W ≤ (H - 1) * W := Int.mul_le_mul_of_nonneg_right f (by omega)
  have g3 : (H - 1) * W = W * H - W := by rw [Int.sub_mul, Int.one_mul, Int.mul_comm]
  omega
end Go.Proofs.Ytpaamhkgokkgpaa

/- Plain law: numbers of meetings are symmetric; the least is least: no Go in sight. -/
import Derived.Test.YtoccfbkklponnaaMr
namespace Go.Proofs.Ytoccfbkklponnaa
open Go.RowKit
set_option linter.unusedVariables false

theorem meetN_sym (rows : List (List Int)) (i j : Nat) : meetN rows i j = meetN rows j i := by
  unfold meetN
  by_cases h : i = j
  · subst h; rfl
  · rw [if_neg h, if_neg (fun e => h e.symm)]
    refine List.countP_congr (fun r _ => ?_)
    unfold sameAt
    simp only [beq_iff_eq]
    exact eq_comm
theorem leastJ_min (f : Nat → Nat → Nat) (i : Nat) (l : List Nat) (s : Nat × Nat) :
    f (leastJ f i l s).1 (leastJ f i l s).2 ≤ f s.1 s.2 ∧ ∀ j ∈ l, f (leastJ f i l s).1 (leastJ f i l s).2 ≤ f i j := by
  induction l generalizing s with
  | nil => exact ⟨Nat.le_refl _, fun j hj => by cases hj⟩
  | cons x r ih =>
    unfold leastJ
    have h := ih (if f i x < f s.1 s.2 then (i, x) else s)
    have hs : f (if f i x < f s.1 s.2 then (i, x) else s).1 (if f i x < f s.1 s.2 then (i, x) else s).2 ≤ f s.1 s.2 ∧ f (if f i x < f s.1 s.2 then (i, x) else s).1 (if f i x < f s.1 s.2 then (i, x) else s).2 ≤ f i x := by
      split
      · simp only; omega
      · omega
    refine ⟨by omega, fun j hj => ?_⟩
    rcases List.mem_cons.1 hj with rfl | hj
    · omega
    · exact h.2 j hj
theorem leastI_min (f : Nat → Nat → Nat) (n : Nat) (l : List Nat) (s : Nat × Nat) :
    f (leastI f n l s).1 (leastI f n l s).2 ≤ f s.1 s.2 ∧ ∀ i ∈ l, ∀ j, i < j → j < n → f (leastI f n l s).1 (leastI f n l s).2 ≤ f i j := by
  induction l generalizing s with
  | nil => exact ⟨Nat.le_refl _, fun j hj => by cases hj⟩
  | cons x r ih =>
    unfold leastI
    have h := ih (leastJ f x (List.range' (x + 1) (n - (x + 1))) s)
    have hj := leastJ_min f x (List.range' (x + 1) (n - (x + 1))) s
    refine ⟨by omega, fun i hi j h1 h2 => ?_⟩
    rcases List.mem_cons.1 hi with rfl | hi
    · have := hj.2 j (by rw [List.mem_range'_1]; omega)
      omega
    · exact h.2 i hi j h1 h2
theorem least_min (rows : List (List Int)) (n i j : Nat) (hi : i < n) (hj : j < n) (h : i ≠ j) : meetN rows (least (meetN rows) n).1 (least (meetN rows) n).2 ≤ meetN rows i j := by
  have hm := (leastI_min (meetN rows) n (List.range' 0 n) (0, 1)).2
  rcases Nat.lt_or_gt_of_ne h with h | h
  · exact hm i (by rw [List.mem_range'_1]; omega) j h hj
  · rw [meetN_sym rows i j]
    exact hm j (by rw [List.mem_range'_1]; omega) i h hi
end Go.Proofs.Ytoccfbkklponnaa

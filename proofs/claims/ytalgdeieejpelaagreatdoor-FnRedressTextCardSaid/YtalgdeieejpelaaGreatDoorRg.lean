/- Walks: valid entries (chapter 33), both sides. -/
import Derived.Test.YtalgdeieejpelaaGreatDoorFr
import Derived.Test.YtalgdeieejpelaaGreatDoorZme
import Derived.Test.YtalgdeieejpelaaGreatDoorCf
namespace Go.Proofs.YtalgdeieejpelaaGreatDoor
open Go.RowKit
set_option linter.unusedVariables false
set_option maxRecDepth 100000

theorem isRedress_any (x0 x1 x2 x3 : Int) (w : World) :
    Calls Tryz.prog 19 #[.agg #[.int .i64 x0, .int .i64 x1, .int .i64 x2, .int .i64 x3]] w fun e w' => e = .returned (.bool (isRedB x2 x3)) ∧ Below w.heap.size w w' := by
  have HB := Lib.hid (show ∀ o, Below w.heap.size w (w.alloc o) from fun o => (Below.refl _ _).alloc (Nat.le_refl _) o)
  unfold isRedB
  by_cases h3 : x2 = 3
  · subst h3
    rw [if_pos rfl]
    go_enter Tryz.func19, Tryz.ntmps19
    go_wp2_with (go_at_call 17; refine (within_any _ _ _ _).mono ?_; rintro e w' ⟨rfl, rfl⟩)
    go_ret
    exact ⟨rfl, HB.out _⟩
  · rw [if_neg h3]
    have e3 : (x2 == 3) = false := by simp [h3]
    cases h12 : withinB x2 1 2 with
    | false =>
      have HWL := Lib.hid (fun w => within_lit h12 w)
      clear h12
      go_enter Tryz.func19, Tryz.ntmps19
      go_wp2_with (go_at_call 17; refine (HWL.out _).mono ?_; rintro e w' ⟨rfl, rfl⟩)
      go_ret
      exact ⟨rfl, HB.out _⟩
    | true =>
      have HWL := Lib.hid (fun w => within_lit h12 w)
      clear h12
      go_enter Tryz.func19, Tryz.ntmps19
      go_wp2_with (go_at_call 17; refine (HWL.out _).mono ?_; rintro e w' ⟨rfl, rfl⟩)
      go_ret
      exact ⟨ret_bool (by simp), HB.out _⟩
theorem entB_eq (b : Int) (x0 x1 x2 x3 x4 x5 x6 : Int) : entB b (x0, x1, x2, x3, x4, x5, x6) = (withinB x0 0 11 && withinB x1 0 (b - 1) && finB (x1, x3, x4) && (if x5 = 0 then (x6 == 0) else (x3 == 9) && isRedB x5 x6)) := rfl
theorem isFin_of {b x1 x3 x4 : Int} (hb : b ≤ 16) (h : withinB x1 0 (b - 1) = true) : isFinB (x1, x3, x4) = finB (x1, x3, x4) := by
  have h1 := withinB_iff.1 h
  unfold isFinB
  rw [withinB_iff.2 ⟨h1.1, by omega⟩, Bool.true_and]
theorem isRedB_k {k p : Int} (h : withinB k 1 3 = false) : isRedB k p = false := by
  rw [withinB_not] at h
  unfold isRedB
  rw [if_neg (by omega), withinB_not.2 (by omega : ¬ (1 ≤ k ∧ k ≤ 2))]; rfl
theorem isRedB_p {k p : Int} (h : withinB p 0 10000 = false) : isRedB k p = false := by
  unfold isRedB
  by_cases hk : k = 3
  · rw [if_pos hk, h]
  · rw [if_neg hk]
    rw [withinB_not] at h
    have : (p == 0) = false := by simp; omega
    rw [this, Bool.and_false]
theorem isRedB_all {k p : Int} (h1 : withinB k 1 3 = true) (h : withinB p 0 10000 = true) : isRedB k p = (k == 3 || p == 0) := by
  unfold isRedB
  have h2 := withinB_iff.1 h1
  by_cases hk : k = 3
  · rw [if_pos hk, h, hk]; rfl
  · rw [if_neg hk, withinB_iff.2 (by omega : 1 ≤ k ∧ k ≤ 2)]
    simp [hk]
end Go.Proofs.YtalgdeieejpelaaGreatDoor

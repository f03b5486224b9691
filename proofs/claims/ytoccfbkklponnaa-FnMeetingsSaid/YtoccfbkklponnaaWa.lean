/- Walks: the small functions on numbers and rows of numbers. -/
import Derived.Test.YtoccfbkklponnaaWr
namespace Go.Proofs.Ytoccfbkklponnaa
open Go.RowKit
set_option linter.unusedVariables false

theorem isFleetCount_any (n : Int) (w : World) :
    Calls Try.prog 54 #[.int .i64 n] w fun e w' => e = .returned (.bool (withinB n 1 4)) ∧ w = w' := by
  go_enter Try.func54, Try.ntmps54
  go_wp2_with (go_at_call 55; refine (within_any _ _ _ _).mono ?_; rintro e w' ⟨rfl, rfl⟩)
  go_ret
  exact ⟨rfl, rfl⟩
theorem l30Kinds_any (n : Int) (w : World) :
    Calls Try.prog 52 #[.int .i64 n] w fun e w' => e = .returned (.bool (withinB n 1 4)) ∧ w = w' := by
  go_enter Try.func52, Try.ntmps52
  go_wp2_with (go_at_call 59; refine (l01In_any _ _ _ _).mono ?_; rintro e w' ⟨rfl, rfl⟩)
  go_ret
  exact ⟨rfl, rfl⟩


theorem l30Fleets_any (A : Option Addr) (n c : Nat) (xs : List Int) (k : Int) (hk1 : 1 ≤ k) (hk2 : k ≤ 4) (w : World) (h : Rd w 1 A n (ints xs)) :
    Calls Try.prog 53 #[.slice A n c, .int .i64 k] w fun e w' => e = .returned (.bool (fleetsB xs k)) ∧ w = w' := by
  have HN := Lib.hid h.len_int
  have hm := h.le
  by_cases hw : withinB (n : Int) 1 16 = true
  · go_enter Try.func53, Try.ntmps53
    go_wp2_with (go_at_call 59; refine (l01In_any _ _ _ _).mono ?_; rintro e w' ⟨rfl, rfl⟩)
    have HW := Lib.hid hw; clear hw
    go_loop [5] (fun i => ∃ j : Nat, j ≤ n ∧ i = .int .i64 j ∧ (xs.drop j).all (fun x => withinB x 0 (k - 1)) = xs.all (fun x => withinB x 0 (k - 1))) (fun i => n - (intOf i).toNat)
    case atStart => exact ⟨0, Nat.zero_le _, rfl, rfl⟩
    case round =>
      obtain ⟨j, hj, rfl, hall⟩ := hrel
      have HA := Lib.hid hall; clear hall
      by_cases hlt : j < n
      · obtain ⟨b, o, x, rfl, hx, hd, hc⟩ := h.int hlt
        have HX := Lib.hid hx; clear hx
        have HD := Lib.hid hd; clear hd
        go_wp2_with (go_at_call 59; refine (l01In_any _ _ _ _).mono ?_; rintro e w' ⟨rfl, rfl⟩)
        · have hw : (!withinB x 0 (k - 1)) = true := by assumption
          go_ret
          exact ⟨ret_bool (by unfold fleetsB; rw [← HA.out, HD.out]; simp at hw; simp [hw]), rfl⟩
        · have hw : (!withinB x 0 (k - 1)) = false := by assumption
          go_round
          case rel => exact ⟨j + 1, by omega, by go_num, by rw [← HA.out, HD.out]; simp at hw; simp [hw]⟩
          case measure => simp [intOf]; omega
      · obtain rfl : j = n := by omega
        go_wp2
        go_ret
        exact ⟨ret_bool (by unfold fleetsB; rw [← HA.out, List.drop_eq_nil_of_le (by rw [HN.out]; omega), HN.out, HW.out]; simp), rfl⟩
  · have hw' : withinB (n : Int) 1 16 = false := by simpa using hw
    go_enter Try.func53, Try.ntmps53
    go_wp2_with (go_at_call 59; refine (l01In_any _ _ _ _).mono ?_; rintro e w' ⟨rfl, rfl⟩)
    go_ret
    exact ⟨ret_bool (by unfold fleetsB; rw [HN.out, hw']; rfl), rfl⟩


theorem specIsFleets_any (A : Option Addr) (n c : Nat) (xs : List Int) (k : Int) (w : World) (h : Rd w 1 A n (ints xs)) :
    Calls Try.prog 15 #[.slice A n c, .int .i64 k] w fun e w' => e = .returned (.bool (isFleetsB xs k)) ∧ w = w' := by
  by_cases hw : withinB k 1 4 = true
  · obtain ⟨h1, h2⟩ := withinB_iff.1 hw
    go_enter Try.func15, Try.ntmps15
    go_wp2_with (first | (go_at_call 52; refine (l30Kinds_any _ _).mono ?_; rintro e w' ⟨rfl, rfl⟩) | (go_at_call 53; refine (l30Fleets_any _ _ _ _ _ h1 h2 _ h).mono ?_; rintro e w' ⟨rfl, rfl⟩))
    go_ret
    exact ⟨ret_bool (by unfold isFleetsB; rw [hw]; simp), rfl⟩
  · have hw' : withinB k 1 4 = false := by simpa using hw
    go_enter Try.func15, Try.ntmps15
    go_wp2_with (first | (go_at_call 52; refine (l30Kinds_any _ _).mono ?_; rintro e w' ⟨rfl, rfl⟩))
    go_ret
    exact ⟨ret_bool (by unfold isFleetsB; rw [hw']; simp), rfl⟩

theorem implIsFleets_any (A : Option Addr) (n c : Nat) (xs : List Int) (k : Int) (w : World) (h : Rd w 1 A n (ints xs)) :
    Calls Try.prog 17 #[.slice A n c, .int .i64 k] w fun e w' => e = .returned (.bool (isFleetsB xs k)) ∧ w = w' := by
  have HN := Lib.hid h.len_int
  have hm := h.le
  by_cases hw : withinB k 1 4 = true
  · obtain ⟨h1, h2⟩ := withinB_iff.1 hw
    by_cases hl : withinB (n : Int) 1 16 = true
    · go_enter Try.func17, Try.ntmps17
      go_wp2_with (first | (go_at_call 54; refine (isFleetCount_any _ _).mono ?_; rintro e w' ⟨rfl, rfl⟩) | (go_at_call 55; refine (within_any _ _ _ _).mono ?_; rintro e w' ⟨rfl, rfl⟩) | (go_at_call 56; refine (areRow_any _ _ _ _ _ _ _ h).mono ?_; rintro e w' ⟨rfl, rfl⟩))
      go_ret
      exact ⟨ret_bool (by unfold isFleetsB fleetsB rowB; rw [HN.out, hw, hl]; simp), rfl⟩
    · have hl' : withinB (n : Int) 1 16 = false := by simpa using hl
      go_enter Try.func17, Try.ntmps17
      go_wp2_with (first | (go_at_call 54; refine (isFleetCount_any _ _).mono ?_; rintro e w' ⟨rfl, rfl⟩) | (go_at_call 55; refine (within_any _ _ _ _).mono ?_; rintro e w' ⟨rfl, rfl⟩))
      go_ret
      exact ⟨ret_bool (by unfold isFleetsB fleetsB; rw [HN.out, hw, hl']; simp), rfl⟩
  · have hw' : withinB k 1 4 = false := by simpa using hw
    go_enter Try.func17, Try.ntmps17
    go_wp2_with (first | (go_at_call 54; refine (isFleetCount_any _ _).mono ?_; rintro e w' ⟨rfl, rfl⟩))
    go_ret
    exact ⟨ret_bool (by unfold isFleetsB; rw [hw']; simp), rfl⟩
end Go.Proofs.Ytoccfbkklponnaa

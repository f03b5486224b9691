/- Walks: a row of numbers. -/
import Derived.Test.YtalgdeieejpelaaWn
namespace Go.Proofs.Ytalgdeieejpelaa
open Go.RowKit
set_option linter.unusedVariables false

theorem areRow_any (A : Option Addr) (n c : Nat) (xs : List Int) (many most : Int) (w : World) (h : Rd w 1 A n (ints xs)) :
    Calls Try.prog 46 #[.slice A n c, .int .i64 many, .int .i64 most] w fun e w' => e = .returned (.bool (rowB xs many most)) ∧ w = w' := by
  have HN := Lib.hid h.len_int
  have hm := h.le
  go_enter Try.func46, Try.ntmps46
  go_wp2
  go_loop [8, 11] (fun _ i => ∃ k : Nat, k ≤ n ∧ i = .int .i64 k ∧ (xs.drop k).all (fun x => withinB x 0 most) = xs.all (fun x => withinB x 0 most)) (fun _ i => n - (intOf i).toNat)
  case atStart => exact ⟨0, Nat.zero_le _, rfl, rfl⟩
  case round =>
    obtain ⟨k, hk, rfl, hall⟩ := hrel
    have HA := Lib.hid hall; clear hall
    by_cases hlt : k < n
    · obtain ⟨b, o, x, rfl, hx, hd, hc⟩ := h.int hlt
      have HX := Lib.hid hx; clear hx
      have HD := Lib.hid hd; clear hd
      go_wp2_with (go_at_call 37; refine (within_any _ _ _ _).mono ?_; rintro e w' ⟨rfl, rfl⟩)
      · have hw : (!withinB x 0 most) = true := by assumption
        go_ret
        exact ⟨ret_bool (by unfold rowB; rw [← HA.out, HD.out]; simp at hw; simp [hw]), rfl⟩
      · have hw : (!withinB x 0 most) = false := by assumption
        go_round
        case rel => exact ⟨k + 1, by omega, by go_num, by rw [← HA.out, HD.out]; simp at hw; simp [hw]⟩
        case measure => simp [intOf]; omega
    · obtain rfl : k = n := by omega
      go_wp2
      go_ret
      exact ⟨ret_bool (by unfold rowB; rw [← HA.out, List.drop_eq_nil_of_le (by rw [HN.out]; omega), HN.out]; simp), rfl⟩


end Go.Proofs.Ytalgdeieejpelaa

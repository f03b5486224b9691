/- Walks: a number within bounds. -/
import Derived.Test.YtalgdeieejpelaaMf
namespace Go.Proofs.Ytalgdeieejpelaa
open Go.RowKit
set_option linter.unusedVariables false

theorem within_any (n a b : Int) (w : World) :
    Calls Try.prog 37 #[.int .i64 n, .int .i64 a, .int .i64 b] w fun e w' => e = .returned (.bool (withinB n a b)) ∧ w = w' := by
  have e1 : withinB n a b = (decide (a ≤ n) && decide (n ≤ b)) := rfl
  have E := Lib.hid e1; clear e1
  by_cases h : a ≤ n
  · go_enter Try.func37, Try.ntmps37
    go_wp2
    go_ret
    exact ⟨by rw [E.out]; simp [h], rfl⟩
  · go_enter Try.func37, Try.ntmps37
    go_wp2
    go_ret
    exact ⟨by rw [E.out]; simp; omega, rfl⟩

theorem l01In_any (n a b : Int) (w : World) :
    Calls Try.prog 30 #[.int .i64 n, .int .i64 a, .int .i64 b] w fun e w' => e = .returned (.bool (withinB n a b)) ∧ w = w' := by
  have e1 : withinB n a b = (decide (a ≤ n) && decide (n ≤ b)) := rfl
  have E := Lib.hid e1; clear e1
  by_cases h : a ≤ n
  · go_enter Try.func30, Try.ntmps30
    go_wp2
    go_ret
    exact ⟨by rw [E.out]; simp [h], rfl⟩
  · go_enter Try.func30, Try.ntmps30
    go_wp2
    go_ret
    exact ⟨by rw [E.out]; simp; omega, rfl⟩

end Go.Proofs.Ytalgdeieejpelaa

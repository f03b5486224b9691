/- Walks: headings (chapter 32), spec. -/
import Derived.Test.YtpaamhkgokkgpaaGh
import Derived.Test.YtpaamhkgokkgpaaWn
namespace Go.Proofs.Ytpaamhkgokkgpaa
open Go.RowKit
set_option linter.unusedVariables false
set_option maxRecDepth 100000

theorem specHead0 (w : World) : Calls Try.prog 77 #[.int .i64 0] w fun e w' => e = .returned (headV (headF 0)) ∧ New3 w w' := by
  go_enter Try.func77, Try.ntmps77
  go_wp2_with fail
  go_region
  all_goals
    go_wp2_with fail
    exact bodyPost_ret (v := headV (headF 0)) (by simp [results, Try.results77, go_sem, headV, headF]) rfl ⟨rfl, _, _, _, rfl⟩
theorem specHead1 (w : World) : Calls Try.prog 77 #[.int .i64 1] w fun e w' => e = .returned (headV (headF 1)) ∧ New3 w w' := by
  go_enter Try.func77, Try.ntmps77
  go_wp2_with fail
  go_region
  all_goals
    go_wp2_with fail
    exact bodyPost_ret (v := headV (headF 1)) (by simp [results, Try.results77, go_sem, headV, headF]) rfl ⟨rfl, _, _, _, rfl⟩
theorem specHead2 (w : World) : Calls Try.prog 77 #[.int .i64 2] w fun e w' => e = .returned (headV (headF 2)) ∧ New3 w w' := by
  go_enter Try.func77, Try.ntmps77
  go_wp2_with fail
  go_region
  all_goals
    go_wp2_with fail
    exact bodyPost_ret (v := headV (headF 2)) (by simp [results, Try.results77, go_sem, headV, headF]) rfl ⟨rfl, _, _, _, rfl⟩
theorem specHead3 (w : World) : Calls Try.prog 77 #[.int .i64 3] w fun e w' => e = .returned (headV (headF 3)) ∧ New3 w w' := by
  go_enter Try.func77, Try.ntmps77
  go_wp2_with fail
  go_region
  all_goals
    go_wp2_with fail
    exact bodyPost_ret (v := headV (headF 3)) (by simp [results, Try.results77, go_sem, headV, headF]) rfl ⟨rfl, _, _, _, rfl⟩
theorem specHead4 (w : World) : Calls Try.prog 77 #[.int .i64 4] w fun e w' => e = .returned (headV (headF 4)) ∧ New3 w w' := by
  go_enter Try.func77, Try.ntmps77
  go_wp2_with fail
  go_region
  all_goals
    go_wp2_with fail
    exact bodyPost_ret (v := headV (headF 4)) (by simp [results, Try.results77, go_sem, headV, headF]) rfl ⟨rfl, _, _, _, rfl⟩
theorem specHead5 (w : World) : Calls Try.prog 77 #[.int .i64 5] w fun e w' => e = .returned (headV (headF 5)) ∧ New3 w w' := by
  go_enter Try.func77, Try.ntmps77
  go_wp2_with fail
  go_region
  all_goals
    go_wp2_with fail
    exact bodyPost_ret (v := headV (headF 5)) (by simp [results, Try.results77, go_sem, headV, headF]) rfl ⟨rfl, _, _, _, rfl⟩
theorem specHead6 (w : World) : Calls Try.prog 77 #[.int .i64 6] w fun e w' => e = .returned (headV (headF 6)) ∧ New3 w w' := by
  go_enter Try.func77, Try.ntmps77
  go_wp2_with fail
  go_region
  all_goals
    go_wp2_with fail
    exact bodyPost_ret (v := headV (headF 6)) (by simp [results, Try.results77, go_sem, headV, headF]) rfl ⟨rfl, _, _, _, rfl⟩
theorem specHead7 (w : World) : Calls Try.prog 77 #[.int .i64 7] w fun e w' => e = .returned (headV (headF 7)) ∧ New3 w w' := by
  go_enter Try.func77, Try.ntmps77
  go_wp2_with fail
  go_region
  all_goals
    go_wp2_with fail
    exact bodyPost_ret (v := headV (headF 7)) (by simp [results, Try.results77, go_sem, headV, headF]) rfl ⟨rfl, _, _, _, rfl⟩
theorem specHeadX_any (d : Int) (h0 : 0 ≤ d) (h1 : d ≤ 7) (w : World) :
    Calls Try.prog 77 #[.int .i64 d] w fun e w' => e = .returned (headV (headF d)) ∧ New3 w w' := by
  rcases eight h0 h1 with rfl | rfl | rfl | rfl | rfl | rfl | rfl | rfl
  · exact specHead0 w
  · exact specHead1 w
  · exact specHead2 w
  · exact specHead3 w
  · exact specHead4 w
  · exact specHead5 w
  · exact specHead6 w
  · exact specHead7 w
theorem specHead_any (d : Int) (h0 : 0 ≤ d) (h1 : d ≤ 7) (w : World) :
    Calls Try.prog 77 #[.int .i64 d] w fun e w' => e = .returned (headV (headF d)) ∧ Below w.heap.size w w' :=
  (specHeadX_any d h0 h1 w).mono fun _ _ ⟨a, b⟩ => ⟨a, b.below⟩
end Go.Proofs.Ytpaamhkgokkgpaa

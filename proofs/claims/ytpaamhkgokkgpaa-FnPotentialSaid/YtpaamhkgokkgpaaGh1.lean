/- Walks: headings (chapter 32), impl. -/
import Derived.Test.YtpaamhkgokkgpaaGh
import Derived.Test.YtpaamhkgokkgpaaWn
namespace Go.Proofs.Ytpaamhkgokkgpaa
open Go.RowKit
set_option linter.unusedVariables false
set_option maxRecDepth 100000

theorem implHead0 (w : World) : Calls Try.prog 78 #[.int .i64 0] w fun e w' => e = .returned (headV (headF 0)) ∧ New2 w w' := by
  go_enter Try.func78, Try.ntmps78
  go_wp2_with fail
  exact bodyPost_ret (v := headV (headF 0)) (by simp [results, Try.results78, go_sem, headV, headF]) rfl ⟨rfl, _, _, rfl⟩
theorem implHead1 (w : World) : Calls Try.prog 78 #[.int .i64 1] w fun e w' => e = .returned (headV (headF 1)) ∧ New2 w w' := by
  go_enter Try.func78, Try.ntmps78
  go_wp2_with fail
  exact bodyPost_ret (v := headV (headF 1)) (by simp [results, Try.results78, go_sem, headV, headF]) rfl ⟨rfl, _, _, rfl⟩
theorem implHead2 (w : World) : Calls Try.prog 78 #[.int .i64 2] w fun e w' => e = .returned (headV (headF 2)) ∧ New2 w w' := by
  go_enter Try.func78, Try.ntmps78
  go_wp2_with fail
  exact bodyPost_ret (v := headV (headF 2)) (by simp [results, Try.results78, go_sem, headV, headF]) rfl ⟨rfl, _, _, rfl⟩
theorem implHead3 (w : World) : Calls Try.prog 78 #[.int .i64 3] w fun e w' => e = .returned (headV (headF 3)) ∧ New2 w w' := by
  go_enter Try.func78, Try.ntmps78
  go_wp2_with fail
  exact bodyPost_ret (v := headV (headF 3)) (by simp [results, Try.results78, go_sem, headV, headF]) rfl ⟨rfl, _, _, rfl⟩
theorem implHead4 (w : World) : Calls Try.prog 78 #[.int .i64 4] w fun e w' => e = .returned (headV (headF 4)) ∧ New2 w w' := by
  go_enter Try.func78, Try.ntmps78
  go_wp2_with fail
  exact bodyPost_ret (v := headV (headF 4)) (by simp [results, Try.results78, go_sem, headV, headF]) rfl ⟨rfl, _, _, rfl⟩
theorem implHead5 (w : World) : Calls Try.prog 78 #[.int .i64 5] w fun e w' => e = .returned (headV (headF 5)) ∧ New2 w w' := by
  go_enter Try.func78, Try.ntmps78
  go_wp2_with fail
  exact bodyPost_ret (v := headV (headF 5)) (by simp [results, Try.results78, go_sem, headV, headF]) rfl ⟨rfl, _, _, rfl⟩
theorem implHead6 (w : World) : Calls Try.prog 78 #[.int .i64 6] w fun e w' => e = .returned (headV (headF 6)) ∧ New2 w w' := by
  go_enter Try.func78, Try.ntmps78
  go_wp2_with fail
  exact bodyPost_ret (v := headV (headF 6)) (by simp [results, Try.results78, go_sem, headV, headF]) rfl ⟨rfl, _, _, rfl⟩
theorem implHead7 (w : World) : Calls Try.prog 78 #[.int .i64 7] w fun e w' => e = .returned (headV (headF 7)) ∧ New2 w w' := by
  go_enter Try.func78, Try.ntmps78
  go_wp2_with fail
  exact bodyPost_ret (v := headV (headF 7)) (by simp [results, Try.results78, go_sem, headV, headF]) rfl ⟨rfl, _, _, rfl⟩
theorem implHeadX_any (d : Int) (h0 : 0 ≤ d) (h1 : d ≤ 7) (w : World) :
    Calls Try.prog 78 #[.int .i64 d] w fun e w' => e = .returned (headV (headF d)) ∧ New2 w w' := by
  rcases eight h0 h1 with rfl | rfl | rfl | rfl | rfl | rfl | rfl | rfl
  · exact implHead0 w
  · exact implHead1 w
  · exact implHead2 w
  · exact implHead3 w
  · exact implHead4 w
  · exact implHead5 w
  · exact implHead6 w
  · exact implHead7 w
theorem implHead_any (d : Int) (h0 : 0 ≤ d) (h1 : d ≤ 7) (w : World) :
    Calls Try.prog 78 #[.int .i64 d] w fun e w' => e = .returned (headV (headF d)) ∧ Below w.heap.size w w' :=
  (implHeadX_any d h0 h1 w).mono fun _ _ ⟨a, b⟩ => ⟨a, b.below⟩
end Go.Proofs.Ytpaamhkgokkgpaa

/- Walks: headings (chapter 32), impl. -/
import Derived.Test.YtpaamhkgokkgpaaGh
import Derived.Test.YtpaamhkgokkgpaaWn
namespace Go.Proofs.Ytpaamhkgokkgpaa
open Go.RowKit
set_option linter.unusedVariables false
set_option maxRecDepth 100000

theorem implHead0 (w : World) : Calls Try.prog 78 #[.int .i64 0] w fun e w' => e = .returned (headV (headF 0)) ∧ Below w.heap.size w w' := by
  have HB := Lib.hid (show ∀ o1 o2, Below w.heap.size w ((w.alloc o1).alloc o2) from fun o1 o2 => ((Below.refl _ _).alloc (Nat.le_refl _) o1).alloc (by simp) o2)
  go_enter Try.func78, Try.ntmps78
  go_wp2_with fail
  exact bodyPost_ret (v := headV (headF 0)) (by simp [results, Try.results78, go_sem, headV, headF]) rfl ⟨rfl, HB.out _ _⟩
theorem implHead1 (w : World) : Calls Try.prog 78 #[.int .i64 1] w fun e w' => e = .returned (headV (headF 1)) ∧ Below w.heap.size w w' := by
  have HB := Lib.hid (show ∀ o1 o2, Below w.heap.size w ((w.alloc o1).alloc o2) from fun o1 o2 => ((Below.refl _ _).alloc (Nat.le_refl _) o1).alloc (by simp) o2)
  go_enter Try.func78, Try.ntmps78
  go_wp2_with fail
  exact bodyPost_ret (v := headV (headF 1)) (by simp [results, Try.results78, go_sem, headV, headF]) rfl ⟨rfl, HB.out _ _⟩
theorem implHead2 (w : World) : Calls Try.prog 78 #[.int .i64 2] w fun e w' => e = .returned (headV (headF 2)) ∧ Below w.heap.size w w' := by
  have HB := Lib.hid (show ∀ o1 o2, Below w.heap.size w ((w.alloc o1).alloc o2) from fun o1 o2 => ((Below.refl _ _).alloc (Nat.le_refl _) o1).alloc (by simp) o2)
  go_enter Try.func78, Try.ntmps78
  go_wp2_with fail
  exact bodyPost_ret (v := headV (headF 2)) (by simp [results, Try.results78, go_sem, headV, headF]) rfl ⟨rfl, HB.out _ _⟩
theorem implHead3 (w : World) : Calls Try.prog 78 #[.int .i64 3] w fun e w' => e = .returned (headV (headF 3)) ∧ Below w.heap.size w w' := by
  have HB := Lib.hid (show ∀ o1 o2, Below w.heap.size w ((w.alloc o1).alloc o2) from fun o1 o2 => ((Below.refl _ _).alloc (Nat.le_refl _) o1).alloc (by simp) o2)
  go_enter Try.func78, Try.ntmps78
  go_wp2_with fail
  exact bodyPost_ret (v := headV (headF 3)) (by simp [results, Try.results78, go_sem, headV, headF]) rfl ⟨rfl, HB.out _ _⟩
theorem implHead4 (w : World) : Calls Try.prog 78 #[.int .i64 4] w fun e w' => e = .returned (headV (headF 4)) ∧ Below w.heap.size w w' := by
  have HB := Lib.hid (show ∀ o1 o2, Below w.heap.size w ((w.alloc o1).alloc o2) from fun o1 o2 => ((Below.refl _ _).alloc (Nat.le_refl _) o1).alloc (by simp) o2)
  go_enter Try.func78, Try.ntmps78
  go_wp2_with fail
  exact bodyPost_ret (v := headV (headF 4)) (by simp [results, Try.results78, go_sem, headV, headF]) rfl ⟨rfl, HB.out _ _⟩
theorem implHead5 (w : World) : Calls Try.prog 78 #[.int .i64 5] w fun e w' => e = .returned (headV (headF 5)) ∧ Below w.heap.size w w' := by
  have HB := Lib.hid (show ∀ o1 o2, Below w.heap.size w ((w.alloc o1).alloc o2) from fun o1 o2 => ((Below.refl _ _).alloc (Nat.le_refl _) o1).alloc (by simp) o2)
  go_enter Try.func78, Try.ntmps78
  go_wp2_with fail
  exact bodyPost_ret (v := headV (headF 5)) (by simp [results, Try.results78, go_sem, headV, headF]) rfl ⟨rfl, HB.out _ _⟩
theorem implHead6 (w : World) : Calls Try.prog 78 #[.int .i64 6] w fun e w' => e = .returned (headV (headF 6)) ∧ Below w.heap.size w w' := by
  have HB := Lib.hid (show ∀ o1 o2, Below w.heap.size w ((w.alloc o1).alloc o2) from fun o1 o2 => ((Below.refl _ _).alloc (Nat.le_refl _) o1).alloc (by simp) o2)
  go_enter Try.func78, Try.ntmps78
  go_wp2_with fail
  exact bodyPost_ret (v := headV (headF 6)) (by simp [results, Try.results78, go_sem, headV, headF]) rfl ⟨rfl, HB.out _ _⟩
theorem implHead7 (w : World) : Calls Try.prog 78 #[.int .i64 7] w fun e w' => e = .returned (headV (headF 7)) ∧ Below w.heap.size w w' := by
  have HB := Lib.hid (show ∀ o1 o2, Below w.heap.size w ((w.alloc o1).alloc o2) from fun o1 o2 => ((Below.refl _ _).alloc (Nat.le_refl _) o1).alloc (by simp) o2)
  go_enter Try.func78, Try.ntmps78
  go_wp2_with fail
  exact bodyPost_ret (v := headV (headF 7)) (by simp [results, Try.results78, go_sem, headV, headF]) rfl ⟨rfl, HB.out _ _⟩
theorem implHead_any (d : Int) (h0 : 0 ≤ d) (h1 : d ≤ 7) (w : World) :
    Calls Try.prog 78 #[.int .i64 d] w fun e w' => e = .returned (headV (headF d)) ∧ Below w.heap.size w w' := by
  rcases eight h0 h1 with rfl | rfl | rfl | rfl | rfl | rfl | rfl | rfl
  · exact implHead0 w
  · exact implHead1 w
  · exact implHead2 w
  · exact implHead3 w
  · exact implHead4 w
  · exact implHead5 w
  · exact implHead6 w
  · exact implHead7 w
end Go.Proofs.Ytpaamhkgokkgpaa

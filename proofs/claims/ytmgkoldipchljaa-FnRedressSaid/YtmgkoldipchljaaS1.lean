/- One cell of one element of an own slice of structs is written. -/
import Derived.Test.YtmgkoldipchljaaZma
namespace Go.Proofs.Ytmgkoldipchljaa
open Go.RowKit
set_option linter.unusedVariables false

theorem flat_set1 {α : Type} {f : α → List Value} {s : Nat} (hf : ∀ x, (f x).length = s) {j : Nat} (hj : j < s) (v : Value) {x y : α} (hy : f y = (f x).set j v) : ∀ (xs : List α) (k : Nat), xs[k]? = some x → (xs.flatMap f).set (k * s + j) v = (xs.set k y).flatMap f := by
  intro xs
  induction xs with
  | nil => intro k h; simp at h
  | cons a r ih =>
    intro k h
    cases k with
    | zero =>
      simp at h
      subst h
      rw [Nat.zero_mul, Nat.zero_add, List.flatMap_cons, List.set_cons_zero, List.flatMap_cons, List.set_append_left _ _ (by rw [hf]; exact hj), hy]
    | succ k =>
      have e : (k + 1) * s + j = s + (k * s + j) := by rw [Nat.add_mul, Nat.one_mul]; omega
      rw [List.flatMap_cons, List.set_cons_succ, List.flatMap_cons, e, List.set_append_right _ _ (by rw [hf]; omega), hf, Nat.add_sub_cancel_left, ih k (by simpa using h)]
theorem own_set1 {α : Type} {f : α → List Value} {s : Nat} (hf : ∀ x, (f x).length = s) {w : World} {base e g n c k : Nat} {xs : List α} (h : w.ownsRow base e s (.slice (some ⟨g, 0, none⟩) n c) n (xs.flatMap f)) {j : Nat} (hj : j < s) {x : α} (hx : xs[k]? = some x) (v : Value) (y : α) (hy : f y = (f x).set j v) :
    (w.setCell ⟨g, k * s + j, none⟩ v).ownsRow base e s (.slice (some ⟨g, 0, none⟩) n c) n ((xs.set k y).flatMap f) := by
  rw [← flat_set1 hf hj v hy xs k hx]
  exact (h.stored _ v).1
end Go.Proofs.Ytmgkoldipchljaa

/- Walks: lists of redress (chapter 29), both sides. -/
import Derived.Test.YtalgdeieejpelaaTd
import Derived.Test.YtalgdeieejpelaaRs
namespace Go.Proofs.Ytalgdeieejpelaa
open Go.RowKit
set_option linter.unusedVariables false
set_option maxRecDepth 100000

/-- Points of a redress, and whether there are some. -/
def redPtF (t : Tb) (x : RedT) : Int × Bool := if x.2.2.1 = 3 then (x.2.2.2, true) else avgF t x.1 x.2.1 x.2.2.1
theorem redB_ok {t : Tb} {x : RedT} (a1 : withinB x.1 0 ((t.pts.length : Int) - 1) = true) (a2 : withinB x.2.1 0 (t.boats - 1) = true) (a3 : isRedBT x.2.2.1 x.2.2.2 = true) (a4 : codeAt t x.1 x.2.1 = 9) : redB t x = (redPtF t x).2 := by
  unfold redB redPtF
  rw [a1, a2, a3, a4]
  by_cases h : x.2.2.1 = 3
  · simp [h]
  · simp [h]
theorem redB_no {t : Tb} {x : RedT} (h : withinB x.1 0 ((t.pts.length : Int) - 1) = false ∨ withinB x.2.1 0 (t.boats - 1) = false ∨ isRedBT x.2.2.1 x.2.2.2 = false ∨ codeAt t x.1 x.2.1 ≠ 9) : redB t x = false := by
  unfold redB
  rcases h with h | h | h | h
  · rw [h]; simp
  · rw [h]; simp
  · rw [h]; simp
  · have : (codeAt t x.1 x.2.1 == 9) = false := by simpa using h
    rw [this]; simp
def prevR (xs : List RedT) : Nat → Option RedT
  | 0 => none
  | k + 1 => xs[k]?
theorem reds_no {t : Tb} {x : RedT} {p : Option RedT} {r : List RedT} (h : redB t x = false) : redsGo t p (x :: r) = false := by
  cases p <;> simp [redsGo, h]
theorem reds_first {t : Tb} {x : RedT} {r : List RedT} (h : redB t x = true) : redsGo t none (x :: r) = redsGo t (some x) r := by simp [redsGo, h]
theorem reds_next {t : Tb} {x y : RedT} {r : List RedT} (h : redB t x = true) (hl : ltRB y x = true) : redsGo t (some y) (x :: r) = redsGo t (some x) r := by simp [redsGo, h, hl]
theorem reds_bad {t : Tb} {x y : RedT} {r : List RedT} (hl : ltRB y x = false) : redsGo t (some y) (x :: r) = false := by simp [redsGo, hl]
theorem isRedB_kind {k p : Int} (h : isRedBT k p = true) : k = 1 ∨ k = 2 ∨ k = 3 := by
  unfold isRedBT at h
  by_cases h3 : k = 3
  · exact .inr (.inr h3)
  · rw [if_neg h3] at h
    simp only [Bool.and_eq_true, withinB_iff] at h
    omega
theorem within_litT {n a b : Int} {r : Bool} (h : withinB n a b = r) (w : World) : Calls Try.prog 37 #[.int .i64 n, .int .i64 a, .int .i64 b] w fun e w' => e = .returned (.bool r) ∧ w = w' := by
  subst h; exact within_any n a b w
theorem l01In_litT {n a b : Int} {r : Bool} (h : withinB n a b = r) (w : World) : Calls Try.prog 30 #[.int .i64 n, .int .i64 a, .int .i64 b] w fun e w' => e = .returned (.bool r) ∧ w = w' := by
  subst h; exact l01In_any n a b w
theorem isRedress_anyT (x0 x1 x2 x3 : Int) (w : World) :
    Calls Try.prog 47 #[.agg #[.int .i64 x0, .int .i64 x1, .int .i64 x2, .int .i64 x3]] w fun e w' => e = .returned (.bool (isRedBT x2 x3)) ∧ Below w.heap.size w w' := by
  have HB := Lib.hid (show ∀ o, Below w.heap.size w (w.alloc o) from fun o => (Below.refl _ _).alloc (Nat.le_refl _) o)
  unfold isRedBT
  by_cases h3 : x2 = 3
  · subst h3
    rw [if_pos rfl]
    go_enter Try.func47, Try.ntmps47
    go_wp2_with (go_at_call 37; refine (within_any _ _ _ _).mono ?_; rintro e w' ⟨rfl, rfl⟩)
    go_ret
    exact ⟨rfl, HB.out _⟩
  · rw [if_neg h3]
    have e3 : (x2 == 3) = false := by simp [h3]
    cases h12 : withinB x2 1 2 with
    | false =>
      have HWL := Lib.hid (fun w => within_litT h12 w)
      clear h12
      go_enter Try.func47, Try.ntmps47
      go_wp2_with (go_at_call 37; refine (HWL.out _).mono ?_; rintro e w' ⟨rfl, rfl⟩)
      go_ret
      exact ⟨rfl, HB.out _⟩
    | true =>
      have HWL := Lib.hid (fun w => within_litT h12 w)
      clear h12
      go_enter Try.func47, Try.ntmps47
      go_wp2_with (go_at_call 37; refine (HWL.out _).mono ?_; rintro e w' ⟨rfl, rfl⟩)
      go_ret
      exact ⟨ret_bool (by simp), HB.out _⟩
theorem redressPoints_any (P : Option Addr) (n c : Nat) (C : Option Addr) (m d : Nat) (t : Tb) (x0 : Int) (bt : Nat) (x2 x3 : Int) (hk : x2 = 1 ∨ x2 = 2 ∨ x2 = 3) (ok : TabOk t) (hbt : (bt : Int) < t.boats) (w : World) (h : RdT w P n C m t) :
    Calls Try.prog 40 #[.agg #[.int .i64 t.boats, .slice P n c, .slice C m d], .agg #[.int .i64 x0, .int .i64 bt, .int .i64 x2, .int .i64 x3]] w fun e w' => e = .returned (.tuple #[.int .i64 (redPtF t (x0, (bt : Int), x2, x3)).1, .bool (redPtF t (x0, (bt : Int), x2, x3)).2]) ∧ Below w.heap.size w w' := by
  have HB := Lib.hid (show ∀ o1 o2, Below w.heap.size w ((w.alloc o1).alloc o2) from fun o1 o2 => ((Below.refl _ _).alloc (Nat.le_refl _) _).alloc (by simp) _)
  unfold redPtF
  show Calls _ _ _ _ fun e w' => e = .returned (.tuple #[.int .i64 (if x2 = 3 then (x3, true) else avgF t x0 bt x2).1, .bool (if x2 = 3 then (x3, true) else avgF t x0 bt x2).2]) ∧ Below w.heap.size w w'
  by_cases h3 : x2 = 3
  · subst h3
    rw [if_pos rfl]
    go_enter Try.func40, Try.ntmps40
    go_wp2_with fail
    go_ret2
    exact ⟨rfl, HB.out _ _⟩
  · rw [if_neg h3]
    have e3 : (x2 == 3) = false := by simp [h3]
    have HA := Lib.hid (fun w' (hb : Below w.heap.size w w') => implAvg_any P n c C m d t x0 bt x2 (by omega) ok hbt w' (h.below hb))
    generalize avgF t x0 bt x2 = R at *
    clear h hk hbt ok h3
    go_enter Try.func40, Try.ntmps40
    go_wp2_with fail
    refine (HA.out _ (HB.out _ _)).mono ?_
    rintro e w2 ⟨rfl, hb2⟩
    have HB2 := Lib.hid ((HB.out _ _).trans (hb2.mono (HB.out _ _).size))
    clear hb2
    go_wp2_with fail
    go_ret2
    exact ⟨rfl, HB2.out⟩
end Go.Proofs.Ytalgdeieejpelaa

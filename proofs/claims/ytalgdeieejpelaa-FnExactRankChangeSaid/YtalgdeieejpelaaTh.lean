/- Walks: codes and open redress of the program (chapter 29). -/
import Derived.Test.YtalgdeieejpelaaTf
import Derived.Test.YtalgdeieejpelaaTg
namespace Go.Proofs.Ytalgdeieejpelaa
open Go.RowKit Go.Sort
set_option linter.unusedVariables false
set_option maxRecDepth 100000

theorem redressCode_any (P : Option Addr) (n c : Nat) (C : Option Addr) (m d : Nat) (t : Tb) (A : Option Addr) (l cl : Nat) (xs : List RedT) (w : World) (h : RdT w P n C m t) (hl : Rd w 4 A l (reds xs)) :
    Calls Try.prog 21 #[.agg #[.int .i64 t.boats, .slice P n c, .slice C m d], .slice A l cl] w fun e w' => e = .returned (.int .i64 (redCodeF t xs)) ∧ Below w.heap.size w w' := by
  have HT := Lib.hid (fun w' (hb : Below w.heap.size w w') => implIsTable_any P n c C m d t w' (h.below hb))
  obtain ⟨w1, hw1, X0, hb1, hs1⟩ := one_box w #[.int .i64 t.boats, .slice P n c, .slice C m d] 31
  unfold redCodeF
  cases ht : tableB t with
  | false =>
    rw [ht] at HT
    rw [if_neg (by decide)]
    clear ht
    go_enter Try.func21, Try.ntmps21
    go_wp2_with fail
    rw [← hw1]
    clear hw1
    refine (HT.out _ hb1).mono ?_
    rintro e w2 ⟨rfl, hb2⟩
    have HB2 := Lib.hid (hb1.trans (hb2.mono hb1.size))
    have F0 := (X0.below hb2).f3
    clear hb1 hb2 X0
    go_wp2_with fail
    go_ret
    exact ⟨rfl, HB2.out⟩
  | true =>
    have HR := Lib.hid (fun w' (hb : Below w.heap.size w w') => areRedress_any P n c C m d t A l cl xs (tableB_ok ht) w' (h.below hb) (hl.below hb))
    rw [ht] at HT
    rw [if_pos rfl]
    clear ht
    cases hx : redsB t xs with
    | false =>
      rw [hx] at HR
      rw [if_neg (by decide)]
      clear hx
      go_enter Try.func21, Try.ntmps21
      go_wp2_with fail
      rw [← hw1]
      clear hw1
      refine (HT.out _ hb1).mono ?_
      rintro e w2 ⟨rfl, hb2⟩
      have HB2 := Lib.hid (hb1.trans (hb2.mono hb1.size))
      have F0 := (X0.below hb2).f3
      clear hb1 hb2 X0
      go_wp2_with fail
      refine (HR.out _ HB2.out).mono ?_
      rintro e w3 ⟨rfl, hb3⟩
      have HB3 := Lib.hid (HB2.out.trans (hb3.mono HB2.out.size))
      clear hb3
      go_wp2_with fail
      go_ret
      exact ⟨rfl, HB3.out⟩
    | true =>
      rw [hx] at HR
      rw [if_pos rfl]
      clear hx
      go_enter Try.func21, Try.ntmps21
      go_wp2_with fail
      rw [← hw1]
      clear hw1
      refine (HT.out _ hb1).mono ?_
      rintro e w2 ⟨rfl, hb2⟩
      have HB2 := Lib.hid (hb1.trans (hb2.mono hb1.size))
      have F0 := (X0.below hb2).f3
      clear hb1 hb2 X0
      go_wp2_with fail
      refine (HR.out _ HB2.out).mono ?_
      rintro e w3 ⟨rfl, hb3⟩
      have HB3 := Lib.hid (HB2.out.trans (hb3.mono HB2.out.size))
      clear hb3
      go_wp2_with fail
      go_ret
      exact ⟨rfl, HB3.out⟩
theorem l29Code_any (P : Option Addr) (n c : Nat) (C : Option Addr) (m d : Nat) (t : Tb) (A : Option Addr) (l cl : Nat) (xs : List RedT) (w : World) (h : RdT w P n C m t) (hl : Rd w 4 A l (reds xs)) :
    Calls Try.prog 16 #[.agg #[.int .i64 t.boats, .slice P n c, .slice C m d], .slice A l cl] w fun e w' => e = .returned (.int .i64 (redCodeF t xs)) ∧ Below w.heap.size w w' := by
  have HT := Lib.hid (fun w' (hb : Below w.heap.size w w') => specIsTable_any P n c C m d t w' (h.below hb))
  obtain ⟨w1, hw1, X0, hb1, hs1⟩ := one_box w #[.int .i64 t.boats, .slice P n c, .slice C m d] 31
  unfold redCodeF
  cases ht : tableB t with
  | false =>
    rw [ht] at HT
    rw [if_neg (by decide)]
    clear ht
    go_enter Try.func16, Try.ntmps16
    go_wp2_with fail
    rw [← hw1]
    clear hw1
    refine (HT.out _ hb1).mono ?_
    rintro e w2 ⟨rfl, hb2⟩
    have HB2 := Lib.hid (hb1.trans (hb2.mono hb1.size))
    have F0 := (X0.below hb2).f3
    clear hb1 hb2 X0
    go_wp2_with fail
    go_ret
    exact ⟨rfl, HB2.out⟩
  | true =>
    have HR := Lib.hid (fun w' (hb : Below w.heap.size w w') => l29Valid_any P n c C m d t A l cl xs (tableB_ok ht) w' (h.below hb) (hl.below hb))
    rw [ht] at HT
    rw [if_pos rfl]
    clear ht
    cases hx : redsB t xs with
    | false =>
      rw [hx] at HR
      rw [if_neg (by decide)]
      clear hx
      go_enter Try.func16, Try.ntmps16
      go_wp2_with fail
      rw [← hw1]
      clear hw1
      refine (HT.out _ hb1).mono ?_
      rintro e w2 ⟨rfl, hb2⟩
      have HB2 := Lib.hid (hb1.trans (hb2.mono hb1.size))
      have F0 := (X0.below hb2).f3
      clear hb1 hb2 X0
      go_wp2_with fail
      refine (HR.out _ HB2.out).mono ?_
      rintro e w3 ⟨rfl, hb3⟩
      have HB3 := Lib.hid (HB2.out.trans (hb3.mono HB2.out.size))
      clear hb3
      go_wp2_with fail
      go_ret
      exact ⟨rfl, HB3.out⟩
    | true =>
      rw [hx] at HR
      rw [if_pos rfl]
      clear hx
      go_enter Try.func16, Try.ntmps16
      go_wp2_with fail
      rw [← hw1]
      clear hw1
      refine (HT.out _ hb1).mono ?_
      rintro e w2 ⟨rfl, hb2⟩
      have HB2 := Lib.hid (hb1.trans (hb2.mono hb1.size))
      have F0 := (X0.below hb2).f3
      clear hb1 hb2 X0
      go_wp2_with fail
      refine (HR.out _ HB2.out).mono ?_
      rintro e w3 ⟨rfl, hb3⟩
      have HB3 := Lib.hid (HB2.out.trans (hb3.mono HB2.out.size))
      clear hb3
      go_wp2_with fail
      go_ret
      exact ⟨rfl, HB3.out⟩
/-- The first element for which p holds. -/
def givenF (p : RedressT → Bool) : Nat → List RedressT → Int
  | _, [] => -1
  | i, x :: r => if p x = true then (i : Int) else givenF p (i + 1) r
theorem givenF_any (p : RedressT → Bool) (i : Nat) (xs : List RedressT) : decide (0 ≤ givenF p i xs) = xs.any p := by
  induction xs generalizing i with
  | nil => rfl
  | cons x r ih =>
    unfold givenF
    by_cases h : p x = true
    · rw [if_pos h, List.any_cons, h]; simp
    · rw [if_neg h, ih, List.any_cons]; simp [h]
end Go.Proofs.Ytalgdeieejpelaa

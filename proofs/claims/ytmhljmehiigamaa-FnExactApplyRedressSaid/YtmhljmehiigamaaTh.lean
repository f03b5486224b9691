/- Walks: codes and open redress of the program (chapter 29). -/
import Derived.Test.YtmhljmehiigamaaTf
import Derived.Test.YtmhljmehiigamaaTg
namespace Go.Proofs.Ytmhljmehiigamaa
open Go.RowKit Go.Sort
set_option linter.unusedVariables false
set_option maxRecDepth 100000

theorem redressCode_any (P : Option Addr) (n c : Nat) (C : Option Addr) (m d : Nat) (t : Tb) (A : Option Addr) (l cl : Nat) (xs : List RedT) (w : World) (h : RdT w P n C m t) (hl : Rd w 4 A l (reds xs)) :
    Calls Try.prog 54 #[.agg #[.int .i64 t.boats, .slice P n c, .slice C m d], .slice A l cl] w fun e w' => e = .returned (.int .i64 (redCodeF t xs)) ∧ Below w.heap.size w w' := by
  have HT := Lib.hid (fun w' (hb : Below w.heap.size w w') => implIsTable_any P n c C m d t w' (h.below hb))
  obtain ⟨w1, hw1, X0, hb1, hs1⟩ := one_box w #[.int .i64 t.boats, .slice P n c, .slice C m d] 26
  unfold redCodeF
  cases ht : tableB t with
  | false =>
    rw [ht] at HT
    rw [if_neg (by decide)]
    clear ht
    go_enter Try.func54, Try.ntmps54
    go_wp2_with fail
    rw [← hw1]
    clear hw1
    refine (HT.out _ hb1).mono ?_
    rintro e w2 ⟨rfl, hb2⟩
    have HB2 := Lib.hid (hb1.trans (hb2.mono hb1.size))
    have F0 := (X0.below hb2).f3
    clear hb1 hb2 X0
    go_wp2_with fail
    go_ret
    exact ⟨rfl, HB2.out⟩
  | true =>
    have HR := Lib.hid (fun w' (hb : Below w.heap.size w w') => areRedress_any P n c C m d t A l cl xs (tableB_ok ht) w' (h.below hb) (hl.below hb))
    rw [ht] at HT
    rw [if_pos rfl]
    clear ht
    cases hx : redsB t xs with
    | false =>
      rw [hx] at HR
      rw [if_neg (by decide)]
      clear hx
      go_enter Try.func54, Try.ntmps54
      go_wp2_with fail
      rw [← hw1]
      clear hw1
      refine (HT.out _ hb1).mono ?_
      rintro e w2 ⟨rfl, hb2⟩
      have HB2 := Lib.hid (hb1.trans (hb2.mono hb1.size))
      have F0 := (X0.below hb2).f3
      clear hb1 hb2 X0
      go_wp2_with fail
      refine (HR.out _ HB2.out).mono ?_
      rintro e w3 ⟨rfl, hb3⟩
      have HB3 := Lib.hid (HB2.out.trans (hb3.mono HB2.out.size))
      clear hb3
      go_wp2_with fail
      go_ret
      exact ⟨rfl, HB3.out⟩
    | true =>
      rw [hx] at HR
      rw [if_pos rfl]
      clear hx
      go_enter Try.func54, Try.ntmps54
      go_wp2_with fail
      rw [← hw1]
      clear hw1
      refine (HT.out _ hb1).mono ?_
      rintro e w2 ⟨rfl, hb2⟩
      have HB2 := Lib.hid (hb1.trans (hb2.mono hb1.size))
      have F0 := (X0.below hb2).f3
      clear hb1 hb2 X0
      go_wp2_with fail
      refine (HR.out _ HB2.out).mono ?_
      rintro e w3 ⟨rfl, hb3⟩
      have HB3 := Lib.hid (HB2.out.trans (hb3.mono HB2.out.size))
      clear hb3
      go_wp2_with fail
      go_ret
      exact ⟨rfl, HB3.out⟩
theorem l29Code_any (P : Option Addr) (n c : Nat) (C : Option Addr) (m d : Nat) (t : Tb) (A : Option Addr) (l cl : Nat) (xs : List RedT) (w : World) (h : RdT w P n C m t) (hl : Rd w 4 A l (reds xs)) :
    Calls Try.prog 53 #[.agg #[.int .i64 t.boats, .slice P n c, .slice C m d], .slice A l cl] w fun e w' => e = .returned (.int .i64 (redCodeF t xs)) ∧ Below w.heap.size w w' := by
  have HT := Lib.hid (fun w' (hb : Below w.heap.size w w') => specIsTable_any P n c C m d t w' (h.below hb))
  obtain ⟨w1, hw1, X0, hb1, hs1⟩ := one_box w #[.int .i64 t.boats, .slice P n c, .slice C m d] 26
  unfold redCodeF
  cases ht : tableB t with
  | false =>
    rw [ht] at HT
    rw [if_neg (by decide)]
    clear ht
    go_enter Try.func53, Try.ntmps53
    go_wp2_with fail
    rw [← hw1]
    clear hw1
    refine (HT.out _ hb1).mono ?_
    rintro e w2 ⟨rfl, hb2⟩
    have HB2 := Lib.hid (hb1.trans (hb2.mono hb1.size))
    have F0 := (X0.below hb2).f3
    clear hb1 hb2 X0
    go_wp2_with fail
    go_ret
    exact ⟨rfl, HB2.out⟩
  | true =>
    have HR := Lib.hid (fun w' (hb : Below w.heap.size w w') => l29Valid_any P n c C m d t A l cl xs (tableB_ok ht) w' (h.below hb) (hl.below hb))
    rw [ht] at HT
    rw [if_pos rfl]
    clear ht
    cases hx : redsB t xs with
    | false =>
      rw [hx] at HR
      rw [if_neg (by decide)]
      clear hx
      go_enter Try.func53, Try.ntmps53
      go_wp2_with fail
      rw [← hw1]
      clear hw1
      refine (HT.out _ hb1).mono ?_
      rintro e w2 ⟨rfl, hb2⟩
      have HB2 := Lib.hid (hb1.trans (hb2.mono hb1.size))
      have F0 := (X0.below hb2).f3
      clear hb1 hb2 X0
      go_wp2_with fail
      refine (HR.out _ HB2.out).mono ?_
      rintro e w3 ⟨rfl, hb3⟩
      have HB3 := Lib.hid (HB2.out.trans (hb3.mono HB2.out.size))
      clear hb3
      go_wp2_with fail
      go_ret
      exact ⟨rfl, HB3.out⟩
    | true =>
      rw [hx] at HR
      rw [if_pos rfl]
      clear hx
      go_enter Try.func53, Try.ntmps53
      go_wp2_with fail
      rw [← hw1]
      clear hw1
      refine (HT.out _ hb1).mono ?_
      rintro e w2 ⟨rfl, hb2⟩
      have HB2 := Lib.hid (hb1.trans (hb2.mono hb1.size))
      have F0 := (X0.below hb2).f3
      clear hb1 hb2 X0
      go_wp2_with fail
      refine (HR.out _ HB2.out).mono ?_
      rintro e w3 ⟨rfl, hb3⟩
      have HB3 := Lib.hid (HB2.out.trans (hb3.mono HB2.out.size))
      clear hb3
      go_wp2_with fail
      go_ret
      exact ⟨rfl, HB3.out⟩
/-- The first element for which p holds. -/
def givenF (p : RedressT → Bool) : Nat → List RedressT → Int
  | _, [] => -1
  | i, x :: r => if p x = true then (i : Int) else givenF p (i + 1) r
theorem givenF_any (p : RedressT → Bool) (i : Nat) (xs : List RedressT) : decide (0 ≤ givenF p i xs) = xs.any p := by
  induction xs generalizing i with
  | nil => rfl
  | cons x r ih =>
    unfold givenF
    by_cases h : p x = true
    · rw [if_pos h, List.any_cons, h]; simp
    · rw [if_neg h, ih, List.any_cons]; simp [h]
theorem given_any (A : Option Addr) (n c : Nat) (xs : List RedressT) (q0 q1 : Value) (p : RedressT → Bool) (w : World) (h : Rd w 4 A n (reds xs))
    (hp : ∀ x0 x1 x2 x3 w', Below w.heap.size w w' → Calls Try.prog 55 #[.agg #[.int .i64 x0, .int .i64 x1, .int .i64 x2, .int .i64 x3], q0, q1] w' fun e w'' => e = .returned (.bool (p (x0, x1, x2, x3))) ∧ Below w'.heap.size w' w'') :
    Calls Try.prog 73 #[.slice A n c, .func (.func 55) #[] #[q0, q1]] w fun e w' => e = .returned (.int .i64 (givenF p 0 xs)) ∧ Below w.heap.size w w' := by
  have HN := Lib.hid h.len_red
  have hm := h.le
  have HP := Lib.hid hp
  clear hp
  go_enter Try.func73, Try.ntmps73
  go_wp2_with fail
  go_loopw [8] (fun i wr => ∃ k : Nat, k ≤ n ∧ i = .int .i64 k ∧ Hid (givenF p k (xs.drop k) = givenF p 0 xs) ∧ Below w.heap.size w wr) (fun i _ => n - (intOf i).toNat)
  case atStart => exact ⟨0, Nat.zero_le _, rfl, Lib.hid rfl, Below.refl _ _⟩
  case round =>
    obtain ⟨k, hk, rfl, HR, hb⟩ := hrel
    by_cases hlt : k < n
    · obtain ⟨b, o, x0, x1, x2, x3, rfl, hx, hd, hc0, hc1, hc2, hc3⟩ := (h.below hb).red hlt
      have HD := Lib.hid hd; clear hd hx
      have HB := Lib.hid hb; clear hb
      have HC := Lib.hid (fun w' (hb : Below w.heap.size w w') => HP.out x0 x1 x2 x3 w' hb)
      cases hw : p (x0, x1, x2, x3) with
      | true =>
        rw [hw] at HC
        have HW := Lib.hid hw; clear hw
        go_wp2_with fail
        refine (HC.out _ HB.out).mono ?_
        rintro e w2 ⟨rfl, hb2⟩
        have HB2 := Lib.hid (HB.out.trans (hb2.mono HB.out.size))
        clear hb2 HB HC
        go_wp2_with fail
        go_ret
        exact ⟨ret_int (by rw [← HR.out, HD.out, givenF, if_pos HW.out]), HB2.out⟩
      | false =>
        rw [hw] at HC
        have HW := Lib.hid hw; clear hw
        go_wp2_with fail
        refine (HC.out _ HB.out).mono ?_
        rintro e w2 ⟨rfl, hb2⟩
        have HB2 := Lib.hid (HB.out.trans (hb2.mono HB.out.size))
        clear hb2 HB HC
        go_wp2_with fail
        go_roundw
        case rel => exact ⟨k + 1, by omega, by go_num, Lib.hid (by rw [← HR.out, HD.out, givenF, if_neg (by rw [HW.out]; decide)]), HB2.out⟩
        case measure => simp [intOf] <;> omega
    · obtain rfl : k = n := by omega
      go_wp2_with fail
      go_ret
      exact ⟨ret_int (by rw [← HR.out, List.drop_eq_nil_of_le (by rw [HN.out]; omega), givenF]), hb⟩
theorem givenC_any (A : Option Addr) (n c : Nat) (xs : List RedressT) (q0 q1 : Value) (p : RedressT → Bool) (w : World) (h : Rd w 4 A n (reds xs))
    (hp : ∀ x0 x1 x2 x3 w', Below w.heap.size w w' → Calls Try.prog 55 #[.agg #[.int .i64 x0, .int .i64 x1, .int .i64 x2, .int .i64 x3], q0, q1] w' fun e w'' => e = .returned (.bool (p (x0, x1, x2, x3))) ∧ Below w'.heap.size w' w'') :
    Calls Try.prog 56 #[.slice A n c, .func (.func 55) #[] #[q0, q1]] w fun e w' => e = .returned (.bool (xs.any p)) ∧ Below w.heap.size w w' := by
  have E := Lib.hid (givenF_any p 0 xs)
  have HC := Lib.hid (given_any A n c xs q0 q1 p w h hp)
  clear h hp
  generalize givenF p 0 xs = r at *
  go_enter Try.func56, Try.ntmps56
  go_wp2_with fail
  refine HC.out.mono ?_
  rintro e w2 ⟨rfl, hb2⟩
  go_wp2_with fail
  go_ret
  exact ⟨ret_bool E.out, hb2⟩
theorem givenP_any (K B x0 x1 x2 x3 : Int) (bk bb : Nat) (w : World) (hk : w.cell? ⟨bk, 0, none⟩ = some (.int .i64 K)) (hb : w.cell? ⟨bb, 0, none⟩ = some (.int .i64 B)) :
    Calls Try.prog 55 #[.agg #[.int .i64 x0, .int .i64 x1, .int .i64 x2, .int .i64 x3], .pointer (some ⟨bk, 0, none⟩), .pointer (some ⟨bb, 0, none⟩)] w fun e w' => e = .returned (.bool (x0 == K && x1 == B)) ∧ Below w.heap.size w w' := by
  have HB := Lib.hid (show ∀ o, Below w.heap.size w (w.alloc o) from fun o => (Below.refl _ _).alloc (Nat.le_refl _) o)
  have hlk := cell_lt hk
  have hlb := cell_lt hb
  have hlk' : bk ≠ w.heap.size := by simp at hlk; omega
  have hlb' : bb ≠ w.heap.size := by simp at hlb; omega
  by_cases h0 : x0 = K
  · have e0 : (x0 == K) = true := by simp [h0]
    subst h0
    go_enter Try.func55, Try.ntmps55
    go_wp2_with fail
    go_ret
    exact ⟨ret_bool (by simp), HB.out _⟩
  · have e0 : (x0 == K) = false := by simp [h0]
    rw [e0]
    go_enter Try.func55, Try.ntmps55
    go_wp2_with fail
    go_ret
    exact ⟨rfl, HB.out _⟩
end Go.Proofs.Ytmhljmehiigamaa

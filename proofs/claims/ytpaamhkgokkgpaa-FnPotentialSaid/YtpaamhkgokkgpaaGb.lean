/- Walks: winds and grids (chapter 32). -/
import Derived.Test.YtpaamhkgokkgpaaGm
import Derived.Test.YtpaamhkgokkgpaaWn
namespace Go.Proofs.Ytpaamhkgokkgpaa
open Go.RowKit
set_option linter.unusedVariables false
set_option maxRecDepth 100000

theorem implIsWind_any (x y : Int) (w : World) :
    Calls Try.prog 53 #[.agg #[.int .i64 x, .int .i64 y]] w fun e w' => e = .returned (.bool (windB (x, y))) ∧ Below w.heap.size w w' := by
  have e1 : windB (x, y) = (withinB x (-1000) 1000 && withinB y (-1000) 1000 && !(x == 0 && y == 0)) := rfl
  have E := Lib.hid e1; clear e1
  have HB := Lib.hid (show ∀ o, Below w.heap.size w (w.alloc o) from fun o => (Below.refl _ _).alloc (Nat.le_refl _) o)
  cases h1 : withinB x (-1000) 1000 with
  | true =>
    cases h2 : withinB y (-1000) 1000 with
    | true =>
      go_enter Try.func53, Try.ntmps53
      go_wp2_with (go_at_call 50; refine (within_any _ _ _ _).mono ?_; rintro e w' ⟨rfl, rfl⟩)
      all_goals
        go_ret
        exact ⟨ret_bool (by rw [E.out, h1, h2]; simp [*]), HB.out _⟩
    | false =>
      go_enter Try.func53, Try.ntmps53
      go_wp2_with (go_at_call 50; refine (within_any _ _ _ _).mono ?_; rintro e w' ⟨rfl, rfl⟩)
      go_ret
      exact ⟨ret_bool (by rw [E.out, h1, h2]; rfl), HB.out _⟩
  | false =>
    go_enter Try.func53, Try.ntmps53
    go_wp2_with (go_at_call 50; refine (within_any _ _ _ _).mono ?_; rintro e w' ⟨rfl, rfl⟩)
    go_ret
    exact ⟨ret_bool (by rw [E.out, h1]; rfl), HB.out _⟩
theorem specIsWind_any (x y : Int) (w : World) :
    Calls Try.prog 48 #[.agg #[.int .i64 x, .int .i64 y]] w fun e w' => e = .returned (.bool (windB (x, y))) ∧ Below w.heap.size w w' := by
  have e1 : windB (x, y) = (withinB x (-1000) 1000 && withinB y (-1000) 1000 && !(x == 0 && y == 0)) := rfl
  have E := Lib.hid e1; clear e1
  have HB := Lib.hid (show ∀ o, Below w.heap.size w (w.alloc o) from fun o => (Below.refl _ _).alloc (Nat.le_refl _) o)
  cases h1 : withinB x (-1000) 1000 with
  | true =>
    cases h2 : withinB y (-1000) 1000 with
    | true =>
      go_enter Try.func48, Try.ntmps48
      go_wp2_with (go_at_call 47; refine (l01In_any _ _ _ _).mono ?_; rintro e w' ⟨rfl, rfl⟩)
      all_goals
        go_ret
        exact ⟨ret_bool (by rw [E.out, h1, h2]; simp [*]), HB.out _⟩
    | false =>
      go_enter Try.func48, Try.ntmps48
      go_wp2_with (go_at_call 47; refine (l01In_any _ _ _ _).mono ?_; rintro e w' ⟨rfl, rfl⟩)
      go_ret
      exact ⟨ret_bool (by rw [E.out, h1, h2]; rfl), HB.out _⟩
  | false =>
    go_enter Try.func48, Try.ntmps48
    go_wp2_with (go_at_call 47; refine (l01In_any _ _ _ _).mono ?_; rintro e w' ⟨rfl, rfl⟩)
    go_ret
    exact ⟨ret_bool (by rw [E.out, h1]; rfl), HB.out _⟩
theorem isWindC_any (x y : Int) (w : World) :
    Calls Try.prog 52 #[.agg #[.int .i64 x, .int .i64 y]] w fun e w' => e = .returned (.bool (!windB (x, y))) ∧ Below w.heap.size w w' := by
  have HB := Lib.hid (show ∀ o, Below w.heap.size w (w.alloc o) from fun o => (Below.refl _ _).alloc (Nat.le_refl _) o)
  go_enter Try.func52, Try.ntmps52
  go_wp2_with fail
  refine (implIsWind_any x y _).mono ?_
  rintro e w2 ⟨rfl, hb2⟩
  have HB2 := Lib.hid ((HB.out _).trans (hb2.mono (HB.out _).size))
  clear hb2
  go_wp2_with fail
  go_ret
  exact ⟨rfl, HB2.out⟩
/-- The first bad wind. -/
def badF : Nat → List (Int × Int) → Int
  | _, [] => -1
  | i, p :: r => if windB p = true then badF (i + 1) r else (i : Int)
theorem badF_all (i : Nat) (xs : List (Int × Int)) : decide (0 ≤ badF i xs) = !xs.all windB := by
  induction xs generalizing i with
  | nil => rfl
  | cons p r ih =>
    unfold badF
    by_cases h : windB p = true
    · rw [if_pos h, ih, List.all_cons, h, Bool.true_and]
    · rw [if_neg h, List.all_cons]
      simp [h]
theorem indexWind_any (A : Option Addr) (n c : Nat) (xs : List (Int × Int)) (w : World) (h : Rd w 2 A n (winds xs)) :
    Calls Try.prog 75 #[.slice A n c, .func (.func 52) #[] #[]] w fun e w' => e = .returned (.int .i64 (badF 0 xs)) ∧ Below w.heap.size w w' := by
  have HN := Lib.hid h.len_wind
  have hm := h.le
  go_enter Try.func75, Try.ntmps75
  go_wp2_with fail
  go_loopw [5, 8] (fun _ i wr => ∃ k : Nat, k ≤ n ∧ i = .int .i64 k ∧ badF k (xs.drop k) = badF 0 xs ∧ Below w.heap.size w wr) (fun _ i _ => n - (intOf i).toNat)
  case atStart => exact ⟨0, Nat.zero_le _, rfl, rfl, Below.refl _ _⟩
  case round =>
    obtain ⟨k, hk, rfl, hr, hb⟩ := hrel
    have HR := Lib.hid hr; clear hr
    by_cases hlt : k < n
    · obtain ⟨b, o, x, y, rfl, hx, hd, hc1, hc2⟩ := (h.below hb).wind hlt
      have HD := Lib.hid hd; clear hd hx
      have HB := Lib.hid hb; clear hb
      have HC := Lib.hid (fun w => isWindC_any x y w)
      cases hw : windB (x, y) with
      | true =>
        rw [hw] at HC
        have HW := Lib.hid hw; clear hw
        go_wp2_with fail
        refine (HC.out _).mono ?_
        rintro e w2 ⟨rfl, hb2⟩
        have HB2 := Lib.hid (HB.out.trans (hb2.mono HB.out.size))
        clear hb2 HB HC
        go_wp2_with fail
        go_roundw
        case rel => exact ⟨k + 1, by omega, by go_num, by rw [← HR.out, HD.out, badF, if_pos HW.out], HB2.out⟩
        case measure => simp [intOf] <;> omega
      | false =>
        rw [hw] at HC
        have HW := Lib.hid hw; clear hw
        go_wp2_with fail
        refine (HC.out _).mono ?_
        rintro e w2 ⟨rfl, hb2⟩
        have HB2 := Lib.hid (HB.out.trans (hb2.mono HB.out.size))
        clear hb2 HB HC
        go_wp2_with fail
        go_ret
        exact ⟨ret_int (by rw [← HR.out, HD.out, badF, HW.out]; rfl), HB2.out⟩
    · obtain rfl : k = n := by omega
      go_wp2_with fail
      go_ret
      exact ⟨ret_int (by rw [← HR.out, List.drop_eq_nil_of_le (by rw [HN.out]; omega), badF]), hb⟩
theorem containsWind_any (A : Option Addr) (n c : Nat) (xs : List (Int × Int)) (w : World) (h : Rd w 2 A n (winds xs)) :
    Calls Try.prog 51 #[.slice A n c, .func (.func 52) #[] #[]] w fun e w' => e = .returned (.bool (!xs.all windB)) ∧ Below w.heap.size w w' := by
  have E := Lib.hid (badF_all 0 xs)
  have HC := Lib.hid (indexWind_any A n c xs w h)
  clear h
  go_enter Try.func51, Try.ntmps51
  go_wp2_with fail
  refine HC.out.mono ?_
  rintro e w2 ⟨rfl, hb2⟩
  go_wp2_with fail
  go_ret
  exact ⟨ret_bool (by rw [← E.out]), hb2⟩
theorem implIsWindGrid_any (W H : Int) (A : Option Addr) (n c : Nat) (xs : List (Int × Int)) (w : World) (h : Rd w 2 A n (winds xs)) :
    Calls Try.prog 18 #[.agg #[.int .i64 W, .int .i64 H, .slice A n c]] w fun e w' => e = .returned (.bool (gridB W H xs)) ∧ Below w.heap.size w w' := by
  have HN := Lib.hid h.len_wind
  have hm := h.le
  have e1 : gridB W H xs = (withinB W 1 10 && withinB H 1 10 && decide ((xs.length : Int) = W * H) && xs.all windB) := rfl
  rw [HN.out] at e1
  have E := Lib.hid e1; clear e1
  have HB := Lib.hid (show ∀ o, Below w.heap.size w (w.alloc o) from fun o => (Below.refl _ _).alloc (Nat.le_refl _) o)
  cases h1 : withinB W 1 10 with
  | false =>
    rw [h1] at E
    go_enter Try.func18, Try.ntmps18
    go_wp2_with (go_at_call 50; refine (within_any _ _ _ _).mono ?_; rintro e w' ⟨rfl, rfl⟩)
    go_ret
    exact ⟨ret_bool (by rw [E.out]; rfl), HB.out _⟩
  | true =>
    cases h2 : withinB H 1 10 with
    | false =>
      rw [h1, h2] at E
      go_enter Try.func18, Try.ntmps18
      go_wp2_with (go_at_call 50; refine (within_any _ _ _ _).mono ?_; rintro e w' ⟨rfl, rfl⟩)
      go_ret
      exact ⟨ret_bool (by rw [E.out]; rfl), HB.out _⟩
    | true =>
      rw [h1, h2] at E
      have hW := withinB_iff.1 h1
      have hH := withinB_iff.1 h2
      obtain ⟨hp0, hp1⟩ := mul_bd (show 0 ≤ W by omega) hW.2 (show 0 ≤ H by omega) hH.2
      by_cases hl : (n : Int) = W * H
      · rw [decide_eq_true hl] at E
        have hne : ((n : Int) != W * H) = false := by simp [hl]
        clear hl
        go_enter Try.func18, Try.ntmps18
        go_wp2_with (go_at_call 50; refine (within_any _ _ _ _).mono ?_; rintro e w' ⟨rfl, rfl⟩)
        refine (containsWind_any A n c xs _ (h.below (HB.out _))).mono ?_
        rintro e w2 ⟨rfl, hb2⟩
        have HB2 := Lib.hid ((HB.out _).trans (hb2.mono (HB.out _).size))
        clear hb2
        go_wp2_with fail
        go_ret
        exact ⟨ret_bool (by rw [E.out]; simp), HB2.out⟩
      · rw [decide_eq_false hl] at E
        have hne : ((n : Int) != W * H) = true := by simp [hl]
        clear hl
        go_enter Try.func18, Try.ntmps18
        go_wp2_with (go_at_call 50; refine (within_any _ _ _ _).mono ?_; rintro e w' ⟨rfl, rfl⟩)
        go_ret
        exact ⟨ret_bool (by rw [E.out]; rfl), HB.out _⟩
theorem specIsWindGrid_any (W H : Int) (A : Option Addr) (n c : Nat) (xs : List (Int × Int)) (w : World) (h : Rd w 2 A n (winds xs)) :
    Calls Try.prog 16 #[.agg #[.int .i64 W, .int .i64 H, .slice A n c]] w fun e w' => e = .returned (.bool (gridB W H xs)) ∧ Below w.heap.size w w' := by
  have HN := Lib.hid h.len_wind
  have hm := h.le
  have e1 : gridB W H xs = (withinB W 1 10 && withinB H 1 10 && decide ((xs.length : Int) = W * H) && xs.all windB) := rfl
  rw [HN.out] at e1
  have E := Lib.hid e1; clear e1
  have HB := Lib.hid (show ∀ o, Below w.heap.size w (w.alloc o) from fun o => (Below.refl _ _).alloc (Nat.le_refl _) o)
  cases h1 : withinB W 1 10 with
  | false =>
    rw [h1] at E
    go_enter Try.func16, Try.ntmps16
    go_wp2_with (go_at_call 47; refine (l01In_any _ _ _ _).mono ?_; rintro e w' ⟨rfl, rfl⟩)
    go_ret
    exact ⟨ret_bool (by rw [E.out]; rfl), HB.out _⟩
  | true =>
    cases h2 : withinB H 1 10 with
    | false =>
      rw [h1, h2] at E
      go_enter Try.func16, Try.ntmps16
      go_wp2_with (go_at_call 47; refine (l01In_any _ _ _ _).mono ?_; rintro e w' ⟨rfl, rfl⟩)
      go_ret
      exact ⟨ret_bool (by rw [E.out]; rfl), HB.out _⟩
    | true =>
      rw [h1, h2] at E
      have hW := withinB_iff.1 h1
      have hH := withinB_iff.1 h2
      obtain ⟨hp0, hp1⟩ := mul_bd (show 0 ≤ W by omega) hW.2 (show 0 ≤ H by omega) hH.2
      by_cases hl : (n : Int) = W * H
      · rw [decide_eq_true hl] at E
        have hne : ((n : Int) != W * H) = false := by simp [hl]
        clear hl
        go_enter Try.func16, Try.ntmps16
        go_wp2_with (go_at_call 47; refine (l01In_any _ _ _ _).mono ?_; rintro e w' ⟨rfl, rfl⟩)
        clear h1 h2 hne
        obtain ⟨wb, hwb⟩ : ∃ wb, wb = w.alloc (.cells #[.int .i64 W, .int .i64 H, .slice A n c] 29) := ⟨_, rfl⟩
        rw [← hwb]
        have hb0 : Below w.heap.size w wb := by rw [hwb]; exact HB.out _
        have hcb : wb.cell? ⟨w.heap.size, 2, none⟩ = some (.slice A n c) := by rw [hwb]; exact cell_top _ _ _ rfl rfl
        have hsb : w.heap.size < wb.heap.size := by rw [hwb]; simp
        clear hwb
        go_loopw [3] (fun i wr => ∃ k : Nat, k ≤ n ∧ i = .int .i64 k ∧ (xs.drop k).all windB = xs.all windB ∧ Below wb.heap.size wb wr) (fun i _ => n - (intOf i).toNat)
        case atStart => exact ⟨0, Nat.zero_le _, rfl, rfl, Below.refl _ _⟩
        case round =>
          obtain ⟨k, hk, rfl, hr, hb⟩ := hrel
          have HR := Lib.hid hr; clear hr
          have hcr := (hb.cell (p := ⟨w.heap.size, 2, none⟩) hsb).trans hcb
          by_cases hlt : k < n
          · obtain ⟨b, o, x, y, rfl, hx, hd, hc1, hc2⟩ := ((h.below hb0).below hb).wind hlt
            have HD := Lib.hid hd; clear hd hx
            have HB3 := Lib.hid hb; clear hb
            have HC := Lib.hid (fun w => specIsWind_any x y w)
            cases hw : windB (x, y) with
            | true =>
              rw [hw] at HC
              have HW := Lib.hid hw; clear hw
              go_wp2_with fail
              refine (HC.out _).mono ?_
              rintro e w2 ⟨rfl, hb2⟩
              have HB2 := Lib.hid (HB3.out.trans (hb2.mono HB3.out.size))
              clear hb2 HB3 HC
              go_wp2_with fail
              go_roundw
              case rel => exact ⟨k + 1, by omega, by go_num, by rw [← HR.out, HD.out, List.all_cons, HW.out, Bool.true_and], HB2.out⟩
              case measure => simp [intOf] <;> omega
            | false =>
              rw [hw] at HC
              have HW := Lib.hid hw; clear hw
              go_wp2_with fail
              refine (HC.out _).mono ?_
              rintro e w2 ⟨rfl, hb2⟩
              have HB2 := Lib.hid (hb0.trans ((HB3.out.trans (hb2.mono HB3.out.size)).mono hb0.size))
              clear hb2 HB3 HC
              go_wp2_with fail
              go_ret
              exact ⟨ret_bool (by rw [E.out, ← HR.out, HD.out, List.all_cons, HW.out]; rfl), HB2.out⟩
          · obtain rfl : k = n := by omega
            go_wp2_with fail
            go_ret
            exact ⟨ret_bool (by rw [E.out, ← HR.out, List.drop_eq_nil_of_le (by rw [HN.out]; omega)]; rfl), hb0.trans (hb.mono hb0.size)⟩
      · rw [decide_eq_false hl] at E
        have hne : ((n : Int) != W * H) = true := by simp [hl]
        clear hl
        go_enter Try.func16, Try.ntmps16
        go_wp2_with (go_at_call 47; refine (l01In_any _ _ _ _).mono ?_; rintro e w' ⟨rfl, rfl⟩)
        go_ret
        exact ⟨ret_bool (by rw [E.out]; rfl), HB.out _⟩
end Go.Proofs.Ytpaamhkgokkgpaa

/- Walks: a permutation. -/
import Derived.Test.YtfkllgnenbbccaaWn
import Derived.Test.YtfkllgnenbbccaaWx
namespace Go.Proofs.Ytfkllgnenbbccaa
open Go.RowKit
set_option linter.unusedVariables false

theorem Try.info_bool : (Try.prog.info? 4).map (fun i => (i.zero, i.size, i.bytes)) = some (some (.bool false), 1, 1) := by kernel_rfl
theorem run_make_bool (n : Nat) (h : n ≤ 1048576) (w : World) :
    (Instr.makeSlice 78 (.int .i64 (n : Int)) (.int .i64 (n : Int))).run Try.prog w = .ok (.slice (some ⟨w.heap.size, 0, none⟩) n n) (w.alloc (.cells (madeCells #[.bool false] n) 4)) := by
  obtain ⟨i, hi, hz, hs, hb⟩ := info_parts Try.info_bool
  have hr := run_make (P := Try.prog) w 78 4 i (.bool false) Try.underlying78 hi hz .i64 .i64 n n (by omega) (by omega) (by rw [hb]; omega) (by omega)
  rw [hs, Nat.mul_one, Int.toNat_natCast] at hr
  exact hr

theorem isPermutation_any (A : Option Addr) (n c : Nat) (xs : List Int) (low : Int) (h0 : 0 ≤ low) (h1 : low ≤ 1) (hn : n ≤ 1048576) (w : World) (h : Rd w 1 A n (ints xs)) :
    Calls Try.prog 64 #[.slice A n c, .int .i64 low] w fun e w' => e = .returned (.bool (isPermB low xs)) ∧ Below w.heap.size w w' := by
  have HN := Lib.hid h.len_int
  have hmk := run_make_bool n hn
  have hown := own_made w w.heap.size 4 n (.bool false) (Nat.le_refl _) (by omega)
  rw [← bools_replicate] at hown
  have hb0 : Below w.heap.size w (w.alloc (.cells (madeCells #[.bool false] n) 4)) := (Below.refl _ _).alloc (Nat.le_refl _) _
  go_enter Try.func64, Try.ntmps64
  go_wp2
  go_loopw [13] (fun i wr => ∃ (k : Nat) (sn : List Bool), k ≤ n ∧ i = .int .i64 k ∧ wr.ownsRow w.heap.size 4 1 (.slice (some ⟨w.heap.size, 0, none⟩) n n) n (bools sn) ∧ permF low n (xs.drop k) sn = isPermB low xs ∧ Below w.heap.size w wr) (fun i _ => n - (intOf i).toNat)
  case atStart => exact ⟨0, _, Nat.zero_le _, rfl, hown, by unfold isPermB; rw [HN.out]; rfl, hb0⟩
  case round =>
    obtain ⟨k, sn, hk, rfl, ho, hr, hb⟩ := hrel
    have HR := Lib.hid hr; clear hr hown hb0 hmk
    by_cases hlt : k < n
    · obtain ⟨b, o, x, rfl, hx, hd, hc⟩ := (h.below hb).int hlt
      have HD := Lib.hid hd; clear hd hx
      by_cases hw : withinB x low (low + n - 1) = true
      · obtain ⟨hw1, hw2⟩ := withinB_iff.1 hw
        obtain ⟨j, hj⟩ := int_up (x - low) (by omega)
        obtain rfl : x = low + j := by omega
        have hjl : low + (j : Int) - low = j := by omega
        obtain ⟨g, y, hg, hg1, hg2, hy, hcy, hfy⟩ := own_bool_at ho (k := j) (by omega)
        obtain rfl : w.heap.size = g := by injection hg with hg; injection hg
        have HY := Lib.hid hy; clear hy hg
        have HJ := Lib.hid hjl
        have ho' := own_set_bool (k := j) ho true
        have hb' := hb.setCell (p := ⟨w.heap.size, j, none⟩) (Nat.le_refl _) (.bool true)
        cases y with
        | true =>
          go_wp2_with (go_at_call 55; refine (within_any _ _ _ _).mono ?_; rintro e w' ⟨rfl, rfl⟩)
          go_ret
          exact ⟨ret_bool (by rw [← HR.out, HD.out, permF, if_pos hw, HJ.out, Int.toNat_natCast, List.getD_eq_getElem?_getD, HY.out]; rfl), hb⟩
        | false =>
          go_wp2_with (go_at_call 55; refine (within_any _ _ _ _).mono ?_; rintro e w' ⟨rfl, rfl⟩)
          go_roundw
          case rel => exact ⟨k + 1, _, by omega, by go_num, ho', by rw [← HR.out, HD.out, permF, if_pos hw, HJ.out, Int.toNat_natCast, List.getD_eq_getElem?_getD, HY.out]; rfl, hb'⟩
          case measure => simp [intOf]; omega
      · have hw' : withinB x low (low + n - 1) = false := by simpa using hw
        clear hw
        go_wp2_with (go_at_call 55; refine (within_any _ _ _ _).mono ?_; rintro e w' ⟨rfl, rfl⟩)
        go_ret
        exact ⟨ret_bool (by rw [← HR.out, HD.out, permF, hw']; rfl), hb⟩
    · obtain rfl : k = n := by omega
      go_wp2
      go_ret
      exact ⟨ret_bool (by rw [← HR.out, List.drop_eq_nil_of_le (by rw [HN.out]; omega), permF]), hb⟩
end Go.Proofs.Ytfkllgnenbbccaa

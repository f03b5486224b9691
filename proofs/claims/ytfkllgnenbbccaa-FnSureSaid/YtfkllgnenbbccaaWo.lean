/- Walks: medals (chapter 31), codes and final points. -/
import Derived.Test.YtfkllgnenbbccaaWm
namespace Go.Proofs.Ytfkllgnenbbccaa
open Go.RowKit
set_option linter.unusedVariables false
set_option maxRecDepth 100000

theorem medalCode_any (A : Option Addr) (n c : Nat) (net : List Int) (factor boat : Int) (w : World) (h : Rd w 1 A n (ints net)) :
    Calls Try.prog 53 #[.slice A n c, .int .i64 factor, .int .i64 boat] w fun e w' => e = .returned (.int .i64 (medalCodeF net factor boat)) ∧ Below w.heap.size w w' := by
  have HN := Lib.hid h.len_int
  have hm := h.le
  have e1 : medalCodeF net factor boat = if medalB net then (if withinB factor 1 3 && withinB boat 0 (net.length - 1) then 0 else 2) else 1 := rfl
  rw [HN.out] at e1
  rw [e1]; clear e1
  have HB := Lib.hid (implIsMedal_any A n c net w h)
  cases hb : medalB net with
  | true =>
    rw [hb] at HB
    cases hf : withinB factor 1 3 with
    | true =>
      cases hv : withinB boat 0 (n - 1) with
      | true =>
        show Calls Try.prog _ _ w fun e w' => e = .returned (.int .i64 0) ∧ Below w.heap.size w w'
        go_enter Try.func53, Try.ntmps53
        go_wp2_with fail
        refine HB.out.mono ?_
        rintro e w1 ⟨rfl, hb1⟩
        go_wp2_with (go_at_call 55; refine (within_any _ _ _ _).mono ?_; rintro e w' ⟨rfl, rfl⟩)
        go_ret
        exact ⟨rfl, hb1⟩
      | false =>
        show Calls Try.prog _ _ w fun e w' => e = .returned (.int .i64 2) ∧ Below w.heap.size w w'
        go_enter Try.func53, Try.ntmps53
        go_wp2_with fail
        refine HB.out.mono ?_
        rintro e w1 ⟨rfl, hb1⟩
        go_wp2_with (go_at_call 55; refine (within_any _ _ _ _).mono ?_; rintro e w' ⟨rfl, rfl⟩)
        go_ret
        exact ⟨rfl, hb1⟩
    | false =>
      show Calls Try.prog _ _ w fun e w' => e = .returned (.int .i64 2) ∧ Below w.heap.size w w'
      go_enter Try.func53, Try.ntmps53
      go_wp2_with fail
      refine HB.out.mono ?_
      rintro e w1 ⟨rfl, hb1⟩
      go_wp2_with (go_at_call 55; refine (within_any _ _ _ _).mono ?_; rintro e w' ⟨rfl, rfl⟩)
      go_ret
      exact ⟨rfl, hb1⟩
  | false =>
    rw [hb] at HB
    show Calls Try.prog _ _ w fun e w' => e = .returned (.int .i64 1) ∧ Below w.heap.size w w'
    go_enter Try.func53, Try.ntmps53
    go_wp2_with fail
    refine HB.out.mono ?_
    rintro e w1 ⟨rfl, hb1⟩
    go_wp2_with fail
    go_ret
    exact ⟨rfl, hb1⟩

theorem l31Code_any (A : Option Addr) (n c : Nat) (net : List Int) (factor boat : Int) (w : World) (h : Rd w 1 A n (ints net)) :
    Calls Try.prog 51 #[.slice A n c, .int .i64 factor, .int .i64 boat] w fun e w' => e = .returned (.int .i64 (medalCodeF net factor boat)) ∧ Below w.heap.size w w' := by
  have HN := Lib.hid h.len_int
  have hm := h.le
  have e1 : medalCodeF net factor boat = if medalB net then (if withinB factor 1 3 && withinB boat 0 (net.length - 1) then 0 else 2) else 1 := rfl
  rw [HN.out] at e1
  rw [e1]; clear e1
  have HB := Lib.hid (specIsMedal_any A n c net w h)
  cases hb : medalB net with
  | true =>
    rw [hb] at HB
    cases hf : withinB factor 1 3 with
    | true =>
      cases hv : withinB boat 0 (n - 1) with
      | true =>
        show Calls Try.prog _ _ w fun e w' => e = .returned (.int .i64 0) ∧ Below w.heap.size w w'
        go_enter Try.func51, Try.ntmps51
        go_wp2_with fail
        refine HB.out.mono ?_
        rintro e w1 ⟨rfl, hb1⟩
        go_wp2_with (go_at_call 40; refine (l01In_any _ _ _ _).mono ?_; rintro e w' ⟨rfl, rfl⟩)
        go_ret
        exact ⟨rfl, hb1⟩
      | false =>
        show Calls Try.prog _ _ w fun e w' => e = .returned (.int .i64 2) ∧ Below w.heap.size w w'
        go_enter Try.func51, Try.ntmps51
        go_wp2_with fail
        refine HB.out.mono ?_
        rintro e w1 ⟨rfl, hb1⟩
        go_wp2_with (go_at_call 40; refine (l01In_any _ _ _ _).mono ?_; rintro e w' ⟨rfl, rfl⟩)
        go_ret
        exact ⟨rfl, hb1⟩
    | false =>
      show Calls Try.prog _ _ w fun e w' => e = .returned (.int .i64 2) ∧ Below w.heap.size w w'
      go_enter Try.func51, Try.ntmps51
      go_wp2_with fail
      refine HB.out.mono ?_
      rintro e w1 ⟨rfl, hb1⟩
      go_wp2_with (go_at_call 40; refine (l01In_any _ _ _ _).mono ?_; rintro e w' ⟨rfl, rfl⟩)
      go_ret
      exact ⟨rfl, hb1⟩
  | false =>
    rw [hb] at HB
    show Calls Try.prog _ _ w fun e w' => e = .returned (.int .i64 1) ∧ Below w.heap.size w w'
    go_enter Try.func51, Try.ntmps51
    go_wp2_with fail
    refine HB.out.mono ?_
    rintro e w1 ⟨rfl, hb1⟩
    go_wp2_with fail
    go_ret
    exact ⟨rfl, hb1⟩

/-- A permutation of 1 .. n, with a list of marks that has one place more. -/
theorem l31Places_any (A : Option Addr) (n c m : Nat) (xs : List Int) (hm : m ≤ 16) (w : World) (h : Rd w 1 A n (ints xs)) :
    Calls Try.prog 63 #[.slice A n c, .int .i64 (m : Int)] w fun e w' => e = .returned (.bool (placesB xs m)) ∧ Below w.heap.size w w' := by
  have HN := Lib.hid h.len_int
  have hle := h.le
  have e1 : placesB xs m = (xs.length == m && isPermB 1 xs) := rfl
  rw [HN.out] at e1
  rw [e1]; clear e1
  by_cases hnm : n = m
  · subst hnm
    rw [beq_self_eq_true, Bool.true_and]
    have hmk := run_make_bool (n + 1) (by omega)
    have hown := own_made w w.heap.size 4 (n + 1) (.bool false) (Nat.le_refl _) (by omega)
    rw [← bools_replicate] at hown
    have hb0 : Below w.heap.size w (w.alloc (.cells (madeCells #[.bool false] (n + 1)) 4)) := (Below.refl _ _).alloc (Nat.le_refl _) _
    simp only [Int.natCast_add, Int.cast_ofNat_Int] at hmk
    go_enter Try.func63, Try.ntmps63
    go_wp2_with fail
    go_loopw [6] (fun i wr => ∃ (k : Nat) (sn : List Bool), k ≤ n ∧ i = .int .i64 k ∧ wr.ownsRow w.heap.size 4 1 (.slice (some ⟨w.heap.size, 0, none⟩) (n + 1) (n + 1)) (n + 1) (bools (false :: sn)) ∧ permF 1 n (xs.drop k) sn = isPermB 1 xs ∧ Below w.heap.size w wr) (fun i _ => n - (intOf i).toNat)
    case atStart => exact ⟨0, _, Nat.zero_le _, rfl, hown, by unfold isPermB; rw [HN.out]; rfl, hb0⟩
    case round =>
      obtain ⟨k, sn, hk, rfl, ho, hr, hb⟩ := hrel
      have HR := Lib.hid hr; clear hr hown hb0 hmk
      by_cases hlt : k < n
      · obtain ⟨b, o, x, rfl, hx, hd, hc⟩ := (h.below hb).int hlt
        have HD := Lib.hid hd; clear hd hx
        cases hw : withinB x 1 n with
        | true =>
          obtain ⟨hw1, hw2⟩ := withinB_iff.1 hw
          have hwz : withinB x 1 (1 + n - 1) = true := by rw [show (1 : Int) + n - 1 = n from by omega]; exact hw
          have HZ := Lib.hid hwz; clear hwz
          obtain ⟨x, rfl⟩ := int_up x (by omega)
          obtain ⟨j, hj⟩ : ∃ j, x = j + 1 := ⟨x - 1, by omega⟩
          obtain ⟨g, y, hg, hg1, hg2, hy, hcy, hfy⟩ := own_bool_at ho (k := x) (by omega)
          obtain rfl : w.heap.size = g := by injection hg with hg; injection hg
          have hxn : x < n + 1 := by omega
          have hj1 : ((x : Int) - 1).toNat = j := by omega
          have HJ := Lib.hid hj1; clear hj1
          have hy' : sn[j]? = some y := by rw [hj] at hy; simpa using hy
          have HY := Lib.hid hy'; clear hy hg hy'
          have ho' := own_set_bool (k := x) ho true
          rw [show (false :: sn).set x true = false :: sn.set j true from by rw [hj]; rfl] at ho'
          have hb' := hb.setCell (p := ⟨w.heap.size, x, none⟩) (Nat.le_refl _) (.bool true)
          clear hj
          cases y with
          | true =>
            go_wp2_with (go_at_call 40; refine (l01In_any _ _ _ _).mono ?_; rintro e w' ⟨rfl, rfl⟩)
            go_ret
            exact ⟨ret_bool (by rw [← HR.out, HD.out, permF, if_pos HZ.out, HJ.out, List.getD_eq_getElem?_getD, HY.out]; rfl), hb⟩
          | false =>
            go_wp2_with (go_at_call 40; refine (l01In_any _ _ _ _).mono ?_; rintro e w' ⟨rfl, rfl⟩)
            go_roundw
            case rel => exact ⟨k + 1, _, by omega, by go_num, ho', by rw [← HR.out, HD.out, permF, if_pos HZ.out, HJ.out, List.getD_eq_getElem?_getD, HY.out]; rfl, hb'⟩
            case measure => simp [intOf]; omega
        | false =>
          have hwz : withinB x 1 (1 + n - 1) = false := by rw [show (1 : Int) + n - 1 = n from by omega]; exact hw
          have HZ := Lib.hid hwz; clear hwz
          go_wp2_with (go_at_call 40; refine (l01In_any _ _ _ _).mono ?_; rintro e w' ⟨rfl, rfl⟩)
          go_ret
          exact ⟨ret_bool (by rw [← HR.out, HD.out, permF, HZ.out]; rfl), hb⟩
      · obtain rfl : k = n := by omega
        go_wp2
        go_ret
        exact ⟨ret_bool (by rw [← HR.out, List.drop_eq_nil_of_le (by rw [HN.out]; omega), permF]), hb⟩
  · have hne : ((n : Int) != m) = true := by simp; omega
    have hbq : (n == m) = false := by simpa using hnm
    rw [hbq, Bool.false_and]
    clear hbq
    go_enter Try.func63, Try.ntmps63
    go_wp2_with fail
    go_ret
    exact ⟨rfl, Below.refl _ _⟩

theorem placesCode_any (A : Option Addr) (n c : Nat) (net : List Int) (factor : Int) (A' : Option Addr) (n' c' : Nat) (places : List Int) (boat : Int) (w : World) (h : Rd w 1 A n (ints net)) (h' : Rd w 1 A' n' (ints places)) :
    Calls Try.prog 45 #[.slice A n c, .int .i64 factor, .slice A' n' c', .int .i64 boat] w fun e w' => e = .returned (.int .i64 (placesCodeF net factor places boat)) ∧ Below w.heap.size w w' := by
  have HN := Lib.hid h.len_int
  have HN' := Lib.hid h'.len_int
  have hm := h.le
  have hm' := h'.le
  have e1 : placesCodeF net factor places boat = if medalCodeF net factor boat = 0 then (if places.length == net.length && isPermB 1 places then 0 else 5) else medalCodeF net factor boat := rfl
  rw [HN.out, HN'.out] at e1
  rw [e1]; clear e1
  have HB := Lib.hid (medalCode_any A n c net factor boat w h)
  by_cases hz : medalCodeF net factor boat = 0
  · rw [if_pos hz]
    have hl := medalB_len (medalCode_ok hz).1
    rw [HN.out] at hl
    rw [hz] at HB
    clear hz
    by_cases hnm : n' = n
    · subst hnm
      rw [beq_self_eq_true, Bool.true_and]
      cases hp : isPermB 1 places with
      | true =>
        show Calls Try.prog _ _ w fun e w' => e = .returned (.int .i64 0) ∧ Below w.heap.size w w'
        go_enter Try.func45, Try.ntmps45
        go_wp2_with fail
        refine HB.out.mono ?_
        rintro e w1 ⟨rfl, hb1⟩
        go_wp2_with fail
        refine (isPermutation_any _ _ _ _ 1 (by omega) (by omega) (by omega) _ (h'.below hb1)).mono ?_
        rintro e w2 ⟨rfl, hb2⟩
        rw [hp]
        go_wp2_with fail
        go_ret
        exact ⟨rfl, hb1.trans (hb2.mono hb1.size)⟩
      | false =>
        show Calls Try.prog _ _ w fun e w' => e = .returned (.int .i64 5) ∧ Below w.heap.size w w'
        go_enter Try.func45, Try.ntmps45
        go_wp2_with fail
        refine HB.out.mono ?_
        rintro e w1 ⟨rfl, hb1⟩
        go_wp2_with fail
        refine (isPermutation_any _ _ _ _ 1 (by omega) (by omega) (by omega) _ (h'.below hb1)).mono ?_
        rintro e w2 ⟨rfl, hb2⟩
        rw [hp]
        go_wp2_with fail
        go_ret
        exact ⟨rfl, hb1.trans (hb2.mono hb1.size)⟩
    · have hne : ((n' : Int) != n) = true := by simp; omega
      have hbq : (n' == n) = false := by simpa using hnm
      rw [hbq, Bool.false_and]
      clear hbq hnm
      show Calls Try.prog _ _ w fun e w' => e = .returned (.int .i64 5) ∧ Below w.heap.size w w'
      go_enter Try.func45, Try.ntmps45
      go_wp2_with fail
      refine HB.out.mono ?_
      rintro e w1 ⟨rfl, hb1⟩
      go_wp2_with fail
      go_ret
      exact ⟨rfl, hb1⟩
  · rw [if_neg hz]
    generalize medalCodeF net factor boat = code at *
    have hne : (code != 0) = true := by simp [hz]
    clear hz
    go_enter Try.func45, Try.ntmps45
    go_wp2_with fail
    refine HB.out.mono ?_
    rintro e w1 ⟨rfl, hb1⟩
    go_wp2_with fail
    go_ret
    exact ⟨rfl, hb1⟩

theorem l31PlacesCode_any (A : Option Addr) (n c : Nat) (net : List Int) (factor : Int) (A' : Option Addr) (n' c' : Nat) (places : List Int) (boat : Int) (w : World) (h : Rd w 1 A n (ints net)) (h' : Rd w 1 A' n' (ints places)) :
    Calls Try.prog 43 #[.slice A n c, .int .i64 factor, .slice A' n' c', .int .i64 boat] w fun e w' => e = .returned (.int .i64 (placesCodeF net factor places boat)) ∧ Below w.heap.size w w' := by
  have HN := Lib.hid h.len_int
  have hm := h.le
  have e1 : placesCodeF net factor places boat = if medalCodeF net factor boat = 0 then (if placesB places net.length then 0 else 5) else medalCodeF net factor boat := rfl
  rw [HN.out] at e1
  rw [e1]; clear e1
  have HB := Lib.hid (l31Code_any A n c net factor boat w h)
  by_cases hz : medalCodeF net factor boat = 0
  · rw [if_pos hz]
    have hl := medalB_len (medalCode_ok hz).1
    rw [HN.out] at hl
    rw [hz] at HB
    clear hz
    cases hp : placesB places n with
    | true =>
      show Calls Try.prog _ _ w fun e w' => e = .returned (.int .i64 0) ∧ Below w.heap.size w w'
      go_enter Try.func43, Try.ntmps43
      go_wp2_with fail
      refine HB.out.mono ?_
      rintro e w1 ⟨rfl, hb1⟩
      go_wp2_with fail
      refine (l31Places_any _ _ _ n _ (by omega) _ (h'.below hb1)).mono ?_
      rintro e w2 ⟨rfl, hb2⟩
      rw [hp]
      go_wp2_with fail
      go_ret
      exact ⟨rfl, hb1.trans (hb2.mono hb1.size)⟩
    | false =>
      show Calls Try.prog _ _ w fun e w' => e = .returned (.int .i64 5) ∧ Below w.heap.size w w'
      go_enter Try.func43, Try.ntmps43
      go_wp2_with fail
      refine HB.out.mono ?_
      rintro e w1 ⟨rfl, hb1⟩
      go_wp2_with fail
      refine (l31Places_any _ _ _ n _ (by omega) _ (h'.below hb1)).mono ?_
      rintro e w2 ⟨rfl, hb2⟩
      rw [hp]
      go_wp2_with fail
      go_ret
      exact ⟨rfl, hb1.trans (hb2.mono hb1.size)⟩
  · rw [if_neg hz]
    generalize medalCodeF net factor boat = code at *
    have hne : (code == 0) = false := by simp [hz]
    clear hz
    go_enter Try.func43, Try.ntmps43
    go_wp2_with fail
    refine HB.out.mono ?_
    rintro e w1 ⟨rfl, hb1⟩
    go_wp2_with fail
    go_ret
    exact ⟨rfl, hb1⟩
end Go.Proofs.Ytfkllgnenbbccaa

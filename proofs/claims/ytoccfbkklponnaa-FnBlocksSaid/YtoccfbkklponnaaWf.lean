/- Walks: fleets (chapter 30), the functions on one list. -/
import Derived.Test.YtoccfbkklponnaaWa
import Derived.Test.YtoccfbkklponnaaWx
import Derived.Test.YtoccfbkklponnaaWp
namespace Go.Proofs.Ytoccfbkklponnaa
open Go.RowKit
set_option linter.unusedVariables false


theorem l30Order_any (A : Option Addr) (n c : Nat) (xs : List Int) (w : World) (h : Rd w 1 A n (ints xs)) :
    Calls Try.prog 57 #[.slice A n c] w fun e w' => e = .returned (.bool (orderB xs)) ∧ Below w.heap.size w w' := by
  have HN := Lib.hid h.len_int
  have hm := h.le
  by_cases hwn : withinB (n : Int) 1 16 = true
  · have hn : n ≤ 16 := by have := withinB_iff.1 hwn; omega
    have hmk := run_make_bool n (by omega)
    have hown := own_made w w.heap.size 4 n (.bool false) (Nat.le_refl _) (by omega)
    rw [← bools_replicate] at hown
    have hb0 : Below w.heap.size w (w.alloc (.cells (madeCells #[.bool false] n) 4)) := (Below.refl _ _).alloc (Nat.le_refl _) _
    go_enter Try.func57, Try.ntmps57
    go_wp2_with (go_at_call 59; refine (l01In_any _ _ _ _).mono ?_; rintro e w' ⟨rfl, rfl⟩)
    have HW := Lib.hid hwn; clear hwn
    go_loopw [5] (fun i wr => ∃ (k : Nat) (sn : List Bool), k ≤ n ∧ i = .int .i64 k ∧ wr.ownsRow w.heap.size 4 1 (.slice (some ⟨w.heap.size, 0, none⟩) n n) n (bools sn) ∧ permF 0 n (xs.drop k) sn = isPermB 0 xs ∧ Below w.heap.size w wr) (fun i _ => n - (intOf i).toNat)
    case atStart => exact ⟨0, _, Nat.zero_le _, rfl, hown, by unfold isPermB; rw [HN.out]; rfl, hb0⟩
    case round =>
      obtain ⟨k, sn, hk, rfl, ho, hr, hb⟩ := hrel
      have HR := Lib.hid hr; clear hr hown hb0 hmk
      by_cases hlt : k < n
      · obtain ⟨b, o, x, rfl, hx, hd, hc⟩ := (h.below hb).int hlt
        have HD := Lib.hid hd; clear hd hx
        by_cases hw : withinB x 0 (n - 1) = true
        · obtain ⟨hw1, hw2⟩ := withinB_iff.1 hw
          have hwz : withinB x 0 (0 + n - 1) = true := by rw [Int.zero_add]; exact hw
          have HZ := Lib.hid hwz; clear hwz
          obtain ⟨j, rfl⟩ := int_up x (by omega)
          obtain ⟨g, y, hg, hg1, hg2, hy, hcy, hfy⟩ := own_bool_at ho (k := j) (by omega)
          obtain rfl : w.heap.size = g := by injection hg with hg; injection hg
          have HY := Lib.hid hy; clear hy hg
          have hj : ((j : Int) - 0).toNat = j := by omega
          have HJ := Lib.hid hj; clear hj
          have ho' := own_set_bool (k := j) ho true
          have hb' := hb.setCell (p := ⟨w.heap.size, j, none⟩) (Nat.le_refl _) (.bool true)
          cases y with
          | true =>
            go_wp2_with (go_at_call 59; refine (l01In_any _ _ _ _).mono ?_; rintro e w' ⟨rfl, rfl⟩)
            go_ret
            exact ⟨ret_bool (by rw [orderB, HN.out, HW.out, Bool.true_and, ← HR.out, HD.out, permF, if_pos HZ.out, HJ.out, List.getD_eq_getElem?_getD, HY.out]; rfl), hb⟩
          | false =>
            go_wp2_with (go_at_call 59; refine (l01In_any _ _ _ _).mono ?_; rintro e w' ⟨rfl, rfl⟩)
            go_roundw
            case rel => exact ⟨k + 1, _, by omega, by go_num, ho', by rw [← HR.out, HD.out, permF, if_pos HZ.out, HJ.out, List.getD_eq_getElem?_getD, HY.out]; rfl, hb'⟩
            case measure => simp [intOf]; omega
        · have hw' : withinB x 0 (n - 1) = false := by simpa using hw
          have hwz : withinB x 0 (0 + n - 1) = false := by rw [Int.zero_add]; exact hw'
          have HZ := Lib.hid hwz; clear hwz hw
          go_wp2_with (go_at_call 59; refine (l01In_any _ _ _ _).mono ?_; rintro e w' ⟨rfl, rfl⟩)
          go_ret
          exact ⟨ret_bool (by rw [orderB, HN.out, HW.out, Bool.true_and, ← HR.out, HD.out, permF, HZ.out]; rfl), hb⟩
      · obtain rfl : k = n := by omega
        go_wp2
        go_ret
        exact ⟨ret_bool (by rw [orderB, HN.out, HW.out, Bool.true_and, ← HR.out, List.drop_eq_nil_of_le (by rw [HN.out]; omega), permF]), hb⟩
  · have hw' : withinB (n : Int) 1 16 = false := by simpa using hwn
    clear hwn
    go_enter Try.func57, Try.ntmps57
    go_wp2_with (go_at_call 59; refine (l01In_any _ _ _ _).mono ?_; rintro e w' ⟨rfl, rfl⟩)
    go_ret
    exact ⟨ret_bool (by rw [orderB, HN.out, hw']; rfl), Below.refl _ _⟩

theorem orderCode_any (A : Option Addr) (n c : Nat) (xs : List Int) (k : Int) (w : World) (h : Rd w 1 A n (ints xs)) :
    Calls Try.prog 58 #[.slice A n c, .int .i64 k] w fun e w' => e = .returned (.int .i64 (orderCodeF xs k)) ∧ Below w.heap.size w w' := by
  have HN := Lib.hid h.len_int
  have hm := h.le
  by_cases hw : withinB k 1 4 = true
  · by_cases hl : withinB (n : Int) 1 16 = true
    · have hn : n ≤ 16 := by have := withinB_iff.1 hl; omega
      cases hp : isPermB 0 xs with
      | true =>
        have hf : orderCodeF xs k = 0 := by unfold orderCodeF orderB; rw [HN.out, hw, hl, hp]; rfl
        have HF := Lib.hid hf; clear hf
        go_enter Try.func58, Try.ntmps58
        go_wp2_with (first | (go_at_call 54; refine (isFleetCount_any _ _).mono ?_; rintro e w' ⟨rfl, rfl⟩) | (go_at_call 55; refine (within_any _ _ _ _).mono ?_; rintro e w' ⟨rfl, rfl⟩) | (go_at_call 88; refine (isPermutation_any _ _ _ _ 0 (by omega) (by omega) (by omega) _ h).mono ?_; rintro e w1 ⟨rfl, hb1⟩))
        go_ret
        exact ⟨ret_int HF.out.symm, by assumption⟩
      | false =>
        have hf : orderCodeF xs k = 1 := by unfold orderCodeF orderB; rw [HN.out, hw, hl, hp]; rfl
        have HF := Lib.hid hf; clear hf
        go_enter Try.func58, Try.ntmps58
        go_wp2_with (first | (go_at_call 54; refine (isFleetCount_any _ _).mono ?_; rintro e w' ⟨rfl, rfl⟩) | (go_at_call 55; refine (within_any _ _ _ _).mono ?_; rintro e w' ⟨rfl, rfl⟩) | (go_at_call 88; refine (isPermutation_any _ _ _ _ 0 (by omega) (by omega) (by omega) _ h).mono ?_; rintro e w1 ⟨rfl, hb1⟩))
        go_ret
        exact ⟨ret_int HF.out.symm, by assumption⟩
    · have hl' : withinB (n : Int) 1 16 = false := by simpa using hl
      have hf : orderCodeF xs k = 1 := by unfold orderCodeF orderB; rw [HN.out, hw, hl']; rfl
      have HF := Lib.hid hf; clear hf hl
      go_enter Try.func58, Try.ntmps58
      go_wp2_with (first | (go_at_call 54; refine (isFleetCount_any _ _).mono ?_; rintro e w' ⟨rfl, rfl⟩) | (go_at_call 55; refine (within_any _ _ _ _).mono ?_; rintro e w' ⟨rfl, rfl⟩))
      go_ret
      exact ⟨ret_int HF.out.symm, Below.refl _ _⟩
  · have hw' : withinB k 1 4 = false := by simpa using hw
    have hf : orderCodeF xs k = 2 := by unfold orderCodeF; rw [hw']; rfl
    have HF := Lib.hid hf; clear hf hw
    go_enter Try.func58, Try.ntmps58
    go_wp2_with (first | (go_at_call 54; refine (isFleetCount_any _ _).mono ?_; rintro e w' ⟨rfl, rfl⟩))
    go_ret
    exact ⟨ret_int HF.out.symm, Below.refl _ _⟩

theorem orderCode_ok {xs : List Int} {k : Int} (h : orderCodeF xs k = 0) : 1 ≤ k ∧ k ≤ 4 ∧ orderB xs = true := by
  unfold orderCodeF at h
  split at h
  · rename_i h1
    split at h
    · rename_i h2
      exact ⟨(withinB_iff.1 h1).1, (withinB_iff.1 h1).2, h2⟩
    · cases h
  · cases h

theorem quot_bd (j : Nat) (k : Int) (h : 1 ≤ k) : 0 ≤ (j : Int) / k ∧ (j : Int) / k ≤ j :=
  ⟨Int.ediv_nonneg (by omega) (by omega), Int.ediv_le_self _ (by omega)⟩

theorem implSnake_any (A : Option Addr) (n c : Nat) (xs : List Int) (k : Int) (w : World) (h0 : Rd w 1 A n (ints xs)) :
    Calls Try.prog 20 #[.slice A n c, .int .i64 k] w (RetI w (snakeF xs k)) := by
  have h := h0; clear h0
  have HN := Lib.hid h.len_int
  have hm := h.le
  by_cases hcode : orderCodeF xs k = 0
  · obtain ⟨hk1, hk2, hok⟩ := orderCode_ok hcode
    have hlen := orderB_len hok
    rw [HN.out] at hlen
    obtain ⟨hl1, hl2⟩ := hlen
    have HO := Lib.hid hok; clear hok
    have hsn : snakeF xs k = (scatterF (snakeImpl k) 0 xs (List.replicate n 0), 0) := by
      unfold snakeF; rw [if_pos hcode, scatterF_congr _ _ (snake_same k hk1 hk2), HN.out]
    rw [hsn]
    clear hsn
    have HC := Lib.hid hcode; clear hcode
    go_enter Try.func20, Try.ntmps20
    go_wp2_with fail
    refine (orderCode_any _ _ _ _ _ _ h).mono ?_
    rintro e w1 ⟨rfl, hb1⟩
    rw [HC.out]
    have hmk := run_make_i64 n (by omega)
    have hown := own_made w1 w.heap.size 2 n (.int .i64 0) hb1.size (by omega)
    rw [← ints_replicate] at hown
    have hb0 : Below w.heap.size w (w1.alloc (.cells (madeCells #[.int .i64 0] n) 2)) := hb1.alloc hb1.size _
    go_wp2_with fail
    go_loopw [10, 22] (fun _ i wr => ∃ (j : Nat) (out : List Int), j ≤ n ∧ i = .int .i64 j ∧ wr.ownsRow w.heap.size 2 1 (.slice (some ⟨w1.heap.size, 0, none⟩) n n) n (ints out) ∧ scatterF (snakeImpl k) j (xs.drop j) out = scatterF (snakeImpl k) 0 xs (List.replicate n 0) ∧ Below w.heap.size w wr) (fun _ i _ => n - (intOf i).toNat)
    case atStart => exact ⟨0, _, Nat.zero_le _, rfl, hown, rfl, hb0⟩
    case round =>
      obtain ⟨j, out, hj, rfl, ho, hr, hb⟩ := hrel
      have HR := Lib.hid hr; clear hr hown hb0 hmk
      by_cases hlt : j < n
      · obtain ⟨b, o, x, rfl, hx, hd, hc⟩ := (h.below hb).int hlt
        obtain ⟨y, rfl, hy⟩ := orderB_mem HO.out hx
        rw [HN.out] at hy
        have HD := Lib.hid hd; clear hd hx
        obtain ⟨g, y', hg, hg1, hg2, hy', hcy, hfy⟩ := own_int_at ho (k := y) hy
        obtain rfl : w1.heap.size = g := by injection hg with hg; injection hg
        clear hy' hg
        have ho' := own_set (k := y) ho (snakeImpl k j)
        have hb' := hb.setCell (p := ⟨w1.heap.size, y, none⟩) hg1 (.int .i64 (snakeImpl k j))
        obtain ⟨hq1, hq2⟩ := quot_bd j k hk1
        obtain ⟨hr1, hr2⟩ : 0 ≤ (j : Int) % k ∧ (j : Int) % k < k := ⟨Int.emod_nonneg _ (by omega), Int.emod_lt_of_pos _ (by omega)⟩
        by_cases hodd : ((j : Int) / k % 2 == 1) = true
        · have hv : snakeImpl k j = k - 1 - (j : Int) % k := by unfold snakeImpl; rw [if_pos hodd]
          rw [hv] at ho' hb'
          have HV := Lib.hid hv; clear hv
          go_wp2
          go_roundw
          case rel => exact ⟨j + 1, _, by omega, by go_num, ho', by rw [← HR.out, HD.out, scatterF, HV.out, Int.toNat_natCast], hb'⟩
          case measure => simp [intOf]; omega
        · have hodd' : ((j : Int) / k % 2 == 1) = false := by simpa using hodd
          have hv : snakeImpl k j = (j : Int) % k := by unfold snakeImpl; rw [if_neg hodd]
          rw [hv] at ho' hb'
          have HV := Lib.hid hv; clear hv hodd
          go_wp2
          go_roundw
          case rel => exact ⟨j + 1, _, by omega, by go_num, ho', by rw [← HR.out, HD.out, scatterF, HV.out, Int.toNat_natCast], hb'⟩
          case measure => simp [intOf]; omega
      · obtain rfl : j = n := by omega
        go_wp2
        go_ret2
        rw [List.drop_eq_nil_of_le (by rw [HN.out]; omega), scatterF] at HR
        exact ⟨_, _, _, rfl, by rw [← HR.out]; exact ho, by omega, hb⟩
  · have hsn : snakeF xs k = ([], orderCodeF xs k) := by unfold snakeF; rw [if_neg hcode]
    rw [hsn]
    clear hsn
    have hoc := fun w => orderCode_any A n c xs k w
    generalize orderCodeF xs k = code at *
    have hne : (code != 0) = true := by simp [hcode]
    clear hcode
    have HOC := Lib.hid hoc; clear hoc
    go_enter Try.func20, Try.ntmps20
    go_wp2_with fail
    refine (HOC.out _ h).mono ?_
    rintro e w1 ⟨rfl, hb1⟩
    go_wp2_with fail
    go_ret2
    exact RetI.nil _ _ _ hb1

theorem specSnake_any (A : Option Addr) (n c : Nat) (xs : List Int) (k : Int) (w : World) (h0 : Rd w 1 A n (ints xs)) :
    Calls Try.prog 19 #[.slice A n c, .int .i64 k] w (RetI w (snakeF xs k)) := by
  have h := h0; clear h0
  have HN := Lib.hid h.len_int
  have hm := h.le
  by_cases hw : withinB k 1 4 = true
  · obtain ⟨hk1, hk2⟩ := withinB_iff.1 hw
    by_cases hok : orderB xs = true
    · have hcode : orderCodeF xs k = 0 := by unfold orderCodeF; rw [hw, hok]; rfl
      have hlen := orderB_len hok
      rw [HN.out] at hlen
      obtain ⟨hl1, hl2⟩ := hlen
      have hsn : snakeF xs k = (scatterF (snakeSpec k) 0 xs (List.replicate n 0), 0) := by unfold snakeF; rw [if_pos hcode, HN.out]
      rw [hsn]
      clear hsn hcode
      go_enter Try.func19, Try.ntmps19
      go_wp2_with fail
      refine (l30Kinds_any _ _).mono ?_
      rintro e w' ⟨rfl, rfl⟩
      go_wp2_with fail
      refine (l30Order_any _ _ _ _ _ h).mono ?_
      rintro e w1 ⟨rfl, hb1⟩
      have hmk := run_make_i64 n (by omega)
      have hown := own_made w1 w.heap.size 2 n (.int .i64 0) hb1.size (by omega)
      rw [← ints_replicate] at hown
      have hb0 : Below w.heap.size w (w1.alloc (.cells (madeCells #[.int .i64 0] n) 2)) := hb1.alloc hb1.size _
      go_wp2_with fail
      have HO := Lib.hid hok; clear hok hw
      go_loopw [7, 8] (fun i _ wr => ∃ (j : Nat) (out : List Int), j ≤ n ∧ i = .int .i64 j ∧ wr.ownsRow w.heap.size 2 1 (.slice (some ⟨w1.heap.size, 0, none⟩) n n) n (ints out) ∧ scatterF (snakeSpec k) j (xs.drop j) out = scatterF (snakeSpec k) 0 xs (List.replicate n 0) ∧ Below w.heap.size w wr) (fun i _ _ => n - (intOf i).toNat)
      case atStart => exact ⟨0, _, Nat.zero_le _, rfl, hown, rfl, hb0⟩
      case round =>
        obtain ⟨j, out, hj, rfl, ho, hr, hb⟩ := hrel
        have HR := Lib.hid hr; clear hr hown hb0 hmk
        by_cases hlt : j < n
        · obtain ⟨b, o, x, rfl, hx, hd, hc⟩ := (h.below hb).int hlt
          obtain ⟨y, rfl, hy⟩ := orderB_mem HO.out hx
          rw [HN.out] at hy
          have HD := Lib.hid hd; clear hd hx
          obtain ⟨g, y', hg, hg1, hg2, hy', hcy, hfy⟩ := own_int_at ho (k := y) hy
          obtain rfl : w1.heap.size = g := by injection hg with hg; injection hg
          clear hy' hg
          have ho' := own_set (k := y) ho (snakeSpec k j)
          have hb' := hb.setCell (p := ⟨w1.heap.size, y, none⟩) hg1 (.int .i64 (snakeSpec k j))
          obtain ⟨hr1, hr2⟩ : 0 ≤ (j : Int) % (2 * k) ∧ (j : Int) % (2 * k) < 2 * k := ⟨Int.emod_nonneg _ (by omega), Int.emod_lt_of_pos _ (by omega)⟩
          by_cases hge : k ≤ (j : Int) % (2 * k)
          · have hv : snakeSpec k j = 2 * k - 1 - (j : Int) % (2 * k) := by unfold snakeSpec; rw [if_pos hge]
            rw [hv] at ho' hb'
            have HV := Lib.hid hv; clear hv
            go_wp2
            go_roundw
            case rel => exact ⟨j + 1, _, by omega, by go_num, ho', by rw [← HR.out, HD.out, scatterF, HV.out, Int.toNat_natCast], hb'⟩
            case measure => simp [intOf]; omega
          · have hv : snakeSpec k j = (j : Int) % (2 * k) := by unfold snakeSpec; rw [if_neg hge]
            rw [hv] at ho' hb'
            have HV := Lib.hid hv; clear hv
            go_wp2
            go_roundw
            case rel => exact ⟨j + 1, _, by omega, by go_num, ho', by rw [← HR.out, HD.out, scatterF, HV.out, Int.toNat_natCast], hb'⟩
            case measure => simp [intOf]; omega
        · obtain rfl : j = n := by omega
          go_wp2
          go_ret2
          rw [List.drop_eq_nil_of_le (by rw [HN.out]; omega), scatterF] at HR
          exact ⟨_, _, _, rfl, by rw [← HR.out]; exact ho, by omega, hb⟩
    · have hok' : orderB xs = false := by simpa using hok
      have hsn : snakeF xs k = ([], 1) := by unfold snakeF orderCodeF; rw [hw, hok']; rfl
      rw [hsn]
      clear hsn hok
      go_enter Try.func19, Try.ntmps19
      go_wp2_with fail
      refine (l30Kinds_any _ _).mono ?_
      rintro e w' ⟨rfl, rfl⟩
      go_wp2_with fail
      refine (l30Order_any _ _ _ _ _ h).mono ?_
      rintro e w1 ⟨rfl, hb1⟩
      go_wp2_with fail
      go_ret2
      exact RetI.nil _ _ _ hb1
  · have hw' : withinB k 1 4 = false := by simpa using hw
    have hsn : snakeF xs k = ([], 2) := by unfold snakeF orderCodeF; rw [hw']; rfl
    rw [hsn]
    clear hsn hw
    go_enter Try.func19, Try.ntmps19
    go_wp2_with fail
    refine (l30Kinds_any _ _).mono ?_
    rintro e w' ⟨rfl, rfl⟩
    go_wp2_with fail
    go_ret2
    exact RetI.nil _ _ _ (Below.refl _ _)

/-! ### Sizes and boats of fleets -/
theorem fleetsB_len {xs : List Int} {k : Int} (h : fleetsB xs k = true) : 1 ≤ xs.length ∧ xs.length ≤ 16 := by
  unfold fleetsB at h
  simp only [Bool.and_eq_true, withinB_iff] at h
  omega
theorem fleetsB_mem {xs : List Int} {k : Int} (h : fleetsB xs k = true) {i : Nat} {x : Int} (hx : xs[i]? = some x) : ∃ j : Nat, x = j ∧ (j : Int) < k := by
  unfold fleetsB at h
  simp only [Bool.and_eq_true, List.all_eq_true] at h
  have := withinB_iff.1 (h.2 x (List.mem_of_getElem? hx))
  exact ⟨x.toNat, by omega, by omega⟩
theorem fleetsCode_ok {xs : List Int} {k : Int} (h : fleetsCodeF xs k = 0) : 1 ≤ k ∧ k ≤ 4 ∧ fleetsB xs k = true := by
  unfold fleetsCodeF at h
  split at h
  · rename_i h1
    split at h
    · rename_i h2
      exact ⟨(withinB_iff.1 h1).1, (withinB_iff.1 h1).2, h2⟩
    · cases h
  · cases h

theorem fleetsCode_any (A : Option Addr) (n c : Nat) (xs : List Int) (k : Int) (w : World) (h : Rd w 1 A n (ints xs)) :
    Calls Try.prog 63 #[.slice A n c, .int .i64 k] w fun e w' => e = .returned (.int .i64 (fleetsCodeF xs k)) ∧ w = w' := by
  have e1 : isFleetsB xs k = (withinB k 1 4 && fleetsB xs k) := rfl
  have E := Lib.hid e1; clear e1
  have e2 : fleetsCodeF xs k = if withinB k 1 4 then (if fleetsB xs k then 0 else 1) else 2 := rfl
  rw [e2]; clear e2
  cases hw : withinB k 1 4 with
  | true =>
    cases hf : fleetsB xs k with
    | true =>
      have hi : isFleetsB xs k = true := by rw [E.out, hw, hf]; rfl
      clear hf
      go_enter Try.func63, Try.ntmps63
      go_wp2_with (first | (go_at_call 54; refine (isFleetCount_any _ _).mono ?_; rintro e w' ⟨rfl, rfl⟩) | (go_at_call 17; refine (implIsFleets_any _ _ _ _ _ _ h).mono ?_; rintro e w' ⟨rfl, rfl⟩))
      go_ret
      exact ⟨rfl, rfl⟩
    | false =>
      have hi : isFleetsB xs k = false := by rw [E.out, hw, hf]; rfl
      clear hf
      go_enter Try.func63, Try.ntmps63
      go_wp2_with (first | (go_at_call 54; refine (isFleetCount_any _ _).mono ?_; rintro e w' ⟨rfl, rfl⟩) | (go_at_call 17; refine (implIsFleets_any _ _ _ _ _ _ h).mono ?_; rintro e w' ⟨rfl, rfl⟩))
      go_ret
      exact ⟨rfl, rfl⟩
  | false =>
    go_enter Try.func63, Try.ntmps63
    go_wp2_with (first | (go_at_call 54; refine (isFleetCount_any _ _).mono ?_; rintro e w' ⟨rfl, rfl⟩))
    go_ret
    exact ⟨rfl, rfl⟩

theorem l30Code_any (A : Option Addr) (n c : Nat) (xs : List Int) (k : Int) (w : World) (h : Rd w 1 A n (ints xs)) :
    Calls Try.prog 60 #[.slice A n c, .int .i64 k] w fun e w' => e = .returned (.int .i64 (fleetsCodeF xs k)) ∧ w = w' := by
  have e2 : fleetsCodeF xs k = if withinB k 1 4 then (if fleetsB xs k then 0 else 1) else 2 := rfl
  rw [e2]; clear e2
  cases hw : withinB k 1 4 with
  | true =>
    obtain ⟨hk1, hk2⟩ := withinB_iff.1 hw
    cases hf : fleetsB xs k with
    | true =>
      go_enter Try.func60, Try.ntmps60
      go_wp2_with (first | (go_at_call 52; refine (l30Kinds_any _ _).mono ?_; rintro e w' ⟨rfl, rfl⟩) | (go_at_call 53; refine (l30Fleets_any _ _ _ _ _ hk1 hk2 _ h).mono ?_; rintro e w' ⟨rfl, rfl⟩))
      go_ret
      exact ⟨rfl, rfl⟩
    | false =>
      go_enter Try.func60, Try.ntmps60
      go_wp2_with (first | (go_at_call 52; refine (l30Kinds_any _ _).mono ?_; rintro e w' ⟨rfl, rfl⟩) | (go_at_call 53; refine (l30Fleets_any _ _ _ _ _ hk1 hk2 _ h).mono ?_; rintro e w' ⟨rfl, rfl⟩))
      go_ret
      exact ⟨rfl, rfl⟩
  | false =>
    go_enter Try.func60, Try.ntmps60
    go_wp2_with (first | (go_at_call 52; refine (l30Kinds_any _ _).mono ?_; rintro e w' ⟨rfl, rfl⟩))
    go_ret
    exact ⟨rfl, rfl⟩

theorem fleetSizes_any (A : Option Addr) (n c kn : Nat) (xs : List Int) (hk : kn ≤ 4) (hok : fleetsB xs kn = true) (w : World) (h : Rd w 1 A n (ints xs)) :
    Calls Try.prog 64 #[.slice A n c, .int .i64 (kn : Int)] w (RetCopy w (countF xs (List.replicate kn 0))) := by
  have HN := Lib.hid h.len_int
  have hm := h.le
  have HO := Lib.hid hok; clear hok
  have hmk := run_make_i64 kn (by omega)
  have hown := own_made w w.heap.size 2 kn (.int .i64 0) (Nat.le_refl _) (by omega)
  rw [← ints_replicate] at hown
  have hb0 : Below w.heap.size w (w.alloc (.cells (madeCells #[.int .i64 0] kn) 2)) := (Below.refl _ _).alloc (Nat.le_refl _) _
  go_enter Try.func64, Try.ntmps64
  go_wp2_with fail
  go_loopw [7, 12] (fun _ i wr => ∃ (j : Nat) (out : List Int), j ≤ n ∧ i = .int .i64 j ∧ wr.ownsRow w.heap.size 2 1 (.slice (some ⟨w.heap.size, 0, none⟩) kn kn) kn (ints out) ∧ countF (xs.drop j) out = countF xs (List.replicate kn 0) ∧ Below w.heap.size w wr) (fun _ i _ => n - (intOf i).toNat)
  case atStart => exact ⟨0, _, Nat.zero_le _, rfl, hown, rfl, hb0⟩
  case round =>
    obtain ⟨j, out, hj, rfl, ho, hr, hb⟩ := hrel
    have HR := Lib.hid hr; clear hr hown hb0 hmk
    by_cases hlt : j < n
    · obtain ⟨b, o, x, rfl, hx, hd, hc⟩ := (h.below hb).int hlt
      obtain ⟨y, rfl, hy⟩ := fleetsB_mem HO.out hx
      have HD := Lib.hid hd; clear hd hx
      obtain ⟨g, z, hg, hg1, hg2, hz, hcy, hfy⟩ := own_int_at ho (k := y) (by omega)
      obtain rfl : w.heap.size = g := by injection hg with hg; injection hg
      have HZ := Lib.hid hz; clear hz hg
      have ho' := own_set (k := y) ho (wrap64 (z + 1))
      have hb' := hb.setCell (p := ⟨w.heap.size, y, none⟩) hg1 (.int .i64 (wrap64 (z + 1)))
      go_wp2
      go_roundw
      case rel => exact ⟨j + 1, _, by omega, by go_num, ho', by rw [← HR.out, HD.out, countF, Int.toNat_natCast, List.getD_eq_getElem?_getD, HZ.out]; rfl, hb'⟩
      case measure => simp [intOf]; omega
    · obtain rfl : j = n := by omega
      go_wp2
      go_ret
      rw [List.drop_eq_nil_of_le (by rw [HN.out]; omega), countF] at HR
      exact ⟨_, _, _, rfl, by rw [← HR.out]; exact ho, by omega, hb⟩

theorem l30SizesS_any (A : Option Addr) (n c kn : Nat) (xs : List Int) (hk : kn ≤ 4) (hok : fleetsB xs kn = true) (w : World) (h : Rd w 1 A n (ints xs)) :
    Calls Try.prog 62 #[.slice A n c, .int .i64 (kn : Int)] w (RetCopy w (countF xs (List.replicate kn 0))) := by
  have HN := Lib.hid h.len_int
  have hm := h.le
  have HO := Lib.hid hok; clear hok
  have hmk := run_make_i64 kn (by omega)
  have hown := own_made w w.heap.size 2 kn (.int .i64 0) (Nat.le_refl _) (by omega)
  rw [← ints_replicate] at hown
  have hb0 : Below w.heap.size w (w.alloc (.cells (madeCells #[.int .i64 0] kn) 2)) := (Below.refl _ _).alloc (Nat.le_refl _) _
  go_enter Try.func62, Try.ntmps62
  go_wp2_with fail
  go_loopw [6] (fun i wr => ∃ (j : Nat) (out : List Int), j ≤ n ∧ i = .int .i64 j ∧ wr.ownsRow w.heap.size 2 1 (.slice (some ⟨w.heap.size, 0, none⟩) kn kn) kn (ints out) ∧ countF (xs.drop j) out = countF xs (List.replicate kn 0) ∧ Below w.heap.size w wr) (fun i _ => n - (intOf i).toNat)
  case atStart => exact ⟨0, _, Nat.zero_le _, rfl, hown, rfl, hb0⟩
  case round =>
    obtain ⟨j, out, hj, rfl, ho, hr, hb⟩ := hrel
    have HR := Lib.hid hr; clear hr hown hb0 hmk
    by_cases hlt : j < n
    · obtain ⟨b, o, x, rfl, hx, hd, hc⟩ := (h.below hb).int hlt
      obtain ⟨y, rfl, hy⟩ := fleetsB_mem HO.out hx
      have HD := Lib.hid hd; clear hd hx
      obtain ⟨g, z, hg, hg1, hg2, hz, hcy, hfy⟩ := own_int_at ho (k := y) (by omega)
      obtain rfl : w.heap.size = g := by injection hg with hg; injection hg
      have HZ := Lib.hid hz; clear hz hg
      have ho' := own_set (k := y) ho (wrap64 (z + 1))
      have hb' := hb.setCell (p := ⟨w.heap.size, y, none⟩) hg1 (.int .i64 (wrap64 (z + 1)))
      go_wp2
      go_region
      go_wp2
      go_roundw
      case rel => exact ⟨j + 1, _, by omega, by go_num, ho'.drew, by rw [← HR.out, HD.out, countF, Int.toNat_natCast, List.getD_eq_getElem?_getD, HZ.out]; rfl, hb'.drew⟩
      case measure => simp [intOf]; omega
    · obtain rfl : j = n := by omega
      go_wp2
      go_ret
      rw [List.drop_eq_nil_of_le (by rw [HN.out]; omega), countF] at HR
      exact ⟨_, _, _, rfl, by rw [← HR.out]; exact ho, by omega, hb⟩

theorem sizes_arg {xs : List Int} {k : Int} (h : fleetsCodeF xs k = 0) : ∃ kn : Nat, k = kn ∧ 1 ≤ kn ∧ kn ≤ 4 ∧ fleetsB xs kn = true ∧ sizesF xs k = (countF xs (List.replicate kn 0), 0) := by
  obtain ⟨h1, h2, h3⟩ := fleetsCode_ok h
  refine ⟨k.toNat, by omega, by omega, by omega, by rwa [show ((k.toNat : Nat) : Int) = k by omega], ?_⟩
  unfold sizesF
  rw [if_pos h]

theorem implSizes_any (A : Option Addr) (n c : Nat) (xs : List Int) (k : Int) (w : World) (h0 : Rd w 1 A n (ints xs)) :
    Calls Try.prog 26 #[.slice A n c, .int .i64 k] w (RetI w (sizesF xs k)) := by
  have h := h0; clear h0
  have hc1 := Lib.hid (fleetsCode_any A n c xs k w h)
  by_cases hcode : fleetsCodeF xs k = 0
  · obtain ⟨kn, rfl, hk1, hk2, hok, hs⟩ := sizes_arg hcode
    rw [hs]
    rw [hcode] at hc1
    clear hs hcode
    go_enter Try.func26, Try.ntmps26
    go_wp2_with fail
    refine hc1.out.mono ?_
    rintro e w' ⟨rfl, rfl⟩
    go_wp2_with fail
    refine (fleetSizes_any _ _ _ _ _ hk2 hok _ h).mono ?_
    rintro e w1 ⟨A1, n1, c1, rfl, ho1, hn1, hb1⟩
    go_wp2_with fail
    go_ret2
    exact ⟨_, _, _, rfl, ho1, hn1, hb1⟩
  · have hs : sizesF xs k = ([], fleetsCodeF xs k) := by unfold sizesF; rw [if_neg hcode]
    rw [hs]; clear hs
    generalize fleetsCodeF xs k = code at *
    have hne : (code != 0) = true := by simp [hcode]
    clear hcode
    go_enter Try.func26, Try.ntmps26
    go_wp2_with fail
    refine hc1.out.mono ?_
    rintro e w' ⟨rfl, rfl⟩
    go_wp2_with fail
    go_ret2
    exact RetI.nil _ _ _ (Below.refl _ _)

theorem specSizes_any (A : Option Addr) (n c : Nat) (xs : List Int) (k : Int) (w : World) (h0 : Rd w 1 A n (ints xs)) :
    Calls Try.prog 25 #[.slice A n c, .int .i64 k] w (RetI w (sizesF xs k)) := by
  have h := h0; clear h0
  have hc1 := Lib.hid (l30Code_any A n c xs k w h)
  by_cases hcode : fleetsCodeF xs k = 0
  · obtain ⟨kn, rfl, hk1, hk2, hok, hs⟩ := sizes_arg hcode
    rw [hs]
    rw [hcode] at hc1
    clear hs hcode
    go_enter Try.func25, Try.ntmps25
    go_wp2_with fail
    refine hc1.out.mono ?_
    rintro e w' ⟨rfl, rfl⟩
    go_wp2_with fail
    refine (l30SizesS_any _ _ _ _ _ hk2 hok _ h).mono ?_
    rintro e w1 ⟨A1, n1, c1, rfl, ho1, hn1, hb1⟩
    go_wp2_with fail
    go_ret2
    exact ⟨_, _, _, rfl, ho1, hn1, hb1⟩
  · have hs : sizesF xs k = ([], fleetsCodeF xs k) := by unfold sizesF; rw [if_neg hcode]
    rw [hs]; clear hs
    generalize fleetsCodeF xs k = code at *
    have hne : (code != 0) = true := by simp [hcode]
    clear hcode
    go_enter Try.func25, Try.ntmps25
    go_wp2_with fail
    refine hc1.out.mono ?_
    rintro e w' ⟨rfl, rfl⟩
    go_wp2_with fail
    go_ret2
    exact RetI.nil _ _ _ (Below.refl _ _)

/-! ### Boats of a fleet -/
theorem fleetBoats_any (A : Option Addr) (n c : Nat) (xs : List Int) (fleet : Int) (hn : n ≤ 16) (w : World) (h : Rd w 1 A n (ints xs)) :
    Calls Try.prog 61 #[.slice A n c, .int .i64 fleet] w (RetCopy w (boatsF fleet 0 xs)) := by
  have HN := Lib.hid h.len_int
  go_enter Try.func61, Try.ntmps61
  go_wp2_with fail
  go_loopw [5, 6, 7, 11] (fun v _ _ i wr => ∃ (j m c' : Nat) (A' : Option Addr) (ys : List Int), j ≤ n ∧ i = .int .i64 j ∧ v = .slice A' m c' ∧ wr.ownsRow w.heap.size 2 1 (.slice A' m c') m (ints ys) ∧ m ≤ j ∧ ys ++ boatsF fleet j (xs.drop j) = boatsF fleet 0 xs ∧ Below w.heap.size w wr) (fun _ _ _ i _ => n - (intOf i).toNat)
  case atStart => exact ⟨0, 0, 0, _, [], Nat.zero_le _, rfl, rfl, own_empty _ _ _ (Nat.le_refl _), Nat.le_refl _, rfl, (Below.refl _ _).alloc (Nat.le_refl _) _⟩
  case round =>
    obtain ⟨j, m, c', A', ys, hj, rfl, rfl, ho, hmj, hr, hb⟩ := hrel
    have HR := Lib.hid hr; clear hr
    have hbs := hb.size
    by_cases hlt : j < n
    · obtain ⟨b, o, x, rfl, hx, hd, hc⟩ := (h.below hb).int hlt
      have HD := Lib.hid hd; clear hd hx
      by_cases hxf : x = fleet
      · subst hxf
        go_wp2_with (at_builtin; refine app_i64 _ rfl _ _ rfl rfl (ho.alloc _) rfl (cell_new1 _ _ _) (by omega) ?cB ?_; rotate_left; intro A1 c1 w1 hown1 hgr1)
        · go_roundw
          case rel => exact ⟨j + 1, m + 1, _, _, _, by omega, by go_num, rfl, hown1, by omega, by rw [← HR.out, HD.out, boatsF, if_pos rfl, List.append_assoc]; rfl, below_app hb hbs (Nat.le_refl _) ho hgr1⟩
          case measure => simp [intOf]; omega
        · simp; omega
      · have hne : (x == fleet) = false := by simp [hxf]
        go_wp2
        go_roundw
        case rel => exact ⟨j + 1, m, _, _, ys, by omega, by go_num, rfl, ho, by omega, by rw [← HR.out, HD.out, boatsF, if_neg hxf], hb⟩
        case measure => simp [intOf]; omega
    · obtain rfl : j = n := by omega
      go_wp2
      go_ret
      rw [List.drop_eq_nil_of_le (by rw [HN.out]; omega), boatsF, List.append_nil] at HR
      exact ⟨_, _, _, rfl, by rw [← HR.out]; exact ho, by omega, hb⟩
end Go.Proofs.Ytoccfbkklponnaa

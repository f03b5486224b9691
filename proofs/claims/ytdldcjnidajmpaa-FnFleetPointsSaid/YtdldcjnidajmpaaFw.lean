/- Walks: what the points of fleets need of the fleets (chapter 30). -/
import Derived.Test.YtdldcjnidajmpaaWr
import Derived.Test.YtdldcjnidajmpaaWx
namespace Go.Proofs.Ytdldcjnidajmpaa
open Go.RowKit
set_option linter.unusedVariables false
set_option maxRecDepth 100000

theorem isFleetCount_any (n : Int) (w : World) :
    Calls Try.prog 120 #[.int .i64 n] w fun e w' => e = .returned (.bool (withinB n 1 4)) ∧ w = w' := by
  go_enter Try.func120, Try.ntmps120
  go_wp2_with (go_at_call 89; refine (within_any _ _ _ _).mono ?_; rintro e w' ⟨rfl, rfl⟩)
  go_ret
  exact ⟨rfl, rfl⟩
theorem l30Kinds_any (n : Int) (w : World) :
    Calls Try.prog 116 #[.int .i64 n] w fun e w' => e = .returned (.bool (withinB n 1 4)) ∧ w = w' := by
  go_enter Try.func116, Try.ntmps116
  go_wp2_with (go_at_call 85; refine (l01In_any _ _ _ _).mono ?_; rintro e w' ⟨rfl, rfl⟩)
  go_ret
  exact ⟨rfl, rfl⟩


theorem l30Fleets_any (A : Option Addr) (n c : Nat) (xs : List Int) (k : Int) (hk1 : 1 ≤ k) (hk2 : k ≤ 4) (w : World) (h : Rd w 1 A n (ints xs)) :
    Calls Try.prog 117 #[.slice A n c, .int .i64 k] w fun e w' => e = .returned (.bool (fleetsB xs k)) ∧ w = w' := by
  have HN := Lib.hid h.len_int
  have hm := h.le
  by_cases hw : withinB (n : Int) 1 16 = true
  · go_enter Try.func117, Try.ntmps117
    go_wp2_with (go_at_call 85; refine (l01In_any _ _ _ _).mono ?_; rintro e w' ⟨rfl, rfl⟩)
    have HW := Lib.hid hw; clear hw
    go_loop [5] (fun i => ∃ j : Nat, j ≤ n ∧ i = .int .i64 j ∧ (xs.drop j).all (fun x => withinB x 0 (k - 1)) = xs.all (fun x => withinB x 0 (k - 1))) (fun i => n - (intOf i).toNat)
    case atStart => exact ⟨0, Nat.zero_le _, rfl, rfl⟩
    case round =>
      obtain ⟨j, hj, rfl, hall⟩ := hrel
      have HA := Lib.hid hall; clear hall
      by_cases hlt : j < n
      · obtain ⟨b, o, x, rfl, hx, hd, hc⟩ := h.int hlt
        have HX := Lib.hid hx; clear hx
        have HD := Lib.hid hd; clear hd
        go_wp2_with (go_at_call 85; refine (l01In_any _ _ _ _).mono ?_; rintro e w' ⟨rfl, rfl⟩)
        · have hw : (!withinB x 0 (k - 1)) = true := by assumption
          go_ret
          exact ⟨ret_bool (by unfold fleetsB; rw [← HA.out, HD.out]; simp at hw; simp [hw]), rfl⟩
        · have hw : (!withinB x 0 (k - 1)) = false := by assumption
          go_round
          case rel => exact ⟨j + 1, by omega, by go_num, by rw [← HA.out, HD.out]; simp at hw; simp [hw]⟩
          case measure => simp [intOf]; omega
      · obtain rfl : j = n := by omega
        go_wp2
        go_ret
        exact ⟨ret_bool (by unfold fleetsB; rw [← HA.out, List.drop_eq_nil_of_le (by rw [HN.out]; omega), HN.out, HW.out]; simp), rfl⟩
  · have hw' : withinB (n : Int) 1 16 = false := by simpa using hw
    go_enter Try.func117, Try.ntmps117
    go_wp2_with (go_at_call 85; refine (l01In_any _ _ _ _).mono ?_; rintro e w' ⟨rfl, rfl⟩)
    go_ret
    exact ⟨ret_bool (by unfold fleetsB; rw [HN.out, hw']; rfl), rfl⟩


theorem implIsFleets_any (A : Option Addr) (n c : Nat) (xs : List Int) (k : Int) (w : World) (h : Rd w 1 A n (ints xs)) :
    Calls Try.prog 121 #[.slice A n c, .int .i64 k] w fun e w' => e = .returned (.bool (isFleetsB xs k)) ∧ w = w' := by
  have HN := Lib.hid h.len_int
  have hm := h.le
  by_cases hw : withinB k 1 4 = true
  · obtain ⟨h1, h2⟩ := withinB_iff.1 hw
    by_cases hl : withinB (n : Int) 1 16 = true
    · go_enter Try.func121, Try.ntmps121
      go_wp2_with (first | (go_at_call 120; refine (isFleetCount_any _ _).mono ?_; rintro e w' ⟨rfl, rfl⟩) | (go_at_call 89; refine (within_any _ _ _ _).mono ?_; rintro e w' ⟨rfl, rfl⟩) | (go_at_call 135; refine (areRow_any _ _ _ _ _ _ _ h).mono ?_; rintro e w' ⟨rfl, rfl⟩))
      go_ret
      exact ⟨ret_bool (by unfold isFleetsB fleetsB rowB; rw [HN.out, hw, hl]; simp), rfl⟩
    · have hl' : withinB (n : Int) 1 16 = false := by simpa using hl
      go_enter Try.func121, Try.ntmps121
      go_wp2_with (first | (go_at_call 120; refine (isFleetCount_any _ _).mono ?_; rintro e w' ⟨rfl, rfl⟩) | (go_at_call 89; refine (within_any _ _ _ _).mono ?_; rintro e w' ⟨rfl, rfl⟩))
      go_ret
      exact ⟨ret_bool (by unfold isFleetsB fleetsB; rw [HN.out, hw, hl']; simp), rfl⟩
  · have hw' : withinB k 1 4 = false := by simpa using hw
    go_enter Try.func121, Try.ntmps121
    go_wp2_with (first | (go_at_call 120; refine (isFleetCount_any _ _).mono ?_; rintro e w' ⟨rfl, rfl⟩))
    go_ret
    exact ⟨ret_bool (by unfold isFleetsB; rw [hw']; simp), rfl⟩
theorem fleetsB_len {xs : List Int} {k : Int} (h : fleetsB xs k = true) : 1 ≤ xs.length ∧ xs.length ≤ 16 := by
  unfold fleetsB at h
  simp only [Bool.and_eq_true, withinB_iff] at h
  omega
theorem fleetsB_mem {xs : List Int} {k : Int} (h : fleetsB xs k = true) {i : Nat} {x : Int} (hx : xs[i]? = some x) : ∃ j : Nat, x = j ∧ (j : Int) < k := by
  unfold fleetsB at h
  simp only [Bool.and_eq_true, List.all_eq_true] at h
  have := withinB_iff.1 (h.2 x (List.mem_of_getElem? hx))
  exact ⟨x.toNat, by omega, by omega⟩
theorem fleetsCode_ok {xs : List Int} {k : Int} (h : fleetsCodeF xs k = 0) : 1 ≤ k ∧ k ≤ 4 ∧ fleetsB xs k = true := by
  unfold fleetsCodeF at h
  split at h
  · rename_i h1
    split at h
    · rename_i h2
      exact ⟨(withinB_iff.1 h1).1, (withinB_iff.1 h1).2, h2⟩
    · cases h
  · cases h

theorem fleetsCode_any (A : Option Addr) (n c : Nat) (xs : List Int) (k : Int) (w : World) (h : Rd w 1 A n (ints xs)) :
    Calls Try.prog 69 #[.slice A n c, .int .i64 k] w fun e w' => e = .returned (.int .i64 (fleetsCodeF xs k)) ∧ w = w' := by
  have e1 : isFleetsB xs k = (withinB k 1 4 && fleetsB xs k) := rfl
  have E := Lib.hid e1; clear e1
  have e2 : fleetsCodeF xs k = if withinB k 1 4 then (if fleetsB xs k then 0 else 1) else 2 := rfl
  rw [e2]; clear e2
  cases hw : withinB k 1 4 with
  | true =>
    cases hf : fleetsB xs k with
    | true =>
      have hi : isFleetsB xs k = true := by rw [E.out, hw, hf]; rfl
      clear hf
      go_enter Try.func69, Try.ntmps69
      go_wp2_with (first | (go_at_call 120; refine (isFleetCount_any _ _).mono ?_; rintro e w' ⟨rfl, rfl⟩) | (go_at_call 121; refine (implIsFleets_any _ _ _ _ _ _ h).mono ?_; rintro e w' ⟨rfl, rfl⟩))
      go_ret
      exact ⟨rfl, rfl⟩
    | false =>
      have hi : isFleetsB xs k = false := by rw [E.out, hw, hf]; rfl
      clear hf
      go_enter Try.func69, Try.ntmps69
      go_wp2_with (first | (go_at_call 120; refine (isFleetCount_any _ _).mono ?_; rintro e w' ⟨rfl, rfl⟩) | (go_at_call 121; refine (implIsFleets_any _ _ _ _ _ _ h).mono ?_; rintro e w' ⟨rfl, rfl⟩))
      go_ret
      exact ⟨rfl, rfl⟩
  | false =>
    go_enter Try.func69, Try.ntmps69
    go_wp2_with (first | (go_at_call 120; refine (isFleetCount_any _ _).mono ?_; rintro e w' ⟨rfl, rfl⟩))
    go_ret
    exact ⟨rfl, rfl⟩

theorem l30Code_any (A : Option Addr) (n c : Nat) (xs : List Int) (k : Int) (w : World) (h : Rd w 1 A n (ints xs)) :
    Calls Try.prog 63 #[.slice A n c, .int .i64 k] w fun e w' => e = .returned (.int .i64 (fleetsCodeF xs k)) ∧ w = w' := by
  have e2 : fleetsCodeF xs k = if withinB k 1 4 then (if fleetsB xs k then 0 else 1) else 2 := rfl
  rw [e2]; clear e2
  cases hw : withinB k 1 4 with
  | true =>
    obtain ⟨hk1, hk2⟩ := withinB_iff.1 hw
    cases hf : fleetsB xs k with
    | true =>
      go_enter Try.func63, Try.ntmps63
      go_wp2_with (first | (go_at_call 116; refine (l30Kinds_any _ _).mono ?_; rintro e w' ⟨rfl, rfl⟩) | (go_at_call 117; refine (l30Fleets_any _ _ _ _ _ hk1 hk2 _ h).mono ?_; rintro e w' ⟨rfl, rfl⟩))
      go_ret
      exact ⟨rfl, rfl⟩
    | false =>
      go_enter Try.func63, Try.ntmps63
      go_wp2_with (first | (go_at_call 116; refine (l30Kinds_any _ _).mono ?_; rintro e w' ⟨rfl, rfl⟩) | (go_at_call 117; refine (l30Fleets_any _ _ _ _ _ hk1 hk2 _ h).mono ?_; rintro e w' ⟨rfl, rfl⟩))
      go_ret
      exact ⟨rfl, rfl⟩
  | false =>
    go_enter Try.func63, Try.ntmps63
    go_wp2_with (first | (go_at_call 116; refine (l30Kinds_any _ _).mono ?_; rintro e w' ⟨rfl, rfl⟩))
    go_ret
    exact ⟨rfl, rfl⟩

theorem fleetSizes_any (A : Option Addr) (n c kn : Nat) (xs : List Int) (hk : kn ≤ 4) (hok : fleetsB xs kn = true) (w : World) (h : Rd w 1 A n (ints xs)) :
    Calls Try.prog 71 #[.slice A n c, .int .i64 (kn : Int)] w (RetCopy w (countF xs (List.replicate kn 0))) := by
  have HN := Lib.hid h.len_int
  have hm := h.le
  have HO := Lib.hid hok; clear hok
  have hmk := run_make_i64 kn (by omega)
  have hown := own_made w w.heap.size 2 kn (.int .i64 0) (Nat.le_refl _) (by omega)
  rw [← ints_replicate] at hown
  have hb0 : Below w.heap.size w (w.alloc (.cells (madeCells #[.int .i64 0] kn) 2)) := (Below.refl _ _).alloc (Nat.le_refl _) _
  go_enter Try.func71, Try.ntmps71
  go_wp2_with fail
  go_loopw [7, 12] (fun _ i wr => ∃ (j : Nat) (out : List Int), j ≤ n ∧ i = .int .i64 j ∧ wr.ownsRow w.heap.size 2 1 (.slice (some ⟨w.heap.size, 0, none⟩) kn kn) kn (ints out) ∧ countF (xs.drop j) out = countF xs (List.replicate kn 0) ∧ Below w.heap.size w wr) (fun _ i _ => n - (intOf i).toNat)
  case atStart => exact ⟨0, _, Nat.zero_le _, rfl, hown, rfl, hb0⟩
  case round =>
    obtain ⟨j, out, hj, rfl, ho, hr, hb⟩ := hrel
    have HR := Lib.hid hr; clear hr hown hb0 hmk
    by_cases hlt : j < n
    · obtain ⟨b, o, x, rfl, hx, hd, hc⟩ := (h.below hb).int hlt
      obtain ⟨y, rfl, hy⟩ := fleetsB_mem HO.out hx
      have HD := Lib.hid hd; clear hd hx
      obtain ⟨g, z, hg, hg1, hg2, hz, hcy, hfy⟩ := own_int_at ho (k := y) (by omega)
      obtain rfl : w.heap.size = g := by injection hg with hg; injection hg
      have HZ := Lib.hid hz; clear hz hg
      have ho' := own_set (k := y) ho (wrap64 (z + 1))
      have hb' := hb.setCell (p := ⟨w.heap.size, y, none⟩) hg1 (.int .i64 (wrap64 (z + 1)))
      go_wp2
      go_roundw
      case rel => exact ⟨j + 1, _, by omega, by go_num, ho', by rw [← HR.out, HD.out, countF, Int.toNat_natCast, List.getD_eq_getElem?_getD, HZ.out]; rfl, hb'⟩
      case measure => simp [intOf]; omega
    · obtain rfl : j = n := by omega
      go_wp2
      go_ret
      rw [List.drop_eq_nil_of_le (by rw [HN.out]; omega), countF] at HR
      exact ⟨_, _, _, rfl, by rw [← HR.out]; exact ho, by omega, hb⟩

theorem l30SizesS_any (A : Option Addr) (n c kn : Nat) (xs : List Int) (hk : kn ≤ 4) (hok : fleetsB xs kn = true) (w : World) (h : Rd w 1 A n (ints xs)) :
    Calls Try.prog 65 #[.slice A n c, .int .i64 (kn : Int)] w (RetCopy w (countF xs (List.replicate kn 0))) := by
  have HN := Lib.hid h.len_int
  have hm := h.le
  have HO := Lib.hid hok; clear hok
  have hmk := run_make_i64 kn (by omega)
  have hown := own_made w w.heap.size 2 kn (.int .i64 0) (Nat.le_refl _) (by omega)
  rw [← ints_replicate] at hown
  have hb0 : Below w.heap.size w (w.alloc (.cells (madeCells #[.int .i64 0] kn) 2)) := (Below.refl _ _).alloc (Nat.le_refl _) _
  go_enter Try.func65, Try.ntmps65
  go_wp2_with fail
  go_loopw [6] (fun i wr => ∃ (j : Nat) (out : List Int), j ≤ n ∧ i = .int .i64 j ∧ wr.ownsRow w.heap.size 2 1 (.slice (some ⟨w.heap.size, 0, none⟩) kn kn) kn (ints out) ∧ countF (xs.drop j) out = countF xs (List.replicate kn 0) ∧ Below w.heap.size w wr) (fun i _ => n - (intOf i).toNat)
  case atStart => exact ⟨0, _, Nat.zero_le _, rfl, hown, rfl, hb0⟩
  case round =>
    obtain ⟨j, out, hj, rfl, ho, hr, hb⟩ := hrel
    have HR := Lib.hid hr; clear hr hown hb0 hmk
    by_cases hlt : j < n
    · obtain ⟨b, o, x, rfl, hx, hd, hc⟩ := (h.below hb).int hlt
      obtain ⟨y, rfl, hy⟩ := fleetsB_mem HO.out hx
      have HD := Lib.hid hd; clear hd hx
      obtain ⟨g, z, hg, hg1, hg2, hz, hcy, hfy⟩ := own_int_at ho (k := y) (by omega)
      obtain rfl : w.heap.size = g := by injection hg with hg; injection hg
      have HZ := Lib.hid hz; clear hz hg
      have ho' := own_set (k := y) ho (wrap64 (z + 1))
      have hb' := hb.setCell (p := ⟨w.heap.size, y, none⟩) hg1 (.int .i64 (wrap64 (z + 1)))
      go_wp2
      go_region
      go_wp2
      go_roundw
      case rel => exact ⟨j + 1, _, by omega, by go_num, ho'.drew, by rw [← HR.out, HD.out, countF, Int.toNat_natCast, List.getD_eq_getElem?_getD, HZ.out]; rfl, hb'.drew⟩
      case measure => simp [intOf]; omega
    · obtain rfl : j = n := by omega
      go_wp2
      go_ret
      rw [List.drop_eq_nil_of_le (by rw [HN.out]; omega), countF] at HR
      exact ⟨_, _, _, rfl, by rw [← HR.out]; exact ho, by omega, hb⟩

theorem fleetBoats_any (A : Option Addr) (n c : Nat) (xs : List Int) (fleet : Int) (hn : n ≤ 16) (w : World) (h : Rd w 1 A n (ints xs)) :
    Calls Try.prog 72 #[.slice A n c, .int .i64 fleet] w (RetCopy w (boatsF fleet 0 xs)) := by
  have HN := Lib.hid h.len_int
  go_enter Try.func72, Try.ntmps72
  go_wp2_with fail
  go_loopw [5, 6, 7, 11] (fun v _ _ i wr => ∃ (j m c' : Nat) (A' : Option Addr) (ys : List Int), j ≤ n ∧ i = .int .i64 j ∧ v = .slice A' m c' ∧ wr.ownsRow w.heap.size 2 1 (.slice A' m c') m (ints ys) ∧ m ≤ j ∧ ys ++ boatsF fleet j (xs.drop j) = boatsF fleet 0 xs ∧ Below w.heap.size w wr) (fun _ _ _ i _ => n - (intOf i).toNat)
  case atStart => exact ⟨0, 0, 0, _, [], Nat.zero_le _, rfl, rfl, own_empty _ _ _ (Nat.le_refl _), Nat.le_refl _, rfl, (Below.refl _ _).alloc (Nat.le_refl _) _⟩
  case round =>
    obtain ⟨j, m, c', A', ys, hj, rfl, rfl, ho, hmj, hr, hb⟩ := hrel
    have HR := Lib.hid hr; clear hr
    have hbs := hb.size
    by_cases hlt : j < n
    · obtain ⟨b, o, x, rfl, hx, hd, hc⟩ := (h.below hb).int hlt
      have HD := Lib.hid hd; clear hd hx
      by_cases hxf : x = fleet
      · subst hxf
        go_wp2_with (at_builtin; refine app_i64 _ rfl _ _ rfl rfl (ho.alloc _) rfl (cell_new1 _ _ _) (by omega) ?cB ?_; rotate_left; intro A1 c1 w1 hown1 hgr1)
        · go_roundw
          case rel => exact ⟨j + 1, m + 1, _, _, _, by omega, by go_num, rfl, hown1, by omega, by rw [← HR.out, HD.out, boatsF, if_pos rfl, List.append_assoc]; rfl, below_app hb hbs (Nat.le_refl _) ho hgr1⟩
          case measure => simp [intOf]; omega
        · simp; omega
      · have hne : (x == fleet) = false := by simp [hxf]
        go_wp2
        go_roundw
        case rel => exact ⟨j + 1, m, _, _, ys, by omega, by go_num, rfl, ho, by omega, by rw [← HR.out, HD.out, boatsF, if_neg hxf], hb⟩
        case measure => simp [intOf]; omega
    · obtain rfl : j = n := by omega
      go_wp2
      go_ret
      rw [List.drop_eq_nil_of_le (by rw [HN.out]; omega), boatsF, List.append_nil] at HR
      exact ⟨_, _, _, rfl, by rw [← HR.out]; exact ho, by omega, hb⟩
end Go.Proofs.Ytdldcjnidajmpaa

/- Walks: medals (chapter 31), net points and codes. -/
import Derived.Test.YtfkllgnenbbccaaMm
import Derived.Test.YtfkllgnenbbccaaWr
import Derived.Test.YtfkllgnenbbccaaWp
namespace Go.Proofs.Ytfkllgnenbbccaa
open Go.RowKit
set_option linter.unusedVariables false
set_option maxRecDepth 100000

theorem l01In_q (n a b : Int) (w : World) :
    Calls Try.prog 40 #[.int .i64 n, .int .i64 a, .int .i64 b] w fun e w' => e = .returned (.bool (withinB n a b)) ∧ w' = w :=
  (l01In_any n a b w).mono fun _ _ ⟨h1, h2⟩ => ⟨h1, h2.symm⟩

theorem isNaN_any (x : Int) (w : World) :
    Calls Try.prog 74 #[.int .i64 x] w fun e w' => e = .returned (.bool false) ∧ w = w' := by
  go_enter Try.func74, Try.ntmps74
  go_wp2
  go_ret
  exact ⟨rfl, rfl⟩
theorem less_any (x y : Int) (w : World) :
    Calls Try.prog 62 #[.int .i64 x, .int .i64 y] w fun e w' => e = .returned (.bool (decide (x < y))) ∧ w' = w := by
  go_enter Try.func62, Try.ntmps62
  go_wp2_with (go_at_call 74; refine (isNaN_any _ _).mono ?_; rintro e w' ⟨rfl, rfl⟩)
  go_ret
  exact ⟨rfl, rfl⟩

theorem isSorted_any (A : Option Addr) (n c : Nat) (xs : List Int) (w : World) (h : Rd w 1 A n (ints xs)) :
    Calls Try.prog 42 #[.slice A n c] w fun e w' => e = .returned (.bool (sortedB xs)) ∧ Drawn w w' := by
  have HN := Lib.hid h.len_int
  have hm := h.le
  go_enter Try.func42, Try.ntmps42
  go_wp2
  go_loopw [3] (fun i wr => ∃ t : Int, i = .int .i64 t ∧ -1 ≤ t ∧ t ≤ (n : Int) - 1 ∧ Hid (∀ (j : Nat) (x y : Int), t ≤ j → xs[j]? = some x → xs[j + 1]? = some y → x ≤ y) ∧ Drawn w wr) (fun i _ => (intOf i).toNat)
  case atStart => exact ⟨_, rfl, by omega, by omega, fun j x y h1 h2 h3 => by have := (List.getElem?_eq_some_iff.1 h3).1; rw [HN.out] at this; omega, Drawn.refl _⟩
  case round =>
    obtain ⟨t, rfl, ht1, ht2, hall, hq⟩ := hrel
    by_cases hpos : 0 < t
    · obtain ⟨k, rfl⟩ := int_up t (by omega)
      obtain ⟨j, hkj⟩ : ∃ j : Nat, k = j + 1 := ⟨k - 1, by omega⟩
      obtain ⟨b, o, y, rfl, hy, _, hcy⟩ := (h.drawn hq).int (k := k) (by omega)
      obtain ⟨b', o', x, hb', hx, _, hcx⟩ := (h.drawn hq).int (k := j) (by omega)
      obtain ⟨rfl, rfl⟩ : b = b' ∧ o = o' := by injection hb' with hb'; injection hb' with e1 e2; exact ⟨e1, e2⟩
      have HY := Lib.hid hy; have HX := Lib.hid hx; clear hy hx hb'
      have HS := Lib.hid (show IntKind.i64.wrap ((k : Int) - 1) = (j : Int) by rw [IntWalk.i64_in _ (by omega)]; omega)
      have hjn : j < n := by omega
      have hkn : k < n := by omega
      have HK := Lib.hid hkj; clear hkj
      by_cases hlt : y < x
      · have hd : decide (y < x) = true := by simpa using hlt
        go_wp2
        have hs := HS.out
        go_quiet ((go_at_call 62; exact Calls.quiet_of_same (less_any _ _ _)))
        clear hs
        go_wp2
        go_ret
        exact ⟨ret_bool (sortedB_not HX.out (by rw [← HK.out]; exact HY.out) hlt).symm, hq.step _⟩
      · have hd : decide (y < x) = false := by simpa using hlt
        go_wp2
        have hs := HS.out
        go_quiet ((go_at_call 62; exact Calls.quiet_of_same (less_any _ _ _)))
        clear hs
        go_wp2
        go_roundw
        case rel =>
          refine ⟨(j : Int), by rw [HK.out]; go_num, by omega, by omega, ?_, hq.step _⟩
          intro i u v h1 h2 h3
          by_cases hij : i = j
          · subst hij
            rw [HX.out] at h2; rw [← HK.out, HY.out] at h3
            injection h2 with h2; injection h3 with h3
            omega
          · exact hall.out i u v (by have := HK.out; omega) h2 h3
        case measure => simp [intOf]; omega
    · go_wp2
      go_ret
      exact ⟨ret_bool (sortedB_iff.2 fun i u v h2 h3 => hall.out i u v (by omega) h2 h3).symm, hq⟩

theorem implIsMedal_any (A : Option Addr) (n c : Nat) (xs : List Int) (w : World) (h0 : Rd w 1 A n (ints xs)) :
    Calls Try.prog 16 #[.slice A n c] w fun e w' => e = .returned (.bool (medalB xs)) ∧ Below w.heap.size w w' := by
  have h := h0; clear h0
  have HN := Lib.hid h.len_int
  have hm := h.le
  have e1 : medalB xs = (withinB (xs.length : Int) 1 5 && (xs.all (fun x => withinB x 0 200000) && sortedB xs)) := rfl
  rw [HN.out] at e1
  rw [e1]; clear e1
  have e2 : rowB xs n 200000 = xs.all (fun x => withinB x 0 200000) := by unfold rowB; rw [HN.out]; simp
  by_cases h1 : 1 ≤ n
  · by_cases h5 : n ≤ 5
    · have hw : withinB (n : Int) 1 5 = true := withinB_iff.2 (by omega)
      rw [hw]
      cases ha : xs.all (fun x => withinB x 0 200000) with
      | true =>
        rw [ha] at e2
        have E2 := Lib.hid e2; clear e2 hw ha
        go_enter Try.func16, Try.ntmps16
        go_wp2_with fail
        refine (areRow_any _ _ _ _ _ _ _ h).mono ?_
        rintro e w' ⟨rfl, rfl⟩
        rw [E2.out]
        go_wp2_with fail
        refine (isSorted_any _ _ _ _ _ h).mono ?_
        rintro e w1 ⟨rfl, hq⟩
        go_wp2_with fail
        go_ret
        exact ⟨ret_bool (by simp), hq.below⟩
      | false =>
        rw [ha] at e2
        have E2 := Lib.hid e2; clear e2 hw ha
        go_enter Try.func16, Try.ntmps16
        go_wp2_with fail
        refine (areRow_any _ _ _ _ _ _ _ h).mono ?_
        rintro e w' ⟨rfl, rfl⟩
        rw [E2.out]
        go_wp2_with fail
        go_ret
        exact ⟨ret_bool (by simp), Below.refl _ _⟩
    · have hw : withinB (n : Int) 1 5 = false := withinB_not.2 (by omega)
      rw [hw]
      clear hw e2
      go_enter Try.func16, Try.ntmps16
      go_wp2_with fail
      go_ret
      exact ⟨ret_bool (by simp), Below.refl _ _⟩
  · have hw : withinB (n : Int) 1 5 = false := withinB_not.2 (by omega)
    rw [hw]
    clear hw e2
    go_enter Try.func16, Try.ntmps16
    go_wp2_with fail
    go_ret
    exact ⟨ret_bool (by simp), Below.refl _ _⟩

theorem all_snoc {xs : List Int} {p : Int → Bool} {k : Nat} {x : Int} (hx : xs[k]? = some x) (h : ∀ (i : Nat) (y : Int), i < k → xs[i]? = some y → p y = true) (hp : p x = true) :
    ∀ (i : Nat) (y : Int), i < k + 1 → xs[i]? = some y → p y = true := by
  intro i y hi hy
  by_cases hik : i = k
  · subst hik; rw [hx] at hy; injection hy with hy; subst hy; exact hp
  · exact h i y (by omega) hy

theorem specIsMedal_any (A : Option Addr) (n c : Nat) (xs : List Int) (w : World) (h0 : Rd w 1 A n (ints xs)) :
    Calls Try.prog 14 #[.slice A n c] w fun e w' => e = .returned (.bool (medalB xs)) ∧ Below w.heap.size w w' := by
  have h := h0; clear h0
  have HN := Lib.hid h.len_int
  have hm := h.le
  have e1 : medalB xs = (withinB (xs.length : Int) 1 5 && (xs.all (fun x => withinB x 0 200000) && sortedB xs)) := rfl
  rw [HN.out] at e1
  rw [e1]; clear e1
  cases hw : withinB (n : Int) 1 5 with
  | true =>
    have hw5 := withinB_iff.1 hw
    obtain ⟨hw1, hw2⟩ := hw5
    go_enter Try.func14, Try.ntmps14
    go_wp2_with (go_at_call 40; refine (l01In_any _ _ _ _).mono ?_; rintro e w' ⟨rfl, rfl⟩)
    clear hw
    go_loopw [3] (fun i wr => ∃ k : Nat, k ≤ n ∧ i = .int .i64 k ∧ Hid (∀ (i : Nat) (y : Int), i < k → xs[i]? = some y → withinB y 0 200000 = true) ∧ Hid (∀ (i : Nat) (x y : Int), i + 1 < k → xs[i]? = some x → xs[i + 1]? = some y → x ≤ y) ∧ Drawn w wr) (fun i _ => n - (intOf i).toNat)
    case atStart => exact ⟨0, Nat.zero_le _, rfl, fun i y hi => by omega, fun i x y hi => by omega, Drawn.refl _⟩
    case round =>
      obtain ⟨k, hk, rfl, hr1, hr2, hq⟩ := hrel
      by_cases hlt : k < n
      · obtain ⟨b, o, x, rfl, hx, hd, hc⟩ := (h.drawn hq).int hlt
        have HX := Lib.hid hx; clear hd hx
        cases hw : withinB x 0 200000 with
        | false =>
          go_wp2
          go_quiet ((go_at_call 40; exact Calls.quiet_of_same (l01In_q _ _ _ _)))
          go_wp2
          go_ret
          refine ⟨ret_bool ?_, (hq.step _).below⟩
          have : xs.all (fun x => withinB x 0 200000) = false := by
            rw [List.all_eq_false]; exact ⟨x, List.mem_of_getElem? HX.out, by simp [hw]⟩
          rw [this]; rfl
        | true =>
          by_cases hk0 : k = 0
          · subst hk0
            simp only [Nat.add_zero] at hc
            go_wp2
            go_quiet ((go_at_call 40; exact Calls.quiet_of_same (l01In_q _ _ _ _)))
            go_wp2
            go_roundw
            case rel => exact ⟨1, by omega, rfl, all_snoc HX.out hr1.out hw, fun i x y hi => by omega, hq.step _⟩
            case measure => simp [intOf]; omega
          · obtain ⟨j, hkj⟩ : ∃ j, k = j + 1 := ⟨k - 1, by omega⟩
            obtain ⟨b', o', y, hb', hy, _, hcy⟩ := (h.drawn hq).int (k := j) (by omega)
            obtain ⟨rfl, rfl⟩ : b = b' ∧ o = o' := by injection hb' with hb'; injection hb' with e1 e2; exact ⟨e1, e2⟩
            have HY := Lib.hid hy; clear hy hb'
            have HS := Lib.hid (show IntKind.i64.wrap ((k : Int) - 1) = (j : Int) by rw [IntWalk.i64_in _ (by omega)]; omega)
            have hjn : j < n := by omega
            have hk1 : 0 < k := by omega
            have HK := Lib.hid hkj; clear hkj hk0
            by_cases hgt : x < y
            · have hd : decide (x < y) = true := by simpa using hgt
              go_wp2
              have hs := HS.out
              go_quiet ((go_at_call 40; exact Calls.quiet_of_same (l01In_q _ _ _ _)))
              clear hs
              go_wp2
              go_ret
              exact ⟨ret_bool (by rw [sortedB_not HY.out (by rw [← HK.out]; exact HX.out) hgt]; simp), (hq.step _).below⟩
            · have hd : decide (x < y) = false := by simpa using hgt
              go_wp2
              have hs := HS.out
              go_quiet ((go_at_call 40; exact Calls.quiet_of_same (l01In_q _ _ _ _)))
              clear hs
              go_wp2
              go_roundw
              case rel =>
                refine ⟨k + 1, by omega, by go_num, all_snoc HX.out hr1.out hw, ?_, hq.step _⟩
                intro i u v hi hu hv
                by_cases hij : i = j
                · subst hij
                  rw [HY.out] at hu; rw [← HK.out, HX.out] at hv
                  injection hu with hu; injection hv with hv
                  omega
                · exact hr2.out i u v (by have := HK.out; omega) hu hv
              case measure => simp [intOf]; omega
      · obtain rfl : k = n := by omega
        go_wp2
        go_ret
        refine ⟨ret_bool ?_, hq.below⟩
        have e1 : xs.all (fun x => withinB x 0 200000) = true := by
          rw [List.all_eq_true]
          intro x hx
          obtain ⟨i, hi⟩ := List.mem_iff_getElem?.1 hx
          exact hr1.out i x (by have := (List.getElem?_eq_some_iff.1 hi).1; rw [HN.out] at this; exact this) hi
        have e2 : sortedB xs = true := sortedB_iff.2 fun i x y h1 h2 => hr2.out i x y (by have := (List.getElem?_eq_some_iff.1 h2).1; rw [HN.out] at this; exact this) h1 h2
        rw [e1, e2]; rfl
  | false =>
    go_enter Try.func14, Try.ntmps14
    go_wp2_with (go_at_call 40; refine (l01In_any _ _ _ _).mono ?_; rintro e w' ⟨rfl, rfl⟩)
    go_ret
    exact ⟨ret_bool (by simp), Below.refl _ _⟩
end Go.Proofs.Ytfkllgnenbbccaa

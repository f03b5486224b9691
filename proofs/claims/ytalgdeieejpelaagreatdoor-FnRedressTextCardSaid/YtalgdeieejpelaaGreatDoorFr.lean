/- Walks: valid finishes and races (chapters 16, 22, 26), both sides. -/
import Derived.Test.YtalgdeieejpelaaGreatDoorZme
import Derived.Test.YtalgdeieejpelaaGreatDoorZmc
namespace Go.Proofs.YtalgdeieejpelaaGreatDoor
open Go.RowKit
set_option linter.unusedVariables false
set_option maxRecDepth 100000

theorem within_lit {n a b : Int} {r : Bool} (h : withinB n a b = r) (w : World) : Calls Tryz.prog 17 #[.int .i64 n, .int .i64 a, .int .i64 b] w fun e w' => e = .returned (.bool r) ∧ w = w' := by
  subst h; exact within_any n a b w
theorem l01In_lit {n a b : Int} {r : Bool} (h : withinB n a b = r) (w : World) : Calls Tryz.prog 25 #[.int .i64 n, .int .i64 a, .int .i64 b] w fun e w' => e = .returned (.bool r) ∧ w = w' := by
  subst h; exact l01In_any n a b w
theorem isBoat_any (n : Int) (w : World) :
    Calls Tryz.prog 18 #[.int .i64 n] w fun e w' => e = .returned (.bool (withinB n 0 15)) ∧ w = w' := by
  go_enter Tryz.func18, Tryz.ntmps18
  go_wp2_with (go_at_call 17; refine (within_any _ _ _ _).mono ?_; rintro e w' ⟨rfl, rfl⟩)
  go_ret
  exact ⟨rfl, rfl⟩
theorem isBoat_lit {n : Int} {r : Bool} (h : withinB n 0 15 = r) (w : World) : Calls Tryz.prog 18 #[.int .i64 n] w fun e w' => e = .returned (.bool r) ∧ w = w' := by
  subst h; exact isBoat_any n w
theorem finsGo_nil (i : Nat) : finsGo i [] = true := rfl
theorem l26Code_any (x : Int) (w : World) :
    Calls Tryz.prog 57 #[.int .i64 x] w fun e w' => e = .returned (.bool (withinB x 0 9)) ∧ w = w' := by
  go_enter Tryz.func57, Tryz.ntmps57
  go_wp2_with (go_at_call 25; refine (l01In_any _ _ _ _).mono ?_; rintro e w' ⟨rfl, rfl⟩)
  go_ret
  exact ⟨rfl, rfl⟩
theorem l26Code_lit {x : Int} {r : Bool} (h : withinB x 0 9 = r) (w : World) : Calls Tryz.prog 57 #[.int .i64 x] w fun e w' => e = .returned (.bool r) ∧ w = w' := by
  subst h; exact l26Code_any x w
theorem finB_code {x0 x1 x2 : Int} (h : withinB x1 0 9 = false) : finB (x0, x1, x2) = false := by
  unfold finB
  rw [withinB_not] at h
  by_cases h0 : x1 = 0
  · omega
  · have : withinB x1 1 9 = false := withinB_not.2 (by omega)
    simp [h0, this]
set_option maxHeartbeats 2000000 in
theorem l26Race_any (boats : Int) (A : Option Addr) (n c : Nat) (fs : List FinishT) (w : World) (h : Rd w 3 A n (fins fs)) :
    Calls Tryz.prog 119 #[.int .i64 boats, .agg #[.slice A n c]] w fun e w' => e = .returned (.bool (((fs.length : Int) == boats) && finsGo 0 fs)) ∧ Below w.heap.size w w' := by
  have HN := Lib.hid h.len_fin
  have hn := h.le
  obtain ⟨R, hR⟩ : ∃ R, R = (((fs.length : Int) == boats) && finsGo 0 fs) := ⟨_, rfl⟩
  rw [← hR]
  have E := Lib.hid hR
  clear hR
  obtain ⟨w1, hw1, X0, hb1, hs1⟩ := one_box w #[.slice A n c] 107
  have HB1 := Lib.hid hb1
  have HRD := Lib.hid (h.below hb1)
  clear h hb1 hs1
  by_cases h2 : (n : Int) = boats
  · subst h2
    go_enter Tryz.func119, Tryz.ntmps119
    go_wp2_with fail
    rw [← hw1]
    clear hw1
    go_loopw [5] (fun i wr => ∃ k : Nat, k ≤ n ∧ i = .int .i64 k ∧ Hid (finsGo k (fs.drop k) = finsGo 0 fs) ∧ Below w1.heap.size w1 wr) (fun i _ => n - (intOf i).toNat)
    case atStart => exact ⟨0, Nat.zero_le _, rfl, Lib.hid rfl, Below.refl _ _⟩
    case round =>
      obtain ⟨k, hk, rfl, HR, hb⟩ := hrel
      have F0 := (X0.below hb).l1
      by_cases hlt : k < n
      · obtain ⟨b, o, x0, x1, x2, rfl, hx, hd, hc0, hc1, hc2⟩ := (HRD.out.below hb).fin hlt
        have HD := Lib.hid hd
        clear hx hd
        have HB2 := Lib.hid (hb.alloc hb.size (.cells #[.int .i64 x0, .int .i64 x1, .int .i64 x2] 109))
        clear hb X0
        by_cases g0 : x0 = (k : Int)
        · subst g0
          have e0 : ((k : Int) != (k : Int)) = false := by simp
          cases hcd : withinB x1 0 9 with
          | false =>
            have HC1 := Lib.hid (fun w => l26Code_lit hcd w)
            have HT1 := HC1
            have HFF := Lib.hid (finB_code (x0 := (k : Int)) (x2 := x2) hcd)
            clear hcd
            go_wp2_with (first | (go_at_call 57; (with_reducible refine (HC1.out _).mono ?_); rintro e w' ⟨rfl, rfl⟩) | (go_at_call 25; (with_reducible refine (HT1.out _).mono ?_); rintro e w' ⟨rfl, rfl⟩))
            go_ret
            exact ⟨ret_bool (by rw [E.out, ← HR.out, HD.out, finsGo, HFF.out]; simp), HB1.out.trans (HB2.out.mono HB1.out.size)⟩
          | true =>
            have HC1 := Lib.hid (fun w => l26Code_lit hcd w)
            have hcb := withinB_iff.1 hcd
            clear hcd
            by_cases g1 : x1 = 0
            · subst g1
              cases ht : withinB x2 1 1000000000 with
              | false =>
                have HT1 := Lib.hid (fun w => l01In_lit ht w)
                have HFF := Lib.hid (show finB ((k : Int), 0, x2) = false from by unfold finB; rw [if_pos rfl]; exact ht)
                clear ht
                go_wp2_with (first | (go_at_call 57; (with_reducible refine (HC1.out _).mono ?_); rintro e w' ⟨rfl, rfl⟩) | (go_at_call 25; (with_reducible refine (HT1.out _).mono ?_); rintro e w' ⟨rfl, rfl⟩))
                go_ret
                exact ⟨ret_bool (by rw [E.out, ← HR.out, HD.out, finsGo, HFF.out]; simp), HB1.out.trans (HB2.out.mono HB1.out.size)⟩
              | true =>
                have HT1 := Lib.hid (fun w => l01In_lit ht w)
                have HFF := Lib.hid (show finB ((k : Int), 0, x2) = true from by unfold finB; rw [if_pos rfl]; exact ht)
                clear ht
                go_wp2_with (first | (go_at_call 57; (with_reducible refine (HC1.out _).mono ?_); rintro e w' ⟨rfl, rfl⟩) | (go_at_call 25; (with_reducible refine (HT1.out _).mono ?_); rintro e w' ⟨rfl, rfl⟩))
                go_roundw
                case rel => exact ⟨k + 1, by omega, by go_num, Lib.hid (by rw [← HR.out, HD.out, finsGo, HFF.out]; simp), HB2.out⟩
                case measure => simp [intOf] <;> omega
            · have e1 : (x1 == 0) = false := by simp [g1]
              have e1' : (x1 != 0) = true := by simp [g1]
              have hw9 : withinB x1 1 9 = true := withinB_iff.2 (by omega)
              have HT1 := HC1
              by_cases g2 : x2 = 0
              · subst g2
                have HFF := Lib.hid (show finB ((k : Int), x1, 0) = true from by unfold finB; rw [if_neg g1, hw9]; rfl)
                clear hw9
                go_wp2_with (first | (go_at_call 57; (with_reducible refine (HC1.out _).mono ?_); rintro e w' ⟨rfl, rfl⟩) | (go_at_call 25; (with_reducible refine (HT1.out _).mono ?_); rintro e w' ⟨rfl, rfl⟩))
                go_roundw
                case rel => exact ⟨k + 1, by omega, by go_num, Lib.hid (by rw [← HR.out, HD.out, finsGo, HFF.out]; simp), HB2.out⟩
                case measure => simp [intOf] <;> omega
              · have e2 : (x2 != 0) = true := by simp [g2]
                have HFF := Lib.hid (show finB ((k : Int), x1, x2) = false from by unfold finB; rw [if_neg g1]; simp [g2])
                clear hw9
                go_wp2_with (first | (go_at_call 57; (with_reducible refine (HC1.out _).mono ?_); rintro e w' ⟨rfl, rfl⟩) | (go_at_call 25; (with_reducible refine (HT1.out _).mono ?_); rintro e w' ⟨rfl, rfl⟩))
                go_ret
                exact ⟨ret_bool (by rw [E.out, ← HR.out, HD.out, finsGo, HFF.out]; simp), HB1.out.trans (HB2.out.mono HB1.out.size)⟩
        · have e0 : (x0 != (k : Int)) = true := by simp [g0]
          have HE1 := Lib.hid (show (x0 == (k : Int)) = false by simp [g0])
          go_wp2_with fail
          go_ret
          exact ⟨ret_bool (by rw [E.out, ← HR.out, HD.out, finsGo, HE1.out]; simp), HB1.out.trans (HB2.out.mono HB1.out.size)⟩
      · obtain rfl : k = n := by omega
        go_wp2_with fail
        go_ret
        exact ⟨ret_bool (by rw [E.out, ← HR.out, List.drop_eq_nil_of_le (by rw [HN.out]; exact Nat.le_refl _), HN.out]; simp [finsGo]), HB1.out.trans (hb.mono HB1.out.size)⟩
  · have hne : ((n : Int) != boats) = true := by simp [h2]
    go_enter Tryz.func119, Tryz.ntmps119
    go_wp2_with fail
    rw [← hw1]
    go_ret
    exact ⟨ret_bool (by rw [E.out, HN.out]; simp [h2]), HB1.out⟩
end Go.Proofs.YtalgdeieejpelaaGreatDoor

/- Walks: valid finishes and races (chapters 16, 22, 26), both sides. -/
import Derived.Test.YtnpldahkhaacnaaGreatDoorZmb
import Derived.Test.YtnpldahkhaacnaaGreatDoorZma
namespace Go.Proofs.YtnpldahkhaacnaaGreatDoor
open Go.RowKit
set_option linter.unusedVariables false
set_option maxRecDepth 100000

theorem within_lit {n a b : Int} {r : Bool} (h : withinB n a b = r) (w : World) : Calls Tryz.prog 30 #[.int .i64 n, .int .i64 a, .int .i64 b] w fun e w' => e = .returned (.bool r) ∧ w = w' := by
  subst h; exact within_any n a b w
theorem l01In_lit {n a b : Int} {r : Bool} (h : withinB n a b = r) (w : World) : Calls Tryz.prog 34 #[.int .i64 n, .int .i64 a, .int .i64 b] w fun e w' => e = .returned (.bool r) ∧ w = w' := by
  subst h; exact l01In_any n a b w
theorem isBoat_any (n : Int) (w : World) :
    Calls Tryz.prog 60 #[.int .i64 n] w fun e w' => e = .returned (.bool (withinB n 0 15)) ∧ w = w' := by
  go_enter Tryz.func60, Tryz.ntmps60
  go_wp2_with (go_at_call 30; refine (within_any _ _ _ _).mono ?_; rintro e w' ⟨rfl, rfl⟩)
  go_ret
  exact ⟨rfl, rfl⟩
theorem isBoat_lit {n : Int} {r : Bool} (h : withinB n 0 15 = r) (w : World) : Calls Tryz.prog 60 #[.int .i64 n] w fun e w' => e = .returned (.bool r) ∧ w = w' := by
  subst h; exact isBoat_any n w
theorem isFinish_any (x0 x1 x2 : Int) (w : World) :
    Calls Tryz.prog 31 #[.agg #[.int .i64 x0, .int .i64 x1, .int .i64 x2]] w fun e w' => e = .returned (.bool (isFinB (x0, x1, x2))) ∧ Below w.heap.size w w' := by
  have HB := Lib.hid (show ∀ o, Below w.heap.size w (w.alloc o) from fun o => (Below.refl _ _).alloc (Nat.le_refl _) o)
  show Calls _ _ _ _ fun e w' => e = .returned (.bool (withinB x0 0 15 && if x1 = 0 then withinB x2 1 1000000000 else withinB x1 1 9 && (x2 == 0))) ∧ Below w.heap.size w w'
  by_cases h0 : x1 = 0
  · subst h0
    rw [if_pos rfl]
    cases hb : withinB x0 0 15 with
    | false =>
      have HB1 := Lib.hid (fun w => isBoat_lit hb w)
      have HW1 := Lib.hid (fun w => isBoat_lit hb w)
      clear hb
      go_enter Tryz.func31, Tryz.ntmps31
      go_wp2_with (first | (go_at_call 60; (with_reducible refine (HB1.out _).mono ?_); rintro e w' ⟨rfl, rfl⟩) | (go_at_call 30; (with_reducible refine (HW1.out _).mono ?_); rintro e w' ⟨rfl, rfl⟩))
      go_ret
      exact ⟨rfl, HB.out _⟩
    | true =>
      have HB1 := Lib.hid (fun w => isBoat_lit hb w)
      have HW1 := Lib.hid (fun w => within_any x2 1 1000000000 w)
      clear hb
      go_enter Tryz.func31, Tryz.ntmps31
      go_wp2_with (first | (go_at_call 60; (with_reducible refine (HB1.out _).mono ?_); rintro e w' ⟨rfl, rfl⟩) | (go_at_call 30; (with_reducible refine (HW1.out _).mono ?_); rintro e w' ⟨rfl, rfl⟩))
      go_ret
      exact ⟨ret_bool (by simp), HB.out _⟩
  · rw [if_neg h0]
    have e0 : (x1 == 0) = false := by simp [h0]
    cases hb : withinB x0 0 15 with
    | false =>
      have HB1 := Lib.hid (fun w => isBoat_lit hb w)
      have HW1 := Lib.hid (fun w => isBoat_lit hb w)
      clear hb
      go_enter Tryz.func31, Tryz.ntmps31
      go_wp2_with (first | (go_at_call 60; (with_reducible refine (HB1.out _).mono ?_); rintro e w' ⟨rfl, rfl⟩) | (go_at_call 30; (with_reducible refine (HW1.out _).mono ?_); rintro e w' ⟨rfl, rfl⟩))
      go_ret
      exact ⟨rfl, HB.out _⟩
    | true =>
      have HB1 := Lib.hid (fun w => isBoat_lit hb w)
      clear hb
      cases hw : withinB x1 1 9 with
      | false =>
        have HW1 := Lib.hid (fun w => within_lit hw w)
        clear hw
        go_enter Tryz.func31, Tryz.ntmps31
        go_wp2_with (first | (go_at_call 60; (with_reducible refine (HB1.out _).mono ?_); rintro e w' ⟨rfl, rfl⟩) | (go_at_call 30; (with_reducible refine (HW1.out _).mono ?_); rintro e w' ⟨rfl, rfl⟩))
        go_ret
        exact ⟨rfl, HB.out _⟩
      | true =>
        have HW1 := Lib.hid (fun w => within_lit hw w)
        clear hw
        go_enter Tryz.func31, Tryz.ntmps31
        go_wp2_with (first | (go_at_call 60; (with_reducible refine (HB1.out _).mono ?_); rintro e w' ⟨rfl, rfl⟩) | (go_at_call 30; (with_reducible refine (HW1.out _).mono ?_); rintro e w' ⟨rfl, rfl⟩))
        go_ret
        exact ⟨ret_bool (by simp), HB.out _⟩
theorem finsGo_nil (i : Nat) : finsGo i [] = true := rfl
set_option maxHeartbeats 2000000 in
theorem areFinishes_any (boats : Int) (A : Option Addr) (n c : Nat) (fs : List FinishT) (w : World) (h : Rd w 3 A n (fins fs)) :
    Calls Tryz.prog 277 #[.int .i64 boats, .slice A n c] w fun e w' => e = .returned (.bool (raceB boats fs)) ∧ Below w.heap.size w w' := by
  have HN := Lib.hid h.len_fin
  have hn := h.le
  have E := Lib.hid (show raceB boats fs = (withinB boats 1 16 && ((fs.length : Int) == boats) && finsGo 0 fs) from rfl)
  cases h1 : withinB boats 1 16 with
  | false =>
    go_enter Tryz.func277, Tryz.ntmps277
    go_wp2_with (go_at_call 30; refine (within_any _ _ _ _).mono ?_; rintro e w' ⟨rfl, rfl⟩)
    go_ret
    exact ⟨ret_bool (by rw [E.out, h1]; rfl), Below.refl _ _⟩
  | true =>
    have hB := withinB_iff.1 h1
    by_cases h2 : (n : Int) = boats
    · subst h2
      have HH1 := Lib.hid h1
      go_enter Tryz.func277, Tryz.ntmps277
      go_wp2_with (go_at_call 30; refine (within_any _ _ _ _).mono ?_; rintro e w' ⟨rfl, rfl⟩)
      clear h1
      go_loopw [18] (fun i wr => ∃ k : Nat, k ≤ n ∧ i = .int .i64 k ∧ Hid (finsGo k (fs.drop k) = finsGo 0 fs) ∧ Below w.heap.size w wr) (fun i _ => n - (intOf i).toNat)
      case atStart => exact ⟨0, Nat.zero_le _, rfl, Lib.hid rfl, Below.refl _ _⟩
      case round =>
        obtain ⟨k, hk, rfl, HR, hb⟩ := hrel
        by_cases hlt : k < n
        · obtain ⟨b, o, x0, x1, x2, rfl, hx, hd, hc0, hc1, hc2⟩ := (h.below hb).fin hlt
          have HD := Lib.hid hd
          clear hx hd
          have HBW := Lib.hid hb
          clear hb
          by_cases g0 : x0 = (k : Int)
          · subst g0
            have hbt : withinB (k : Int) 0 15 = true := withinB_iff.2 (by omega)
            have e0 : ((k : Int) != (k : Int)) = false := by simp
            cases hf : finB ((k : Int), x1, x2) with
            | false =>
              have HF := Lib.hid (fun w => isFinish_any (k : Int) x1 x2 w)
              have e1 : isFinB ((k : Int), x1, x2) = false := by unfold isFinB; rw [hf, Bool.and_false]
              rw [e1] at HF
              have HFF := Lib.hid hf
              clear hbt hf e1
              go_wp2_with fail
              refine (HF.out _).mono ?_
              rintro e w2 ⟨rfl, hb2⟩
              have HB2 := Lib.hid ((HBW.out.alloc HBW.out.size _).trans (hb2.mono (by simp; have := HBW.out.size; omega)))
              clear hb2
              go_wp2_with fail
              go_ret
              exact ⟨ret_bool (by rw [E.out, ← HR.out, HD.out, finsGo, HFF.out]; simp), HB2.out⟩
            | true =>
              have HF := Lib.hid (fun w => isFinish_any (k : Int) x1 x2 w)
              have e1 : isFinB ((k : Int), x1, x2) = true := by unfold isFinB; rw [hf, hbt]; rfl
              rw [e1] at HF
              have HFF := Lib.hid hf
              clear hbt hf e1
              go_wp2_with fail
              refine (HF.out _).mono ?_
              rintro e w2 ⟨rfl, hb2⟩
              have HB2 := Lib.hid ((HBW.out.alloc HBW.out.size _).trans (hb2.mono (by simp; have := HBW.out.size; omega)))
              clear hb2
              go_wp2_with fail
              go_roundw
              case rel => exact ⟨k + 1, by omega, by go_num, Lib.hid (by rw [← HR.out, HD.out, finsGo, HFF.out]; simp), HB2.out⟩
              case measure => simp [intOf] <;> omega
          · have e0 : (x0 != (k : Int)) = true := by simp [g0]
            have e1 : (x0 == (k : Int)) = false := by simp [g0]
            have HE1 := Lib.hid e1
            have HB2 := Lib.hid (HBW.out.alloc HBW.out.size (.cells #[.int .i64 x0, .int .i64 x1, .int .i64 x2] 53))
            clear e1
            go_wp2_with fail
            go_ret
            exact ⟨ret_bool (by rw [E.out, ← HR.out, HD.out, finsGo, HE1.out]; simp), HB2.out⟩
        · obtain rfl : k = n := by omega
          go_wp2_with fail
          go_ret
          exact ⟨ret_bool (by rw [E.out, HH1.out, ← HR.out, List.drop_eq_nil_of_le (by rw [HN.out]; exact Nat.le_refl _), HN.out]; simp [finsGo]), hb⟩
    · have hne : ((n : Int) != boats) = true := by simp [h2]
      go_enter Tryz.func277, Tryz.ntmps277
      go_wp2_with (go_at_call 30; refine (within_any _ _ _ _).mono ?_; rintro e w' ⟨rfl, rfl⟩)
      go_ret
      exact ⟨ret_bool (by rw [E.out, HN.out]; simp [h2]), Below.refl _ _⟩
theorem implIsRace_any (boats : Int) (A : Option Addr) (n c : Nat) (fs : List FinishT) (w : World) (h : Rd w 3 A n (fins fs)) :
    Calls Tryz.prog 225 #[.int .i64 boats, .agg #[.slice A n c]] w fun e w' => e = .returned (.bool (raceB boats fs)) ∧ Below w.heap.size w w' := by
  have HC := Lib.hid (fun w' (hb : Below w.heap.size w w') => areFinishes_any boats A n c fs w' (h.below hb))
  clear h
  obtain ⟨w1, hw1, X0, hb1, hs1⟩ := one_box w #[.slice A n c] 157
  go_enter Tryz.func225, Tryz.ntmps225
  go_wp2_with fail
  rw [← hw1]
  clear hw1
  refine (HC.out _ hb1).mono ?_
  rintro e w2 ⟨rfl, hb2⟩
  have HB2 := Lib.hid (hb1.trans (hb2.mono hb1.size))
  clear hb2 X0
  go_wp2_with fail
  go_ret
  exact ⟨rfl, HB2.out⟩
theorem l26Code_any (x : Int) (w : World) :
    Calls Tryz.prog 279 #[.int .i64 x] w fun e w' => e = .returned (.bool (withinB x 0 9)) ∧ w = w' := by
  go_enter Tryz.func279, Tryz.ntmps279
  go_wp2_with (go_at_call 34; refine (l01In_any _ _ _ _).mono ?_; rintro e w' ⟨rfl, rfl⟩)
  go_ret
  exact ⟨rfl, rfl⟩
theorem l26Code_lit {x : Int} {r : Bool} (h : withinB x 0 9 = r) (w : World) : Calls Tryz.prog 279 #[.int .i64 x] w fun e w' => e = .returned (.bool r) ∧ w = w' := by
  subst h; exact l26Code_any x w
theorem finB_code {x0 x1 x2 : Int} (h : withinB x1 0 9 = false) : finB (x0, x1, x2) = false := by
  unfold finB
  rw [withinB_not] at h
  by_cases h0 : x1 = 0
  · omega
  · have : withinB x1 1 9 = false := withinB_not.2 (by omega)
    simp [h0, this]
set_option maxHeartbeats 2000000 in
theorem l26Race_any (boats : Int) (A : Option Addr) (n c : Nat) (fs : List FinishT) (w : World) (h : Rd w 3 A n (fins fs)) :
    Calls Tryz.prog 288 #[.int .i64 boats, .agg #[.slice A n c]] w fun e w' => e = .returned (.bool (((fs.length : Int) == boats) && finsGo 0 fs)) ∧ Below w.heap.size w w' := by
  have HN := Lib.hid h.len_fin
  have hn := h.le
  obtain ⟨R, hR⟩ : ∃ R, R = (((fs.length : Int) == boats) && finsGo 0 fs) := ⟨_, rfl⟩
  rw [← hR]
  have E := Lib.hid hR
  clear hR
  obtain ⟨w1, hw1, X0, hb1, hs1⟩ := one_box w #[.slice A n c] 157
  have HB1 := Lib.hid hb1
  have HRD := Lib.hid (h.below hb1)
  clear h hb1 hs1
  by_cases h2 : (n : Int) = boats
  · subst h2
    go_enter Tryz.func288, Tryz.ntmps288
    go_wp2_with fail
    rw [← hw1]
    clear hw1
    go_loopw [5] (fun i wr => ∃ k : Nat, k ≤ n ∧ i = .int .i64 k ∧ Hid (finsGo k (fs.drop k) = finsGo 0 fs) ∧ Below w1.heap.size w1 wr) (fun i _ => n - (intOf i).toNat)
    case atStart => exact ⟨0, Nat.zero_le _, rfl, Lib.hid rfl, Below.refl _ _⟩
    case round =>
      obtain ⟨k, hk, rfl, HR, hb⟩ := hrel
      have F0 := (X0.below hb).l1
      by_cases hlt : k < n
      · obtain ⟨b, o, x0, x1, x2, rfl, hx, hd, hc0, hc1, hc2⟩ := (HRD.out.below hb).fin hlt
        have HD := Lib.hid hd
        clear hx hd
        have HB2 := Lib.hid (hb.alloc hb.size (.cells #[.int .i64 x0, .int .i64 x1, .int .i64 x2] 53))
        clear hb X0
        by_cases g0 : x0 = (k : Int)
        · subst g0
          have e0 : ((k : Int) != (k : Int)) = false := by simp
          cases hcd : withinB x1 0 9 with
          | false =>
            have HC1 := Lib.hid (fun w => l26Code_lit hcd w)
            have HT1 := HC1
            have HFF := Lib.hid (finB_code (x0 := (k : Int)) (x2 := x2) hcd)
            clear hcd
            go_wp2_with (first | (go_at_call 279; (with_reducible refine (HC1.out _).mono ?_); rintro e w' ⟨rfl, rfl⟩) | (go_at_call 34; (with_reducible refine (HT1.out _).mono ?_); rintro e w' ⟨rfl, rfl⟩))
            go_ret
            exact ⟨ret_bool (by rw [E.out, ← HR.out, HD.out, finsGo, HFF.out]; simp), HB1.out.trans (HB2.out.mono HB1.out.size)⟩
          | true =>
            have HC1 := Lib.hid (fun w => l26Code_lit hcd w)
            have hcb := withinB_iff.1 hcd
            clear hcd
            by_cases g1 : x1 = 0
            · subst g1
              cases ht : withinB x2 1 1000000000 with
              | false =>
                have HT1 := Lib.hid (fun w => l01In_lit ht w)
                have HFF := Lib.hid (show finB ((k : Int), 0, x2) = false from by unfold finB; rw [if_pos rfl]; exact ht)
                clear ht
                go_wp2_with (first | (go_at_call 279; (with_reducible refine (HC1.out _).mono ?_); rintro e w' ⟨rfl, rfl⟩) | (go_at_call 34; (with_reducible refine (HT1.out _).mono ?_); rintro e w' ⟨rfl, rfl⟩))
                go_ret
                exact ⟨ret_bool (by rw [E.out, ← HR.out, HD.out, finsGo, HFF.out]; simp), HB1.out.trans (HB2.out.mono HB1.out.size)⟩
              | true =>
                have HT1 := Lib.hid (fun w => l01In_lit ht w)
                have HFF := Lib.hid (show finB ((k : Int), 0, x2) = true from by unfold finB; rw [if_pos rfl]; exact ht)
                clear ht
                go_wp2_with (first | (go_at_call 279; (with_reducible refine (HC1.out _).mono ?_); rintro e w' ⟨rfl, rfl⟩) | (go_at_call 34; (with_reducible refine (HT1.out _).mono ?_); rintro e w' ⟨rfl, rfl⟩))
                go_roundw
                case rel => exact ⟨k + 1, by omega, by go_num, Lib.hid (by rw [← HR.out, HD.out, finsGo, HFF.out]; simp), HB2.out⟩
                case measure => simp [intOf] <;> omega
            · have e1 : (x1 == 0) = false := by simp [g1]
              have e1' : (x1 != 0) = true := by simp [g1]
              have hw9 : withinB x1 1 9 = true := withinB_iff.2 (by omega)
              have HT1 := HC1
              by_cases g2 : x2 = 0
              · subst g2
                have HFF := Lib.hid (show finB ((k : Int), x1, 0) = true from by unfold finB; rw [if_neg g1, hw9]; rfl)
                clear hw9
                go_wp2_with (first | (go_at_call 279; (with_reducible refine (HC1.out _).mono ?_); rintro e w' ⟨rfl, rfl⟩) | (go_at_call 34; (with_reducible refine (HT1.out _).mono ?_); rintro e w' ⟨rfl, rfl⟩))
                go_roundw
                case rel => exact ⟨k + 1, by omega, by go_num, Lib.hid (by rw [← HR.out, HD.out, finsGo, HFF.out]; simp), HB2.out⟩
                case measure => simp [intOf] <;> omega
              · have e2 : (x2 != 0) = true := by simp [g2]
                have HFF := Lib.hid (show finB ((k : Int), x1, x2) = false from by unfold finB; rw [if_neg g1]; simp [g2])
                clear hw9
                go_wp2_with (first | (go_at_call 279; (with_reducible refine (HC1.out _).mono ?_); rintro e w' ⟨rfl, rfl⟩) | (go_at_call 34; (with_reducible refine (HT1.out _).mono ?_); rintro e w' ⟨rfl, rfl⟩))
                go_ret
                exact ⟨ret_bool (by rw [E.out, ← HR.out, HD.out, finsGo, HFF.out]; simp), HB1.out.trans (HB2.out.mono HB1.out.size)⟩
        · have e0 : (x0 != (k : Int)) = true := by simp [g0]
          have HE1 := Lib.hid (show (x0 == (k : Int)) = false by simp [g0])
          go_wp2_with fail
          go_ret
          exact ⟨ret_bool (by rw [E.out, ← HR.out, HD.out, finsGo, HE1.out]; simp), HB1.out.trans (HB2.out.mono HB1.out.size)⟩
      · obtain rfl : k = n := by omega
        go_wp2_with fail
        go_ret
        exact ⟨ret_bool (by rw [E.out, ← HR.out, List.drop_eq_nil_of_le (by rw [HN.out]; exact Nat.le_refl _), HN.out]; simp [finsGo]), HB1.out.trans (hb.mono HB1.out.size)⟩
  · have hne : ((n : Int) != boats) = true := by simp [h2]
    go_enter Tryz.func288, Tryz.ntmps288
    go_wp2_with fail
    rw [← hw1]
    go_ret
    exact ⟨ret_bool (by rw [E.out, HN.out]; simp [h2]), HB1.out⟩
theorem specIsRace_any (boats : Int) (A : Option Addr) (n c : Nat) (fs : List FinishT) (w : World) (h : Rd w 3 A n (fins fs)) :
    Calls Tryz.prog 244 #[.int .i64 boats, .agg #[.slice A n c]] w fun e w' => e = .returned (.bool (raceB boats fs)) ∧ Below w.heap.size w w' := by
  have HC := Lib.hid (fun w' (hb : Below w.heap.size w w') => l26Race_any boats A n c fs w' (h.below hb))
  clear h
  have E := Lib.hid (show raceB boats fs = (withinB boats 1 16 && (((fs.length : Int) == boats) && finsGo 0 fs)) from by unfold raceB; rw [Bool.and_assoc])
  generalize (((fs.length : Int) == boats) && finsGo 0 fs) = R at *
  obtain ⟨w1, hw1, X0, hb1, hs1⟩ := one_box w #[.slice A n c] 157
  cases h1 : withinB boats 1 16 with
  | false =>
    have HH := Lib.hid h1
    go_enter Tryz.func244, Tryz.ntmps244
    go_wp2_with (go_at_call 34; refine (l01In_any _ _ _ _).mono ?_; rintro e w' ⟨rfl, rfl⟩)
    rw [← hw1]
    go_ret
    exact ⟨ret_bool (by rw [E.out, HH.out]; rfl), hb1⟩
  | true =>
    have HH := Lib.hid h1
    go_enter Tryz.func244, Tryz.ntmps244
    go_wp2_with (go_at_call 34; refine (l01In_any _ _ _ _).mono ?_; rintro e w' ⟨rfl, rfl⟩)
    rw [← hw1]
    clear hw1
    refine (HC.out _ hb1).mono ?_
    rintro e w2 ⟨rfl, hb2⟩
    have HB2 := Lib.hid (hb1.trans (hb2.mono hb1.size))
    clear hb2 X0 hb1
    go_wp2_with fail
    go_ret
    exact ⟨ret_bool (by rw [E.out, HH.out, Bool.true_and]), HB2.out⟩
end Go.Proofs.YtnpldahkhaacnaaGreatDoor

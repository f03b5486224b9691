/- Walks: TimeText, codes, valid finishes, both sides. -/
import Derived.Test.YtnpldahkhaacnaaGreatDoorZmb
namespace Go.Proofs.YtnpldahkhaacnaaGreatDoor
open Go.RowKit Go.Sort
set_option linter.unusedVariables false
set_option maxRecDepth 100000

theorem implTime_any (t : Nat) (h : t ≤ 1000000000) (w : World) (ht : ∀ w', Below w.heap.size w w' → Pow w') :
    Calls Tryz.prog 63 #[.int .i64 t] w fun e w' => e = .returned (.string (str (timeL t))) ∧ Below w.heap.size w w' := by
  have H0 := Lib.hid (isTime_any t w)
  rw [show withinB (t : Int) 0 1000000000 = true from withinB_iff.2 (by omega)] at H0
  have H1 := Lib.hid (fun w' hb => text_any (t / 60000) (by omega) w' (ht w' hb))
  have H2 := Lib.hid (fun w' (hb : Below w.heap.size w w') => digits_any (t / 1000 % 60) 2 (by omega) (by omega) w' (fun w2 h2 => ht w2 (hb.trans (h2.mono hb.size))))
  have H3 := Lib.hid (fun w' (hb : Below w.heap.size w w') => digits_any (t % 1000) 3 (by omega) (by omega) w' (fun w2 h2 => ht w2 (hb.trans (h2.mono hb.size))))
  have HE := Lib.hid (show str (timeL t) = str (dec (t / 60000)) ++ str [58] ++ str (pad 2 (t / 1000 % 60)) ++ str [46] ++ str (pad 3 (t % 1000)) from by rw [times3, timeL_pad])
  have h1 := dec_len 9 (t / 60000) (by omega)
  have z1 : (str (dec (t / 60000))).size ≤ 10 := by rw [str_size]; exact h1
  have z2 : (str (pad 2 (t / 1000 % 60))).size ≤ 2 := by rw [pad_two (by omega), str_size, lastGo_len]; exact Nat.le_refl _
  have z3 : (str (pad 3 (t % 1000))).size ≤ 3 := by rw [pad_three (by omega), str_size, lastGo_len]; exact Nat.le_refl _
  generalize dec (t / 60000) = a at *
  generalize pad 2 (t / 1000 % 60) = b at *
  generalize pad 3 (t % 1000) = c at *
  clear h1 ht
  go_enter Tryz.func63, Tryz.ntmps63
  go_wp2_with fail
  refine H0.out.mono ?_
  rintro e w0 ⟨rfl, rfl⟩
  have HB0 := Lib.hid (Below.refl w.heap.size w)
  go_wp2_with fail
  refine (H1.out _ HB0.out).mono ?_
  rintro e w1 ⟨rfl, hb⟩
  have HB1 := Lib.hid hb
  clear hb
  go_wp2_with fail
  refine (H2.out _ HB1.out).mono ?_
  rintro e w2 ⟨rfl, hb⟩
  have HB2 := Lib.hid (HB1.out.trans (hb.mono HB1.out.size))
  clear hb
  go_wp2_with fail
  refine (H3.out _ HB2.out).mono ?_
  rintro e w3 ⟨rfl, hb⟩
  have HB3 := Lib.hid (HB2.out.trans (hb.mono HB2.out.size))
  clear hb
  go_wp2_with fail
  go_ret
  exact ⟨by rw [HE.out]; rfl, HB3.out⟩
set_option maxHeartbeats 4000000 in
theorem implCodeQ_any (c : Int) (w : World) :
    Calls Tryz.prog 62 #[.int .i64 c] w fun e w' => e = .returned (.string (str (codeL c))) ∧ Below w.heap.size w w' := by
  have H := Lib.hid (fun w' => within_any c 0 9 w')
  have HA := Lib.hid (fun o => (Below.refl w.heap.size w).alloc (Nat.le_refl _) o)
  cases hq : withinB c 0 9 with
  | false =>
    rw [hq] at H
    have hc : ¬ (0 ≤ c ∧ c ≤ 9) := fun h => by have := withinB_iff.2 h; rw [this] at hq; cases hq
    have HC := Lib.hid (show codeL c = [] from by unfold codeL; rw [if_neg hc])
    clear hq hc
    go_enter Tryz.func62, Tryz.ntmps62
    go_wp2_with fail
    refine (H.out _).mono ?_
    rintro e w1 ⟨rfl, rfl⟩
    go_wp2_with fail
    go_ret
    exact ⟨by rw [HC.out]; rfl, HA.out _⟩
  | true =>
    rw [hq] at H
    have hc := withinB_iff.1 hq
    have h10 : c = 0 ∨ c = 1 ∨ c = 2 ∨ c = 3 ∨ c = 4 ∨ c = 5 ∨ c = 6 ∨ c = 7 ∨ c = 8 ∨ c = 9 := by omega
    clear hq hc
    rcases h10 with rfl | rfl | rfl | rfl | rfl | rfl | rfl | rfl | rfl | rfl
    all_goals
      go_enter Tryz.func62, Tryz.ntmps62
      go_wp2_with fail
      refine (H.out _).mono ?_
      rintro e w1 ⟨rfl, rfl⟩
      go_wp2_with fail
      go_ret
      exact ⟨rfl, HA.out _⟩
set_option maxHeartbeats 4000000 in
theorem specCodeQ_any (c : Int) (w : World) :
    Calls Tryz.prog 64 #[.int .i64 c] w fun e w' => e = .returned (.string (str (codeL c))) ∧ Below w.heap.size w w' := by
  have H := Lib.hid (fun w' => l01In_any c 0 9 w')
  have HA := Lib.hid (fun o => (Below.refl w.heap.size w).alloc (Nat.le_refl _) o)
  cases hq : withinB c 0 9 with
  | false =>
    rw [hq] at H
    have hc : ¬ (0 ≤ c ∧ c ≤ 9) := fun h => by have := withinB_iff.2 h; rw [this] at hq; cases hq
    have HC := Lib.hid (show codeL c = [] from by unfold codeL; rw [if_neg hc])
    clear hq hc
    go_enter Tryz.func64, Tryz.ntmps64
    go_wp2_with fail
    refine (H.out _).mono ?_
    rintro e w1 ⟨rfl, rfl⟩
    go_wp2_with fail
    go_ret
    exact ⟨by rw [HC.out]; rfl, Below.refl _ _⟩
  | true =>
    rw [hq] at H
    have hc := withinB_iff.1 hq
    have h10 : c = 0 ∨ c = 1 ∨ c = 2 ∨ c = 3 ∨ c = 4 ∨ c = 5 ∨ c = 6 ∨ c = 7 ∨ c = 8 ∨ c = 9 := by omega
    clear hq hc
    rcases h10 with rfl | rfl | rfl | rfl | rfl | rfl | rfl | rfl | rfl | rfl
    all_goals
      go_enter Tryz.func64, Tryz.ntmps64
      go_wp2_with fail
      refine (H.out _).mono ?_
      rintro e w1 ⟨rfl, rfl⟩
      go_wp2_with fail
      go_ret
      exact ⟨rfl, HA.out _⟩
theorem finB_zero (b t : Int) : finW b 0 t = (withinB b 0 15 && withinB t 1 1000000000) := by
  unfold finW
  rw [if_pos rfl, show withinB 0 0 9 = true from rfl, Bool.and_true]
theorem finB_else {c : Int} (b t : Int) (h : ¬ c = 0) : finW b c t = (withinB b 0 15 && withinB c 1 9 && (t == 0)) := by
  unfold finW
  rw [if_neg h]
  congr 2
  rw [Bool.eq_iff_iff, withinB_iff, withinB_iff]
  omega
theorem implIsFinish_any (b c t : Int) (w : World) :
    Calls Tryz.prog 31 #[.agg #[.int .i64 b, .int .i64 c, .int .i64 t]] w fun e w' => e = .returned (.bool (finW b c t)) ∧ Below w.heap.size w w' := by
  have HB := Lib.hid (fun w' => isBoatQ_any b w')
  have HT := Lib.hid (fun w' => within_any t 1 1000000000 w')
  have HC := Lib.hid (fun w' => within_any c 1 9 w')
  have HA := Lib.hid (fun o => (Below.refl w.heap.size w).alloc (Nat.le_refl _) o)
  by_cases h0 : c = 0
  · subst h0
    rw [finB_zero]
    generalize withinB b 0 15 = x at *
    generalize withinB t 1 1000000000 = y at *
    cases x
    · simp only [Bool.false_and]
      go_enter Tryz.func31, Tryz.ntmps31
      go_wp2_with fail
      refine (HB.out _).mono ?_
      rintro e w9 ⟨rfl, rfl⟩
      go_wp2_with fail
      go_ret
      exact ⟨rfl, HA.out _⟩
    · simp only [Bool.true_and]
      go_enter Tryz.func31, Tryz.ntmps31
      go_wp2_with fail
      refine (HB.out _).mono ?_
      rintro e w9 ⟨rfl, rfl⟩
      go_wp2_with fail
      refine (HT.out _).mono ?_
      rintro e w9 ⟨rfl, rfl⟩
      go_wp2_with fail
      go_ret
      exact ⟨rfl, HA.out _⟩
  · have h0b : (c == 0) = false := by simp [h0]
    rw [finB_else b t h0]
    clear h0
    generalize withinB b 0 15 = x at *
    generalize withinB c 1 9 = y at *
    cases x
    · simp only [Bool.false_and]
      go_enter Tryz.func31, Tryz.ntmps31
      go_wp2_with fail
      refine (HB.out _).mono ?_
      rintro e w9 ⟨rfl, rfl⟩
      go_wp2_with fail
      go_ret
      exact ⟨rfl, HA.out _⟩
    · cases y
      · simp only [Bool.and_false, Bool.false_and]
        go_enter Tryz.func31, Tryz.ntmps31
        go_wp2_with fail
        refine (HB.out _).mono ?_
        rintro e w9 ⟨rfl, rfl⟩
        go_wp2_with fail
        refine (HC.out _).mono ?_
        rintro e w9 ⟨rfl, rfl⟩
        go_wp2_with fail
        go_ret
        exact ⟨rfl, HA.out _⟩
      · simp only [Bool.true_and]
        go_enter Tryz.func31, Tryz.ntmps31
        go_wp2_with fail
        refine (HB.out _).mono ?_
        rintro e w9 ⟨rfl, rfl⟩
        go_wp2_with fail
        refine (HC.out _).mono ?_
        rintro e w9 ⟨rfl, rfl⟩
        go_wp2_with fail
        go_ret
        exact ⟨rfl, HA.out _⟩
theorem specIsFinish_any (b c t : Int) (w : World) :
    Calls Tryz.prog 35 #[.agg #[.int .i64 b, .int .i64 c, .int .i64 t]] w fun e w' => e = .returned (.bool (finW b c t)) ∧ Below w.heap.size w w' := by
  have HB := Lib.hid (fun w' => l01In_any b 0 15 w')
  have HT := Lib.hid (fun w' => l01In_any t 1 1000000000 w')
  have HC := Lib.hid (fun w' => l01In_any c 0 9 w')
  have HA := Lib.hid (fun o => (Below.refl w.heap.size w).alloc (Nat.le_refl _) o)
  unfold finW
  by_cases h0 : c = 0
  · subst h0
    rw [if_pos rfl]
    rw [show withinB 0 0 9 = true from rfl] at HC ⊢
    generalize withinB b 0 15 = x at *
    generalize withinB t 1 1000000000 = y at *
    cases x
    · simp only [Bool.false_and]
      go_enter Tryz.func35, Tryz.ntmps35
      go_wp2_with fail
      refine (HB.out _).mono ?_
      rintro e w9 ⟨rfl, rfl⟩
      go_wp2_with fail
      go_ret
      exact ⟨rfl, HA.out _⟩
    · simp only [Bool.true_and]
      go_enter Tryz.func35, Tryz.ntmps35
      go_wp2_with fail
      refine (HB.out _).mono ?_
      rintro e w9 ⟨rfl, rfl⟩
      go_wp2_with fail
      refine (HC.out _).mono ?_
      rintro e w9 ⟨rfl, rfl⟩
      go_wp2_with fail
      refine (HT.out _).mono ?_
      rintro e w9 ⟨rfl, rfl⟩
      go_wp2_with fail
      go_ret
      exact ⟨rfl, HA.out _⟩
  · have h0b : (c == 0) = false := by simp [h0]
    rw [if_neg h0]
    clear h0
    generalize withinB b 0 15 = x at *
    generalize withinB c 0 9 = y at *
    cases x
    · simp only [Bool.false_and]
      go_enter Tryz.func35, Tryz.ntmps35
      go_wp2_with fail
      refine (HB.out _).mono ?_
      rintro e w9 ⟨rfl, rfl⟩
      go_wp2_with fail
      go_ret
      exact ⟨rfl, HA.out _⟩
    · cases y
      · simp only [Bool.and_false, Bool.false_and]
        go_enter Tryz.func35, Tryz.ntmps35
        go_wp2_with fail
        refine (HB.out _).mono ?_
        rintro e w9 ⟨rfl, rfl⟩
        go_wp2_with fail
        refine (HC.out _).mono ?_
        rintro e w9 ⟨rfl, rfl⟩
        go_wp2_with fail
        go_ret
        exact ⟨rfl, HA.out _⟩
      · simp only [Bool.true_and]
        go_enter Tryz.func35, Tryz.ntmps35
        go_wp2_with fail
        refine (HB.out _).mono ?_
        rintro e w9 ⟨rfl, rfl⟩
        go_wp2_with fail
        refine (HC.out _).mono ?_
        rintro e w9 ⟨rfl, rfl⟩
        go_wp2_with fail
        go_ret
        exact ⟨rfl, HA.out _⟩
end Go.Proofs.YtnpldahkhaacnaaGreatDoor

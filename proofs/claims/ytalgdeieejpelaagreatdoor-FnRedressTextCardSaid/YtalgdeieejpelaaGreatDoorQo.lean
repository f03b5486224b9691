/- Walks: the text of a redress, both sides. -/
import Derived.Test.YtalgdeieejpelaaGreatDoorZmb
import Derived.Test.YtalgdeieejpelaaGreatDoorZma
import Derived.Lib.QuietBelow
namespace Go.Proofs.YtalgdeieejpelaaGreatDoor
open Go.RowKit Go.Sort
set_option linter.unusedVariables false
set_option maxRecDepth 100000

theorem redS_no {x : RdX} (h : rdOk x = false) : redS x = [] := by unfold redS; rw [if_neg (by rw [h]; simp)]
theorem redS_yes {x : RdX} (h : rdOk x = true) : redS x = redL x := by unfold redS; rw [if_pos h]
theorem red_str (r b k p : Int) : str (redL (r, b, k, p)) = if k = 3 then str (dec r.toNat) ++ ⟨#[32]⟩ ++ str (dec b.toNat) ++ ⟨#[32]⟩ ++ str (kw k) ++ (⟨#[32]⟩ ++ str (dec p.toNat)) else str (dec r.toNat) ++ ⟨#[32]⟩ ++ str (dec b.toNat) ++ ⟨#[32]⟩ ++ str (kw k) := by
  have e : (⟨#[32]⟩ : ByteArray) = str [32] := rfl
  unfold redL
  simp only
  split <;> simp [e, str_add]
theorem implIsRed_any (r b k p : Int) (w : World) :
    Calls Tryz.prog 19 #[.agg #[.int .i64 r, .int .i64 b, .int .i64 k, .int .i64 p]] w fun e w' => e = .returned (.bool (rbB k p)) ∧ Below w.heap.size w w' := by
  have HP := Lib.hid (fun w' => within_any p 0 10000 w')
  have HK := Lib.hid (fun w' => within_any k 1 2 w')
  have HA := Lib.hid (fun o => (Below.refl w.heap.size w).alloc (Nat.le_refl _) o)
  unfold rbB
  by_cases h3 : k = 3
  · subst h3
    rw [if_pos rfl]
    generalize withinB p 0 10000 = y at *
    clear HK
    go_enter Tryz.func19, Tryz.ntmps19
    go_wp2_with fail
    refine (HP.out _).mono ?_
    rintro e w9 ⟨rfl, rfl⟩
    go_wp2_with fail
    go_ret
    exact ⟨rfl, HA.out _⟩
  · have h3b : (k == 3) = false := by simp [h3]
    rw [if_neg h3]
    clear h3
    generalize withinB k 1 2 = y at *
    cases y
    · simp only [Bool.false_and]
      go_enter Tryz.func19, Tryz.ntmps19
      go_wp2_with fail
      refine (HK.out _).mono ?_
      rintro e w9 ⟨rfl, rfl⟩
      go_wp2_with fail
      go_ret
      exact ⟨rfl, HA.out _⟩
    · simp only [Bool.true_and]
      go_enter Tryz.func19, Tryz.ntmps19
      go_wp2_with fail
      refine (HK.out _).mono ?_
      rintro e w9 ⟨rfl, rfl⟩
      go_wp2_with fail
      go_ret
      exact ⟨rfl, HA.out _⟩
set_option maxHeartbeats 4000000 in
theorem implRedText_any (r b k p : Int) (w : World) (ht : ∀ w', Below w.heap.size w w' → Pow w') :
    Calls Tryz.prog 6 #[.agg #[.int .i64 r, .int .i64 b, .int .i64 k, .int .i64 p]] w fun e w' => e = .returned (.string (str (redS (r, b, k, p)))) ∧ Below w.heap.size w w' := by
  have HW := Lib.hid (fun w' => within_any r 0 11 w')
  have HB := Lib.hid (fun w' => isBoatQ_any b w')
  have HR := Lib.hid (fun w' => implIsRed_any r b k p w')
  obtain ⟨wa, hwa, XR, XN, hba, hsa⟩ := two_boxes w #[.int .i64 r, .int .i64 b, .int .i64 k, .int .i64 p] #[.string ⟨#[97, 108, 108]⟩, .string ⟨#[98, 101, 102, 111, 114, 101]⟩, .string ⟨#[112, 111, 105, 110, 116, 115]⟩] 25 45
  have HWA := Lib.hid hwa
  have HX := Lib.hid XR
  have HN := Lib.hid XN
  have HBA := Lib.hid hba
  clear XR XN hba hsa hwa
  have hrd : rdOk (r, b, k, p) = (withinB r 0 11 && withinB b 0 15 && rbB k p) := rfl
  cases hr : withinB r 0 11 with
  | false =>
    have HS := Lib.hid (redS_no (x := (r, b, k, p)) (by rw [hrd, hr]; rfl))
    rw [hr] at HW
    clear hrd hr
    go_enter Tryz.func6, Tryz.ntmps6
    go_wp2_with fail
    rw [← HWA.out]
    clear HWA
    (try go_wp2_with fail)
    refine (HW.out _).mono ?_
    rintro e w9 ⟨rfl, rfl⟩
    go_wp2_with fail
    go_ret
    exact ⟨by rw [HS.out]; rfl, HBA.out⟩
  | true =>
    cases hbb : withinB b 0 15 with
    | false =>
      have HS := Lib.hid (redS_no (x := (r, b, k, p)) (by rw [hrd, hr, hbb]; rfl))
      rw [hr] at HW
      rw [hbb] at HB
      clear hrd hr hbb
      go_enter Tryz.func6, Tryz.ntmps6
      go_wp2_with fail
      rw [← HWA.out]
      clear HWA
      (try go_wp2_with fail)
      refine (HW.out _).mono ?_
      rintro e w9 ⟨rfl, rfl⟩
      have FX := HX.out.f4
      go_wp2_with fail
      refine (HB.out _).mono ?_
      rintro e w9 ⟨rfl, rfl⟩
      go_wp2_with fail
      go_ret
      exact ⟨by rw [HS.out]; rfl, HBA.out⟩
    | true =>
      cases hk : rbB k p with
      | false =>
        have HS := Lib.hid (redS_no (x := (r, b, k, p)) (by rw [hrd, hr, hbb, hk]; rfl))
        rw [hr] at HW
        rw [hbb] at HB
        rw [hk] at HR
        have FX := HX.out.f4
        clear hrd hr hbb hk
        go_enter Tryz.func6, Tryz.ntmps6
        go_wp2_with fail
        rw [← HWA.out]
        clear HWA
        (try go_wp2_with fail)
        refine (HW.out _).mono ?_
        rintro e w9 ⟨rfl, rfl⟩
        (try go_wp2_with fail)
        refine (HB.out _).mono ?_
        rintro e w9 ⟨rfl, rfl⟩
        (try go_wp2_with fail)
        refine (HR.out _).mono ?_
        rintro e w1 ⟨rfl, hb⟩
        have HB1 := Lib.hid (HBA.out.trans (hb.mono HBA.out.size))
        clear hb
        go_wp2_with fail
        go_ret
        exact ⟨by rw [HS.out]; rfl, HB1.out⟩
      | true =>
        have hok : rdOk (r, b, k, p) = true := by rw [hrd, hr, hbb, hk]; rfl
        have hre := redS_yes hok
        have hst := red_str r b k p
        have hbd := rd_bounds hok
        simp only at hbd
        obtain ⟨q1, q2, q3⟩ := hbd
        obtain ⟨rn, rfl⟩ := int_up r q1.1
        obtain ⟨bn, rfl⟩ := int_up b q2.1
        rw [Int.toNat_natCast, Int.toNat_natCast] at hst
        rw [hr] at HW
        rw [hbb] at HB
        rw [hk] at HR
        have HRE := Lib.hid hre
        have z1 : (str (dec rn)).size ≤ 2 := by rw [str_size]; exact dec_len 1 rn (by omega)
        have z2 : (str (dec bn)).size ≤ 2 := by rw [str_size]; exact dec_len 1 bn (by omega)
        have HTR := Lib.hid (fun w' (hb : Below w.heap.size w w') => text_any rn (by omega) w' (ht w' hb))
        have HTB := Lib.hid (fun w' (hb : Below w.heap.size w w') => text_any bn (by omega) w' (ht w' hb))
        generalize dec rn = A at *
        generalize dec bn = B at *
        clear hrd hr hbb hk hok hre q1 q2
        rcases q3 with ⟨rfl, q3, q4⟩ | ⟨rfl, rfl⟩ | ⟨rfl, rfl⟩
        · have hst2 := hst
          rw [if_pos rfl] at hst2
          have HST := Lib.hid hst2
          clear hst hst2
          obtain ⟨pn, rfl⟩ := int_up p q3
          rw [Int.toNat_natCast] at HST
          have z3 : (str (dec pn)).size ≤ 5 := by rw [str_size]; exact dec_len 4 pn (by omega)
          have HTP := Lib.hid (fun w' (hb : Below w.heap.size w w') => text_any pn (by omega) w' (ht w' hb))
          generalize dec pn = D at *
          clear q3 q4
          clear ht
          go_enter Tryz.func6, Tryz.ntmps6
          go_wp2_with fail
          rw [← HWA.out]
          clear HWA
          refine (HW.out _).mono ?_
          rintro e w9 ⟨rfl, rfl⟩
          have FX := HX.out.f4
          go_wp2_with fail
          refine (HB.out _).mono ?_
          rintro e w9 ⟨rfl, rfl⟩
          go_wp2_with fail
          refine (HR.out _).mono ?_
          rintro e w1 ⟨rfl, hb⟩
          have HB1 := Lib.hid (HBA.out.trans (hb.mono HBA.out.size))
          have HX1 := Lib.hid (HX.out.below hb)
          have HN1 := Lib.hid (HN.out.below hb)
          have HTRX := Lib.hid (fun d os => HTR.out _ (HB1.out.trans ((below_regrown w1 d os).mono HB1.out.size)))
          have HTBX := Lib.hid (fun d os => HTB.out _ (HB1.out.trans ((below_regrown w1 d os).mono HB1.out.size)))
          clear hb FX HX HN HW HB HR HTR HTB HBA
          go_wp2_with fail
          have kq0 := cell_regrown (HX1.out.cell (i := 0) rfl)
          have kq1 := cell_regrown (HX1.out.cell (i := 1) rfl)
          have kq2 := cell_regrown (HX1.out.cell (i := 2) rfl)
          have kq3 := cell_regrown (HN1.out.cell (i := 2) rfl)
          refine wp_region_quiet_below (by kernel_rfl) (by kernel_rfl) ?_
          repeat (first | go_big_quiet_step ((first | (go_at_call 20; (with_reducible exact Calls.regrown_of (HTRX.out _ _))) | (go_at_call 20; (with_reducible exact Calls.regrown_of (HTBX.out _ _))))) | quiet_step ((first | (go_at_call 20; (with_reducible exact Calls.regrown_of (HTRX.out _ _))) | (go_at_call 20; (with_reducible exact Calls.regrown_of (HTBX.out _ _))))))
          refine wpQuiet_nil ?_
          intro _ hw'
          obtain ⟨⟨dq, osq⟩, hw''⟩ := hw'
          subst hw''
          obtain ⟨wq, hq0, hq⟩ : ∃ wnew, wnew = grow (redrawn w1 dq) osq ∧ Below w1.heap.size w1 wnew := ⟨_, rfl, below_regrown _ _ _⟩
          rw [← hq0]
          clear hq0 kq0 kq1 kq2 kq3
          have HB2 := Lib.hid (HB1.out.trans (hq.mono HB1.out.size))
          have HX2 := Lib.hid (HX1.out.below hq)
          clear hq HTRX HTBX HX1 HN1
          have FX := HX2.out.f4
          go_wp2_with fail
          refine (HTP.out _ HB2.out).mono ?_
          rintro e w3 ⟨rfl, hb⟩
          have HB3 := Lib.hid (HB2.out.trans (hb.mono HB2.out.size))
          clear hb FX HTP
          go_wp2_with fail
          go_ret
          exact ⟨by rw [HRE.out, HST.out]; rfl, HB3.out⟩
        · have hst2 := hst
          rw [if_neg (by decide)] at hst2
          have HST := Lib.hid hst2
          clear hst hst2
          clear ht
          go_enter Tryz.func6, Tryz.ntmps6
          go_wp2_with fail
          rw [← HWA.out]
          clear HWA
          refine (HW.out _).mono ?_
          rintro e w9 ⟨rfl, rfl⟩
          have FX := HX.out.f4
          go_wp2_with fail
          refine (HB.out _).mono ?_
          rintro e w9 ⟨rfl, rfl⟩
          go_wp2_with fail
          refine (HR.out _).mono ?_
          rintro e w1 ⟨rfl, hb⟩
          have HB1 := Lib.hid (HBA.out.trans (hb.mono HBA.out.size))
          have HX1 := Lib.hid (HX.out.below hb)
          have HN1 := Lib.hid (HN.out.below hb)
          have HTRX := Lib.hid (fun d os => HTR.out _ (HB1.out.trans ((below_regrown w1 d os).mono HB1.out.size)))
          have HTBX := Lib.hid (fun d os => HTB.out _ (HB1.out.trans ((below_regrown w1 d os).mono HB1.out.size)))
          clear hb FX HX HN HW HB HR HTR HTB HBA
          go_wp2_with fail
          have kq0 := cell_regrown (HX1.out.cell (i := 0) rfl)
          have kq1 := cell_regrown (HX1.out.cell (i := 1) rfl)
          have kq2 := cell_regrown (HX1.out.cell (i := 2) rfl)
          have kq3 := cell_regrown (HN1.out.cell (i := 0) rfl)
          refine wp_region_quiet_below (by kernel_rfl) (by kernel_rfl) ?_
          repeat (first | go_big_quiet_step ((first | (go_at_call 20; (with_reducible exact Calls.regrown_of (HTRX.out _ _))) | (go_at_call 20; (with_reducible exact Calls.regrown_of (HTBX.out _ _))))) | quiet_step ((first | (go_at_call 20; (with_reducible exact Calls.regrown_of (HTRX.out _ _))) | (go_at_call 20; (with_reducible exact Calls.regrown_of (HTBX.out _ _))))))
          refine wpQuiet_nil ?_
          intro _ hw'
          obtain ⟨⟨dq, osq⟩, hw''⟩ := hw'
          subst hw''
          obtain ⟨wq, hq0, hq⟩ : ∃ wnew, wnew = grow (redrawn w1 dq) osq ∧ Below w1.heap.size w1 wnew := ⟨_, rfl, below_regrown _ _ _⟩
          rw [← hq0]
          clear hq0 kq0 kq1 kq2 kq3
          have HB2 := Lib.hid (HB1.out.trans (hq.mono HB1.out.size))
          have HX2 := Lib.hid (HX1.out.below hq)
          clear hq HTRX HTBX HX1 HN1
          have FX := HX2.out.f4
          go_wp2_with fail
          go_ret
          exact ⟨by rw [HRE.out, HST.out]; rfl, HB2.out⟩
        · have hst2 := hst
          rw [if_neg (by decide)] at hst2
          have HST := Lib.hid hst2
          clear hst hst2
          clear ht
          go_enter Tryz.func6, Tryz.ntmps6
          go_wp2_with fail
          rw [← HWA.out]
          clear HWA
          refine (HW.out _).mono ?_
          rintro e w9 ⟨rfl, rfl⟩
          have FX := HX.out.f4
          go_wp2_with fail
          refine (HB.out _).mono ?_
          rintro e w9 ⟨rfl, rfl⟩
          go_wp2_with fail
          refine (HR.out _).mono ?_
          rintro e w1 ⟨rfl, hb⟩
          have HB1 := Lib.hid (HBA.out.trans (hb.mono HBA.out.size))
          have HX1 := Lib.hid (HX.out.below hb)
          have HN1 := Lib.hid (HN.out.below hb)
          have HTRX := Lib.hid (fun d os => HTR.out _ (HB1.out.trans ((below_regrown w1 d os).mono HB1.out.size)))
          have HTBX := Lib.hid (fun d os => HTB.out _ (HB1.out.trans ((below_regrown w1 d os).mono HB1.out.size)))
          clear hb FX HX HN HW HB HR HTR HTB HBA
          go_wp2_with fail
          have kq0 := cell_regrown (HX1.out.cell (i := 0) rfl)
          have kq1 := cell_regrown (HX1.out.cell (i := 1) rfl)
          have kq2 := cell_regrown (HX1.out.cell (i := 2) rfl)
          have kq3 := cell_regrown (HN1.out.cell (i := 1) rfl)
          refine wp_region_quiet_below (by kernel_rfl) (by kernel_rfl) ?_
          repeat (first | go_big_quiet_step ((first | (go_at_call 20; (with_reducible exact Calls.regrown_of (HTRX.out _ _))) | (go_at_call 20; (with_reducible exact Calls.regrown_of (HTBX.out _ _))))) | quiet_step ((first | (go_at_call 20; (with_reducible exact Calls.regrown_of (HTRX.out _ _))) | (go_at_call 20; (with_reducible exact Calls.regrown_of (HTBX.out _ _))))))
          refine wpQuiet_nil ?_
          intro _ hw'
          obtain ⟨⟨dq, osq⟩, hw''⟩ := hw'
          subst hw''
          obtain ⟨wq, hq0, hq⟩ : ∃ wnew, wnew = grow (redrawn w1 dq) osq ∧ Below w1.heap.size w1 wnew := ⟨_, rfl, below_regrown _ _ _⟩
          rw [← hq0]
          clear hq0 kq0 kq1 kq2 kq3
          have HB2 := Lib.hid (HB1.out.trans (hq.mono HB1.out.size))
          have HX2 := Lib.hid (HX1.out.below hq)
          clear hq HTRX HTBX HX1 HN1
          have FX := HX2.out.f4
          go_wp2_with fail
          go_ret
          exact ⟨by rw [HRE.out, HST.out]; rfl, HB2.out⟩
set_option maxHeartbeats 4000000 in
theorem specRedText_any (r b k p : Int) (w : World) :
    Calls Tryz.prog 10 #[.agg #[.int .i64 r, .int .i64 b, .int .i64 k, .int .i64 p]] w fun e w' => e = .returned (.string (str (redS (r, b, k, p)))) ∧ Below w.heap.size w w' := by
  have HW := Lib.hid (fun w' => l01In_any r 0 11 w')
  have HB := Lib.hid (fun w' => l01In_any b 0 15 w')
  have HK := Lib.hid (fun w' => l01In_any k 1 3 w')
  have HP := Lib.hid (fun w' => l01In_any p 0 10000 w')
  obtain ⟨wa, hwa, XR, hba, hsa⟩ := one_box w #[.int .i64 r, .int .i64 b, .int .i64 k, .int .i64 p] 25
  have HWA := Lib.hid hwa
  have HX := Lib.hid XR
  have HBA := Lib.hid hba
  clear XR hba hsa hwa
  have hrd : rdOk (r, b, k, p) = (withinB r 0 11 && withinB b 0 15 && rbB k p) := rfl
  cases hr : withinB r 0 11 with
  | false =>
    have HS := Lib.hid (redS_no (x := (r, b, k, p)) (by rw [hrd, hr]; rfl))
    rw [hr] at HW
    clear hrd hr
    go_enter Tryz.func10, Tryz.ntmps10
    go_wp2_with fail
    rw [← HWA.out]
    clear HWA
    (try go_wp2_with fail)
    refine (HW.out _).mono ?_
    rintro e w9 ⟨rfl, rfl⟩
    go_wp2_with fail
    go_ret
    exact ⟨by rw [HS.out]; rfl, HBA.out⟩
  | true =>
    rw [hr] at HW
    cases hbb : withinB b 0 15 with
    | false =>
      have HS := Lib.hid (redS_no (x := (r, b, k, p)) (by rw [hrd, hr, hbb]; rfl))
      rw [hbb] at HB
      clear hrd hr hbb
      go_enter Tryz.func10, Tryz.ntmps10
      go_wp2_with fail
      rw [← HWA.out]
      clear HWA
      (try go_wp2_with fail)
      refine (HW.out _).mono ?_
      rintro e w9 ⟨rfl, rfl⟩
      have FX := HX.out.f4
      (try go_wp2_with fail)
      refine (HB.out _).mono ?_
      rintro e w9 ⟨rfl, rfl⟩
      go_wp2_with fail
      go_ret
      exact ⟨by rw [HS.out]; rfl, HBA.out⟩
    | true =>
      rw [hbb] at HB
      cases hk3 : withinB k 1 3 with
      | false =>
        have HS := Lib.hid (redS_no (x := (r, b, k, p)) (by
          rw [hrd, hr, hbb]
          have : ¬ (1 ≤ k ∧ k ≤ 3) := fun h => by have := withinB_iff.2 h; rw [this] at hk3; cases hk3
          unfold rbB
          rw [if_neg (by omega), show withinB k 1 2 = false from by unfold withinB; simp; omega]
          rfl))
        rw [hk3] at HK
        clear hrd hr hbb hk3
        go_enter Tryz.func10, Tryz.ntmps10
        go_wp2_with fail
        rw [← HWA.out]
        clear HWA
        (try go_wp2_with fail)
        refine (HW.out _).mono ?_
        rintro e w9 ⟨rfl, rfl⟩
        have FX := HX.out.f4
        (try go_wp2_with fail)
        refine (HB.out _).mono ?_
        rintro e w9 ⟨rfl, rfl⟩
        (try go_wp2_with fail)
        refine (HK.out _).mono ?_
        rintro e w9 ⟨rfl, rfl⟩
        go_wp2_with fail
        go_ret
        exact ⟨by rw [HS.out]; rfl, HBA.out⟩
      | true =>
        rw [hk3] at HK
        have hkb := withinB_iff.1 hk3
        cases hk : rbB k p with
        | false =>
          have HS := Lib.hid (redS_no (x := (r, b, k, p)) (by rw [hrd, hr, hbb, hk]; rfl))
          have hcase : (k ≠ 3 ∧ p ≠ 0) ∨ ((k = 3 ∨ (k ≠ 3 ∧ p = 0)) ∧ withinB p 0 10000 = false) := by
            unfold rbB at hk
            split at hk
            · rename_i e; exact .inr ⟨.inl e, hk⟩
            · rename_i e
              by_cases hp0 : p = 0
              · exfalso
                subst hp0
                rw [show withinB k 1 2 = true from withinB_iff.2 (by omega)] at hk
                simp at hk
              · exact .inl ⟨e, hp0⟩
          clear hrd hr hbb hk hk3 hkb
          rcases hcase with ⟨e1, e2⟩ | ⟨e1, e2⟩
          · have e1b : (k != 3) = true := by simp [e1]
            have e2b : (p != 0) = true := by simp [e2]
            clear e1 e2
            go_enter Tryz.func10, Tryz.ntmps10
            go_wp2_with fail
            rw [← HWA.out]
            clear HWA
            (try go_wp2_with fail)
            refine (HW.out _).mono ?_
            rintro e w9 ⟨rfl, rfl⟩
            have FX := HX.out.f4
            (try go_wp2_with fail)
            refine (HB.out _).mono ?_
            rintro e w9 ⟨rfl, rfl⟩
            (try go_wp2_with fail)
            refine (HK.out _).mono ?_
            rintro e w9 ⟨rfl, rfl⟩
            go_wp2_with fail
            go_ret
            exact ⟨by rw [HS.out]; rfl, HBA.out⟩
          · rw [e2] at HP
            clear e2
            rcases e1 with rfl | ⟨e1, rfl⟩
            · skip
              go_enter Tryz.func10, Tryz.ntmps10
              go_wp2_with fail
              rw [← HWA.out]
              clear HWA
              (try go_wp2_with fail)
              refine (HW.out _).mono ?_
              rintro e w9 ⟨rfl, rfl⟩
              have FX := HX.out.f4
              (try go_wp2_with fail)
              refine (HB.out _).mono ?_
              rintro e w9 ⟨rfl, rfl⟩
              (try go_wp2_with fail)
              refine (HK.out _).mono ?_
              rintro e w9 ⟨rfl, rfl⟩
              (try go_wp2_with fail)
              refine (HP.out _).mono ?_
              rintro e w9 ⟨rfl, rfl⟩
              go_wp2_with fail
              go_ret
              exact ⟨by rw [HS.out]; rfl, HBA.out⟩
            · have e1b : (k != 3) = true := by simp [e1]
              clear e1
              go_enter Tryz.func10, Tryz.ntmps10
              go_wp2_with fail
              rw [← HWA.out]
              clear HWA
              (try go_wp2_with fail)
              refine (HW.out _).mono ?_
              rintro e w9 ⟨rfl, rfl⟩
              have FX := HX.out.f4
              (try go_wp2_with fail)
              refine (HB.out _).mono ?_
              rintro e w9 ⟨rfl, rfl⟩
              (try go_wp2_with fail)
              refine (HK.out _).mono ?_
              rintro e w9 ⟨rfl, rfl⟩
              (try go_wp2_with fail)
              refine (HP.out _).mono ?_
              rintro e w9 ⟨rfl, rfl⟩
              go_wp2_with fail
              go_ret
              exact ⟨by rw [HS.out]; rfl, HBA.out⟩
        | true =>
          have hok : rdOk (r, b, k, p) = true := by rw [hrd, hr, hbb, hk]; rfl
          have hre := redS_yes hok
          have hst := red_str r b k p
          have hbd := rd_bounds hok
          simp only at hbd
          obtain ⟨q1, q2, q3⟩ := hbd
          obtain ⟨rn, rfl⟩ := int_up r q1.1
          obtain ⟨bn, rfl⟩ := int_up b q2.1
          rw [Int.toNat_natCast, Int.toNat_natCast] at hst
          have HRE := Lib.hid hre
          have hpp : withinB p 0 10000 = true := withinB_iff.2 (by omega)
          rw [hpp] at HP
          have z1 : (str (dec rn)).size ≤ 2 := by rw [str_size]; exact dec_len 1 rn (by omega)
          have z2 : (str (dec bn)).size ≤ 2 := by rw [str_size]; exact dec_len 1 bn (by omega)
          have HTR := Lib.hid (fun w' => number26_any rn (by omega) w')
          have HTB := Lib.hid (fun w' => number26_any bn (by omega) w')
          generalize dec rn = A at *
          generalize dec bn = B at *
          clear hrd hr hbb hk hok hre q1 q2 hk3 hkb hpp
          rcases q3 with ⟨rfl, q3, q4⟩ | ⟨rfl, rfl⟩ | ⟨rfl, rfl⟩
          · have hst2 := hst
            rw [if_pos rfl] at hst2
            have HST := Lib.hid hst2
            clear hst hst2
            obtain ⟨pn, rfl⟩ := int_up p q3
            rw [Int.toNat_natCast] at HST
            have z3 : (str (dec pn)).size ≤ 5 := by rw [str_size]; exact dec_len 4 pn (by omega)
            have HTP := Lib.hid (fun w' => number26_any pn (by omega) w')
            generalize dec pn = D at *
            clear q3 q4
            go_enter Tryz.func10, Tryz.ntmps10
            go_wp2_with fail
            rw [← HWA.out]
            clear HWA
            refine (HW.out _).mono ?_
            rintro e w1 ⟨rfl, rfl⟩
            have FX := HX.out.f4
            go_wp2_with fail
            refine (HB.out _).mono ?_
            rintro e w1 ⟨rfl, rfl⟩
            go_wp2_with fail
            refine (HK.out _).mono ?_
            rintro e w1 ⟨rfl, rfl⟩
            go_wp2_with fail
            refine (HP.out _).mono ?_
            rintro e w1 ⟨rfl, rfl⟩
            go_wp2_with fail
            obtain ⟨w1, hw1⟩ : ∃ w1 : World, w1 = wa := ⟨_, rfl⟩
            subst hw1
            have HX1 := HX
            have HB1 := HBA
            clear FX HX HBA HW HB HK HP
            obtain ⟨S, hSE, hSI⟩ : ∃ S : World → Prop, (∀ w9, S w9 → w9.cell? ⟨w.heap.size, 0, none⟩ = some (.int .i64 rn) ∧ w9.cell? ⟨w.heap.size, 1, none⟩ = some (.int .i64 bn) ∧ w9.cell? ⟨w.heap.size, 2, none⟩ = some (.int .i64 3)) ∧ (∀ w9, Box w9 w.heap.size #[.int .i64 rn, .int .i64 bn, .int .i64 3, .int .i64 pn] 25 → S w9) := ⟨fun w9 => Box w9 w.heap.size #[.int .i64 rn, .int .i64 bn, .int .i64 3, .int .i64 pn] 25, fun _ h => ⟨h.cell rfl, h.cell rfl, h.cell rfl⟩, fun _ h => h⟩
            have HSE := Lib.hid hSE; have HSI := Lib.hid hSI
            have H32 := Lib.hid (show (⟨#[32]⟩ : ByteArray).size = 1 from rfl)
            have HBw1 := Lib.hid (below_drewN' w1.heap.size w1 1)
            have HXw1 := Lib.hid (HX1.out.below (below_drewN' w1.heap.size w1 1))
            clear hSE hSI
            refine wp_region_T2 (n := 17) S (fun _ => false) (by kernel_rfl) rfl ?_
            intro ops HOPS
            refine wpAnyT_take 0 (.pointer (some ⟨w.heap.size, 0, none⟩)) (by rw [HOPS.out]; rfl) (by rw [HOPS.out]; kernel_rfl) (by exact fun _ _ _ h => h) (by rfl) (fun w1 hS => by obtain ⟨c0, c1, c2⟩ := HSE.out _ hS; go_simp <;> first | done | omega | rfl | decide | (simp only [ByteArray.size_append, H32.out]; omega)) (HSI.out _ (HX1.out.below (below_drewN' _ w1 1))) ?_
            go_simp
            refine wpAnyT_take 1 (.int .i64 rn) (by rw [HOPS.out]; rfl) (by rw [HOPS.out]; kernel_rfl) (by exact fun _ _ _ h => h) (by rfl) (fun w1 hS => by obtain ⟨c0, c1, c2⟩ := HSE.out _ hS; go_simp <;> first | done | omega | rfl | decide | (simp only [ByteArray.size_append, H32.out]; omega)) (HSI.out _ (HX1.out.below (below_drewN' _ w1 1))) ?_
            go_simp
            refine wpAnyT_take 4 (.pointer (some ⟨w.heap.size, 1, none⟩)) (by rw [HOPS.out]; rfl) (by rw [HOPS.out]; kernel_rfl) (by exact fun _ _ _ h => h) (by rfl) (fun w1 hS => by obtain ⟨c0, c1, c2⟩ := HSE.out _ hS; go_simp <;> first | done | omega | rfl | decide | (simp only [ByteArray.size_append, H32.out]; omega)) (HSI.out _ (HX1.out.below (below_drewN' _ w1 1))) ?_
            go_simp
            refine wpAnyT_take 5 (.int .i64 bn) (by rw [HOPS.out]; rfl) (by rw [HOPS.out]; kernel_rfl) (by exact fun _ _ _ h => h) (by rfl) (fun w1 hS => by obtain ⟨c0, c1, c2⟩ := HSE.out _ hS; go_simp <;> first | done | omega | rfl | decide | (simp only [ByteArray.size_append, H32.out]; omega)) (HSI.out _ (HX1.out.below (below_drewN' _ w1 1))) ?_
            go_simp
            refine wpAnyT_take 10 (.pointer (some ⟨w.heap.size, 2, none⟩)) (by rw [HOPS.out]; rfl) (by rw [HOPS.out]; kernel_rfl) (by exact fun _ _ _ h => h) (by rfl) (fun w1 hS => by obtain ⟨c0, c1, c2⟩ := HSE.out _ hS; go_simp <;> first | done | omega | rfl | decide | (simp only [ByteArray.size_append, H32.out]; omega)) (HSI.out _ (HX1.out.below (below_drewN' _ w1 1))) ?_
            go_simp
            refine wpAnyT_take 11 (.int .i64 3) (by rw [HOPS.out]; rfl) (by rw [HOPS.out]; kernel_rfl) (by exact fun _ _ _ h => h) (by rfl) (fun w1 hS => by obtain ⟨c0, c1, c2⟩ := HSE.out _ hS; go_simp <;> first | done | omega | rfl | decide | (simp only [ByteArray.size_append, H32.out]; omega)) (HSI.out _ (HX1.out.below (below_drewN' _ w1 1))) ?_
            go_simp
            refine wpAnyT_take 12 (.int .i64 2) (by rw [HOPS.out]; rfl) (by rw [HOPS.out]; kernel_rfl) (by exact fun _ _ _ h => h) (by rfl) (fun w1 hS => by obtain ⟨c0, c1, c2⟩ := HSE.out _ hS; go_simp <;> first | done | omega | rfl | decide | (simp only [ByteArray.size_append, H32.out]; omega)) (HSI.out _ (HX1.out.below (below_drewN' _ w1 1))) ?_
            go_simp
            refine wpAnyT_two 2 9 (by rw [HOPS.out]; rfl) (by rw [HOPS.out]; rfl) (by rw [HOPS.out]; kernel_rfl) ?_ ?_
            · intro K' hK
              have HK := Lib.hid hK
              clear hK
              go_simp
              go_at_call 26
              refine (HTR.out _).mono ?_
              rintro e v1 ⟨rfl, hb⟩
              have HBv1 := Lib.hid (HBw1.out.trans (hb.mono HBw1.out.size))
              have HXv1 := Lib.hid (HXw1.out.below hb)
              clear hb
              refine HK.out _ _ (.inr (HSI.out _ HXv1.out)) ?_
              clear HK
              go_simp
              refine wpAnyT_take 3 (.string (str A ++ (⟨#[32]⟩ : ByteArray))) (by rw [HOPS.out]; rfl) (by rw [HOPS.out]; kernel_rfl) (by exact fun _ _ _ h => h) (by rfl) (fun w1 hS => by obtain ⟨c0, c1, c2⟩ := HSE.out _ hS; go_simp <;> first | done | omega | rfl | decide | (simp only [ByteArray.size_append, H32.out]; omega)) (HSI.out _ HXv1.out) ?_
              go_simp
              refine wpAnyT_two 6 9 (by rw [HOPS.out]; rfl) (by rw [HOPS.out]; rfl) (by rw [HOPS.out]; kernel_rfl) ?_ ?_
              · intro K' hK
                have HK := Lib.hid hK
                clear hK
                go_simp
                go_at_call 26
                refine (HTB.out _).mono ?_
                rintro e v2 ⟨rfl, hb⟩
                have HBv2 := Lib.hid (HBv1.out.trans (hb.mono HBv1.out.size))
                have HXv2 := Lib.hid (HXv1.out.below hb)
                clear hb
                refine HK.out _ _ (.inr (HSI.out _ HXv2.out)) ?_
                clear HK
                go_simp
                refine wpAnyT_take 7 (.string (str A ++ (⟨#[32]⟩ : ByteArray) ++ str B)) (by rw [HOPS.out]; rfl) (by rw [HOPS.out]; kernel_rfl) (by exact fun _ _ _ h => h) (by rfl) (fun w1 hS => by obtain ⟨c0, c1, c2⟩ := HSE.out _ hS; go_simp <;> first | done | omega | rfl | decide | (simp only [ByteArray.size_append, H32.out]; omega)) (HSI.out _ HXv2.out) ?_
                go_simp
                refine wpAnyT_take 8 (.string (str A ++ (⟨#[32]⟩ : ByteArray) ++ str B ++ (⟨#[32]⟩ : ByteArray))) (by rw [HOPS.out]; rfl) (by rw [HOPS.out]; kernel_rfl) (by exact fun _ _ _ h => h) (by rfl) (fun w1 hS => by obtain ⟨c0, c1, c2⟩ := HSE.out _ hS; go_simp <;> first | done | omega | rfl | decide | (simp only [ByteArray.size_append, H32.out]; omega)) (HSI.out _ HXv2.out) ?_
                go_simp
                refine wpAnyT_one 9 (by rw [HOPS.out]; rfl) (by rw [HOPS.out]; kernel_rfl) ?_
                intro K' hK
                have HK := Lib.hid hK
                clear hK
                go_simp
                refine HK.out _ _ (.inr (HSI.out _ (HXv2.out.below ((Below.refl _ _).alloc (Nat.le_refl _) _)))) ?_
                clear HK
                go_simp
                refine gen_world (p := fun wz => wpAnyT _ _ _ _ _ _ _ _ _ wz) (fun wz => Box wz v2.heap.size #[.string ⟨#[97, 108, 108]⟩, .string ⟨#[98, 101, 102, 111, 114, 101]⟩, .string ⟨#[112, 111, 105, 110, 116, 115]⟩] 9 ∧ Below v2.heap.size v2 wz) ⟨Box.new v2 #[.string ⟨#[97, 108, 108]⟩, .string ⟨#[98, 101, 102, 111, 114, 101]⟩, .string ⟨#[112, 111, 105, 110, 116, 115]⟩] 9, (Below.refl _ _).alloc (Nat.le_refl _) _⟩ ?_
                rintro v3 ⟨hbx, hbz⟩
                have HBv3 := Lib.hid (HBv2.out.trans (hbz.mono HBv2.out.size))
                have HXv3 := Lib.hid (HXv2.out.below hbz)
                have HZv3 := Lib.hid (hbx.cell (i := 2) rfl)
                clear hbx hbz
                refine wpAnyT_take 13 (.pointer (some ⟨v2.heap.size, 2, none⟩)) (by rw [HOPS.out]; rfl) (by rw [HOPS.out]; kernel_rfl) (by exact fun _ _ _ h => h) (by rfl) (fun w1 hS => by obtain ⟨c0, c1, c2⟩ := HSE.out _ hS; go_simp <;> first | done | omega | rfl | decide | (simp only [ByteArray.size_append, H32.out]; omega)) (HSI.out _ HXv3.out) ?_
                go_simp
                refine wpAnyT_one 14 (by rw [HOPS.out]; rfl) (by rw [HOPS.out]; kernel_rfl) ?_
                intro K' hK
                have HK := Lib.hid hK
                clear hK
                have hz := HZv3.out
                go_simp
                clear hz
                refine HK.out _ _ (.inr (HSI.out _ HXv3.out)) ?_
                clear HK
                go_simp
                refine wpAnyT_take 15 (.string (str A ++ (⟨#[32]⟩ : ByteArray) ++ str B ++ (⟨#[32]⟩ : ByteArray) ++ ⟨#[112, 111, 105, 110, 116, 115]⟩)) (by rw [HOPS.out]; rfl) (by rw [HOPS.out]; kernel_rfl) (by exact fun _ _ _ h => h) (by rfl) (fun w1 hS => by obtain ⟨c0, c1, c2⟩ := HSE.out _ hS; go_simp <;> first | done | omega | rfl | decide | (simp only [ByteArray.size_append, H32.out]; omega)) (HSI.out _ HXv3.out) ?_
                go_simp
                refine wpAnyT_take 16 (.string (str A ++ (⟨#[32]⟩ : ByteArray) ++ str B ++ (⟨#[32]⟩ : ByteArray) ++ ⟨#[112, 111, 105, 110, 116, 115]⟩)) (by rw [HOPS.out]; rfl) (by rw [HOPS.out]; kernel_rfl) (by exact fun _ _ _ h => h) (by rfl) (fun w1 hS => by obtain ⟨c0, c1, c2⟩ := HSE.out _ hS; go_simp <;> first | done | omega | rfl | decide | (simp only [ByteArray.size_append, H32.out]; omega)) (HSI.out _ HXv3.out) ?_
                go_simp
                refine wpAnyT_done (by rw [HOPS.out]; kernel_rfl) ?_ _
                have HQB := Lib.hid (HB1.out.trans (HBv3.out.mono HB1.out.size))
                have FX := HXv3.out.f4
                go_wp2_with fail
                refine (HTP.out _).mono ?_
                rintro e w3 ⟨rfl, hb⟩
                have HB3 := Lib.hid (HQB.out.trans (hb.mono HQB.out.size))
                clear hb FX
                go_wp2_with fail
                go_ret
                exact ⟨by rw [HRE.out, HST.out]; first | rfl | (rw [← ByteArray.append_assoc]; rfl), HB3.out⟩
              · intro K' hK
                have HK := Lib.hid hK
                clear hK
                go_simp
                refine HK.out _ _ (.inr (HSI.out _ (HXv1.out.below ((Below.refl _ _).alloc (Nat.le_refl _) _)))) ?_
                clear HK
                go_simp
                refine gen_world (p := fun wz => wpAnyT _ _ _ _ _ _ _ _ _ wz) (fun wz => Box wz v1.heap.size #[.string ⟨#[97, 108, 108]⟩, .string ⟨#[98, 101, 102, 111, 114, 101]⟩, .string ⟨#[112, 111, 105, 110, 116, 115]⟩] 9 ∧ Below v1.heap.size v1 wz) ⟨Box.new v1 #[.string ⟨#[97, 108, 108]⟩, .string ⟨#[98, 101, 102, 111, 114, 101]⟩, .string ⟨#[112, 111, 105, 110, 116, 115]⟩] 9, (Below.refl _ _).alloc (Nat.le_refl _) _⟩ ?_
                rintro v5 ⟨hbx, hbz⟩
                have HBv5 := Lib.hid (HBv1.out.trans (hbz.mono HBv1.out.size))
                have HXv5 := Lib.hid (HXv1.out.below hbz)
                have HZv5 := Lib.hid (hbx.cell (i := 2) rfl)
                clear hbx hbz
                refine wpAnyT_take 13 (.pointer (some ⟨v1.heap.size, 2, none⟩)) (by rw [HOPS.out]; rfl) (by rw [HOPS.out]; kernel_rfl) (by exact fun _ _ _ h => h) (by rfl) (fun w1 hS => by obtain ⟨c0, c1, c2⟩ := HSE.out _ hS; go_simp <;> first | done | omega | rfl | decide | (simp only [ByteArray.size_append, H32.out]; omega)) (HSI.out _ HXv5.out) ?_
                go_simp
                refine wpAnyT_two 6 14 (by rw [HOPS.out]; rfl) (by rw [HOPS.out]; rfl) (by rw [HOPS.out]; kernel_rfl) ?_ ?_
                · intro K' hK
                  have HK := Lib.hid hK
                  clear hK
                  go_simp
                  go_at_call 26
                  refine (HTB.out _).mono ?_
                  rintro e v6 ⟨rfl, hb⟩
                  have HBv6 := Lib.hid (HBv5.out.trans (hb.mono HBv5.out.size))
                  have HXv6 := Lib.hid (HXv5.out.below hb)
                  have HZv6 := Lib.hid ((hb.cell (p := ⟨v1.heap.size, 2, none⟩) (cell_lt HZv5.out)).trans HZv5.out)
                  clear hb
                  refine HK.out _ _ (.inr (HSI.out _ HXv6.out)) ?_
                  clear HK
                  go_simp
                  refine wpAnyT_take 7 (.string (str A ++ (⟨#[32]⟩ : ByteArray) ++ str B)) (by rw [HOPS.out]; rfl) (by rw [HOPS.out]; kernel_rfl) (by exact fun _ _ _ h => h) (by rfl) (fun w1 hS => by obtain ⟨c0, c1, c2⟩ := HSE.out _ hS; go_simp <;> first | done | omega | rfl | decide | (simp only [ByteArray.size_append, H32.out]; omega)) (HSI.out _ HXv6.out) ?_
                  go_simp
                  refine wpAnyT_take 8 (.string (str A ++ (⟨#[32]⟩ : ByteArray) ++ str B ++ (⟨#[32]⟩ : ByteArray))) (by rw [HOPS.out]; rfl) (by rw [HOPS.out]; kernel_rfl) (by exact fun _ _ _ h => h) (by rfl) (fun w1 hS => by obtain ⟨c0, c1, c2⟩ := HSE.out _ hS; go_simp <;> first | done | omega | rfl | decide | (simp only [ByteArray.size_append, H32.out]; omega)) (HSI.out _ HXv6.out) ?_
                  go_simp
                  refine wpAnyT_one 14 (by rw [HOPS.out]; rfl) (by rw [HOPS.out]; kernel_rfl) ?_
                  intro K' hK
                  have HK := Lib.hid hK
                  clear hK
                  have hz := HZv6.out
                  go_simp
                  clear hz
                  refine HK.out _ _ (.inr (HSI.out _ HXv6.out)) ?_
                  clear HK
                  go_simp
                  refine wpAnyT_take 15 (.string (str A ++ (⟨#[32]⟩ : ByteArray) ++ str B ++ (⟨#[32]⟩ : ByteArray) ++ ⟨#[112, 111, 105, 110, 116, 115]⟩)) (by rw [HOPS.out]; rfl) (by rw [HOPS.out]; kernel_rfl) (by exact fun _ _ _ h => h) (by rfl) (fun w1 hS => by obtain ⟨c0, c1, c2⟩ := HSE.out _ hS; go_simp <;> first | done | omega | rfl | decide | (simp only [ByteArray.size_append, H32.out]; omega)) (HSI.out _ HXv6.out) ?_
                  go_simp
                  refine wpAnyT_take 16 (.string (str A ++ (⟨#[32]⟩ : ByteArray) ++ str B ++ (⟨#[32]⟩ : ByteArray) ++ ⟨#[112, 111, 105, 110, 116, 115]⟩)) (by rw [HOPS.out]; rfl) (by rw [HOPS.out]; kernel_rfl) (by exact fun _ _ _ h => h) (by rfl) (fun w1 hS => by obtain ⟨c0, c1, c2⟩ := HSE.out _ hS; go_simp <;> first | done | omega | rfl | decide | (simp only [ByteArray.size_append, H32.out]; omega)) (HSI.out _ HXv6.out) ?_
                  go_simp
                  refine wpAnyT_done (by rw [HOPS.out]; kernel_rfl) ?_ _
                  have HQB := Lib.hid (HB1.out.trans (HBv6.out.mono HB1.out.size))
                  have FX := HXv6.out.f4
                  go_wp2_with fail
                  refine (HTP.out _).mono ?_
                  rintro e w3 ⟨rfl, hb⟩
                  have HB3 := Lib.hid (HQB.out.trans (hb.mono HQB.out.size))
                  clear hb FX
                  go_wp2_with fail
                  go_ret
                  exact ⟨by rw [HRE.out, HST.out]; first | rfl | (rw [← ByteArray.append_assoc]; rfl), HB3.out⟩
                · intro K' hK
                  have HK := Lib.hid hK
                  clear hK
                  have hz := HZv5.out
                  go_simp
                  clear hz
                  refine HK.out _ _ (.inr (HSI.out _ HXv5.out)) ?_
                  clear HK
                  go_simp
                  refine wpAnyT_one 6 (by rw [HOPS.out]; rfl) (by rw [HOPS.out]; kernel_rfl) ?_
                  intro K' hK
                  have HK := Lib.hid hK
                  clear hK
                  go_simp
                  go_at_call 26
                  refine (HTB.out _).mono ?_
                  rintro e v9 ⟨rfl, hb⟩
                  have HBv9 := Lib.hid (HBv5.out.trans (hb.mono HBv5.out.size))
                  have HXv9 := Lib.hid (HXv5.out.below hb)
                  clear hb
                  refine HK.out _ _ (.inr (HSI.out _ HXv9.out)) ?_
                  clear HK
                  go_simp
                  refine wpAnyT_take 7 (.string (str A ++ (⟨#[32]⟩ : ByteArray) ++ str B)) (by rw [HOPS.out]; rfl) (by rw [HOPS.out]; kernel_rfl) (by exact fun _ _ _ h => h) (by rfl) (fun w1 hS => by obtain ⟨c0, c1, c2⟩ := HSE.out _ hS; go_simp <;> first | done | omega | rfl | decide | (simp only [ByteArray.size_append, H32.out]; omega)) (HSI.out _ HXv9.out) ?_
                  go_simp
                  refine wpAnyT_take 8 (.string (str A ++ (⟨#[32]⟩ : ByteArray) ++ str B ++ (⟨#[32]⟩ : ByteArray))) (by rw [HOPS.out]; rfl) (by rw [HOPS.out]; kernel_rfl) (by exact fun _ _ _ h => h) (by rfl) (fun w1 hS => by obtain ⟨c0, c1, c2⟩ := HSE.out _ hS; go_simp <;> first | done | omega | rfl | decide | (simp only [ByteArray.size_append, H32.out]; omega)) (HSI.out _ HXv9.out) ?_
                  go_simp
                  refine wpAnyT_take 15 (.string (str A ++ (⟨#[32]⟩ : ByteArray) ++ str B ++ (⟨#[32]⟩ : ByteArray) ++ ⟨#[112, 111, 105, 110, 116, 115]⟩)) (by rw [HOPS.out]; rfl) (by rw [HOPS.out]; kernel_rfl) (by exact fun _ _ _ h => h) (by rfl) (fun w1 hS => by obtain ⟨c0, c1, c2⟩ := HSE.out _ hS; go_simp <;> first | done | omega | rfl | decide | (simp only [ByteArray.size_append, H32.out]; omega)) (HSI.out _ HXv9.out) ?_
                  go_simp
                  refine wpAnyT_take 16 (.string (str A ++ (⟨#[32]⟩ : ByteArray) ++ str B ++ (⟨#[32]⟩ : ByteArray) ++ ⟨#[112, 111, 105, 110, 116, 115]⟩)) (by rw [HOPS.out]; rfl) (by rw [HOPS.out]; kernel_rfl) (by exact fun _ _ _ h => h) (by rfl) (fun w1 hS => by obtain ⟨c0, c1, c2⟩ := HSE.out _ hS; go_simp <;> first | done | omega | rfl | decide | (simp only [ByteArray.size_append, H32.out]; omega)) (HSI.out _ HXv9.out) ?_
                  go_simp
                  refine wpAnyT_done (by rw [HOPS.out]; kernel_rfl) ?_ _
                  have HQB := Lib.hid (HB1.out.trans (HBv9.out.mono HB1.out.size))
                  have FX := HXv9.out.f4
                  go_wp2_with fail
                  refine (HTP.out _).mono ?_
                  rintro e w3 ⟨rfl, hb⟩
                  have HB3 := Lib.hid (HQB.out.trans (hb.mono HQB.out.size))
                  clear hb FX
                  go_wp2_with fail
                  go_ret
                  exact ⟨by rw [HRE.out, HST.out]; first | rfl | (rw [← ByteArray.append_assoc]; rfl), HB3.out⟩
            · intro K' hK
              have HK := Lib.hid hK
              clear hK
              go_simp
              refine HK.out _ _ (.inr (HSI.out _ (HX1.out.below (below_drewN ((Below.refl _ _).alloc (Nat.le_refl _) _) 1)))) ?_
              clear HK
              go_simp
              refine gen_world (p := fun wz => wpAnyT _ _ _ _ _ _ _ _ _ wz) (fun wz => Box wz w1.heap.size #[.string ⟨#[97, 108, 108]⟩, .string ⟨#[98, 101, 102, 111, 114, 101]⟩, .string ⟨#[112, 111, 105, 110, 116, 115]⟩] 9 ∧ Below w1.heap.size w1 wz) ⟨Box.new w1 #[.string ⟨#[97, 108, 108]⟩, .string ⟨#[98, 101, 102, 111, 114, 101]⟩, .string ⟨#[112, 111, 105, 110, 116, 115]⟩] 9, below_drewN ((Below.refl _ _).alloc (Nat.le_refl _) _) 1⟩ ?_
              rintro v10 ⟨hbx, hbz⟩
              have HBv10 := Lib.hid (hbz)
              have HXv10 := Lib.hid (HX1.out.below hbz)
              have HZv10 := Lib.hid (hbx.cell (i := 2) rfl)
              clear hbx hbz
              refine wpAnyT_take 13 (.pointer (some ⟨w1.heap.size, 2, none⟩)) (by rw [HOPS.out]; rfl) (by rw [HOPS.out]; kernel_rfl) (by exact fun _ _ _ h => h) (by rfl) (fun w1 hS => by obtain ⟨c0, c1, c2⟩ := HSE.out _ hS; go_simp <;> first | done | omega | rfl | decide | (simp only [ByteArray.size_append, H32.out]; omega)) (HSI.out _ HXv10.out) ?_
              go_simp
              refine wpAnyT_two 2 14 (by rw [HOPS.out]; rfl) (by rw [HOPS.out]; rfl) (by rw [HOPS.out]; kernel_rfl) ?_ ?_
              · intro K' hK
                have HK := Lib.hid hK
                clear hK
                go_simp
                go_at_call 26
                refine (HTR.out _).mono ?_
                rintro e v11 ⟨rfl, hb⟩
                have HBv11 := Lib.hid (HBv10.out.trans (hb.mono HBv10.out.size))
                have HXv11 := Lib.hid (HXv10.out.below hb)
                have HZv11 := Lib.hid ((hb.cell (p := ⟨w1.heap.size, 2, none⟩) (cell_lt HZv10.out)).trans HZv10.out)
                clear hb
                refine HK.out _ _ (.inr (HSI.out _ HXv11.out)) ?_
                clear HK
                go_simp
                refine wpAnyT_take 3 (.string (str A ++ (⟨#[32]⟩ : ByteArray))) (by rw [HOPS.out]; rfl) (by rw [HOPS.out]; kernel_rfl) (by exact fun _ _ _ h => h) (by rfl) (fun w1 hS => by obtain ⟨c0, c1, c2⟩ := HSE.out _ hS; go_simp <;> first | done | omega | rfl | decide | (simp only [ByteArray.size_append, H32.out]; omega)) (HSI.out _ HXv11.out) ?_
                go_simp
                refine wpAnyT_two 6 14 (by rw [HOPS.out]; rfl) (by rw [HOPS.out]; rfl) (by rw [HOPS.out]; kernel_rfl) ?_ ?_
                · intro K' hK
                  have HK := Lib.hid hK
                  clear hK
                  go_simp
                  go_at_call 26
                  refine (HTB.out _).mono ?_
                  rintro e v12 ⟨rfl, hb⟩
                  have HBv12 := Lib.hid (HBv11.out.trans (hb.mono HBv11.out.size))
                  have HXv12 := Lib.hid (HXv11.out.below hb)
                  have HZv12 := Lib.hid ((hb.cell (p := ⟨w1.heap.size, 2, none⟩) (cell_lt HZv11.out)).trans HZv11.out)
                  clear hb
                  refine HK.out _ _ (.inr (HSI.out _ HXv12.out)) ?_
                  clear HK
                  go_simp
                  refine wpAnyT_take 7 (.string (str A ++ (⟨#[32]⟩ : ByteArray) ++ str B)) (by rw [HOPS.out]; rfl) (by rw [HOPS.out]; kernel_rfl) (by exact fun _ _ _ h => h) (by rfl) (fun w1 hS => by obtain ⟨c0, c1, c2⟩ := HSE.out _ hS; go_simp <;> first | done | omega | rfl | decide | (simp only [ByteArray.size_append, H32.out]; omega)) (HSI.out _ HXv12.out) ?_
                  go_simp
                  refine wpAnyT_take 8 (.string (str A ++ (⟨#[32]⟩ : ByteArray) ++ str B ++ (⟨#[32]⟩ : ByteArray))) (by rw [HOPS.out]; rfl) (by rw [HOPS.out]; kernel_rfl) (by exact fun _ _ _ h => h) (by rfl) (fun w1 hS => by obtain ⟨c0, c1, c2⟩ := HSE.out _ hS; go_simp <;> first | done | omega | rfl | decide | (simp only [ByteArray.size_append, H32.out]; omega)) (HSI.out _ HXv12.out) ?_
                  go_simp
                  refine wpAnyT_one 14 (by rw [HOPS.out]; rfl) (by rw [HOPS.out]; kernel_rfl) ?_
                  intro K' hK
                  have HK := Lib.hid hK
                  clear hK
                  have hz := HZv12.out
                  go_simp
                  clear hz
                  refine HK.out _ _ (.inr (HSI.out _ HXv12.out)) ?_
                  clear HK
                  go_simp
                  refine wpAnyT_take 15 (.string (str A ++ (⟨#[32]⟩ : ByteArray) ++ str B ++ (⟨#[32]⟩ : ByteArray) ++ ⟨#[112, 111, 105, 110, 116, 115]⟩)) (by rw [HOPS.out]; rfl) (by rw [HOPS.out]; kernel_rfl) (by exact fun _ _ _ h => h) (by rfl) (fun w1 hS => by obtain ⟨c0, c1, c2⟩ := HSE.out _ hS; go_simp <;> first | done | omega | rfl | decide | (simp only [ByteArray.size_append, H32.out]; omega)) (HSI.out _ HXv12.out) ?_
                  go_simp
                  refine wpAnyT_take 16 (.string (str A ++ (⟨#[32]⟩ : ByteArray) ++ str B ++ (⟨#[32]⟩ : ByteArray) ++ ⟨#[112, 111, 105, 110, 116, 115]⟩)) (by rw [HOPS.out]; rfl) (by rw [HOPS.out]; kernel_rfl) (by exact fun _ _ _ h => h) (by rfl) (fun w1 hS => by obtain ⟨c0, c1, c2⟩ := HSE.out _ hS; go_simp <;> first | done | omega | rfl | decide | (simp only [ByteArray.size_append, H32.out]; omega)) (HSI.out _ HXv12.out) ?_
                  go_simp
                  refine wpAnyT_done (by rw [HOPS.out]; kernel_rfl) ?_ _
                  have HQB := Lib.hid (HB1.out.trans (HBv12.out.mono HB1.out.size))
                  have FX := HXv12.out.f4
                  go_wp2_with fail
                  refine (HTP.out _).mono ?_
                  rintro e w3 ⟨rfl, hb⟩
                  have HB3 := Lib.hid (HQB.out.trans (hb.mono HQB.out.size))
                  clear hb FX
                  go_wp2_with fail
                  go_ret
                  exact ⟨by rw [HRE.out, HST.out]; first | rfl | (rw [← ByteArray.append_assoc]; rfl), HB3.out⟩
                · intro K' hK
                  have HK := Lib.hid hK
                  clear hK
                  have hz := HZv11.out
                  go_simp
                  clear hz
                  refine HK.out _ _ (.inr (HSI.out _ HXv11.out)) ?_
                  clear HK
                  go_simp
                  refine wpAnyT_one 6 (by rw [HOPS.out]; rfl) (by rw [HOPS.out]; kernel_rfl) ?_
                  intro K' hK
                  have HK := Lib.hid hK
                  clear hK
                  go_simp
                  go_at_call 26
                  refine (HTB.out _).mono ?_
                  rintro e v15 ⟨rfl, hb⟩
                  have HBv15 := Lib.hid (HBv11.out.trans (hb.mono HBv11.out.size))
                  have HXv15 := Lib.hid (HXv11.out.below hb)
                  clear hb
                  refine HK.out _ _ (.inr (HSI.out _ HXv15.out)) ?_
                  clear HK
                  go_simp
                  refine wpAnyT_take 7 (.string (str A ++ (⟨#[32]⟩ : ByteArray) ++ str B)) (by rw [HOPS.out]; rfl) (by rw [HOPS.out]; kernel_rfl) (by exact fun _ _ _ h => h) (by rfl) (fun w1 hS => by obtain ⟨c0, c1, c2⟩ := HSE.out _ hS; go_simp <;> first | done | omega | rfl | decide | (simp only [ByteArray.size_append, H32.out]; omega)) (HSI.out _ HXv15.out) ?_
                  go_simp
                  refine wpAnyT_take 8 (.string (str A ++ (⟨#[32]⟩ : ByteArray) ++ str B ++ (⟨#[32]⟩ : ByteArray))) (by rw [HOPS.out]; rfl) (by rw [HOPS.out]; kernel_rfl) (by exact fun _ _ _ h => h) (by rfl) (fun w1 hS => by obtain ⟨c0, c1, c2⟩ := HSE.out _ hS; go_simp <;> first | done | omega | rfl | decide | (simp only [ByteArray.size_append, H32.out]; omega)) (HSI.out _ HXv15.out) ?_
                  go_simp
                  refine wpAnyT_take 15 (.string (str A ++ (⟨#[32]⟩ : ByteArray) ++ str B ++ (⟨#[32]⟩ : ByteArray) ++ ⟨#[112, 111, 105, 110, 116, 115]⟩)) (by rw [HOPS.out]; rfl) (by rw [HOPS.out]; kernel_rfl) (by exact fun _ _ _ h => h) (by rfl) (fun w1 hS => by obtain ⟨c0, c1, c2⟩ := HSE.out _ hS; go_simp <;> first | done | omega | rfl | decide | (simp only [ByteArray.size_append, H32.out]; omega)) (HSI.out _ HXv15.out) ?_
                  go_simp
                  refine wpAnyT_take 16 (.string (str A ++ (⟨#[32]⟩ : ByteArray) ++ str B ++ (⟨#[32]⟩ : ByteArray) ++ ⟨#[112, 111, 105, 110, 116, 115]⟩)) (by rw [HOPS.out]; rfl) (by rw [HOPS.out]; kernel_rfl) (by exact fun _ _ _ h => h) (by rfl) (fun w1 hS => by obtain ⟨c0, c1, c2⟩ := HSE.out _ hS; go_simp <;> first | done | omega | rfl | decide | (simp only [ByteArray.size_append, H32.out]; omega)) (HSI.out _ HXv15.out) ?_
                  go_simp
                  refine wpAnyT_done (by rw [HOPS.out]; kernel_rfl) ?_ _
                  have HQB := Lib.hid (HB1.out.trans (HBv15.out.mono HB1.out.size))
                  have FX := HXv15.out.f4
                  go_wp2_with fail
                  refine (HTP.out _).mono ?_
                  rintro e w3 ⟨rfl, hb⟩
                  have HB3 := Lib.hid (HQB.out.trans (hb.mono HQB.out.size))
                  clear hb FX
                  go_wp2_with fail
                  go_ret
                  exact ⟨by rw [HRE.out, HST.out]; first | rfl | (rw [← ByteArray.append_assoc]; rfl), HB3.out⟩
              · intro K' hK
                have HK := Lib.hid hK
                clear hK
                have hz := HZv10.out
                go_simp
                clear hz
                refine HK.out _ _ (.inr (HSI.out _ HXv10.out)) ?_
                clear HK
                go_simp
                refine wpAnyT_one 2 (by rw [HOPS.out]; rfl) (by rw [HOPS.out]; kernel_rfl) ?_
                intro K' hK
                have HK := Lib.hid hK
                clear hK
                go_simp
                go_at_call 26
                refine (HTR.out _).mono ?_
                rintro e v17 ⟨rfl, hb⟩
                have HBv17 := Lib.hid (HBv10.out.trans (hb.mono HBv10.out.size))
                have HXv17 := Lib.hid (HXv10.out.below hb)
                clear hb
                refine HK.out _ _ (.inr (HSI.out _ HXv17.out)) ?_
                clear HK
                go_simp
                refine wpAnyT_take 3 (.string (str A ++ (⟨#[32]⟩ : ByteArray))) (by rw [HOPS.out]; rfl) (by rw [HOPS.out]; kernel_rfl) (by exact fun _ _ _ h => h) (by rfl) (fun w1 hS => by obtain ⟨c0, c1, c2⟩ := HSE.out _ hS; go_simp <;> first | done | omega | rfl | decide | (simp only [ByteArray.size_append, H32.out]; omega)) (HSI.out _ HXv17.out) ?_
                go_simp
                refine wpAnyT_one 6 (by rw [HOPS.out]; rfl) (by rw [HOPS.out]; kernel_rfl) ?_
                intro K' hK
                have HK := Lib.hid hK
                clear hK
                go_simp
                go_at_call 26
                refine (HTB.out _).mono ?_
                rintro e v18 ⟨rfl, hb⟩
                have HBv18 := Lib.hid (HBv17.out.trans (hb.mono HBv17.out.size))
                have HXv18 := Lib.hid (HXv17.out.below hb)
                clear hb
                refine HK.out _ _ (.inr (HSI.out _ HXv18.out)) ?_
                clear HK
                go_simp
                refine wpAnyT_take 7 (.string (str A ++ (⟨#[32]⟩ : ByteArray) ++ str B)) (by rw [HOPS.out]; rfl) (by rw [HOPS.out]; kernel_rfl) (by exact fun _ _ _ h => h) (by rfl) (fun w1 hS => by obtain ⟨c0, c1, c2⟩ := HSE.out _ hS; go_simp <;> first | done | omega | rfl | decide | (simp only [ByteArray.size_append, H32.out]; omega)) (HSI.out _ HXv18.out) ?_
                go_simp
                refine wpAnyT_take 8 (.string (str A ++ (⟨#[32]⟩ : ByteArray) ++ str B ++ (⟨#[32]⟩ : ByteArray))) (by rw [HOPS.out]; rfl) (by rw [HOPS.out]; kernel_rfl) (by exact fun _ _ _ h => h) (by rfl) (fun w1 hS => by obtain ⟨c0, c1, c2⟩ := HSE.out _ hS; go_simp <;> first | done | omega | rfl | decide | (simp only [ByteArray.size_append, H32.out]; omega)) (HSI.out _ HXv18.out) ?_
                go_simp
                refine wpAnyT_take 15 (.string (str A ++ (⟨#[32]⟩ : ByteArray) ++ str B ++ (⟨#[32]⟩ : ByteArray) ++ ⟨#[112, 111, 105, 110, 116, 115]⟩)) (by rw [HOPS.out]; rfl) (by rw [HOPS.out]; kernel_rfl) (by exact fun _ _ _ h => h) (by rfl) (fun w1 hS => by obtain ⟨c0, c1, c2⟩ := HSE.out _ hS; go_simp <;> first | done | omega | rfl | decide | (simp only [ByteArray.size_append, H32.out]; omega)) (HSI.out _ HXv18.out) ?_
                go_simp
                refine wpAnyT_take 16 (.string (str A ++ (⟨#[32]⟩ : ByteArray) ++ str B ++ (⟨#[32]⟩ : ByteArray) ++ ⟨#[112, 111, 105, 110, 116, 115]⟩)) (by rw [HOPS.out]; rfl) (by rw [HOPS.out]; kernel_rfl) (by exact fun _ _ _ h => h) (by rfl) (fun w1 hS => by obtain ⟨c0, c1, c2⟩ := HSE.out _ hS; go_simp <;> first | done | omega | rfl | decide | (simp only [ByteArray.size_append, H32.out]; omega)) (HSI.out _ HXv18.out) ?_
                go_simp
                refine wpAnyT_done (by rw [HOPS.out]; kernel_rfl) ?_ _
                have HQB := Lib.hid (HB1.out.trans (HBv18.out.mono HB1.out.size))
                have FX := HXv18.out.f4
                go_wp2_with fail
                refine (HTP.out _).mono ?_
                rintro e w3 ⟨rfl, hb⟩
                have HB3 := Lib.hid (HQB.out.trans (hb.mono HQB.out.size))
                clear hb FX
                go_wp2_with fail
                go_ret
                exact ⟨by rw [HRE.out, HST.out]; first | rfl | (rw [← ByteArray.append_assoc]; rfl), HB3.out⟩
          · have hst2 := hst
            rw [if_neg (by decide)] at hst2
            have HST := Lib.hid hst2
            clear hst hst2
            go_enter Tryz.func10, Tryz.ntmps10
            go_wp2_with fail
            rw [← HWA.out]
            clear HWA
            refine (HW.out _).mono ?_
            rintro e w1 ⟨rfl, rfl⟩
            have FX := HX.out.f4
            go_wp2_with fail
            refine (HB.out _).mono ?_
            rintro e w1 ⟨rfl, rfl⟩
            go_wp2_with fail
            refine (HK.out _).mono ?_
            rintro e w1 ⟨rfl, rfl⟩
            go_wp2_with fail
            refine (HP.out _).mono ?_
            rintro e w1 ⟨rfl, rfl⟩
            go_wp2_with fail
            obtain ⟨w1, hw1⟩ : ∃ w1 : World, w1 = wa := ⟨_, rfl⟩
            subst hw1
            have HX1 := HX
            have HB1 := HBA
            clear FX HX HBA HW HB HK HP
            obtain ⟨S, hSE, hSI⟩ : ∃ S : World → Prop, (∀ w9, S w9 → w9.cell? ⟨w.heap.size, 0, none⟩ = some (.int .i64 rn) ∧ w9.cell? ⟨w.heap.size, 1, none⟩ = some (.int .i64 bn) ∧ w9.cell? ⟨w.heap.size, 2, none⟩ = some (.int .i64 1)) ∧ (∀ w9, Box w9 w.heap.size #[.int .i64 rn, .int .i64 bn, .int .i64 1, .int .i64 0] 25 → S w9) := ⟨fun w9 => Box w9 w.heap.size #[.int .i64 rn, .int .i64 bn, .int .i64 1, .int .i64 0] 25, fun _ h => ⟨h.cell rfl, h.cell rfl, h.cell rfl⟩, fun _ h => h⟩
            have HSE := Lib.hid hSE; have HSI := Lib.hid hSI
            have H32 := Lib.hid (show (⟨#[32]⟩ : ByteArray).size = 1 from rfl)
            have HBw1 := Lib.hid (below_drewN' w1.heap.size w1 1)
            have HXw1 := Lib.hid (HX1.out.below (below_drewN' w1.heap.size w1 1))
            clear hSE hSI
            refine wp_region_T2 (n := 17) S (fun _ => false) (by kernel_rfl) rfl ?_
            intro ops HOPS
            refine wpAnyT_take 0 (.pointer (some ⟨w.heap.size, 0, none⟩)) (by rw [HOPS.out]; rfl) (by rw [HOPS.out]; kernel_rfl) (by exact fun _ _ _ h => h) (by rfl) (fun w1 hS => by obtain ⟨c0, c1, c2⟩ := HSE.out _ hS; go_simp <;> first | done | omega | rfl | decide | (simp only [ByteArray.size_append, H32.out]; omega)) (HSI.out _ (HX1.out.below (below_drewN' _ w1 1))) ?_
            go_simp
            refine wpAnyT_take 1 (.int .i64 rn) (by rw [HOPS.out]; rfl) (by rw [HOPS.out]; kernel_rfl) (by exact fun _ _ _ h => h) (by rfl) (fun w1 hS => by obtain ⟨c0, c1, c2⟩ := HSE.out _ hS; go_simp <;> first | done | omega | rfl | decide | (simp only [ByteArray.size_append, H32.out]; omega)) (HSI.out _ (HX1.out.below (below_drewN' _ w1 1))) ?_
            go_simp
            refine wpAnyT_take 4 (.pointer (some ⟨w.heap.size, 1, none⟩)) (by rw [HOPS.out]; rfl) (by rw [HOPS.out]; kernel_rfl) (by exact fun _ _ _ h => h) (by rfl) (fun w1 hS => by obtain ⟨c0, c1, c2⟩ := HSE.out _ hS; go_simp <;> first | done | omega | rfl | decide | (simp only [ByteArray.size_append, H32.out]; omega)) (HSI.out _ (HX1.out.below (below_drewN' _ w1 1))) ?_
            go_simp
            refine wpAnyT_take 5 (.int .i64 bn) (by rw [HOPS.out]; rfl) (by rw [HOPS.out]; kernel_rfl) (by exact fun _ _ _ h => h) (by rfl) (fun w1 hS => by obtain ⟨c0, c1, c2⟩ := HSE.out _ hS; go_simp <;> first | done | omega | rfl | decide | (simp only [ByteArray.size_append, H32.out]; omega)) (HSI.out _ (HX1.out.below (below_drewN' _ w1 1))) ?_
            go_simp
            refine wpAnyT_take 10 (.pointer (some ⟨w.heap.size, 2, none⟩)) (by rw [HOPS.out]; rfl) (by rw [HOPS.out]; kernel_rfl) (by exact fun _ _ _ h => h) (by rfl) (fun w1 hS => by obtain ⟨c0, c1, c2⟩ := HSE.out _ hS; go_simp <;> first | done | omega | rfl | decide | (simp only [ByteArray.size_append, H32.out]; omega)) (HSI.out _ (HX1.out.below (below_drewN' _ w1 1))) ?_
            go_simp
            refine wpAnyT_take 11 (.int .i64 1) (by rw [HOPS.out]; rfl) (by rw [HOPS.out]; kernel_rfl) (by exact fun _ _ _ h => h) (by rfl) (fun w1 hS => by obtain ⟨c0, c1, c2⟩ := HSE.out _ hS; go_simp <;> first | done | omega | rfl | decide | (simp only [ByteArray.size_append, H32.out]; omega)) (HSI.out _ (HX1.out.below (below_drewN' _ w1 1))) ?_
            go_simp
            refine wpAnyT_take 12 (.int .i64 0) (by rw [HOPS.out]; rfl) (by rw [HOPS.out]; kernel_rfl) (by exact fun _ _ _ h => h) (by rfl) (fun w1 hS => by obtain ⟨c0, c1, c2⟩ := HSE.out _ hS; go_simp <;> first | done | omega | rfl | decide | (simp only [ByteArray.size_append, H32.out]; omega)) (HSI.out _ (HX1.out.below (below_drewN' _ w1 1))) ?_
            go_simp
            refine wpAnyT_two 2 9 (by rw [HOPS.out]; rfl) (by rw [HOPS.out]; rfl) (by rw [HOPS.out]; kernel_rfl) ?_ ?_
            · intro K' hK
              have HK := Lib.hid hK
              clear hK
              go_simp
              go_at_call 26
              refine (HTR.out _).mono ?_
              rintro e v1 ⟨rfl, hb⟩
              have HBv1 := Lib.hid (HBw1.out.trans (hb.mono HBw1.out.size))
              have HXv1 := Lib.hid (HXw1.out.below hb)
              clear hb
              refine HK.out _ _ (.inr (HSI.out _ HXv1.out)) ?_
              clear HK
              go_simp
              refine wpAnyT_take 3 (.string (str A ++ (⟨#[32]⟩ : ByteArray))) (by rw [HOPS.out]; rfl) (by rw [HOPS.out]; kernel_rfl) (by exact fun _ _ _ h => h) (by rfl) (fun w1 hS => by obtain ⟨c0, c1, c2⟩ := HSE.out _ hS; go_simp <;> first | done | omega | rfl | decide | (simp only [ByteArray.size_append, H32.out]; omega)) (HSI.out _ HXv1.out) ?_
              go_simp
              refine wpAnyT_two 6 9 (by rw [HOPS.out]; rfl) (by rw [HOPS.out]; rfl) (by rw [HOPS.out]; kernel_rfl) ?_ ?_
              · intro K' hK
                have HK := Lib.hid hK
                clear hK
                go_simp
                go_at_call 26
                refine (HTB.out _).mono ?_
                rintro e v2 ⟨rfl, hb⟩
                have HBv2 := Lib.hid (HBv1.out.trans (hb.mono HBv1.out.size))
                have HXv2 := Lib.hid (HXv1.out.below hb)
                clear hb
                refine HK.out _ _ (.inr (HSI.out _ HXv2.out)) ?_
                clear HK
                go_simp
                refine wpAnyT_take 7 (.string (str A ++ (⟨#[32]⟩ : ByteArray) ++ str B)) (by rw [HOPS.out]; rfl) (by rw [HOPS.out]; kernel_rfl) (by exact fun _ _ _ h => h) (by rfl) (fun w1 hS => by obtain ⟨c0, c1, c2⟩ := HSE.out _ hS; go_simp <;> first | done | omega | rfl | decide | (simp only [ByteArray.size_append, H32.out]; omega)) (HSI.out _ HXv2.out) ?_
                go_simp
                refine wpAnyT_take 8 (.string (str A ++ (⟨#[32]⟩ : ByteArray) ++ str B ++ (⟨#[32]⟩ : ByteArray))) (by rw [HOPS.out]; rfl) (by rw [HOPS.out]; kernel_rfl) (by exact fun _ _ _ h => h) (by rfl) (fun w1 hS => by obtain ⟨c0, c1, c2⟩ := HSE.out _ hS; go_simp <;> first | done | omega | rfl | decide | (simp only [ByteArray.size_append, H32.out]; omega)) (HSI.out _ HXv2.out) ?_
                go_simp
                refine wpAnyT_one 9 (by rw [HOPS.out]; rfl) (by rw [HOPS.out]; kernel_rfl) ?_
                intro K' hK
                have HK := Lib.hid hK
                clear hK
                go_simp
                refine HK.out _ _ (.inr (HSI.out _ (HXv2.out.below ((Below.refl _ _).alloc (Nat.le_refl _) _)))) ?_
                clear HK
                go_simp
                refine gen_world (p := fun wz => wpAnyT _ _ _ _ _ _ _ _ _ wz) (fun wz => Box wz v2.heap.size #[.string ⟨#[97, 108, 108]⟩, .string ⟨#[98, 101, 102, 111, 114, 101]⟩, .string ⟨#[112, 111, 105, 110, 116, 115]⟩] 9 ∧ Below v2.heap.size v2 wz) ⟨Box.new v2 #[.string ⟨#[97, 108, 108]⟩, .string ⟨#[98, 101, 102, 111, 114, 101]⟩, .string ⟨#[112, 111, 105, 110, 116, 115]⟩] 9, (Below.refl _ _).alloc (Nat.le_refl _) _⟩ ?_
                rintro v3 ⟨hbx, hbz⟩
                have HBv3 := Lib.hid (HBv2.out.trans (hbz.mono HBv2.out.size))
                have HXv3 := Lib.hid (HXv2.out.below hbz)
                have HZv3 := Lib.hid (hbx.cell (i := 0) rfl)
                clear hbx hbz
                refine wpAnyT_take 13 (.pointer (some ⟨v2.heap.size, 0, none⟩)) (by rw [HOPS.out]; rfl) (by rw [HOPS.out]; kernel_rfl) (by exact fun _ _ _ h => h) (by rfl) (fun w1 hS => by obtain ⟨c0, c1, c2⟩ := HSE.out _ hS; go_simp <;> first | done | omega | rfl | decide | (simp only [ByteArray.size_append, H32.out]; omega)) (HSI.out _ HXv3.out) ?_
                go_simp
                refine wpAnyT_one 14 (by rw [HOPS.out]; rfl) (by rw [HOPS.out]; kernel_rfl) ?_
                intro K' hK
                have HK := Lib.hid hK
                clear hK
                have hz := HZv3.out
                go_simp
                clear hz
                refine HK.out _ _ (.inr (HSI.out _ HXv3.out)) ?_
                clear HK
                go_simp
                refine wpAnyT_take 15 (.string (str A ++ (⟨#[32]⟩ : ByteArray) ++ str B ++ (⟨#[32]⟩ : ByteArray) ++ ⟨#[97, 108, 108]⟩)) (by rw [HOPS.out]; rfl) (by rw [HOPS.out]; kernel_rfl) (by exact fun _ _ _ h => h) (by rfl) (fun w1 hS => by obtain ⟨c0, c1, c2⟩ := HSE.out _ hS; go_simp <;> first | done | omega | rfl | decide | (simp only [ByteArray.size_append, H32.out]; omega)) (HSI.out _ HXv3.out) ?_
                go_simp
                refine wpAnyT_take 16 (.string (str A ++ (⟨#[32]⟩ : ByteArray) ++ str B ++ (⟨#[32]⟩ : ByteArray) ++ ⟨#[97, 108, 108]⟩)) (by rw [HOPS.out]; rfl) (by rw [HOPS.out]; kernel_rfl) (by exact fun _ _ _ h => h) (by rfl) (fun w1 hS => by obtain ⟨c0, c1, c2⟩ := HSE.out _ hS; go_simp <;> first | done | omega | rfl | decide | (simp only [ByteArray.size_append, H32.out]; omega)) (HSI.out _ HXv3.out) ?_
                go_simp
                refine wpAnyT_done (by rw [HOPS.out]; kernel_rfl) ?_ _
                have HQB := Lib.hid (HB1.out.trans (HBv3.out.mono HB1.out.size))
                have FX := HXv3.out.f4
                go_wp2_with fail
                go_ret
                exact ⟨by rw [HRE.out, HST.out]; rfl, HQB.out⟩
              · intro K' hK
                have HK := Lib.hid hK
                clear hK
                go_simp
                refine HK.out _ _ (.inr (HSI.out _ (HXv1.out.below ((Below.refl _ _).alloc (Nat.le_refl _) _)))) ?_
                clear HK
                go_simp
                refine gen_world (p := fun wz => wpAnyT _ _ _ _ _ _ _ _ _ wz) (fun wz => Box wz v1.heap.size #[.string ⟨#[97, 108, 108]⟩, .string ⟨#[98, 101, 102, 111, 114, 101]⟩, .string ⟨#[112, 111, 105, 110, 116, 115]⟩] 9 ∧ Below v1.heap.size v1 wz) ⟨Box.new v1 #[.string ⟨#[97, 108, 108]⟩, .string ⟨#[98, 101, 102, 111, 114, 101]⟩, .string ⟨#[112, 111, 105, 110, 116, 115]⟩] 9, (Below.refl _ _).alloc (Nat.le_refl _) _⟩ ?_
                rintro v5 ⟨hbx, hbz⟩
                have HBv5 := Lib.hid (HBv1.out.trans (hbz.mono HBv1.out.size))
                have HXv5 := Lib.hid (HXv1.out.below hbz)
                have HZv5 := Lib.hid (hbx.cell (i := 0) rfl)
                clear hbx hbz
                refine wpAnyT_take 13 (.pointer (some ⟨v1.heap.size, 0, none⟩)) (by rw [HOPS.out]; rfl) (by rw [HOPS.out]; kernel_rfl) (by exact fun _ _ _ h => h) (by rfl) (fun w1 hS => by obtain ⟨c0, c1, c2⟩ := HSE.out _ hS; go_simp <;> first | done | omega | rfl | decide | (simp only [ByteArray.size_append, H32.out]; omega)) (HSI.out _ HXv5.out) ?_
                go_simp
                refine wpAnyT_two 6 14 (by rw [HOPS.out]; rfl) (by rw [HOPS.out]; rfl) (by rw [HOPS.out]; kernel_rfl) ?_ ?_
                · intro K' hK
                  have HK := Lib.hid hK
                  clear hK
                  go_simp
                  go_at_call 26
                  refine (HTB.out _).mono ?_
                  rintro e v6 ⟨rfl, hb⟩
                  have HBv6 := Lib.hid (HBv5.out.trans (hb.mono HBv5.out.size))
                  have HXv6 := Lib.hid (HXv5.out.below hb)
                  have HZv6 := Lib.hid ((hb.cell (p := ⟨v1.heap.size, 0, none⟩) (cell_lt HZv5.out)).trans HZv5.out)
                  clear hb
                  refine HK.out _ _ (.inr (HSI.out _ HXv6.out)) ?_
                  clear HK
                  go_simp
                  refine wpAnyT_take 7 (.string (str A ++ (⟨#[32]⟩ : ByteArray) ++ str B)) (by rw [HOPS.out]; rfl) (by rw [HOPS.out]; kernel_rfl) (by exact fun _ _ _ h => h) (by rfl) (fun w1 hS => by obtain ⟨c0, c1, c2⟩ := HSE.out _ hS; go_simp <;> first | done | omega | rfl | decide | (simp only [ByteArray.size_append, H32.out]; omega)) (HSI.out _ HXv6.out) ?_
                  go_simp
                  refine wpAnyT_take 8 (.string (str A ++ (⟨#[32]⟩ : ByteArray) ++ str B ++ (⟨#[32]⟩ : ByteArray))) (by rw [HOPS.out]; rfl) (by rw [HOPS.out]; kernel_rfl) (by exact fun _ _ _ h => h) (by rfl) (fun w1 hS => by obtain ⟨c0, c1, c2⟩ := HSE.out _ hS; go_simp <;> first | done | omega | rfl | decide | (simp only [ByteArray.size_append, H32.out]; omega)) (HSI.out _ HXv6.out) ?_
                  go_simp
                  refine wpAnyT_one 14 (by rw [HOPS.out]; rfl) (by rw [HOPS.out]; kernel_rfl) ?_
                  intro K' hK
                  have HK := Lib.hid hK
                  clear hK
                  have hz := HZv6.out
                  go_simp
                  clear hz
                  refine HK.out _ _ (.inr (HSI.out _ HXv6.out)) ?_
                  clear HK
                  go_simp
                  refine wpAnyT_take 15 (.string (str A ++ (⟨#[32]⟩ : ByteArray) ++ str B ++ (⟨#[32]⟩ : ByteArray) ++ ⟨#[97, 108, 108]⟩)) (by rw [HOPS.out]; rfl) (by rw [HOPS.out]; kernel_rfl) (by exact fun _ _ _ h => h) (by rfl) (fun w1 hS => by obtain ⟨c0, c1, c2⟩ := HSE.out _ hS; go_simp <;> first | done | omega | rfl | decide | (simp only [ByteArray.size_append, H32.out]; omega)) (HSI.out _ HXv6.out) ?_
                  go_simp
                  refine wpAnyT_take 16 (.string (str A ++ (⟨#[32]⟩ : ByteArray) ++ str B ++ (⟨#[32]⟩ : ByteArray) ++ ⟨#[97, 108, 108]⟩)) (by rw [HOPS.out]; rfl) (by rw [HOPS.out]; kernel_rfl) (by exact fun _ _ _ h => h) (by rfl) (fun w1 hS => by obtain ⟨c0, c1, c2⟩ := HSE.out _ hS; go_simp <;> first | done | omega | rfl | decide | (simp only [ByteArray.size_append, H32.out]; omega)) (HSI.out _ HXv6.out) ?_
                  go_simp
                  refine wpAnyT_done (by rw [HOPS.out]; kernel_rfl) ?_ _
                  have HQB := Lib.hid (HB1.out.trans (HBv6.out.mono HB1.out.size))
                  have FX := HXv6.out.f4
                  go_wp2_with fail
                  go_ret
                  exact ⟨by rw [HRE.out, HST.out]; rfl, HQB.out⟩
                · intro K' hK
                  have HK := Lib.hid hK
                  clear hK
                  have hz := HZv5.out
                  go_simp
                  clear hz
                  refine HK.out _ _ (.inr (HSI.out _ HXv5.out)) ?_
                  clear HK
                  go_simp
                  refine wpAnyT_one 6 (by rw [HOPS.out]; rfl) (by rw [HOPS.out]; kernel_rfl) ?_
                  intro K' hK
                  have HK := Lib.hid hK
                  clear hK
                  go_simp
                  go_at_call 26
                  refine (HTB.out _).mono ?_
                  rintro e v9 ⟨rfl, hb⟩
                  have HBv9 := Lib.hid (HBv5.out.trans (hb.mono HBv5.out.size))
                  have HXv9 := Lib.hid (HXv5.out.below hb)
                  clear hb
                  refine HK.out _ _ (.inr (HSI.out _ HXv9.out)) ?_
                  clear HK
                  go_simp
                  refine wpAnyT_take 7 (.string (str A ++ (⟨#[32]⟩ : ByteArray) ++ str B)) (by rw [HOPS.out]; rfl) (by rw [HOPS.out]; kernel_rfl) (by exact fun _ _ _ h => h) (by rfl) (fun w1 hS => by obtain ⟨c0, c1, c2⟩ := HSE.out _ hS; go_simp <;> first | done | omega | rfl | decide | (simp only [ByteArray.size_append, H32.out]; omega)) (HSI.out _ HXv9.out) ?_
                  go_simp
                  refine wpAnyT_take 8 (.string (str A ++ (⟨#[32]⟩ : ByteArray) ++ str B ++ (⟨#[32]⟩ : ByteArray))) (by rw [HOPS.out]; rfl) (by rw [HOPS.out]; kernel_rfl) (by exact fun _ _ _ h => h) (by rfl) (fun w1 hS => by obtain ⟨c0, c1, c2⟩ := HSE.out _ hS; go_simp <;> first | done | omega | rfl | decide | (simp only [ByteArray.size_append, H32.out]; omega)) (HSI.out _ HXv9.out) ?_
                  go_simp
                  refine wpAnyT_take 15 (.string (str A ++ (⟨#[32]⟩ : ByteArray) ++ str B ++ (⟨#[32]⟩ : ByteArray) ++ ⟨#[97, 108, 108]⟩)) (by rw [HOPS.out]; rfl) (by rw [HOPS.out]; kernel_rfl) (by exact fun _ _ _ h => h) (by rfl) (fun w1 hS => by obtain ⟨c0, c1, c2⟩ := HSE.out _ hS; go_simp <;> first | done | omega | rfl | decide | (simp only [ByteArray.size_append, H32.out]; omega)) (HSI.out _ HXv9.out) ?_
                  go_simp
                  refine wpAnyT_take 16 (.string (str A ++ (⟨#[32]⟩ : ByteArray) ++ str B ++ (⟨#[32]⟩ : ByteArray) ++ ⟨#[97, 108, 108]⟩)) (by rw [HOPS.out]; rfl) (by rw [HOPS.out]; kernel_rfl) (by exact fun _ _ _ h => h) (by rfl) (fun w1 hS => by obtain ⟨c0, c1, c2⟩ := HSE.out _ hS; go_simp <;> first | done | omega | rfl | decide | (simp only [ByteArray.size_append, H32.out]; omega)) (HSI.out _ HXv9.out) ?_
                  go_simp
                  refine wpAnyT_done (by rw [HOPS.out]; kernel_rfl) ?_ _
                  have HQB := Lib.hid (HB1.out.trans (HBv9.out.mono HB1.out.size))
                  have FX := HXv9.out.f4
                  go_wp2_with fail
                  go_ret
                  exact ⟨by rw [HRE.out, HST.out]; rfl, HQB.out⟩
            · intro K' hK
              have HK := Lib.hid hK
              clear hK
              go_simp
              refine HK.out _ _ (.inr (HSI.out _ (HX1.out.below (below_drewN ((Below.refl _ _).alloc (Nat.le_refl _) _) 1)))) ?_
              clear HK
              go_simp
              refine gen_world (p := fun wz => wpAnyT _ _ _ _ _ _ _ _ _ wz) (fun wz => Box wz w1.heap.size #[.string ⟨#[97, 108, 108]⟩, .string ⟨#[98, 101, 102, 111, 114, 101]⟩, .string ⟨#[112, 111, 105, 110, 116, 115]⟩] 9 ∧ Below w1.heap.size w1 wz) ⟨Box.new w1 #[.string ⟨#[97, 108, 108]⟩, .string ⟨#[98, 101, 102, 111, 114, 101]⟩, .string ⟨#[112, 111, 105, 110, 116, 115]⟩] 9, below_drewN ((Below.refl _ _).alloc (Nat.le_refl _) _) 1⟩ ?_
              rintro v10 ⟨hbx, hbz⟩
              have HBv10 := Lib.hid (hbz)
              have HXv10 := Lib.hid (HX1.out.below hbz)
              have HZv10 := Lib.hid (hbx.cell (i := 0) rfl)
              clear hbx hbz
              refine wpAnyT_take 13 (.pointer (some ⟨w1.heap.size, 0, none⟩)) (by rw [HOPS.out]; rfl) (by rw [HOPS.out]; kernel_rfl) (by exact fun _ _ _ h => h) (by rfl) (fun w1 hS => by obtain ⟨c0, c1, c2⟩ := HSE.out _ hS; go_simp <;> first | done | omega | rfl | decide | (simp only [ByteArray.size_append, H32.out]; omega)) (HSI.out _ HXv10.out) ?_
              go_simp
              refine wpAnyT_two 2 14 (by rw [HOPS.out]; rfl) (by rw [HOPS.out]; rfl) (by rw [HOPS.out]; kernel_rfl) ?_ ?_
              · intro K' hK
                have HK := Lib.hid hK
                clear hK
                go_simp
                go_at_call 26
                refine (HTR.out _).mono ?_
                rintro e v11 ⟨rfl, hb⟩
                have HBv11 := Lib.hid (HBv10.out.trans (hb.mono HBv10.out.size))
                have HXv11 := Lib.hid (HXv10.out.below hb)
                have HZv11 := Lib.hid ((hb.cell (p := ⟨w1.heap.size, 0, none⟩) (cell_lt HZv10.out)).trans HZv10.out)
                clear hb
                refine HK.out _ _ (.inr (HSI.out _ HXv11.out)) ?_
                clear HK
                go_simp
                refine wpAnyT_take 3 (.string (str A ++ (⟨#[32]⟩ : ByteArray))) (by rw [HOPS.out]; rfl) (by rw [HOPS.out]; kernel_rfl) (by exact fun _ _ _ h => h) (by rfl) (fun w1 hS => by obtain ⟨c0, c1, c2⟩ := HSE.out _ hS; go_simp <;> first | done | omega | rfl | decide | (simp only [ByteArray.size_append, H32.out]; omega)) (HSI.out _ HXv11.out) ?_
                go_simp
                refine wpAnyT_two 6 14 (by rw [HOPS.out]; rfl) (by rw [HOPS.out]; rfl) (by rw [HOPS.out]; kernel_rfl) ?_ ?_
                · intro K' hK
                  have HK := Lib.hid hK
                  clear hK
                  go_simp
                  go_at_call 26
                  refine (HTB.out _).mono ?_
                  rintro e v12 ⟨rfl, hb⟩
                  have HBv12 := Lib.hid (HBv11.out.trans (hb.mono HBv11.out.size))
                  have HXv12 := Lib.hid (HXv11.out.below hb)
                  have HZv12 := Lib.hid ((hb.cell (p := ⟨w1.heap.size, 0, none⟩) (cell_lt HZv11.out)).trans HZv11.out)
                  clear hb
                  refine HK.out _ _ (.inr (HSI.out _ HXv12.out)) ?_
                  clear HK
                  go_simp
                  refine wpAnyT_take 7 (.string (str A ++ (⟨#[32]⟩ : ByteArray) ++ str B)) (by rw [HOPS.out]; rfl) (by rw [HOPS.out]; kernel_rfl) (by exact fun _ _ _ h => h) (by rfl) (fun w1 hS => by obtain ⟨c0, c1, c2⟩ := HSE.out _ hS; go_simp <;> first | done | omega | rfl | decide | (simp only [ByteArray.size_append, H32.out]; omega)) (HSI.out _ HXv12.out) ?_
                  go_simp
                  refine wpAnyT_take 8 (.string (str A ++ (⟨#[32]⟩ : ByteArray) ++ str B ++ (⟨#[32]⟩ : ByteArray))) (by rw [HOPS.out]; rfl) (by rw [HOPS.out]; kernel_rfl) (by exact fun _ _ _ h => h) (by rfl) (fun w1 hS => by obtain ⟨c0, c1, c2⟩ := HSE.out _ hS; go_simp <;> first | done | omega | rfl | decide | (simp only [ByteArray.size_append, H32.out]; omega)) (HSI.out _ HXv12.out) ?_
                  go_simp
                  refine wpAnyT_one 14 (by rw [HOPS.out]; rfl) (by rw [HOPS.out]; kernel_rfl) ?_
                  intro K' hK
                  have HK := Lib.hid hK
                  clear hK
                  have hz := HZv12.out
                  go_simp
                  clear hz
                  refine HK.out _ _ (.inr (HSI.out _ HXv12.out)) ?_
                  clear HK
                  go_simp
                  refine wpAnyT_take 15 (.string (str A ++ (⟨#[32]⟩ : ByteArray) ++ str B ++ (⟨#[32]⟩ : ByteArray) ++ ⟨#[97, 108, 108]⟩)) (by rw [HOPS.out]; rfl) (by rw [HOPS.out]; kernel_rfl) (by exact fun _ _ _ h => h) (by rfl) (fun w1 hS => by obtain ⟨c0, c1, c2⟩ := HSE.out _ hS; go_simp <;> first | done | omega | rfl | decide | (simp only [ByteArray.size_append, H32.out]; omega)) (HSI.out _ HXv12.out) ?_
                  go_simp
                  refine wpAnyT_take 16 (.string (str A ++ (⟨#[32]⟩ : ByteArray) ++ str B ++ (⟨#[32]⟩ : ByteArray) ++ ⟨#[97, 108, 108]⟩)) (by rw [HOPS.out]; rfl) (by rw [HOPS.out]; kernel_rfl) (by exact fun _ _ _ h => h) (by rfl) (fun w1 hS => by obtain ⟨c0, c1, c2⟩ := HSE.out _ hS; go_simp <;> first | done | omega | rfl | decide | (simp only [ByteArray.size_append, H32.out]; omega)) (HSI.out _ HXv12.out) ?_
                  go_simp
                  refine wpAnyT_done (by rw [HOPS.out]; kernel_rfl) ?_ _
                  have HQB := Lib.hid (HB1.out.trans (HBv12.out.mono HB1.out.size))
                  have FX := HXv12.out.f4
                  go_wp2_with fail
                  go_ret
                  exact ⟨by rw [HRE.out, HST.out]; rfl, HQB.out⟩
                · intro K' hK
                  have HK := Lib.hid hK
                  clear hK
                  have hz := HZv11.out
                  go_simp
                  clear hz
                  refine HK.out _ _ (.inr (HSI.out _ HXv11.out)) ?_
                  clear HK
                  go_simp
                  refine wpAnyT_one 6 (by rw [HOPS.out]; rfl) (by rw [HOPS.out]; kernel_rfl) ?_
                  intro K' hK
                  have HK := Lib.hid hK
                  clear hK
                  go_simp
                  go_at_call 26
                  refine (HTB.out _).mono ?_
                  rintro e v15 ⟨rfl, hb⟩
                  have HBv15 := Lib.hid (HBv11.out.trans (hb.mono HBv11.out.size))
                  have HXv15 := Lib.hid (HXv11.out.below hb)
                  clear hb
                  refine HK.out _ _ (.inr (HSI.out _ HXv15.out)) ?_
                  clear HK
                  go_simp
                  refine wpAnyT_take 7 (.string (str A ++ (⟨#[32]⟩ : ByteArray) ++ str B)) (by rw [HOPS.out]; rfl) (by rw [HOPS.out]; kernel_rfl) (by exact fun _ _ _ h => h) (by rfl) (fun w1 hS => by obtain ⟨c0, c1, c2⟩ := HSE.out _ hS; go_simp <;> first | done | omega | rfl | decide | (simp only [ByteArray.size_append, H32.out]; omega)) (HSI.out _ HXv15.out) ?_
                  go_simp
                  refine wpAnyT_take 8 (.string (str A ++ (⟨#[32]⟩ : ByteArray) ++ str B ++ (⟨#[32]⟩ : ByteArray))) (by rw [HOPS.out]; rfl) (by rw [HOPS.out]; kernel_rfl) (by exact fun _ _ _ h => h) (by rfl) (fun w1 hS => by obtain ⟨c0, c1, c2⟩ := HSE.out _ hS; go_simp <;> first | done | omega | rfl | decide | (simp only [ByteArray.size_append, H32.out]; omega)) (HSI.out _ HXv15.out) ?_
                  go_simp
                  refine wpAnyT_take 15 (.string (str A ++ (⟨#[32]⟩ : ByteArray) ++ str B ++ (⟨#[32]⟩ : ByteArray) ++ ⟨#[97, 108, 108]⟩)) (by rw [HOPS.out]; rfl) (by rw [HOPS.out]; kernel_rfl) (by exact fun _ _ _ h => h) (by rfl) (fun w1 hS => by obtain ⟨c0, c1, c2⟩ := HSE.out _ hS; go_simp <;> first | done | omega | rfl | decide | (simp only [ByteArray.size_append, H32.out]; omega)) (HSI.out _ HXv15.out) ?_
                  go_simp
                  refine wpAnyT_take 16 (.string (str A ++ (⟨#[32]⟩ : ByteArray) ++ str B ++ (⟨#[32]⟩ : ByteArray) ++ ⟨#[97, 108, 108]⟩)) (by rw [HOPS.out]; rfl) (by rw [HOPS.out]; kernel_rfl) (by exact fun _ _ _ h => h) (by rfl) (fun w1 hS => by obtain ⟨c0, c1, c2⟩ := HSE.out _ hS; go_simp <;> first | done | omega | rfl | decide | (simp only [ByteArray.size_append, H32.out]; omega)) (HSI.out _ HXv15.out) ?_
                  go_simp
                  refine wpAnyT_done (by rw [HOPS.out]; kernel_rfl) ?_ _
                  have HQB := Lib.hid (HB1.out.trans (HBv15.out.mono HB1.out.size))
                  have FX := HXv15.out.f4
                  go_wp2_with fail
                  go_ret
                  exact ⟨by rw [HRE.out, HST.out]; rfl, HQB.out⟩
              · intro K' hK
                have HK := Lib.hid hK
                clear hK
                have hz := HZv10.out
                go_simp
                clear hz
                refine HK.out _ _ (.inr (HSI.out _ HXv10.out)) ?_
                clear HK
                go_simp
                refine wpAnyT_one 2 (by rw [HOPS.out]; rfl) (by rw [HOPS.out]; kernel_rfl) ?_
                intro K' hK
                have HK := Lib.hid hK
                clear hK
                go_simp
                go_at_call 26
                refine (HTR.out _).mono ?_
                rintro e v17 ⟨rfl, hb⟩
                have HBv17 := Lib.hid (HBv10.out.trans (hb.mono HBv10.out.size))
                have HXv17 := Lib.hid (HXv10.out.below hb)
                clear hb
                refine HK.out _ _ (.inr (HSI.out _ HXv17.out)) ?_
                clear HK
                go_simp
                refine wpAnyT_take 3 (.string (str A ++ (⟨#[32]⟩ : ByteArray))) (by rw [HOPS.out]; rfl) (by rw [HOPS.out]; kernel_rfl) (by exact fun _ _ _ h => h) (by rfl) (fun w1 hS => by obtain ⟨c0, c1, c2⟩ := HSE.out _ hS; go_simp <;> first | done | omega | rfl | decide | (simp only [ByteArray.size_append, H32.out]; omega)) (HSI.out _ HXv17.out) ?_
                go_simp
                refine wpAnyT_one 6 (by rw [HOPS.out]; rfl) (by rw [HOPS.out]; kernel_rfl) ?_
                intro K' hK
                have HK := Lib.hid hK
                clear hK
                go_simp
                go_at_call 26
                refine (HTB.out _).mono ?_
                rintro e v18 ⟨rfl, hb⟩
                have HBv18 := Lib.hid (HBv17.out.trans (hb.mono HBv17.out.size))
                have HXv18 := Lib.hid (HXv17.out.below hb)
                clear hb
                refine HK.out _ _ (.inr (HSI.out _ HXv18.out)) ?_
                clear HK
                go_simp
                refine wpAnyT_take 7 (.string (str A ++ (⟨#[32]⟩ : ByteArray) ++ str B)) (by rw [HOPS.out]; rfl) (by rw [HOPS.out]; kernel_rfl) (by exact fun _ _ _ h => h) (by rfl) (fun w1 hS => by obtain ⟨c0, c1, c2⟩ := HSE.out _ hS; go_simp <;> first | done | omega | rfl | decide | (simp only [ByteArray.size_append, H32.out]; omega)) (HSI.out _ HXv18.out) ?_
                go_simp
                refine wpAnyT_take 8 (.string (str A ++ (⟨#[32]⟩ : ByteArray) ++ str B ++ (⟨#[32]⟩ : ByteArray))) (by rw [HOPS.out]; rfl) (by rw [HOPS.out]; kernel_rfl) (by exact fun _ _ _ h => h) (by rfl) (fun w1 hS => by obtain ⟨c0, c1, c2⟩ := HSE.out _ hS; go_simp <;> first | done | omega | rfl | decide | (simp only [ByteArray.size_append, H32.out]; omega)) (HSI.out _ HXv18.out) ?_
                go_simp
                refine wpAnyT_take 15 (.string (str A ++ (⟨#[32]⟩ : ByteArray) ++ str B ++ (⟨#[32]⟩ : ByteArray) ++ ⟨#[97, 108, 108]⟩)) (by rw [HOPS.out]; rfl) (by rw [HOPS.out]; kernel_rfl) (by exact fun _ _ _ h => h) (by rfl) (fun w1 hS => by obtain ⟨c0, c1, c2⟩ := HSE.out _ hS; go_simp <;> first | done | omega | rfl | decide | (simp only [ByteArray.size_append, H32.out]; omega)) (HSI.out _ HXv18.out) ?_
                go_simp
                refine wpAnyT_take 16 (.string (str A ++ (⟨#[32]⟩ : ByteArray) ++ str B ++ (⟨#[32]⟩ : ByteArray) ++ ⟨#[97, 108, 108]⟩)) (by rw [HOPS.out]; rfl) (by rw [HOPS.out]; kernel_rfl) (by exact fun _ _ _ h => h) (by rfl) (fun w1 hS => by obtain ⟨c0, c1, c2⟩ := HSE.out _ hS; go_simp <;> first | done | omega | rfl | decide | (simp only [ByteArray.size_append, H32.out]; omega)) (HSI.out _ HXv18.out) ?_
                go_simp
                refine wpAnyT_done (by rw [HOPS.out]; kernel_rfl) ?_ _
                have HQB := Lib.hid (HB1.out.trans (HBv18.out.mono HB1.out.size))
                have FX := HXv18.out.f4
                go_wp2_with fail
                go_ret
                exact ⟨by rw [HRE.out, HST.out]; rfl, HQB.out⟩
          · have hst2 := hst
            rw [if_neg (by decide)] at hst2
            have HST := Lib.hid hst2
            clear hst hst2
            go_enter Tryz.func10, Tryz.ntmps10
            go_wp2_with fail
            rw [← HWA.out]
            clear HWA
            refine (HW.out _).mono ?_
            rintro e w1 ⟨rfl, rfl⟩
            have FX := HX.out.f4
            go_wp2_with fail
            refine (HB.out _).mono ?_
            rintro e w1 ⟨rfl, rfl⟩
            go_wp2_with fail
            refine (HK.out _).mono ?_
            rintro e w1 ⟨rfl, rfl⟩
            go_wp2_with fail
            refine (HP.out _).mono ?_
            rintro e w1 ⟨rfl, rfl⟩
            go_wp2_with fail
            obtain ⟨w1, hw1⟩ : ∃ w1 : World, w1 = wa := ⟨_, rfl⟩
            subst hw1
            have HX1 := HX
            have HB1 := HBA
            clear FX HX HBA HW HB HK HP
            obtain ⟨S, hSE, hSI⟩ : ∃ S : World → Prop, (∀ w9, S w9 → w9.cell? ⟨w.heap.size, 0, none⟩ = some (.int .i64 rn) ∧ w9.cell? ⟨w.heap.size, 1, none⟩ = some (.int .i64 bn) ∧ w9.cell? ⟨w.heap.size, 2, none⟩ = some (.int .i64 2)) ∧ (∀ w9, Box w9 w.heap.size #[.int .i64 rn, .int .i64 bn, .int .i64 2, .int .i64 0] 25 → S w9) := ⟨fun w9 => Box w9 w.heap.size #[.int .i64 rn, .int .i64 bn, .int .i64 2, .int .i64 0] 25, fun _ h => ⟨h.cell rfl, h.cell rfl, h.cell rfl⟩, fun _ h => h⟩
            have HSE := Lib.hid hSE; have HSI := Lib.hid hSI
            have H32 := Lib.hid (show (⟨#[32]⟩ : ByteArray).size = 1 from rfl)
            have HBw1 := Lib.hid (below_drewN' w1.heap.size w1 1)
            have HXw1 := Lib.hid (HX1.out.below (below_drewN' w1.heap.size w1 1))
            clear hSE hSI
            refine wp_region_T2 (n := 17) S (fun _ => false) (by kernel_rfl) rfl ?_
            intro ops HOPS
            refine wpAnyT_take 0 (.pointer (some ⟨w.heap.size, 0, none⟩)) (by rw [HOPS.out]; rfl) (by rw [HOPS.out]; kernel_rfl) (by exact fun _ _ _ h => h) (by rfl) (fun w1 hS => by obtain ⟨c0, c1, c2⟩ := HSE.out _ hS; go_simp <;> first | done | omega | rfl | decide | (simp only [ByteArray.size_append, H32.out]; omega)) (HSI.out _ (HX1.out.below (below_drewN' _ w1 1))) ?_
            go_simp
            refine wpAnyT_take 1 (.int .i64 rn) (by rw [HOPS.out]; rfl) (by rw [HOPS.out]; kernel_rfl) (by exact fun _ _ _ h => h) (by rfl) (fun w1 hS => by obtain ⟨c0, c1, c2⟩ := HSE.out _ hS; go_simp <;> first | done | omega | rfl | decide | (simp only [ByteArray.size_append, H32.out]; omega)) (HSI.out _ (HX1.out.below (below_drewN' _ w1 1))) ?_
            go_simp
            refine wpAnyT_take 4 (.pointer (some ⟨w.heap.size, 1, none⟩)) (by rw [HOPS.out]; rfl) (by rw [HOPS.out]; kernel_rfl) (by exact fun _ _ _ h => h) (by rfl) (fun w1 hS => by obtain ⟨c0, c1, c2⟩ := HSE.out _ hS; go_simp <;> first | done | omega | rfl | decide | (simp only [ByteArray.size_append, H32.out]; omega)) (HSI.out _ (HX1.out.below (below_drewN' _ w1 1))) ?_
            go_simp
            refine wpAnyT_take 5 (.int .i64 bn) (by rw [HOPS.out]; rfl) (by rw [HOPS.out]; kernel_rfl) (by exact fun _ _ _ h => h) (by rfl) (fun w1 hS => by obtain ⟨c0, c1, c2⟩ := HSE.out _ hS; go_simp <;> first | done | omega | rfl | decide | (simp only [ByteArray.size_append, H32.out]; omega)) (HSI.out _ (HX1.out.below (below_drewN' _ w1 1))) ?_
            go_simp
            refine wpAnyT_take 10 (.pointer (some ⟨w.heap.size, 2, none⟩)) (by rw [HOPS.out]; rfl) (by rw [HOPS.out]; kernel_rfl) (by exact fun _ _ _ h => h) (by rfl) (fun w1 hS => by obtain ⟨c0, c1, c2⟩ := HSE.out _ hS; go_simp <;> first | done | omega | rfl | decide | (simp only [ByteArray.size_append, H32.out]; omega)) (HSI.out _ (HX1.out.below (below_drewN' _ w1 1))) ?_
            go_simp
            refine wpAnyT_take 11 (.int .i64 2) (by rw [HOPS.out]; rfl) (by rw [HOPS.out]; kernel_rfl) (by exact fun _ _ _ h => h) (by rfl) (fun w1 hS => by obtain ⟨c0, c1, c2⟩ := HSE.out _ hS; go_simp <;> first | done | omega | rfl | decide | (simp only [ByteArray.size_append, H32.out]; omega)) (HSI.out _ (HX1.out.below (below_drewN' _ w1 1))) ?_
            go_simp
            refine wpAnyT_take 12 (.int .i64 1) (by rw [HOPS.out]; rfl) (by rw [HOPS.out]; kernel_rfl) (by exact fun _ _ _ h => h) (by rfl) (fun w1 hS => by obtain ⟨c0, c1, c2⟩ := HSE.out _ hS; go_simp <;> first | done | omega | rfl | decide | (simp only [ByteArray.size_append, H32.out]; omega)) (HSI.out _ (HX1.out.below (below_drewN' _ w1 1))) ?_
            go_simp
            refine wpAnyT_two 2 9 (by rw [HOPS.out]; rfl) (by rw [HOPS.out]; rfl) (by rw [HOPS.out]; kernel_rfl) ?_ ?_
            · intro K' hK
              have HK := Lib.hid hK
              clear hK
              go_simp
              go_at_call 26
              refine (HTR.out _).mono ?_
              rintro e v1 ⟨rfl, hb⟩
              have HBv1 := Lib.hid (HBw1.out.trans (hb.mono HBw1.out.size))
              have HXv1 := Lib.hid (HXw1.out.below hb)
              clear hb
              refine HK.out _ _ (.inr (HSI.out _ HXv1.out)) ?_
              clear HK
              go_simp
              refine wpAnyT_take 3 (.string (str A ++ (⟨#[32]⟩ : ByteArray))) (by rw [HOPS.out]; rfl) (by rw [HOPS.out]; kernel_rfl) (by exact fun _ _ _ h => h) (by rfl) (fun w1 hS => by obtain ⟨c0, c1, c2⟩ := HSE.out _ hS; go_simp <;> first | done | omega | rfl | decide | (simp only [ByteArray.size_append, H32.out]; omega)) (HSI.out _ HXv1.out) ?_
              go_simp
              refine wpAnyT_two 6 9 (by rw [HOPS.out]; rfl) (by rw [HOPS.out]; rfl) (by rw [HOPS.out]; kernel_rfl) ?_ ?_
              · intro K' hK
                have HK := Lib.hid hK
                clear hK
                go_simp
                go_at_call 26
                refine (HTB.out _).mono ?_
                rintro e v2 ⟨rfl, hb⟩
                have HBv2 := Lib.hid (HBv1.out.trans (hb.mono HBv1.out.size))
                have HXv2 := Lib.hid (HXv1.out.below hb)
                clear hb
                refine HK.out _ _ (.inr (HSI.out _ HXv2.out)) ?_
                clear HK
                go_simp
                refine wpAnyT_take 7 (.string (str A ++ (⟨#[32]⟩ : ByteArray) ++ str B)) (by rw [HOPS.out]; rfl) (by rw [HOPS.out]; kernel_rfl) (by exact fun _ _ _ h => h) (by rfl) (fun w1 hS => by obtain ⟨c0, c1, c2⟩ := HSE.out _ hS; go_simp <;> first | done | omega | rfl | decide | (simp only [ByteArray.size_append, H32.out]; omega)) (HSI.out _ HXv2.out) ?_
                go_simp
                refine wpAnyT_take 8 (.string (str A ++ (⟨#[32]⟩ : ByteArray) ++ str B ++ (⟨#[32]⟩ : ByteArray))) (by rw [HOPS.out]; rfl) (by rw [HOPS.out]; kernel_rfl) (by exact fun _ _ _ h => h) (by rfl) (fun w1 hS => by obtain ⟨c0, c1, c2⟩ := HSE.out _ hS; go_simp <;> first | done | omega | rfl | decide | (simp only [ByteArray.size_append, H32.out]; omega)) (HSI.out _ HXv2.out) ?_
                go_simp
                refine wpAnyT_one 9 (by rw [HOPS.out]; rfl) (by rw [HOPS.out]; kernel_rfl) ?_
                intro K' hK
                have HK := Lib.hid hK
                clear hK
                go_simp
                refine HK.out _ _ (.inr (HSI.out _ (HXv2.out.below ((Below.refl _ _).alloc (Nat.le_refl _) _)))) ?_
                clear HK
                go_simp
                refine gen_world (p := fun wz => wpAnyT _ _ _ _ _ _ _ _ _ wz) (fun wz => Box wz v2.heap.size #[.string ⟨#[97, 108, 108]⟩, .string ⟨#[98, 101, 102, 111, 114, 101]⟩, .string ⟨#[112, 111, 105, 110, 116, 115]⟩] 9 ∧ Below v2.heap.size v2 wz) ⟨Box.new v2 #[.string ⟨#[97, 108, 108]⟩, .string ⟨#[98, 101, 102, 111, 114, 101]⟩, .string ⟨#[112, 111, 105, 110, 116, 115]⟩] 9, (Below.refl _ _).alloc (Nat.le_refl _) _⟩ ?_
                rintro v3 ⟨hbx, hbz⟩
                have HBv3 := Lib.hid (HBv2.out.trans (hbz.mono HBv2.out.size))
                have HXv3 := Lib.hid (HXv2.out.below hbz)
                have HZv3 := Lib.hid (hbx.cell (i := 1) rfl)
                clear hbx hbz
                refine wpAnyT_take 13 (.pointer (some ⟨v2.heap.size, 1, none⟩)) (by rw [HOPS.out]; rfl) (by rw [HOPS.out]; kernel_rfl) (by exact fun _ _ _ h => h) (by rfl) (fun w1 hS => by obtain ⟨c0, c1, c2⟩ := HSE.out _ hS; go_simp <;> first | done | omega | rfl | decide | (simp only [ByteArray.size_append, H32.out]; omega)) (HSI.out _ HXv3.out) ?_
                go_simp
                refine wpAnyT_one 14 (by rw [HOPS.out]; rfl) (by rw [HOPS.out]; kernel_rfl) ?_
                intro K' hK
                have HK := Lib.hid hK
                clear hK
                have hz := HZv3.out
                go_simp
                clear hz
                refine HK.out _ _ (.inr (HSI.out _ HXv3.out)) ?_
                clear HK
                go_simp
                refine wpAnyT_take 15 (.string (str A ++ (⟨#[32]⟩ : ByteArray) ++ str B ++ (⟨#[32]⟩ : ByteArray) ++ ⟨#[98, 101, 102, 111, 114, 101]⟩)) (by rw [HOPS.out]; rfl) (by rw [HOPS.out]; kernel_rfl) (by exact fun _ _ _ h => h) (by rfl) (fun w1 hS => by obtain ⟨c0, c1, c2⟩ := HSE.out _ hS; go_simp <;> first | done | omega | rfl | decide | (simp only [ByteArray.size_append, H32.out]; omega)) (HSI.out _ HXv3.out) ?_
                go_simp
                refine wpAnyT_take 16 (.string (str A ++ (⟨#[32]⟩ : ByteArray) ++ str B ++ (⟨#[32]⟩ : ByteArray) ++ ⟨#[98, 101, 102, 111, 114, 101]⟩)) (by rw [HOPS.out]; rfl) (by rw [HOPS.out]; kernel_rfl) (by exact fun _ _ _ h => h) (by rfl) (fun w1 hS => by obtain ⟨c0, c1, c2⟩ := HSE.out _ hS; go_simp <;> first | done | omega | rfl | decide | (simp only [ByteArray.size_append, H32.out]; omega)) (HSI.out _ HXv3.out) ?_
                go_simp
                refine wpAnyT_done (by rw [HOPS.out]; kernel_rfl) ?_ _
                have HQB := Lib.hid (HB1.out.trans (HBv3.out.mono HB1.out.size))
                have FX := HXv3.out.f4
                go_wp2_with fail
                go_ret
                exact ⟨by rw [HRE.out, HST.out]; rfl, HQB.out⟩
              · intro K' hK
                have HK := Lib.hid hK
                clear hK
                go_simp
                refine HK.out _ _ (.inr (HSI.out _ (HXv1.out.below ((Below.refl _ _).alloc (Nat.le_refl _) _)))) ?_
                clear HK
                go_simp
                refine gen_world (p := fun wz => wpAnyT _ _ _ _ _ _ _ _ _ wz) (fun wz => Box wz v1.heap.size #[.string ⟨#[97, 108, 108]⟩, .string ⟨#[98, 101, 102, 111, 114, 101]⟩, .string ⟨#[112, 111, 105, 110, 116, 115]⟩] 9 ∧ Below v1.heap.size v1 wz) ⟨Box.new v1 #[.string ⟨#[97, 108, 108]⟩, .string ⟨#[98, 101, 102, 111, 114, 101]⟩, .string ⟨#[112, 111, 105, 110, 116, 115]⟩] 9, (Below.refl _ _).alloc (Nat.le_refl _) _⟩ ?_
                rintro v5 ⟨hbx, hbz⟩
                have HBv5 := Lib.hid (HBv1.out.trans (hbz.mono HBv1.out.size))
                have HXv5 := Lib.hid (HXv1.out.below hbz)
                have HZv5 := Lib.hid (hbx.cell (i := 1) rfl)
                clear hbx hbz
                refine wpAnyT_take 13 (.pointer (some ⟨v1.heap.size, 1, none⟩)) (by rw [HOPS.out]; rfl) (by rw [HOPS.out]; kernel_rfl) (by exact fun _ _ _ h => h) (by rfl) (fun w1 hS => by obtain ⟨c0, c1, c2⟩ := HSE.out _ hS; go_simp <;> first | done | omega | rfl | decide | (simp only [ByteArray.size_append, H32.out]; omega)) (HSI.out _ HXv5.out) ?_
                go_simp
                refine wpAnyT_two 6 14 (by rw [HOPS.out]; rfl) (by rw [HOPS.out]; rfl) (by rw [HOPS.out]; kernel_rfl) ?_ ?_
                · intro K' hK
                  have HK := Lib.hid hK
                  clear hK
                  go_simp
                  go_at_call 26
                  refine (HTB.out _).mono ?_
                  rintro e v6 ⟨rfl, hb⟩
                  have HBv6 := Lib.hid (HBv5.out.trans (hb.mono HBv5.out.size))
                  have HXv6 := Lib.hid (HXv5.out.below hb)
                  have HZv6 := Lib.hid ((hb.cell (p := ⟨v1.heap.size, 1, none⟩) (cell_lt HZv5.out)).trans HZv5.out)
                  clear hb
                  refine HK.out _ _ (.inr (HSI.out _ HXv6.out)) ?_
                  clear HK
                  go_simp
                  refine wpAnyT_take 7 (.string (str A ++ (⟨#[32]⟩ : ByteArray) ++ str B)) (by rw [HOPS.out]; rfl) (by rw [HOPS.out]; kernel_rfl) (by exact fun _ _ _ h => h) (by rfl) (fun w1 hS => by obtain ⟨c0, c1, c2⟩ := HSE.out _ hS; go_simp <;> first | done | omega | rfl | decide | (simp only [ByteArray.size_append, H32.out]; omega)) (HSI.out _ HXv6.out) ?_
                  go_simp
                  refine wpAnyT_take 8 (.string (str A ++ (⟨#[32]⟩ : ByteArray) ++ str B ++ (⟨#[32]⟩ : ByteArray))) (by rw [HOPS.out]; rfl) (by rw [HOPS.out]; kernel_rfl) (by exact fun _ _ _ h => h) (by rfl) (fun w1 hS => by obtain ⟨c0, c1, c2⟩ := HSE.out _ hS; go_simp <;> first | done | omega | rfl | decide | (simp only [ByteArray.size_append, H32.out]; omega)) (HSI.out _ HXv6.out) ?_
                  go_simp
                  refine wpAnyT_one 14 (by rw [HOPS.out]; rfl) (by rw [HOPS.out]; kernel_rfl) ?_
                  intro K' hK
                  have HK := Lib.hid hK
                  clear hK
                  have hz := HZv6.out
                  go_simp
                  clear hz
                  refine HK.out _ _ (.inr (HSI.out _ HXv6.out)) ?_
                  clear HK
                  go_simp
                  refine wpAnyT_take 15 (.string (str A ++ (⟨#[32]⟩ : ByteArray) ++ str B ++ (⟨#[32]⟩ : ByteArray) ++ ⟨#[98, 101, 102, 111, 114, 101]⟩)) (by rw [HOPS.out]; rfl) (by rw [HOPS.out]; kernel_rfl) (by exact fun _ _ _ h => h) (by rfl) (fun w1 hS => by obtain ⟨c0, c1, c2⟩ := HSE.out _ hS; go_simp <;> first | done | omega | rfl | decide | (simp only [ByteArray.size_append, H32.out]; omega)) (HSI.out _ HXv6.out) ?_
                  go_simp
                  refine wpAnyT_take 16 (.string (str A ++ (⟨#[32]⟩ : ByteArray) ++ str B ++ (⟨#[32]⟩ : ByteArray) ++ ⟨#[98, 101, 102, 111, 114, 101]⟩)) (by rw [HOPS.out]; rfl) (by rw [HOPS.out]; kernel_rfl) (by exact fun _ _ _ h => h) (by rfl) (fun w1 hS => by obtain ⟨c0, c1, c2⟩ := HSE.out _ hS; go_simp <;> first | done | omega | rfl | decide | (simp only [ByteArray.size_append, H32.out]; omega)) (HSI.out _ HXv6.out) ?_
                  go_simp
                  refine wpAnyT_done (by rw [HOPS.out]; kernel_rfl) ?_ _
                  have HQB := Lib.hid (HB1.out.trans (HBv6.out.mono HB1.out.size))
                  have FX := HXv6.out.f4
                  go_wp2_with fail
                  go_ret
                  exact ⟨by rw [HRE.out, HST.out]; rfl, HQB.out⟩
                · intro K' hK
                  have HK := Lib.hid hK
                  clear hK
                  have hz := HZv5.out
                  go_simp
                  clear hz
                  refine HK.out _ _ (.inr (HSI.out _ HXv5.out)) ?_
                  clear HK
                  go_simp
                  refine wpAnyT_one 6 (by rw [HOPS.out]; rfl) (by rw [HOPS.out]; kernel_rfl) ?_
                  intro K' hK
                  have HK := Lib.hid hK
                  clear hK
                  go_simp
                  go_at_call 26
                  refine (HTB.out _).mono ?_
                  rintro e v9 ⟨rfl, hb⟩
                  have HBv9 := Lib.hid (HBv5.out.trans (hb.mono HBv5.out.size))
                  have HXv9 := Lib.hid (HXv5.out.below hb)
                  clear hb
                  refine HK.out _ _ (.inr (HSI.out _ HXv9.out)) ?_
                  clear HK
                  go_simp
                  refine wpAnyT_take 7 (.string (str A ++ (⟨#[32]⟩ : ByteArray) ++ str B)) (by rw [HOPS.out]; rfl) (by rw [HOPS.out]; kernel_rfl) (by exact fun _ _ _ h => h) (by rfl) (fun w1 hS => by obtain ⟨c0, c1, c2⟩ := HSE.out _ hS; go_simp <;> first | done | omega | rfl | decide | (simp only [ByteArray.size_append, H32.out]; omega)) (HSI.out _ HXv9.out) ?_
                  go_simp
                  refine wpAnyT_take 8 (.string (str A ++ (⟨#[32]⟩ : ByteArray) ++ str B ++ (⟨#[32]⟩ : ByteArray))) (by rw [HOPS.out]; rfl) (by rw [HOPS.out]; kernel_rfl) (by exact fun _ _ _ h => h) (by rfl) (fun w1 hS => by obtain ⟨c0, c1, c2⟩ := HSE.out _ hS; go_simp <;> first | done | omega | rfl | decide | (simp only [ByteArray.size_append, H32.out]; omega)) (HSI.out _ HXv9.out) ?_
                  go_simp
                  refine wpAnyT_take 15 (.string (str A ++ (⟨#[32]⟩ : ByteArray) ++ str B ++ (⟨#[32]⟩ : ByteArray) ++ ⟨#[98, 101, 102, 111, 114, 101]⟩)) (by rw [HOPS.out]; rfl) (by rw [HOPS.out]; kernel_rfl) (by exact fun _ _ _ h => h) (by rfl) (fun w1 hS => by obtain ⟨c0, c1, c2⟩ := HSE.out _ hS; go_simp <;> first | done | omega | rfl | decide | (simp only [ByteArray.size_append, H32.out]; omega)) (HSI.out _ HXv9.out) ?_
                  go_simp
                  refine wpAnyT_take 16 (.string (str A ++ (⟨#[32]⟩ : ByteArray) ++ str B ++ (⟨#[32]⟩ : ByteArray) ++ ⟨#[98, 101, 102, 111, 114, 101]⟩)) (by rw [HOPS.out]; rfl) (by rw [HOPS.out]; kernel_rfl) (by exact fun _ _ _ h => h) (by rfl) (fun w1 hS => by obtain ⟨c0, c1, c2⟩ := HSE.out _ hS; go_simp <;> first | done | omega | rfl | decide | (simp only [ByteArray.size_append, H32.out]; omega)) (HSI.out _ HXv9.out) ?_
                  go_simp
                  refine wpAnyT_done (by rw [HOPS.out]; kernel_rfl) ?_ _
                  have HQB := Lib.hid (HB1.out.trans (HBv9.out.mono HB1.out.size))
                  have FX := HXv9.out.f4
                  go_wp2_with fail
                  go_ret
                  exact ⟨by rw [HRE.out, HST.out]; rfl, HQB.out⟩
            · intro K' hK
              have HK := Lib.hid hK
              clear hK
              go_simp
              refine HK.out _ _ (.inr (HSI.out _ (HX1.out.below (below_drewN ((Below.refl _ _).alloc (Nat.le_refl _) _) 1)))) ?_
              clear HK
              go_simp
              refine gen_world (p := fun wz => wpAnyT _ _ _ _ _ _ _ _ _ wz) (fun wz => Box wz w1.heap.size #[.string ⟨#[97, 108, 108]⟩, .string ⟨#[98, 101, 102, 111, 114, 101]⟩, .string ⟨#[112, 111, 105, 110, 116, 115]⟩] 9 ∧ Below w1.heap.size w1 wz) ⟨Box.new w1 #[.string ⟨#[97, 108, 108]⟩, .string ⟨#[98, 101, 102, 111, 114, 101]⟩, .string ⟨#[112, 111, 105, 110, 116, 115]⟩] 9, below_drewN ((Below.refl _ _).alloc (Nat.le_refl _) _) 1⟩ ?_
              rintro v10 ⟨hbx, hbz⟩
              have HBv10 := Lib.hid (hbz)
              have HXv10 := Lib.hid (HX1.out.below hbz)
              have HZv10 := Lib.hid (hbx.cell (i := 1) rfl)
              clear hbx hbz
              refine wpAnyT_take 13 (.pointer (some ⟨w1.heap.size, 1, none⟩)) (by rw [HOPS.out]; rfl) (by rw [HOPS.out]; kernel_rfl) (by exact fun _ _ _ h => h) (by rfl) (fun w1 hS => by obtain ⟨c0, c1, c2⟩ := HSE.out _ hS; go_simp <;> first | done | omega | rfl | decide | (simp only [ByteArray.size_append, H32.out]; omega)) (HSI.out _ HXv10.out) ?_
              go_simp
              refine wpAnyT_two 2 14 (by rw [HOPS.out]; rfl) (by rw [HOPS.out]; rfl) (by rw [HOPS.out]; kernel_rfl) ?_ ?_
              · intro K' hK
                have HK := Lib.hid hK
                clear hK
                go_simp
                go_at_call 26
                refine (HTR.out _).mono ?_
                rintro e v11 ⟨rfl, hb⟩
                have HBv11 := Lib.hid (HBv10.out.trans (hb.mono HBv10.out.size))
                have HXv11 := Lib.hid (HXv10.out.below hb)
                have HZv11 := Lib.hid ((hb.cell (p := ⟨w1.heap.size, 1, none⟩) (cell_lt HZv10.out)).trans HZv10.out)
                clear hb
                refine HK.out _ _ (.inr (HSI.out _ HXv11.out)) ?_
                clear HK
                go_simp
                refine wpAnyT_take 3 (.string (str A ++ (⟨#[32]⟩ : ByteArray))) (by rw [HOPS.out]; rfl) (by rw [HOPS.out]; kernel_rfl) (by exact fun _ _ _ h => h) (by rfl) (fun w1 hS => by obtain ⟨c0, c1, c2⟩ := HSE.out _ hS; go_simp <;> first | done | omega | rfl | decide | (simp only [ByteArray.size_append, H32.out]; omega)) (HSI.out _ HXv11.out) ?_
                go_simp
                refine wpAnyT_two 6 14 (by rw [HOPS.out]; rfl) (by rw [HOPS.out]; rfl) (by rw [HOPS.out]; kernel_rfl) ?_ ?_
                · intro K' hK
                  have HK := Lib.hid hK
                  clear hK
                  go_simp
                  go_at_call 26
                  refine (HTB.out _).mono ?_
                  rintro e v12 ⟨rfl, hb⟩
                  have HBv12 := Lib.hid (HBv11.out.trans (hb.mono HBv11.out.size))
                  have HXv12 := Lib.hid (HXv11.out.below hb)
                  have HZv12 := Lib.hid ((hb.cell (p := ⟨w1.heap.size, 1, none⟩) (cell_lt HZv11.out)).trans HZv11.out)
                  clear hb
                  refine HK.out _ _ (.inr (HSI.out _ HXv12.out)) ?_
                  clear HK
                  go_simp
                  refine wpAnyT_take 7 (.string (str A ++ (⟨#[32]⟩ : ByteArray) ++ str B)) (by rw [HOPS.out]; rfl) (by rw [HOPS.out]; kernel_rfl) (by exact fun _ _ _ h => h) (by rfl) (fun w1 hS => by obtain ⟨c0, c1, c2⟩ := HSE.out _ hS; go_simp <;> first | done | omega | rfl | decide | (simp only [ByteArray.size_append, H32.out]; omega)) (HSI.out _ HXv12.out) ?_
                  go_simp
                  refine wpAnyT_take 8 (.string (str A ++ (⟨#[32]⟩ : ByteArray) ++ str B ++ (⟨#[32]⟩ : ByteArray))) (by rw [HOPS.out]; rfl) (by rw [HOPS.out]; kernel_rfl) (by exact fun _ _ _ h => h) (by rfl) (fun w1 hS => by obtain ⟨c0, c1, c2⟩ := HSE.out _ hS; go_simp <;> first | done | omega | rfl | decide | (simp only [ByteArray.size_append, H32.out]; omega)) (HSI.out _ HXv12.out) ?_
                  go_simp
                  refine wpAnyT_one 14 (by rw [HOPS.out]; rfl) (by rw [HOPS.out]; kernel_rfl) ?_
                  intro K' hK
                  have HK := Lib.hid hK
                  clear hK
                  have hz := HZv12.out
                  go_simp
                  clear hz
                  refine HK.out _ _ (.inr (HSI.out _ HXv12.out)) ?_
                  clear HK
                  go_simp
                  refine wpAnyT_take 15 (.string (str A ++ (⟨#[32]⟩ : ByteArray) ++ str B ++ (⟨#[32]⟩ : ByteArray) ++ ⟨#[98, 101, 102, 111, 114, 101]⟩)) (by rw [HOPS.out]; rfl) (by rw [HOPS.out]; kernel_rfl) (by exact fun _ _ _ h => h) (by rfl) (fun w1 hS => by obtain ⟨c0, c1, c2⟩ := HSE.out _ hS; go_simp <;> first | done | omega | rfl | decide | (simp only [ByteArray.size_append, H32.out]; omega)) (HSI.out _ HXv12.out) ?_
                  go_simp
                  refine wpAnyT_take 16 (.string (str A ++ (⟨#[32]⟩ : ByteArray) ++ str B ++ (⟨#[32]⟩ : ByteArray) ++ ⟨#[98, 101, 102, 111, 114, 101]⟩)) (by rw [HOPS.out]; rfl) (by rw [HOPS.out]; kernel_rfl) (by exact fun _ _ _ h => h) (by rfl) (fun w1 hS => by obtain ⟨c0, c1, c2⟩ := HSE.out _ hS; go_simp <;> first | done | omega | rfl | decide | (simp only [ByteArray.size_append, H32.out]; omega)) (HSI.out _ HXv12.out) ?_
                  go_simp
                  refine wpAnyT_done (by rw [HOPS.out]; kernel_rfl) ?_ _
                  have HQB := Lib.hid (HB1.out.trans (HBv12.out.mono HB1.out.size))
                  have FX := HXv12.out.f4
                  go_wp2_with fail
                  go_ret
                  exact ⟨by rw [HRE.out, HST.out]; rfl, HQB.out⟩
                · intro K' hK
                  have HK := Lib.hid hK
                  clear hK
                  have hz := HZv11.out
                  go_simp
                  clear hz
                  refine HK.out _ _ (.inr (HSI.out _ HXv11.out)) ?_
                  clear HK
                  go_simp
                  refine wpAnyT_one 6 (by rw [HOPS.out]; rfl) (by rw [HOPS.out]; kernel_rfl) ?_
                  intro K' hK
                  have HK := Lib.hid hK
                  clear hK
                  go_simp
                  go_at_call 26
                  refine (HTB.out _).mono ?_
                  rintro e v15 ⟨rfl, hb⟩
                  have HBv15 := Lib.hid (HBv11.out.trans (hb.mono HBv11.out.size))
                  have HXv15 := Lib.hid (HXv11.out.below hb)
                  clear hb
                  refine HK.out _ _ (.inr (HSI.out _ HXv15.out)) ?_
                  clear HK
                  go_simp
                  refine wpAnyT_take 7 (.string (str A ++ (⟨#[32]⟩ : ByteArray) ++ str B)) (by rw [HOPS.out]; rfl) (by rw [HOPS.out]; kernel_rfl) (by exact fun _ _ _ h => h) (by rfl) (fun w1 hS => by obtain ⟨c0, c1, c2⟩ := HSE.out _ hS; go_simp <;> first | done | omega | rfl | decide | (simp only [ByteArray.size_append, H32.out]; omega)) (HSI.out _ HXv15.out) ?_
                  go_simp
                  refine wpAnyT_take 8 (.string (str A ++ (⟨#[32]⟩ : ByteArray) ++ str B ++ (⟨#[32]⟩ : ByteArray))) (by rw [HOPS.out]; rfl) (by rw [HOPS.out]; kernel_rfl) (by exact fun _ _ _ h => h) (by rfl) (fun w1 hS => by obtain ⟨c0, c1, c2⟩ := HSE.out _ hS; go_simp <;> first | done | omega | rfl | decide | (simp only [ByteArray.size_append, H32.out]; omega)) (HSI.out _ HXv15.out) ?_
                  go_simp
                  refine wpAnyT_take 15 (.string (str A ++ (⟨#[32]⟩ : ByteArray) ++ str B ++ (⟨#[32]⟩ : ByteArray) ++ ⟨#[98, 101, 102, 111, 114, 101]⟩)) (by rw [HOPS.out]; rfl) (by rw [HOPS.out]; kernel_rfl) (by exact fun _ _ _ h => h) (by rfl) (fun w1 hS => by obtain ⟨c0, c1, c2⟩ := HSE.out _ hS; go_simp <;> first | done | omega | rfl | decide | (simp only [ByteArray.size_append, H32.out]; omega)) (HSI.out _ HXv15.out) ?_
                  go_simp
                  refine wpAnyT_take 16 (.string (str A ++ (⟨#[32]⟩ : ByteArray) ++ str B ++ (⟨#[32]⟩ : ByteArray) ++ ⟨#[98, 101, 102, 111, 114, 101]⟩)) (by rw [HOPS.out]; rfl) (by rw [HOPS.out]; kernel_rfl) (by exact fun _ _ _ h => h) (by rfl) (fun w1 hS => by obtain ⟨c0, c1, c2⟩ := HSE.out _ hS; go_simp <;> first | done | omega | rfl | decide | (simp only [ByteArray.size_append, H32.out]; omega)) (HSI.out _ HXv15.out) ?_
                  go_simp
                  refine wpAnyT_done (by rw [HOPS.out]; kernel_rfl) ?_ _
                  have HQB := Lib.hid (HB1.out.trans (HBv15.out.mono HB1.out.size))
                  have FX := HXv15.out.f4
                  go_wp2_with fail
                  go_ret
                  exact ⟨by rw [HRE.out, HST.out]; rfl, HQB.out⟩
              · intro K' hK
                have HK := Lib.hid hK
                clear hK
                have hz := HZv10.out
                go_simp
                clear hz
                refine HK.out _ _ (.inr (HSI.out _ HXv10.out)) ?_
                clear HK
                go_simp
                refine wpAnyT_one 2 (by rw [HOPS.out]; rfl) (by rw [HOPS.out]; kernel_rfl) ?_
                intro K' hK
                have HK := Lib.hid hK
                clear hK
                go_simp
                go_at_call 26
                refine (HTR.out _).mono ?_
                rintro e v17 ⟨rfl, hb⟩
                have HBv17 := Lib.hid (HBv10.out.trans (hb.mono HBv10.out.size))
                have HXv17 := Lib.hid (HXv10.out.below hb)
                clear hb
                refine HK.out _ _ (.inr (HSI.out _ HXv17.out)) ?_
                clear HK
                go_simp
                refine wpAnyT_take 3 (.string (str A ++ (⟨#[32]⟩ : ByteArray))) (by rw [HOPS.out]; rfl) (by rw [HOPS.out]; kernel_rfl) (by exact fun _ _ _ h => h) (by rfl) (fun w1 hS => by obtain ⟨c0, c1, c2⟩ := HSE.out _ hS; go_simp <;> first | done | omega | rfl | decide | (simp only [ByteArray.size_append, H32.out]; omega)) (HSI.out _ HXv17.out) ?_
                go_simp
                refine wpAnyT_one 6 (by rw [HOPS.out]; rfl) (by rw [HOPS.out]; kernel_rfl) ?_
                intro K' hK
                have HK := Lib.hid hK
                clear hK
                go_simp
                go_at_call 26
                refine (HTB.out _).mono ?_
                rintro e v18 ⟨rfl, hb⟩
                have HBv18 := Lib.hid (HBv17.out.trans (hb.mono HBv17.out.size))
                have HXv18 := Lib.hid (HXv17.out.below hb)
                clear hb
                refine HK.out _ _ (.inr (HSI.out _ HXv18.out)) ?_
                clear HK
                go_simp
                refine wpAnyT_take 7 (.string (str A ++ (⟨#[32]⟩ : ByteArray) ++ str B)) (by rw [HOPS.out]; rfl) (by rw [HOPS.out]; kernel_rfl) (by exact fun _ _ _ h => h) (by rfl) (fun w1 hS => by obtain ⟨c0, c1, c2⟩ := HSE.out _ hS; go_simp <;> first | done | omega | rfl | decide | (simp only [ByteArray.size_append, H32.out]; omega)) (HSI.out _ HXv18.out) ?_
                go_simp
                refine wpAnyT_take 8 (.string (str A ++ (⟨#[32]⟩ : ByteArray) ++ str B ++ (⟨#[32]⟩ : ByteArray))) (by rw [HOPS.out]; rfl) (by rw [HOPS.out]; kernel_rfl) (by exact fun _ _ _ h => h) (by rfl) (fun w1 hS => by obtain ⟨c0, c1, c2⟩ := HSE.out _ hS; go_simp <;> first | done | omega | rfl | decide | (simp only [ByteArray.size_append, H32.out]; omega)) (HSI.out _ HXv18.out) ?_
                go_simp
                refine wpAnyT_take 15 (.string (str A ++ (⟨#[32]⟩ : ByteArray) ++ str B ++ (⟨#[32]⟩ : ByteArray) ++ ⟨#[98, 101, 102, 111, 114, 101]⟩)) (by rw [HOPS.out]; rfl) (by rw [HOPS.out]; kernel_rfl) (by exact fun _ _ _ h => h) (by rfl) (fun w1 hS => by obtain ⟨c0, c1, c2⟩ := HSE.out _ hS; go_simp <;> first | done | omega | rfl | decide | (simp only [ByteArray.size_append, H32.out]; omega)) (HSI.out _ HXv18.out) ?_
                go_simp
                refine wpAnyT_take 16 (.string (str A ++ (⟨#[32]⟩ : ByteArray) ++ str B ++ (⟨#[32]⟩ : ByteArray) ++ ⟨#[98, 101, 102, 111, 114, 101]⟩)) (by rw [HOPS.out]; rfl) (by rw [HOPS.out]; kernel_rfl) (by exact fun _ _ _ h => h) (by rfl) (fun w1 hS => by obtain ⟨c0, c1, c2⟩ := HSE.out _ hS; go_simp <;> first | done | omega | rfl | decide | (simp only [ByteArray.size_append, H32.out]; omega)) (HSI.out _ HXv18.out) ?_
                go_simp
                refine wpAnyT_done (by rw [HOPS.out]; kernel_rfl) ?_ _
                have HQB := Lib.hid (HB1.out.trans (HBv18.out.mono HB1.out.size))
                have FX := HXv18.out.f4
                go_wp2_with fail
                go_ret
                exact ⟨by rw [HRE.out, HST.out]; rfl, HQB.out⟩
end Go.Proofs.YtalgdeieejpelaaGreatDoor

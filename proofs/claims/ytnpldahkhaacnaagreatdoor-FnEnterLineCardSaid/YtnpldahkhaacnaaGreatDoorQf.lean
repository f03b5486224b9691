/- Walks: FinishText, EnterLine, both sides. -/
import Derived.Test.YtnpldahkhaacnaaGreatDoorQe
namespace Go.Proofs.YtnpldahkhaacnaaGreatDoor
open Go.RowKit Go.Sort
set_option linter.unusedVariables false
set_option maxRecDepth 100000

theorem str_two {a c : List UInt8} : str a ++ str [32] ++ str c = str (a ++ [32] ++ c) := by rw [str_add, str_add]
set_option maxHeartbeats 2000000 in
theorem implFinText_any (b c t : Int) (w : World) (ht : ∀ w', Below w.heap.size w w' → Pow w') :
    Calls Tryz.prog 33 #[.agg #[.int .i64 b, .int .i64 c, .int .i64 t]] w fun e w' => e = .returned (.string (str (finS b c t))) ∧ Below w.heap.size w w' := by
  have HI := Lib.hid (fun w' => implIsFinish_any b c t w')
  obtain ⟨wa, hwa, XR, hba, hsa⟩ := one_box w #[.int .i64 b, .int .i64 c, .int .i64 t] 53
  have HWA := Lib.hid hwa
  have HX := Lib.hid XR
  have HBA := Lib.hid hba
  clear XR hba hsa hwa
  cases hv : finW b c t with
  | false =>
    rw [hv] at HI
    have HS := Lib.hid (show finS b c t = [] from by unfold finS; rw [hv]; rfl)
    clear hv
    go_enter Tryz.func33, Tryz.ntmps33
    go_wp2_with fail
    rw [← HWA.out]
    clear HWA
    refine (HI.out _).mono ?_
    rintro e w1 ⟨rfl, hb⟩
    have HB1 := Lib.hid (HBA.out.trans (hb.mono HBA.out.size))
    clear hb
    go_wp2_with fail
    go_ret
    exact ⟨by rw [HS.out]; rfl, HB1.out⟩
  | true =>
    rw [hv] at HI
    obtain ⟨q1, q2, q3⟩ := finW_ok hv
    have HS := Lib.hid (show finS b c t = finL b c t from by unfold finS; rw [hv]; rfl)
    obtain ⟨bn, rfl⟩ := int_up b q1.1
    obtain ⟨tn, rfl⟩ := int_up t q3.1
    have z1 : (str (dec bn)).size ≤ 2 := by rw [str_size]; exact dec_len 1 bn (by omega)
    have z2 : (str (codeL c)).size ≤ 3 := by rw [str_size]; exact codeL_len c
    have z3 : (str (timeL tn)).size ≤ 20 := by rw [str_size]; exact timeL_len (by omega)
    have HN := Lib.hid (fun w' (hb : Below w.heap.size w w') => text_any bn (by omega) w' (ht w' hb))
    have HC := Lib.hid (fun w' => implCodeQ_any c w')
    have HT := Lib.hid (fun w' (hb : Below w.heap.size w w') => implTime_any tn (by omega) w' (fun w2 h2 => ht w2 (hb.trans (h2.mono hb.size))))
    have HE := Lib.hid (show str (finL (bn : Int) c (tn : Int)) = if c = 0 then str (dec bn) ++ str [32] ++ str (codeL c) ++ (str [32] ++ str (timeL tn)) else str (dec bn) ++ str [32] ++ str (codeL c) from by unfold finL; rw [Int.toNat_natCast, Int.toNat_natCast]; split <;> simp [str_add])
    generalize dec bn = A at *
    generalize codeL c = B at *
    generalize timeL tn = D at *
    clear hv q1 q3 ht
    go_enter Tryz.func33, Tryz.ntmps33
    go_wp2_with fail
    rw [← HWA.out]
    clear HWA
    refine (HI.out _).mono ?_
    rintro e w1 ⟨rfl, hb⟩
    have HB1 := Lib.hid (HBA.out.trans (hb.mono HBA.out.size))
    have HX1 := Lib.hid (HX.out.below hb)
    have HNX := Lib.hid (fun d os => HN.out _ (HB1.out.trans ((below_regrown w1 d os).mono HB1.out.size)))
    have HCX := Lib.hid (fun d os => HC.out (grow (redrawn w1 d) os))
    clear hb HI HN HC HX HBA
    go_wp2_with fail
    have kq0 := cell_regrown (HX1.out.cell (i := 0) rfl)
    have kq1 := cell_regrown (HX1.out.cell (i := 1) rfl)
    refine wp_region_quiet_below (by kernel_rfl) (by kernel_rfl) ?_
    repeat (first | go_big_quiet_step ((first | (go_at_call 32; (with_reducible exact Calls.regrown_of (HNX.out _ _))) | (go_at_call 62; (with_reducible exact Calls.regrown_of (HCX.out _ _))))) | quiet_step ((first | (go_at_call 32; (with_reducible exact Calls.regrown_of (HNX.out _ _))) | (go_at_call 62; (with_reducible exact Calls.regrown_of (HCX.out _ _))))))
    refine wpQuiet_nil ?_
    intro _ hw'
    obtain ⟨⟨dq, osq⟩, hw''⟩ := hw'
    subst hw''
    obtain ⟨wq, hq0, hq⟩ : ∃ wnew, wnew = grow (redrawn w1 dq) osq ∧ Below w1.heap.size w1 wnew := ⟨_, rfl, below_regrown _ _ _⟩
    rw [← hq0]
    clear hq0 kq0 kq1
    have HB2 := Lib.hid (HB1.out.trans (hq.mono HB1.out.size))
    have HX2 := Lib.hid (HX1.out.below hq)
    clear hq HNX HCX HX1
    have FX := HX2.out.f3
    by_cases h0 : c = 0
    · have HE2 := HE.out
      rw [if_pos h0] at HE2
      replace HE2 := Lib.hid HE2
      subst h0
      go_wp2_with fail
      refine (HT.out _ HB2.out).mono ?_
      rintro e w3 ⟨rfl, hb⟩
      have HB3 := Lib.hid (HB2.out.trans (hb.mono HB2.out.size))
      clear hb FX
      go_wp2_with fail
      go_ret
      exact ⟨by rw [HS.out, HE2.out]; rfl, HB3.out⟩
    · have HE2 := HE.out
      rw [if_neg h0] at HE2
      replace HE2 := Lib.hid HE2
      have h0b : (c == 0) = false := by simp [h0]
      clear h0
      go_wp2_with fail
      go_ret
      exact ⟨by rw [HS.out, HE2.out]; rfl, HB2.out⟩
set_option maxHeartbeats 2000000 in
theorem specFinText_any (b c t : Int) (w : World) :
    Calls Tryz.prog 37 #[.agg #[.int .i64 b, .int .i64 c, .int .i64 t]] w fun e w' => e = .returned (.string (str (finS b c t))) ∧ Below w.heap.size w w' := by
  have HI := Lib.hid (fun w' => specIsFinish_any b c t w')
  obtain ⟨wa, hwa, XR, hba, hsa⟩ := one_box w #[.int .i64 b, .int .i64 c, .int .i64 t] 53
  have HWA := Lib.hid hwa
  have HX := Lib.hid XR
  have HBA := Lib.hid hba
  clear XR hba hsa hwa
  cases hv : finW b c t with
  | false =>
    rw [hv] at HI
    have HS := Lib.hid (show finS b c t = [] from by unfold finS; rw [hv]; rfl)
    clear hv
    go_enter Tryz.func37, Tryz.ntmps37
    go_wp2_with fail
    rw [← HWA.out]
    clear HWA
    refine (HI.out _).mono ?_
    rintro e w1 ⟨rfl, hb⟩
    have HB1 := Lib.hid (HBA.out.trans (hb.mono HBA.out.size))
    clear hb
    go_wp2_with fail
    go_ret
    exact ⟨by rw [HS.out]; rfl, HB1.out⟩
  | true =>
    rw [hv] at HI
    obtain ⟨q1, q2, q3⟩ := finW_ok hv
    have HS := Lib.hid (show finS b c t = finL b c t from by unfold finS; rw [hv]; rfl)
    obtain ⟨bn, rfl⟩ := int_up b q1.1
    obtain ⟨tn, rfl⟩ := int_up t q3.1
    have z1 : (str (dec bn)).size ≤ 2 := by rw [str_size]; exact dec_len 1 bn (by omega)
    have z2 : (str (codeL c)).size ≤ 3 := by rw [str_size]; exact codeL_len c
    have z3 : (str (timeL tn)).size ≤ 20 := by rw [str_size]; exact timeL_len (by omega)
    have HN := Lib.hid (fun w' (hb : Below w.heap.size w w') => number_any bn bn (Nat.le_refl _) (by omega) w')
    have HC := Lib.hid (fun w' => specCodeQ_any c w')
    have HT := Lib.hid (fun w' (hb : Below w.heap.size w w') => specTime_any tn (by omega) w')
    have HE := Lib.hid (show str (finL (bn : Int) c (tn : Int)) = if c = 0 then str (dec bn) ++ str [32] ++ str (codeL c) ++ (str [32] ++ str (timeL tn)) else str (dec bn) ++ str [32] ++ str (codeL c) from by unfold finL; rw [Int.toNat_natCast, Int.toNat_natCast]; split <;> simp [str_add])
    generalize dec bn = A at *
    generalize codeL c = B at *
    generalize timeL tn = D at *
    clear hv q1 q3
    go_enter Tryz.func37, Tryz.ntmps37
    go_wp2_with fail
    rw [← HWA.out]
    clear HWA
    refine (HI.out _).mono ?_
    rintro e w1 ⟨rfl, hb⟩
    have HB1 := Lib.hid (HBA.out.trans (hb.mono HBA.out.size))
    have HX1 := Lib.hid (HX.out.below hb)
    have HNX := Lib.hid (fun d os => HN.out _ (HB1.out.trans ((below_regrown w1 d os).mono HB1.out.size)))
    have HCX := Lib.hid (fun d os => HC.out (grow (redrawn w1 d) os))
    clear hb HI HN HC HX HBA
    go_wp2_with fail
    have kq0 := cell_regrown (HX1.out.cell (i := 0) rfl)
    have kq1 := cell_regrown (HX1.out.cell (i := 1) rfl)
    refine wp_region_quiet_below (by kernel_rfl) (by kernel_rfl) ?_
    repeat (first | go_big_quiet_step ((first | (go_at_call 36; (with_reducible exact Calls.regrown_of (HNX.out _ _))) | (go_at_call 64; (with_reducible exact Calls.regrown_of (HCX.out _ _))))) | quiet_step ((first | (go_at_call 36; (with_reducible exact Calls.regrown_of (HNX.out _ _))) | (go_at_call 64; (with_reducible exact Calls.regrown_of (HCX.out _ _))))))
    refine wpQuiet_nil ?_
    intro _ hw'
    obtain ⟨⟨dq, osq⟩, hw''⟩ := hw'
    subst hw''
    obtain ⟨wq, hq0, hq⟩ : ∃ wnew, wnew = grow (redrawn w1 dq) osq ∧ Below w1.heap.size w1 wnew := ⟨_, rfl, below_regrown _ _ _⟩
    rw [← hq0]
    clear hq0 kq0 kq1
    have HB2 := Lib.hid (HB1.out.trans (hq.mono HB1.out.size))
    have HX2 := Lib.hid (HX1.out.below hq)
    clear hq HNX HCX HX1
    have FX := HX2.out.f3
    by_cases h0 : c = 0
    · have HE2 := HE.out
      rw [if_pos h0] at HE2
      replace HE2 := Lib.hid HE2
      subst h0
      go_wp2_with fail
      refine (HT.out _ HB2.out).mono ?_
      rintro e w3 ⟨rfl, hb⟩
      have HB3 := Lib.hid (HB2.out.trans (hb.mono HB2.out.size))
      clear hb FX
      go_wp2_with fail
      go_ret
      exact ⟨by rw [HS.out, HE2.out]; rw [ByteArray.append_assoc]; rfl, HB3.out⟩
    · have HE2 := HE.out
      rw [if_neg h0] at HE2
      replace HE2 := Lib.hid HE2
      have h0b : (c == 0) = false := by simp [h0]
      clear h0
      go_wp2_with fail
      go_ret
      exact ⟨by rw [HS.out, HE2.out]; rfl, HB2.out⟩
set_option maxHeartbeats 2000000 in
theorem implEnter_any (r b v c t k p : Int) (w : World) (ht : ∀ w', Below w.heap.size w w' → Pow w') :
    Calls Tryz.prog 10 #[.agg #[.int .i64 r, .int .i64 b, .int .i64 v, .int .i64 c, .int .i64 t, .int .i64 k, .int .i64 p]] w fun e w' => e = .returned (.string (str (enterS r b c t))) ∧ Below w.heap.size w w' := by
  have HW := Lib.hid (fun w' => within_any r 0 11 w')
  have HI := Lib.hid (fun w' => implIsFinish_any b c t w')
  obtain ⟨wa, hwa, XR, XF, hba, hsa⟩ := two_boxes w #[.int .i64 r, .int .i64 b, .int .i64 v, .int .i64 c, .int .i64 t, .int .i64 k, .int .i64 p] #[.int .i64 b, .int .i64 c, .int .i64 t] 25 53
  have HWA := Lib.hid hwa
  have HX := Lib.hid XR
  have HF := Lib.hid XF
  have HBA := Lib.hid hba
  clear XR XF hba hsa hwa
  cases hr : withinB r 0 11 with
  | false =>
    rw [hr] at HW
    have HS := Lib.hid (show enterS r b c t = [] from by unfold enterS; rw [if_neg (by rw [hr]; simp)])
    clear hr
    go_enter Tryz.func10, Tryz.ntmps10
    go_wp2_with fail
    rw [← HWA.out]
    clear HWA
    refine (HW.out _).mono ?_
    rintro e w1 ⟨rfl, rfl⟩
    go_wp2_with fail
    go_ret
    exact ⟨by rw [HS.out]; rfl, HBA.out⟩
  | true =>
    rw [hr] at HW
    cases hv : finW b c t with
    | false =>
      rw [hv] at HI
      have HS := Lib.hid (show enterS r b c t = [] from by unfold enterS; rw [if_neg (by rw [hv]; simp)])
      clear hr hv
      have FF := HF.out.f3
      go_enter Tryz.func10, Tryz.ntmps10
      go_wp2_with fail
      rw [← HWA.out]
      clear HWA
      refine (HW.out _).mono ?_
      rintro e w1 ⟨rfl, rfl⟩
      go_wp2_with fail
      refine (HI.out _).mono ?_
      rintro e w1 ⟨rfl, hb⟩
      have HB1 := Lib.hid (HBA.out.trans (hb.mono HBA.out.size))
      clear hb FF
      go_wp2_with fail
      go_ret
      exact ⟨by rw [HS.out]; rfl, HB1.out⟩
    | true =>
      rw [hv] at HI
      have q1 := withinB_iff.1 hr
      have HS := Lib.hid (show enterS r b c t = [101, 110, 116, 101, 114, 32] ++ dec r.toNat ++ [32] ++ finS b c t from by unfold enterS finS; rw [if_pos ⟨hr, hv⟩, if_pos hv])
      have z2 : (str (finS b c t)).size ≤ 40 := by rw [str_size]; unfold finS; rw [if_pos hv]; exact finL_len hv
      obtain ⟨rn, rfl⟩ := int_up r q1.1
      rw [Int.toNat_natCast] at HS
      have z1 : (str (dec rn)).size ≤ 2 := by rw [str_size]; exact dec_len 1 rn (by omega)
      have HN := Lib.hid (fun w' (hb : Below w.heap.size w w') => text_any rn (by omega) w' (ht w' hb))
      have HT := Lib.hid (fun w' (hb : Below w.heap.size w w') => implFinText_any b c t w' (fun w2 h2 => ht w2 (hb.trans (h2.mono hb.size))))
      have HE := Lib.hid (show str (enterS (rn : Int) b c t) = str [101, 110, 116, 101, 114, 32] ++ str (dec rn) ++ str [32] ++ str (finS b c t) from by rw [HS.out]; simp [str_add])
      generalize dec rn = A at *
      generalize finS b c t = D at *
      clear hr hv q1 HS ht
      have FF := HF.out.f3
      go_enter Tryz.func10, Tryz.ntmps10
      go_wp2_with fail
      rw [← HWA.out]
      clear HWA
      refine (HW.out _).mono ?_
      rintro e w1 ⟨rfl, rfl⟩
      go_wp2_with fail
      refine (HI.out _).mono ?_
      rintro e w1 ⟨rfl, hb⟩
      have HB1 := Lib.hid (HBA.out.trans (hb.mono HBA.out.size))
      have HX1 := Lib.hid (HX.out.below hb)
      have HF1 := Lib.hid (HF.out.below hb)
      have HNX := Lib.hid (fun d os => HN.out _ (HB1.out.trans ((below_regrown w1 d os).mono HB1.out.size)))
      have HTX := Lib.hid (fun d os => HT.out _ (HB1.out.trans ((below_regrown w1 d os).mono HB1.out.size)))
      clear hb HI HN HT HX HBA FF HF HW
      go_wp2_with fail
      have kq0 := cell_regrown (HX1.out.cell (i := 0) rfl)
      have kq1 := cell_regrown (HF1.out.cell (i := 0) rfl)
      have kq2 := cell_regrown (HF1.out.cell (i := 1) rfl)
      have kq3 := cell_regrown (HF1.out.cell (i := 2) rfl)
      refine wp_region_quiet_below (by kernel_rfl) (by kernel_rfl) ?_
      repeat (first | go_big_quiet_step ((first | (go_at_call 32; (with_reducible exact Calls.regrown_of (HNX.out _ _))) | (go_at_call 33; (with_reducible exact Calls.regrown_of (HTX.out _ _))))) | quiet_step ((first | (go_at_call 32; (with_reducible exact Calls.regrown_of (HNX.out _ _))) | (go_at_call 33; (with_reducible exact Calls.regrown_of (HTX.out _ _))))))
      refine wpQuiet_nil ?_
      intro _ hw'
      obtain ⟨⟨dq, osq⟩, hw''⟩ := hw'
      subst hw''
      obtain ⟨wq, hq0, hq⟩ : ∃ wnew, wnew = grow (redrawn w1 dq) osq ∧ Below w1.heap.size w1 wnew := ⟨_, rfl, below_regrown _ _ _⟩
      rw [← hq0]
      clear hq0 kq0 kq1 kq2 kq3
      have HB2 := Lib.hid (HB1.out.trans (hq.mono HB1.out.size))
      clear hq HNX HTX HX1 HF1
      go_wp2_with fail
      go_ret
      exact ⟨by rw [HE.out]; rfl, HB2.out⟩
set_option maxHeartbeats 2000000 in
theorem specEnter_any (r b v c t k p : Int) (w : World) :
    Calls Tryz.prog 11 #[.agg #[.int .i64 r, .int .i64 b, .int .i64 v, .int .i64 c, .int .i64 t, .int .i64 k, .int .i64 p]] w fun e w' => e = .returned (.string (str (enterS r b c t))) ∧ Below w.heap.size w w' := by
  have HW := Lib.hid (fun w' => l01In_any r 0 11 w')
  have HI := Lib.hid (fun w' => specIsFinish_any b c t w')
  obtain ⟨wa, hwa, XR, XF, hba, hsa⟩ := two_boxes w #[.int .i64 r, .int .i64 b, .int .i64 v, .int .i64 c, .int .i64 t, .int .i64 k, .int .i64 p] #[.int .i64 b, .int .i64 c, .int .i64 t] 25 53
  have HWA := Lib.hid hwa
  have HX := Lib.hid XR
  have HF := Lib.hid XF
  have HBA := Lib.hid hba
  clear XR XF hba hsa hwa
  cases hr : withinB r 0 11 with
  | false =>
    rw [hr] at HW
    have HS := Lib.hid (show enterS r b c t = [] from by unfold enterS; rw [if_neg (by rw [hr]; simp)])
    clear hr
    go_enter Tryz.func11, Tryz.ntmps11
    go_wp2_with fail
    rw [← HWA.out]
    clear HWA
    refine (HW.out _).mono ?_
    rintro e w1 ⟨rfl, rfl⟩
    go_wp2_with fail
    go_ret
    exact ⟨by rw [HS.out]; rfl, HBA.out⟩
  | true =>
    rw [hr] at HW
    cases hv : finW b c t with
    | false =>
      rw [hv] at HI
      have HS := Lib.hid (show enterS r b c t = [] from by unfold enterS; rw [if_neg (by rw [hv]; simp)])
      clear hr hv
      have FF := HF.out.f3
      go_enter Tryz.func11, Tryz.ntmps11
      go_wp2_with fail
      rw [← HWA.out]
      clear HWA
      refine (HW.out _).mono ?_
      rintro e w1 ⟨rfl, rfl⟩
      go_wp2_with fail
      refine (HI.out _).mono ?_
      rintro e w1 ⟨rfl, hb⟩
      have HB1 := Lib.hid (HBA.out.trans (hb.mono HBA.out.size))
      clear hb FF
      go_wp2_with fail
      go_ret
      exact ⟨by rw [HS.out]; rfl, HB1.out⟩
    | true =>
      rw [hv] at HI
      have q1 := withinB_iff.1 hr
      have HS := Lib.hid (show enterS r b c t = [101, 110, 116, 101, 114, 32] ++ dec r.toNat ++ [32] ++ finS b c t from by unfold enterS finS; rw [if_pos ⟨hr, hv⟩, if_pos hv])
      have z2 : (str (finS b c t)).size ≤ 40 := by rw [str_size]; unfold finS; rw [if_pos hv]; exact finL_len hv
      obtain ⟨rn, rfl⟩ := int_up r q1.1
      rw [Int.toNat_natCast] at HS
      have z1 : (str (dec rn)).size ≤ 2 := by rw [str_size]; exact dec_len 1 rn (by omega)
      have HN := Lib.hid (fun w' (hb : Below w.heap.size w w') => number_any rn rn (Nat.le_refl _) (by omega) w')
      have HT := Lib.hid (fun w' (hb : Below w.heap.size w w') => specFinText_any b c t w')
      have HE := Lib.hid (show str (enterS (rn : Int) b c t) = str [101, 110, 116, 101, 114, 32] ++ str (dec rn) ++ str [32] ++ str (finS b c t) from by rw [HS.out]; simp [str_add])
      generalize dec rn = A at *
      generalize finS b c t = D at *
      clear hr hv q1 HS
      have FF := HF.out.f3
      go_enter Tryz.func11, Tryz.ntmps11
      go_wp2_with fail
      rw [← HWA.out]
      clear HWA
      refine (HW.out _).mono ?_
      rintro e w1 ⟨rfl, rfl⟩
      go_wp2_with fail
      refine (HI.out _).mono ?_
      rintro e w1 ⟨rfl, hb⟩
      have HB1 := Lib.hid (HBA.out.trans (hb.mono HBA.out.size))
      have HX1 := Lib.hid (HX.out.below hb)
      have HF1 := Lib.hid (HF.out.below hb)
      have HNX := Lib.hid (fun d os => HN.out _ (HB1.out.trans ((below_regrown w1 d os).mono HB1.out.size)))
      have HTX := Lib.hid (fun d os => HT.out _ (HB1.out.trans ((below_regrown w1 d os).mono HB1.out.size)))
      clear hb HI HN HT HX HBA FF HF HW
      go_wp2_with fail
      have kq0 := cell_regrown (HX1.out.cell (i := 0) rfl)
      have kq1 := cell_regrown (HF1.out.cell (i := 0) rfl)
      have kq2 := cell_regrown (HF1.out.cell (i := 1) rfl)
      have kq3 := cell_regrown (HF1.out.cell (i := 2) rfl)
      refine wp_region_quiet_below (by kernel_rfl) (by kernel_rfl) ?_
      repeat (first | go_big_quiet_step ((first | (go_at_call 36; (with_reducible exact Calls.regrown_of (HNX.out _ _))) | (go_at_call 37; (with_reducible exact Calls.regrown_of (HTX.out _ _))))) | quiet_step ((first | (go_at_call 36; (with_reducible exact Calls.regrown_of (HNX.out _ _))) | (go_at_call 37; (with_reducible exact Calls.regrown_of (HTX.out _ _))))))
      refine wpQuiet_nil ?_
      intro _ hw'
      obtain ⟨⟨dq, osq⟩, hw''⟩ := hw'
      subst hw''
      obtain ⟨wq, hq0, hq⟩ : ∃ wnew, wnew = grow (redrawn w1 dq) osq ∧ Below w1.heap.size w1 wnew := ⟨_, rfl, below_regrown _ _ _⟩
      rw [← hq0]
      clear hq0 kq0 kq1 kq2 kq3
      have HB2 := Lib.hid (HB1.out.trans (hq.mono HB1.out.size))
      clear hq HNX HTX HX1 HF1
      go_wp2_with fail
      go_ret
      exact ⟨by rw [HE.out]; rfl, HB2.out⟩
end Go.Proofs.YtnpldahkhaacnaaGreatDoor

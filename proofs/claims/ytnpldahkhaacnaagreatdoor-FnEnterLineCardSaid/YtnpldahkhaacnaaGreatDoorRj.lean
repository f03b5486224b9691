/- Walks: valid registers (chapter 33), the program. -/
import Derived.Test.YtnpldahkhaacnaaGreatDoorRi
namespace Go.Proofs.YtnpldahkhaacnaaGreatDoor
open Go.RowKit Go.Sort
set_option linter.unusedVariables false
set_option maxRecDepth 100000

theorem int_beq (m n : Nat) : (((m : Int)) == (n : Int)) = decide (m = n) := by
  rw [Bool.eq_iff_iff]; simp; omega
theorem values_any (A : Option Addr) (n c : Nat) (w : World) :
    Calls Tryz.prog 56 #[.slice A n c] w fun e w' => e = .returned (.func (.func 88) #[] #[.pointer (some ⟨w.heap.size, 0, none⟩)]) ∧ w' = w.alloc (.cells #[.slice A n c] 30) :=
  callsIn_wide.1 (values_in Fence.wide 9 trivial rfl A n c w)
set_option maxHeartbeats 8000000 in
theorem implIsRegister_any (b s : Int) (A : Option Addr) (n c : Nat) (xs : List EntryT) (w : World) (hr : RegRd w A n c xs) :
    Calls Tryz.prog 26 #[.agg #[.int .i64 b, .int .i64 s, .slice A n c]] w fun e w' => e = .returned (.bool (regB b s xs)) ∧ Below w.heap.size w w' := by
  obtain ⟨h, hcp⟩ := hr
  have HN := Lib.hid h.len_ent
  obtain ⟨w1, hw1, X0, hb1, hs1⟩ := one_box w #[.int .i64 b, .int .i64 s, .slice A n c] 32
  have HB1 := Lib.hid hb1
  have HX1 := Lib.hid X0
  have HRD := Lib.hid (fun w' (hb : Below w.heap.size w w') => h.below hb)
  have hn := h.le
  have ER := Lib.hid (show regB b s xs = (withinB b 1 16 && withinB s 0 1 && decide (xs.length ≤ 400) && entsGo b [] xs) from rfl)
  clear h hb1 X0
  have F0 := HX1.out.f3
  cases h1 : withinB b 1 16 with
  | false =>
    have HW := Lib.hid (fun w => within_lit h1 w)
    have HS := HW
    have e1 := Lib.hid h1
    clear h1
    go_enter Tryz.func26, Tryz.ntmps26
    go_wp2_with (first | (go_at_call 30; (with_reducible refine (HW.out _).mono ?_); rintro e w' ⟨rfl, rfl⟩) | (go_at_call 52; (with_reducible refine (HS.out _).mono ?_); rintro e w' ⟨rfl, rfl⟩))
    rw [← hw1]
    go_wp2_with (first | (go_at_call 30; (with_reducible refine (HW.out _).mono ?_); rintro e w' ⟨rfl, rfl⟩) | (go_at_call 52; (with_reducible refine (HS.out _).mono ?_); rintro e w' ⟨rfl, rfl⟩))
    go_ret
    exact ⟨ret_bool (by rw [ER.out, e1.out]; rfl), HB1.out⟩
  | true =>
    have HW := Lib.hid (fun w => within_lit h1 w)
    have e1 := Lib.hid h1
    have hb16 := withinB_iff.1 h1
    clear h1
    cases h2 : withinB s 0 1 with
    | false =>
      have HS := Lib.hid (fun w => isScheme_lit h2 w)
      have e2 := Lib.hid h2
      clear h2
      go_enter Tryz.func26, Tryz.ntmps26
      go_wp2_with (first | (go_at_call 30; (with_reducible refine (HW.out _).mono ?_); rintro e w' ⟨rfl, rfl⟩) | (go_at_call 52; (with_reducible refine (HS.out _).mono ?_); rintro e w' ⟨rfl, rfl⟩))
      rw [← hw1]
      go_wp2_with (first | (go_at_call 30; (with_reducible refine (HW.out _).mono ?_); rintro e w' ⟨rfl, rfl⟩) | (go_at_call 52; (with_reducible refine (HS.out _).mono ?_); rintro e w' ⟨rfl, rfl⟩))
      go_ret
      exact ⟨ret_bool (by rw [ER.out, e1.out, e2.out]; rfl), HB1.out⟩
    | true =>
      have HS := Lib.hid (fun w => isScheme_lit h2 w)
      have e2 := Lib.hid h2
      clear h2
      by_cases h3 : n ≤ 400
      rotate_left
      · have e3 := Lib.hid (show decide (xs.length ≤ 400) = false from decide_eq_false (by rw [HN.out]; exact h3))
        go_enter Tryz.func26, Tryz.ntmps26
        go_wp2_with (first | (go_at_call 30; (with_reducible refine (HW.out _).mono ?_); rintro e w' ⟨rfl, rfl⟩) | (go_at_call 52; (with_reducible refine (HS.out _).mono ?_); rintro e w' ⟨rfl, rfl⟩))
        rw [← hw1]
        go_wp2_with (first | (go_at_call 30; (with_reducible refine (HW.out _).mono ?_); rintro e w' ⟨rfl, rfl⟩) | (go_at_call 52; (with_reducible refine (HS.out _).mono ?_); rintro e w' ⟨rfl, rfl⟩))
        go_ret
        exact ⟨ret_bool (by rw [ER.out, e1.out, e2.out, e3.out]; rfl), HB1.out⟩
      have e3 := Lib.hid (show decide (xs.length ≤ 400) = true from decide_eq_true (by rw [HN.out]; exact h3))
      go_enter Tryz.func26, Tryz.ntmps26
      go_wp2_with (first | (go_at_call 30; (with_reducible refine (HW.out _).mono ?_); rintro e w' ⟨rfl, rfl⟩) | (go_at_call 52; (with_reducible refine (HS.out _).mono ?_); rintro e w' ⟨rfl, rfl⟩))
      rw [← hw1]
      clear hw1
      go_wp2_with (first | (go_at_call 30; (with_reducible refine (HW.out _).mono ?_); rintro e w' ⟨rfl, rfl⟩) | (go_at_call 52; (with_reducible refine (HS.out _).mono ?_); rintro e w' ⟨rfl, rfl⟩))
      go_loopw [25] (fun i wr => ∃ k : Nat, k ≤ n ∧ i = .int .i64 k ∧ Hid (allE b (xs.drop k) = allE b xs) ∧ Hid (Box wr w.heap.size #[.int .i64 b, .int .i64 s, .slice A n c] 32) ∧ Hid (Below w.heap.size w wr)) (fun i _ => n - (intOf i).toNat)
      case atStart => exact ⟨0, Nat.zero_le _, rfl, Lib.hid rfl, HX1, HB1⟩
      case round =>
        clear HX1 HB1 F0
        obtain ⟨k, hk, rfl, HR, HX, HB⟩ := hrel
        obtain ⟨wo, hwo⟩ : ∃ wo : World, wo = wr := ⟨_, rfl⟩
        subst hwo
        have F0 := HX.out.f3
        by_cases hlt : k < n
        · obtain ⟨b1, o1, y0, y1, y2, y3, y4, y5, y6, rfl, hx, hd, hc0, hc1, hc2, hc3, hc4, hc5, hc6⟩ := (HRD.out _ HB.out).ent hlt
          have HD := Lib.hid hd
          clear hx hd
          obtain ⟨wa, hwa, XA, hba, hsa⟩ := one_box wo #[.int .i64 y0, .int .i64 y1, .int .i64 y2, .int .i64 y3, .int .i64 y4, .int .i64 y5, .int .i64 y6] 25
          have HBA := Lib.hid (HB.out.trans (hba.mono HB.out.size))
          have HXA := Lib.hid (HX.out.below hba)
          have HYA := Lib.hid XA
          clear hba XA
          cases he : entB b (y0, y1, y2, y3, y4, y5, y6) with
          | false =>
            have HE := Lib.hid (fun w => isEntry_lit hb16.1 hb16.2 he w)
            have HV := Lib.hid (fun w => isRevision_any y2 w)
            have eE := Lib.hid (show (entB b (y0, y1, y2, y3, y4, y5, y6) && revB (E.rev (y0, y1, y2, y3, y4, y5, y6))) = false from by rw [he]; rfl)
            clear he
            go_wp2_with fail
            rw [← hwa]
            clear hwa
            refine (HE.out _).mono ?_
            rintro e w2 ⟨rfl, hb2⟩
            have HB2 := Lib.hid (HBA.out.trans (hb2.mono HBA.out.size))
            have HX2 := Lib.hid (HXA.out.below hb2)
            have F1 := (HYA.out.below hb2).f7
            clear hb2 HYA HXA HBA F0 hc0 hc1 hc2 hc3 hc4 hc5 hc6
            go_wp2_with (go_at_call 54; (with_reducible refine (HV.out _).mono ?_); rintro e w' ⟨rfl, rfl⟩)
            go_ret
            exact ⟨ret_bool (by rw [regB_not_all (show allE b xs = false from by rw [← HR.out, HD.out, allE_cons, eE.out]; rfl)]), HB2.out⟩
          | true =>
            cases hv : revB y2 with
            | false =>
              have HE := Lib.hid (fun w => isEntry_lit hb16.1 hb16.2 he w)
              have HV := Lib.hid (fun w => isRevision_lit hv w)
              have eE := Lib.hid (show (entB b (y0, y1, y2, y3, y4, y5, y6) && revB (E.rev (y0, y1, y2, y3, y4, y5, y6))) = false from by rw [he]; exact hv)
              clear he hv
              go_wp2_with fail
              rw [← hwa]
              clear hwa
              refine (HE.out _).mono ?_
              rintro e w2 ⟨rfl, hb2⟩
              have HB2 := Lib.hid (HBA.out.trans (hb2.mono HBA.out.size))
              have HX2 := Lib.hid (HXA.out.below hb2)
              have F1 := (HYA.out.below hb2).f7
              clear hb2 HYA HXA HBA F0 hc0 hc1 hc2 hc3 hc4 hc5 hc6
              go_wp2_with (go_at_call 54; (with_reducible refine (HV.out _).mono ?_); rintro e w' ⟨rfl, rfl⟩)
              go_ret
              exact ⟨ret_bool (by rw [regB_not_all (show allE b xs = false from by rw [← HR.out, HD.out, allE_cons, eE.out]; rfl)]), HB2.out⟩
            | true =>
              have HE := Lib.hid (fun w => isEntry_lit hb16.1 hb16.2 he w)
              have HV := Lib.hid (fun w => isRevision_lit hv w)
              have eE := Lib.hid (show (entB b (y0, y1, y2, y3, y4, y5, y6) && revB (E.rev (y0, y1, y2, y3, y4, y5, y6))) = true from by rw [he]; exact hv)
              clear he hv
              go_wp2_with fail
              rw [← hwa]
              clear hwa
              refine (HE.out _).mono ?_
              rintro e w2 ⟨rfl, hb2⟩
              have HB2 := Lib.hid (HBA.out.trans (hb2.mono HBA.out.size))
              have HX2 := Lib.hid (HXA.out.below hb2)
              have F1 := (HYA.out.below hb2).f7
              clear hb2 HYA HXA HBA F0 hc0 hc1 hc2 hc3 hc4 hc5 hc6
              go_wp2_with (go_at_call 54; (with_reducible refine (HV.out _).mono ?_); rintro e w' ⟨rfl, rfl⟩)
              go_roundw
              case rel => exact ⟨k + 1, by omega, by go_num, Lib.hid (by rw [← HR.out, HD.out, allE_cons, eE.out, Bool.true_and]), HX2, HB2⟩
              case measure => simp [intOf] <;> omega
        · obtain rfl : k = n := by omega
          have hall : allE b xs = true := by rw [← HR.out, List.drop_eq_nil_of_le (by rw [HN.out]; exact Nat.le_refl _)]; rfl
          have HALL := Lib.hid hall
          have HSF := Lib.hid (fun (wv : World) (Bs : Nat) (hc : wv.cell? ⟨Bs, 0, none⟩ = some (.slice A k c)) (hr : Rd wv 7 A k (ents xs)) => sortedFunc_any A k c xs (allE_ok hb16.2 hall) (by omega) Bs wv hc hr)
          have hrv := HRD.out _ HB.out
          obtain ⟨wv, hwv, XV, hbv, hsv⟩ := one_box wo #[.slice A k c] 30
          have HWV := Lib.hid hwv
          have HBv := Lib.hid (HB.out.trans (hbv.mono HB.out.size))
          have HS1 := Lib.hid (HSF.out wv wo.heap.size XV.c1 (hrv.below hbv))
          have HX1 := Lib.hid (HX.out.below hbv)
          have HBV := Lib.hid (show wo.heap.size < wv.heap.size by omega)
          have HBW := Lib.hid (show w.heap.size < wo.heap.size from HX.out.lt)
          have F0 := HX.out.f3
          clear hall HSF hrv XV hbv hsv hwv HX HRD
          go_wp2_with (go_at_call 56; (with_reducible refine (values_any _ _ _ _).mono ?_); rintro e w3 ⟨rfl, rfl⟩)
          rw [← HWV.out]
          refine HS1.out.mono ?_
          rintro e w4 ⟨A4, n4, c4, ys, rfl, hp, hs, ho, hb4⟩
          clear F0
          have hl4 := own_len_flat entC_len (by decide) ho
          have hn4 : n4 = k := by rw [← hl4, hp.length_eq, HN.out]
          subst hn4
          have HREG := Lib.hid (regB_all (s := s) (ys := ys) e1.out e2.out (of_decide_eq_true e3.out) HALL.out hp hs)
          have F0 := (HX1.out.below hb4).f3
          have HB4 := Lib.hid (HBv.out.trans (hb4.mono HBv.out.size))
          have HCO := Lib.hid (fun w' (hb : Below w4.heap.size w4 w') => compact_any _ A4 n4 c4 ys (by omega) w' (Nat.le_trans hb4.size hb.size) (own_below ho hb))
          clear hp hs ho hb4 hl4 HX1 HS1
          obtain ⟨S, hSE, hSI⟩ : ∃ S : World → Prop, (∀ w1, S w1 → w1.cell? ⟨w.heap.size, 2, none⟩ = some (.slice A n4 c)) ∧ (∀ w1, w1.cell? ⟨w.heap.size, 2, none⟩ = some (.slice A n4 c) → S w1) := ⟨fun w1 => w1.cell? ⟨w.heap.size, 2, none⟩ = some (.slice A n4 c), fun _ h => h, fun _ h => h⟩
          have HSE := Lib.hid hSE; have HSI := Lib.hid hSI
          clear hSE hSI
          go_wp2_with fail
          refine wp_region_T2 (n := 8) S (fun _ => false) (by kernel_rfl) rfl ?_
          intro ops HOPS
          have hS := HSI.out _ (((below_drewN' _ w4 1).cell (p := ⟨w.heap.size, 2, none⟩) (cell_lt F0.2.2.1)).trans F0.2.2.1)
          refine wpAnyT_take 0 (.slice A4 n4 c4) (by rw [HOPS.out]; rfl) (by rw [HOPS.out]; kernel_rfl) (by exact fun _ _ _ h => h) (by rfl) (fun w1 hS => by go_simp) hS ?_
          go_simp
          refine wpAnyT_take 3 (.pointer (some ⟨w.heap.size, 2, none⟩)) (by rw [HOPS.out]; rfl) (by rw [HOPS.out]; kernel_rfl) (by exact fun _ _ _ h => h) (by rfl) (fun w1 hS => by go_simp) hS ?_
          go_simp
          refine wpAnyT_take 4 (.slice A n4 c) (by rw [HOPS.out]; rfl) (by rw [HOPS.out]; kernel_rfl) (by exact fun _ _ _ h => h) (by rfl) (fun w1 hS => by replace hS := HSE.out _ hS; go_simp) hS ?_
          go_simp
          refine wpAnyT_take 5 (.int .i64 (n4 : Int)) (by rw [HOPS.out]; rfl) (by rw [HOPS.out]; kernel_rfl) (by exact fun _ _ _ h => h) (by rfl) (fun w1 hS => by go_simp) hS ?_
          go_simp
          refine wpAnyT_one 1 (by rw [HOPS.out]; rfl) (by rw [HOPS.out]; kernel_rfl) ?_
          intro K' hK
          have HK := Lib.hid hK
          clear hK
          go_simp
          go_at_call 58
          refine (HCO.out _ (below_drewN' _ w4 1)).mono ?_
          rintro e w5 ⟨A5, m5, c5, rfl, hdec, hb5⟩
          have HB5 := Lib.hid (HB4.out.trans ((below_drewN' _ w4 1).mono HB4.out.size))
          have HB6 := Lib.hid (HB5.out.trans (hb5.mono (by have := HBV.out; have := HBW.out; omega)))
          have hS5 := HSI.out _ (((hb5.cell (p := ⟨w.heap.size, 2, none⟩) (show w.heap.size < _ by exact Nat.lt_trans HBW.out HBV.out)).trans (((below_drewN' _ w4 1).cell (p := ⟨w.heap.size, 2, none⟩) (cell_lt F0.2.2.1)).trans F0.2.2.1)))
          refine HK.out _ _ (.inr hS5) ?_
          clear HK
          go_simp
          refine wpAnyT_take 2 (.int .i64 (m5 : Int)) (by rw [HOPS.out]; rfl) (by rw [HOPS.out]; kernel_rfl) (by exact fun _ _ _ h => h) (by rfl) (fun w1 hS9 => by go_simp) hS5 ?_
          go_simp
          refine wpAnyT_take 6 (.bool ((m5 : Int) == (n4 : Int))) (by rw [HOPS.out]; rfl) (by rw [HOPS.out]; kernel_rfl) (by exact fun _ _ _ h => h) (by rfl) (fun w1 hS9 => by go_simp) hS5 ?_
          go_simp
          refine wpAnyT_take 7 (.bool ((m5 : Int) == (n4 : Int))) (by rw [HOPS.out]; rfl) (by rw [HOPS.out]; kernel_rfl) (by exact fun _ _ _ h => h) (by rfl) (fun w1 hS9 => by go_simp) hS5 ?_
          go_simp
          refine wpAnyT_done (by rw [HOPS.out]; kernel_rfl) ?_ _
          go_wp2_with fail
          go_ret
          exact ⟨ret_bool (by rw [HREG.out, ← hdec]; exact int_beq m5 n4), HB6.out⟩
end Go.Proofs.YtnpldahkhaacnaaGreatDoor

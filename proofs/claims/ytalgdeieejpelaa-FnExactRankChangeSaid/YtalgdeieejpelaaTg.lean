/- Walks: lists of redress of the reference (chapter 29). -/
import Derived.Test.YtalgdeieejpelaaTe
import Derived.IntWalk
import Derived.Lib.QuietBelow
namespace Go.Proofs.Ytalgdeieejpelaa
open Go.RowKit Go.Sort
set_option linter.unusedVariables false
set_option maxRecDepth 100000

theorem isRedB_no {k p : Int} (h : withinB k 1 3 = false ∨ withinB p 0 10000 = false) : isRedBT k p = false := by
  unfold isRedBT
  by_cases h3 : k = 3
  · rw [if_pos h3]
    rcases h with h | h
    · subst h3; simp [withinB] at h
    · exact h
  · rw [if_neg h3]
    rcases h with h | h
    · have : withinB k 1 2 = false := by rw [withinB_not] at h ⊢; omega
      rw [this]; rfl
    · have : (p == 0) = false := by
        rw [withinB_not] at h
        simp; omega
      rw [this, Bool.and_false]
theorem isRedB_yes {k p : Int} (h : withinB k 1 3 = true) (h2 : withinB p 0 10000 = true) (h3 : k = 3 ∨ p = 0) : isRedBT k p = true := by
  unfold isRedBT
  by_cases h4 : k = 3
  · rw [if_pos h4]; exact h2
  · rw [if_neg h4]
    have e : p = 0 := by omega
    rw [withinB_iff] at h
    have : withinB k 1 2 = true := withinB_iff.2 (by omega)
    rw [this, e]; rfl
set_option maxHeartbeats 4000000 in
theorem l29Valid_any (P : Option Addr) (n c : Nat) (C : Option Addr) (m d : Nat) (t : Tb) (A : Option Addr) (l cl : Nat) (xs : List RedT) (ok : TabOk t) (w : World) (h : RdT w P n C m t) (hl : Rd w 4 A l (reds xs)) :
    Calls Try.prog 31 #[.agg #[.int .i64 t.boats, .slice P n c, .slice C m d], .slice A l cl] w fun e w' => e = .returned (.bool (redsB t xs)) ∧ Below w.heap.size w w' := by
  have hn := h.pts.le
  have hll := hl.le
  have hn12 : n ≤ 12 := by have := ok.many; have := h.pts.len; omega
  have HN := Lib.hid h.pts.len
  have HL := Lib.hid hl.len_red
  have hnm : n = m := by have := ok.same; have := h.pts.len; have := h.cds.len; omega
  subst hnm
  have hb1' := ok.b1
  have hb2' := ok.b2
  have E := Lib.hid (show redsB t xs = redsGo t none xs from rfl)
  generalize redsB t xs = R at *
  have HOK := Lib.hid ok
  clear ok
  go_enter Try.func31, Try.ntmps31
  go_wp2_with fail
  obtain ⟨w1, hw1, X0, hb1, hs1⟩ := one_box w #[.int .i64 t.boats, .slice P n c, .slice C n d] 31
  rw [← hw1]
  have hs1 : w.heap.size < w1.heap.size := by omega
  clear hw1
  have h1 := h.below hb1
  have HL1 := Lib.hid (hl.below hb1)
  have HB1 := Lib.hid hb1
  clear h hb1 hl
  go_loopw [5] (fun i wr => ∃ k : Nat, k ≤ l ∧ i = .int .i64 k ∧ Hid (redsGo t (prevR xs k) (xs.drop k) = redsGo t none xs) ∧ Below w1.heap.size w1 wr) (fun i _ => l - (intOf i).toNat)
  case atStart => exact ⟨0, Nat.zero_le _, rfl, Lib.hid rfl, Below.refl _ _⟩
  case round =>
    obtain ⟨k, hk, rfl, HR, hb⟩ := hrel
    by_cases hlt : k < l
    · obtain ⟨b, o, x0, x1, x2, x3, rfl, hx, hd, hc0, hc1, hc2, hc3⟩ := (HL1.out.below hb).red hlt
      have HD := Lib.hid hd; have HX := Lib.hid hx
      clear hd hx
      obtain ⟨wa, hwa, XA, hba, hsa⟩ := one_box wr #[.int .i64 x0, .int .i64 x1, .int .i64 x2, .int .i64 x3] 46
      have F0 := ((X0.below hb).below hba).f3
      have FA := XA.f4
      have hsr := hb.size
      have hsa : wr.heap.size < wa.heap.size := by omega
      have HX0 := Lib.hid (show Box wa w.heap.size _ _ from (X0.below hb).below hba)
      have HXA := Lib.hid XA
      have HBW := Lib.hid (hb.trans (hba.mono hb.size))
      have F00 := (X0.below hb).f3
      clear hb hba X0 XA
      cases a1 : withinB x0 0 ((n : Int) - 1) with
      | false =>
        have HA1 := Lib.hid (show withinB x0 0 ((t.pts.length : Int) - 1) = false by rw [HN.out]; exact a1)
        have HW1 := Lib.hid (fun w => l01In_litT a1 w)
        clear a1
        go_wp2_with fail
        rw [← hwa]
        clear hwa F00 hc0 hc1 hc2 hc3
        go_wp2_with (go_at_call 30; (first | (with_reducible refine (HW1.out _).mono ?_)); rintro e w' ⟨rfl, rfl⟩)
        go_ret
        exact ⟨ret_bool (by rw [E.out, ← HR.out, HD.out]; exact (reds_no (redB_no (.inl HA1.out))).symm), HB1.out.trans (HBW.out.mono HB1.out.size)⟩
      | true =>
        have HA1 := Lib.hid (show withinB x0 0 ((t.pts.length : Int) - 1) = true by rw [HN.out]; exact a1)
        have HW1 := Lib.hid (fun w => l01In_litT a1 w)
        have r1 := withinB_iff.1 a1
        clear a1
        cases a2 : withinB x1 0 (t.boats - 1) with
        | false =>
          have HA2 := Lib.hid a2
          have HW2 := Lib.hid (fun w => l01In_litT a2 w)
          clear a2
          go_wp2_with fail
          rw [← hwa]
          clear hwa F00 hc0 hc1 hc2 hc3
          go_wp2_with (go_at_call 30; (first | (with_reducible refine (HW1.out _).mono ?_) | (with_reducible refine (HW2.out _).mono ?_)); rintro e w' ⟨rfl, rfl⟩)
          go_ret
          exact ⟨ret_bool (by rw [E.out, ← HR.out, HD.out]; exact (reds_no (redB_no (.inr (.inl HA2.out)))).symm), HB1.out.trans (HBW.out.mono HB1.out.size)⟩
        | true =>
          have HA2 := Lib.hid a2
          have HW2 := Lib.hid (fun w => l01In_litT a2 w)
          have r2 := withinB_iff.1 a2
          clear a2
          cases a6 : withinB x2 1 3 with
          | false =>
            have HA6 := Lib.hid a6
            have HW6 := Lib.hid (fun w => l01In_litT a6 w)
            clear a6
            go_wp2_with fail
            rw [← hwa]
            clear hwa F00 hc0 hc1 hc2 hc3
            go_wp2_with (go_at_call 30; (first | (with_reducible refine (HW1.out _).mono ?_) | (with_reducible refine (HW2.out _).mono ?_) | (with_reducible refine (HW6.out _).mono ?_)); rintro e w' ⟨rfl, rfl⟩)
            go_ret
            exact ⟨ret_bool (by rw [E.out, ← HR.out, HD.out]; exact (reds_no (redB_no (.inr (.inr (.inl (isRedB_no (.inl HA6.out))))))).symm), HB1.out.trans (HBW.out.mono HB1.out.size)⟩
          | true =>
            have HA6 := Lib.hid a6
            have HW6 := Lib.hid (fun w => l01In_litT a6 w)
            clear a6
            obtain ⟨rc, rfl⟩ := int_up x0 r1.1
            obtain ⟨bt, rfl⟩ := int_up x1 r2.1
            go_wp2_with fail
            rw [← hwa]
            clear hwa F00 hc0 hc1 hc2 hc3
            have hrn : rc < n := by omega
            have hbt : (bt : Int) < t.boats := by omega
            have HT := Lib.hid ((h1.below HBW.out))
            obtain ⟨b5, o5, A5, c5, p5, b6, o6, A6, c6, q5, px, py, b7, o7, b8, o8, rfl, rfl, _, hq5, _, hcC, rfl, rfl, _, hbq, _, hq16, _, hpy, _, _, _, hyc⟩ := tab_row HT.out HOK.out hrn hbt
            have HCA := Lib.hid (show codeAt t (rc : Int) (bt : Int) = py from by rw [← hpy, ← getD_of_drop hq5]; rfl)
            clear hq5 hpy
            have HPV := Lib.hid (show ∀ j, k = j + 1 → ∃ y, xs[j]? = some y from fun j e => ⟨xs[j]'(by rw [HL.out]; omega), List.getElem?_eq_getElem _⟩)
            have HPP := Lib.hid (show prevR xs (k + 1) = some ((rc : Int), (bt : Int), x2, x3) from HX.out)
            rcases Nat.eq_zero_or_pos k with hk0 | hk0
            · have HK0 := Lib.hid hk0
              have e0 : decide (0 < (k : Int)) = false := by simp; omega
              go_wp2_with (go_at_call 30; (first | (with_reducible refine (HW1.out _).mono ?_) | (with_reducible refine (HW2.out _).mono ?_) | (with_reducible refine (HW6.out _).mono ?_)); rintro e w' ⟨rfl, rfl⟩)
              go_quiet (fail)
              clear e0
              obtain ⟨wo, hwo, hbo⟩ : ∃ wo, wo = wa.drewN nq ∧ Below wa.heap.size wa wo := ⟨_, rfl, below_drewN' _ _ _⟩
              rw [← hwo]
              clear hwo
              have F0 := (HX0.out.below hbo).f3
              have FA := (HXA.out.below hbo).f4
              have hcC := (hbo.cell (p := ⟨b6, o6 + rc, none⟩) (cell_lt hcC)).trans hcC
              have hyc := (hbo.cell (p := ⟨b8, o8 + bt, none⟩) (cell_lt hyc)).trans hyc
              have HBO := Lib.hid (HBW.out.trans (hbo.mono HBW.out.size))
              have HBO2 := Lib.hid (show Below w1.heap.size w1 (wo.drewN 1) from HBO.out.trans (below_drewN' _ _ _))
              have HBAO := Lib.hid hbo
              clear hbo
              by_cases a4 : py = 9
              · subst a4
                cases a5 : withinB x3 0 10000 with
                | false =>
                  have HW5 := Lib.hid (fun w => l01In_litT a5 w)
                  have HA5 := Lib.hid a5
                  clear a5
                  go_wp2_with fail
                  go_quiet ((go_at_call 30; (first | (with_reducible exact Calls.quiet_of_same ((HW5.out _).mono fun _ _ ⟨a, b⟩ => ⟨a, b.symm⟩)))))
                  go_wp2_with fail
                  go_ret
                  exact ⟨ret_bool (by rw [E.out, ← HR.out, HD.out]; exact (reds_no (redB_no (.inr (.inr (.inl (isRedB_no (.inr HA5.out))))))).symm), HB1.out.trans ((HBO.out.trans (below_drewN' _ _ _)).mono HB1.out.size)⟩
                | true =>
                  have HW5 := Lib.hid (fun w => l01In_litT a5 w)
                  have HA5 := Lib.hid a5
                  clear a5
                  go_wp2_with fail
                  go_quiet ((go_at_call 30; (first | (with_reducible exact Calls.quiet_of_same ((HW5.out _).mono fun _ _ ⟨a, b⟩ => ⟨a, b.symm⟩)))))
                  clear hcC hyc FA F0
                  obtain ⟨wz, hwz, hbz⟩ : ∃ wz, wz = wo.drewN nq ∧ Below wo.heap.size wo wz := ⟨_, rfl, below_drewN' _ _ _⟩
                  rw [← hwz]
                  clear hwz HBO2
                  have HBO2 := Lib.hid (HBO.out.trans (hbz.mono HBO.out.size))
                  have HBZ := Lib.hid (HBAO.out.trans (hbz.mono HBAO.out.size))
                  clear hbz
                  have F0 := (HX0.out.below HBZ.out).f3
                  have FA := (HXA.out.below HBZ.out).f4
                  obtain ⟨av, ar, hav⟩ : ∃ a b, avgF t (rc : Int) (bt : Int) x2 = (a, b) := ⟨_, _, rfl⟩
                  have HAV := Lib.hid (fun w' (h : RdT w' (some ⟨b5, o5, none⟩) n (some ⟨b6, o6, none⟩) n t) => specAvg_any _ n c _ n d t rc bt x2 HOK.out hbt w' h)
                  rw [hav] at HAV
                  have HAVE := Lib.hid hav
                  clear hav
                  by_cases g5 : x2 = 3
                  · have HRB := Lib.hid (show redB t ((rc : Int), (bt : Int), x2, x3) = true from by rw [redB_ok (t := t) (x := ((rc : Int), (bt : Int), x2, x3)) HA1.out HA2.out (isRedB_yes HA6.out HA5.out (.inl g5)) HCA.out]; unfold redPtF; rw [if_pos g5])
                    have g5' : (x2 != 3) = false := by simp [g5]
                    subst g5
                    go_wp2_with fail
                    refine (HAV.out _ (h1.below HBO2.out)).mono ?_
                    rintro e wp ⟨rfl, hbp⟩
                    have FA := (HXA.out.below ((HBZ.out).trans (hbp.mono (HBZ.out).size))).f4
                    have HBP := Lib.hid (HBO2.out.trans (hbp.mono HBO2.out.size))
                    clear hbp
                    go_wp2_with fail
                    go_roundw
                    case rel => exact ⟨k + 1, by omega, by go_num, Lib.hid (by rw [HPP.out, ← HR.out, HD.out, HK0.out, show prevR xs 0 = none from rfl]; exact (reds_first HRB.out).symm), HBP.out⟩
                    case measure => simp [intOf] <;> omega
                  · have g5' : (x2 != 3) = true := by simp [g5]
                    by_cases g6 : x3 = 0
                    · subst g6
                      have HRB := Lib.hid (show redB t ((rc : Int), (bt : Int), x2, 0) = ar from by rw [redB_ok (t := t) (x := ((rc : Int), (bt : Int), x2, 0)) HA1.out HA2.out (isRedB_yes HA6.out HA5.out (.inr rfl)) HCA.out]; unfold redPtF; rw [if_neg g5]; show (avgF t rc bt x2).2 = ar; rw [HAVE.out])
                      cases ar with
                      | false =>
                        go_wp2_with fail
                        refine (HAV.out _ (h1.below HBO2.out)).mono ?_
                        rintro e wp ⟨rfl, hbp⟩
                        have FA := (HXA.out.below ((HBZ.out).trans (hbp.mono (HBZ.out).size))).f4
                        have HBP := Lib.hid (HBO2.out.trans (hbp.mono HBO2.out.size))
                        clear hbp
                        go_wp2_with fail
                        go_ret
                        exact ⟨ret_bool (by rw [E.out, ← HR.out, HD.out]; exact (reds_no (HRB.out)).symm), HB1.out.trans (HBP.out.mono HB1.out.size)⟩
                      | true =>
                        go_wp2_with fail
                        refine (HAV.out _ (h1.below HBO2.out)).mono ?_
                        rintro e wp ⟨rfl, hbp⟩
                        have FA := (HXA.out.below ((HBZ.out).trans (hbp.mono (HBZ.out).size))).f4
                        have HBP := Lib.hid (HBO2.out.trans (hbp.mono HBO2.out.size))
                        clear hbp
                        go_wp2_with fail
                        go_roundw
                        case rel => exact ⟨k + 1, by omega, by go_num, Lib.hid (by rw [HPP.out, ← HR.out, HD.out, HK0.out, show prevR xs 0 = none from rfl]; exact (reds_first HRB.out).symm), HBP.out⟩
                        case measure => simp [intOf] <;> omega
                    · have g6' : (x3 != 0) = true := by simp [g6]
                      have HI := Lib.hid (show isRedBT x2 x3 = false from by unfold isRedBT; rw [if_neg g5]; simp [g6])
                      go_wp2_with fail
                      refine (HAV.out _ (h1.below HBO2.out)).mono ?_
                      rintro e wp ⟨rfl, hbp⟩
                      have FA := (HXA.out.below ((HBZ.out).trans (hbp.mono (HBZ.out).size))).f4
                      have HBP := Lib.hid (HBO2.out.trans (hbp.mono HBO2.out.size))
                      clear hbp
                      go_wp2_with fail
                      go_ret
                      exact ⟨ret_bool (by rw [E.out, ← HR.out, HD.out]; exact (reds_no (redB_no (.inr (.inr (.inl HI.out))))).symm), HB1.out.trans (HBP.out.mono HB1.out.size)⟩
              · have g4 : (py == 9) = false := by simp [a4]
                have g4' : (py != 9) = true := by simp [a4]
                go_wp2_with fail
                go_quiet (fail)
                go_wp2_with fail
                go_ret
                exact ⟨ret_bool (by rw [E.out, ← HR.out, HD.out]; exact (reds_no (redB_no (.inr (.inr (.inr (by rw [HCA.out]; exact a4)))))).symm), HB1.out.trans ((HBO.out.trans (below_drewN' _ _ _)).mono HB1.out.size)⟩
            · obtain ⟨j, rfl⟩ : ∃ j, k = j + 1 := ⟨k - 1, by omega⟩
              obtain ⟨bj, oj, y0, y1, y2, y3, hbj, hyj, _, hy0, hy1, _, _⟩ := (HL1.out.below HBW.out).red (k := j) (by omega)
              injection hbj with hbj; injection hbj with hbj hoj; subst hbj; subst hoj
              have HPJ := Lib.hid (show prevR xs (j + 1) = some (y0, y1, y2, y3) from hyj)
              clear hyj
              by_cases g1 : (rc : Int) < y0
              · skip
                go_wp2_with (go_at_call 30; (first | (with_reducible refine (HW1.out _).mono ?_) | (with_reducible refine (HW2.out _).mono ?_) | (with_reducible refine (HW6.out _).mono ?_)); rintro e w' ⟨rfl, rfl⟩)
                go_quiet (fail)
                go_wp2_with fail
                go_ret
                exact ⟨ret_bool (by rw [E.out, ← HR.out, HD.out, HPJ.out]; exact (reds_bad (by unfold ltRB; simp; omega)).symm), HB1.out.trans ((HBW.out.trans (below_drewN' _ _ _)).mono HB1.out.size)⟩
              · by_cases g2 : y0 = rc
                · subst g2
                  by_cases g3 : (bt : Int) ≤ y1
                  · skip
                    go_wp2_with (go_at_call 30; (first | (with_reducible refine (HW1.out _).mono ?_) | (with_reducible refine (HW2.out _).mono ?_) | (with_reducible refine (HW6.out _).mono ?_)); rintro e w' ⟨rfl, rfl⟩)
                    go_quiet (fail)
                    go_wp2_with fail
                    go_ret
                    exact ⟨ret_bool (by rw [E.out, ← HR.out, HD.out, HPJ.out]; exact (reds_bad (by unfold ltRB; simp; omega)).symm), HB1.out.trans ((HBW.out.trans (below_drewN' _ _ _)).mono HB1.out.size)⟩
                  · have HLT := Lib.hid (show ltRB (((rc : Nat) : Int), y1, y2, y3) ((rc : Int), (bt : Int), x2, x3) = true from by unfold ltRB; simp; omega)
                    go_wp2_with (go_at_call 30; (first | (with_reducible refine (HW1.out _).mono ?_) | (with_reducible refine (HW2.out _).mono ?_) | (with_reducible refine (HW6.out _).mono ?_)); rintro e w' ⟨rfl, rfl⟩)
                    go_quiet (fail)
                    obtain ⟨wo, hwo, hbo⟩ : ∃ wo, wo = wa.drewN nq ∧ Below wa.heap.size wa wo := ⟨_, rfl, below_drewN' _ _ _⟩
                    rw [← hwo]
                    clear hwo
                    have F0 := (HX0.out.below hbo).f3
                    have FA := (HXA.out.below hbo).f4
                    have hcC := (hbo.cell (p := ⟨b6, o6 + rc, none⟩) (cell_lt hcC)).trans hcC
                    have hyc := (hbo.cell (p := ⟨b8, o8 + bt, none⟩) (cell_lt hyc)).trans hyc
                    have HBO := Lib.hid (HBW.out.trans (hbo.mono HBW.out.size))
                    have HBO2 := Lib.hid (show Below w1.heap.size w1 (wo.drewN 1) from HBO.out.trans (below_drewN' _ _ _))
                    have HBAO := Lib.hid hbo
                    clear hbo
                    by_cases a4 : py = 9
                    · subst a4
                      cases a5 : withinB x3 0 10000 with
                      | false =>
                        have HW5 := Lib.hid (fun w => l01In_litT a5 w)
                        have HA5 := Lib.hid a5
                        clear a5
                        go_wp2_with fail
                        go_quiet ((go_at_call 30; (first | (with_reducible exact Calls.quiet_of_same ((HW5.out _).mono fun _ _ ⟨a, b⟩ => ⟨a, b.symm⟩)))))
                        go_wp2_with fail
                        go_ret
                        exact ⟨ret_bool (by rw [E.out, ← HR.out, HD.out]; exact (reds_no (redB_no (.inr (.inr (.inl (isRedB_no (.inr HA5.out))))))).symm), HB1.out.trans ((HBO.out.trans (below_drewN' _ _ _)).mono HB1.out.size)⟩
                      | true =>
                        have HW5 := Lib.hid (fun w => l01In_litT a5 w)
                        have HA5 := Lib.hid a5
                        clear a5
                        go_wp2_with fail
                        go_quiet ((go_at_call 30; (first | (with_reducible exact Calls.quiet_of_same ((HW5.out _).mono fun _ _ ⟨a, b⟩ => ⟨a, b.symm⟩)))))
                        clear hcC hyc FA F0
                        obtain ⟨wz, hwz, hbz⟩ : ∃ wz, wz = wo.drewN nq ∧ Below wo.heap.size wo wz := ⟨_, rfl, below_drewN' _ _ _⟩
                        rw [← hwz]
                        clear hwz HBO2
                        have HBO2 := Lib.hid (HBO.out.trans (hbz.mono HBO.out.size))
                        have HBZ := Lib.hid (HBAO.out.trans (hbz.mono HBAO.out.size))
                        clear hbz
                        have F0 := (HX0.out.below HBZ.out).f3
                        have FA := (HXA.out.below HBZ.out).f4
                        obtain ⟨av, ar, hav⟩ : ∃ a b, avgF t (rc : Int) (bt : Int) x2 = (a, b) := ⟨_, _, rfl⟩
                        have HAV := Lib.hid (fun w' (h : RdT w' (some ⟨b5, o5, none⟩) n (some ⟨b6, o6, none⟩) n t) => specAvg_any _ n c _ n d t rc bt x2 HOK.out hbt w' h)
                        rw [hav] at HAV
                        have HAVE := Lib.hid hav
                        clear hav
                        by_cases g5 : x2 = 3
                        · have HRB := Lib.hid (show redB t ((rc : Int), (bt : Int), x2, x3) = true from by rw [redB_ok (t := t) (x := ((rc : Int), (bt : Int), x2, x3)) HA1.out HA2.out (isRedB_yes HA6.out HA5.out (.inl g5)) HCA.out]; unfold redPtF; rw [if_pos g5])
                          have g5' : (x2 != 3) = false := by simp [g5]
                          subst g5
                          go_wp2_with fail
                          refine (HAV.out _ (h1.below HBO2.out)).mono ?_
                          rintro e wp ⟨rfl, hbp⟩
                          have FA := (HXA.out.below ((HBZ.out).trans (hbp.mono (HBZ.out).size))).f4
                          have HBP := Lib.hid (HBO2.out.trans (hbp.mono HBO2.out.size))
                          clear hbp
                          go_wp2_with fail
                          go_roundw
                          case rel => exact ⟨(j + 1) + 1, by omega, by go_num, Lib.hid (by rw [HPP.out, ← HR.out, HD.out, HPJ.out]; exact (reds_next HRB.out HLT.out).symm), HBP.out⟩
                          case measure => simp [intOf] <;> omega
                        · have g5' : (x2 != 3) = true := by simp [g5]
                          by_cases g6 : x3 = 0
                          · subst g6
                            have HRB := Lib.hid (show redB t ((rc : Int), (bt : Int), x2, 0) = ar from by rw [redB_ok (t := t) (x := ((rc : Int), (bt : Int), x2, 0)) HA1.out HA2.out (isRedB_yes HA6.out HA5.out (.inr rfl)) HCA.out]; unfold redPtF; rw [if_neg g5]; show (avgF t rc bt x2).2 = ar; rw [HAVE.out])
                            cases ar with
                            | false =>
                              go_wp2_with fail
                              refine (HAV.out _ (h1.below HBO2.out)).mono ?_
                              rintro e wp ⟨rfl, hbp⟩
                              have FA := (HXA.out.below ((HBZ.out).trans (hbp.mono (HBZ.out).size))).f4
                              have HBP := Lib.hid (HBO2.out.trans (hbp.mono HBO2.out.size))
                              clear hbp
                              go_wp2_with fail
                              go_ret
                              exact ⟨ret_bool (by rw [E.out, ← HR.out, HD.out]; exact (reds_no (HRB.out)).symm), HB1.out.trans (HBP.out.mono HB1.out.size)⟩
                            | true =>
                              go_wp2_with fail
                              refine (HAV.out _ (h1.below HBO2.out)).mono ?_
                              rintro e wp ⟨rfl, hbp⟩
                              have FA := (HXA.out.below ((HBZ.out).trans (hbp.mono (HBZ.out).size))).f4
                              have HBP := Lib.hid (HBO2.out.trans (hbp.mono HBO2.out.size))
                              clear hbp
                              go_wp2_with fail
                              go_roundw
                              case rel => exact ⟨(j + 1) + 1, by omega, by go_num, Lib.hid (by rw [HPP.out, ← HR.out, HD.out, HPJ.out]; exact (reds_next HRB.out HLT.out).symm), HBP.out⟩
                              case measure => simp [intOf] <;> omega
                          · have g6' : (x3 != 0) = true := by simp [g6]
                            have HI := Lib.hid (show isRedBT x2 x3 = false from by unfold isRedBT; rw [if_neg g5]; simp [g6])
                            go_wp2_with fail
                            refine (HAV.out _ (h1.below HBO2.out)).mono ?_
                            rintro e wp ⟨rfl, hbp⟩
                            have FA := (HXA.out.below ((HBZ.out).trans (hbp.mono (HBZ.out).size))).f4
                            have HBP := Lib.hid (HBO2.out.trans (hbp.mono HBO2.out.size))
                            clear hbp
                            go_wp2_with fail
                            go_ret
                            exact ⟨ret_bool (by rw [E.out, ← HR.out, HD.out]; exact (reds_no (redB_no (.inr (.inr (.inl HI.out))))).symm), HB1.out.trans (HBP.out.mono HB1.out.size)⟩
                    · have g4 : (py == 9) = false := by simp [a4]
                      have g4' : (py != 9) = true := by simp [a4]
                      go_wp2_with fail
                      go_quiet (fail)
                      go_wp2_with fail
                      go_ret
                      exact ⟨ret_bool (by rw [E.out, ← HR.out, HD.out]; exact (reds_no (redB_no (.inr (.inr (.inr (by rw [HCA.out]; exact a4)))))).symm), HB1.out.trans ((HBO.out.trans (below_drewN' _ _ _)).mono HB1.out.size)⟩
                · have g2' : (y0 == (rc : Int)) = false := by simp; omega
                  have g1' : decide ((rc : Int) < y0) = false := by simp; omega
                  have HLT := Lib.hid (show ltRB (y0, y1, y2, y3) ((rc : Int), (bt : Int), x2, x3) = true from by unfold ltRB; simp; omega)
                  go_wp2_with (go_at_call 30; (first | (with_reducible refine (HW1.out _).mono ?_) | (with_reducible refine (HW2.out _).mono ?_) | (with_reducible refine (HW6.out _).mono ?_)); rintro e w' ⟨rfl, rfl⟩)
                  go_quiet (fail)
                  obtain ⟨wo, hwo, hbo⟩ : ∃ wo, wo = wa.drewN nq ∧ Below wa.heap.size wa wo := ⟨_, rfl, below_drewN' _ _ _⟩
                  rw [← hwo]
                  clear hwo
                  have F0 := (HX0.out.below hbo).f3
                  have FA := (HXA.out.below hbo).f4
                  have hcC := (hbo.cell (p := ⟨b6, o6 + rc, none⟩) (cell_lt hcC)).trans hcC
                  have hyc := (hbo.cell (p := ⟨b8, o8 + bt, none⟩) (cell_lt hyc)).trans hyc
                  have HBO := Lib.hid (HBW.out.trans (hbo.mono HBW.out.size))
                  have HBO2 := Lib.hid (show Below w1.heap.size w1 (wo.drewN 1) from HBO.out.trans (below_drewN' _ _ _))
                  have HBAO := Lib.hid hbo
                  clear hbo
                  by_cases a4 : py = 9
                  · subst a4
                    cases a5 : withinB x3 0 10000 with
                    | false =>
                      have HW5 := Lib.hid (fun w => l01In_litT a5 w)
                      have HA5 := Lib.hid a5
                      clear a5
                      go_wp2_with fail
                      go_quiet ((go_at_call 30; (first | (with_reducible exact Calls.quiet_of_same ((HW5.out _).mono fun _ _ ⟨a, b⟩ => ⟨a, b.symm⟩)))))
                      go_wp2_with fail
                      go_ret
                      exact ⟨ret_bool (by rw [E.out, ← HR.out, HD.out]; exact (reds_no (redB_no (.inr (.inr (.inl (isRedB_no (.inr HA5.out))))))).symm), HB1.out.trans ((HBO.out.trans (below_drewN' _ _ _)).mono HB1.out.size)⟩
                    | true =>
                      have HW5 := Lib.hid (fun w => l01In_litT a5 w)
                      have HA5 := Lib.hid a5
                      clear a5
                      go_wp2_with fail
                      go_quiet ((go_at_call 30; (first | (with_reducible exact Calls.quiet_of_same ((HW5.out _).mono fun _ _ ⟨a, b⟩ => ⟨a, b.symm⟩)))))
                      clear hcC hyc FA F0
                      obtain ⟨wz, hwz, hbz⟩ : ∃ wz, wz = wo.drewN nq ∧ Below wo.heap.size wo wz := ⟨_, rfl, below_drewN' _ _ _⟩
                      rw [← hwz]
                      clear hwz HBO2
                      have HBO2 := Lib.hid (HBO.out.trans (hbz.mono HBO.out.size))
                      have HBZ := Lib.hid (HBAO.out.trans (hbz.mono HBAO.out.size))
                      clear hbz
                      have F0 := (HX0.out.below HBZ.out).f3
                      have FA := (HXA.out.below HBZ.out).f4
                      obtain ⟨av, ar, hav⟩ : ∃ a b, avgF t (rc : Int) (bt : Int) x2 = (a, b) := ⟨_, _, rfl⟩
                      have HAV := Lib.hid (fun w' (h : RdT w' (some ⟨b5, o5, none⟩) n (some ⟨b6, o6, none⟩) n t) => specAvg_any _ n c _ n d t rc bt x2 HOK.out hbt w' h)
                      rw [hav] at HAV
                      have HAVE := Lib.hid hav
                      clear hav
                      by_cases g5 : x2 = 3
                      · have HRB := Lib.hid (show redB t ((rc : Int), (bt : Int), x2, x3) = true from by rw [redB_ok (t := t) (x := ((rc : Int), (bt : Int), x2, x3)) HA1.out HA2.out (isRedB_yes HA6.out HA5.out (.inl g5)) HCA.out]; unfold redPtF; rw [if_pos g5])
                        have g5' : (x2 != 3) = false := by simp [g5]
                        subst g5
                        go_wp2_with fail
                        refine (HAV.out _ (h1.below HBO2.out)).mono ?_
                        rintro e wp ⟨rfl, hbp⟩
                        have FA := (HXA.out.below ((HBZ.out).trans (hbp.mono (HBZ.out).size))).f4
                        have HBP := Lib.hid (HBO2.out.trans (hbp.mono HBO2.out.size))
                        clear hbp
                        go_wp2_with fail
                        go_roundw
                        case rel => exact ⟨(j + 1) + 1, by omega, by go_num, Lib.hid (by rw [HPP.out, ← HR.out, HD.out, HPJ.out]; exact (reds_next HRB.out HLT.out).symm), HBP.out⟩
                        case measure => simp [intOf] <;> omega
                      · have g5' : (x2 != 3) = true := by simp [g5]
                        by_cases g6 : x3 = 0
                        · subst g6
                          have HRB := Lib.hid (show redB t ((rc : Int), (bt : Int), x2, 0) = ar from by rw [redB_ok (t := t) (x := ((rc : Int), (bt : Int), x2, 0)) HA1.out HA2.out (isRedB_yes HA6.out HA5.out (.inr rfl)) HCA.out]; unfold redPtF; rw [if_neg g5]; show (avgF t rc bt x2).2 = ar; rw [HAVE.out])
                          cases ar with
                          | false =>
                            go_wp2_with fail
                            refine (HAV.out _ (h1.below HBO2.out)).mono ?_
                            rintro e wp ⟨rfl, hbp⟩
                            have FA := (HXA.out.below ((HBZ.out).trans (hbp.mono (HBZ.out).size))).f4
                            have HBP := Lib.hid (HBO2.out.trans (hbp.mono HBO2.out.size))
                            clear hbp
                            go_wp2_with fail
                            go_ret
                            exact ⟨ret_bool (by rw [E.out, ← HR.out, HD.out]; exact (reds_no (HRB.out)).symm), HB1.out.trans (HBP.out.mono HB1.out.size)⟩
                          | true =>
                            go_wp2_with fail
                            refine (HAV.out _ (h1.below HBO2.out)).mono ?_
                            rintro e wp ⟨rfl, hbp⟩
                            have FA := (HXA.out.below ((HBZ.out).trans (hbp.mono (HBZ.out).size))).f4
                            have HBP := Lib.hid (HBO2.out.trans (hbp.mono HBO2.out.size))
                            clear hbp
                            go_wp2_with fail
                            go_roundw
                            case rel => exact ⟨(j + 1) + 1, by omega, by go_num, Lib.hid (by rw [HPP.out, ← HR.out, HD.out, HPJ.out]; exact (reds_next HRB.out HLT.out).symm), HBP.out⟩
                            case measure => simp [intOf] <;> omega
                        · have g6' : (x3 != 0) = true := by simp [g6]
                          have HI := Lib.hid (show isRedBT x2 x3 = false from by unfold isRedBT; rw [if_neg g5]; simp [g6])
                          go_wp2_with fail
                          refine (HAV.out _ (h1.below HBO2.out)).mono ?_
                          rintro e wp ⟨rfl, hbp⟩
                          have FA := (HXA.out.below ((HBZ.out).trans (hbp.mono (HBZ.out).size))).f4
                          have HBP := Lib.hid (HBO2.out.trans (hbp.mono HBO2.out.size))
                          clear hbp
                          go_wp2_with fail
                          go_ret
                          exact ⟨ret_bool (by rw [E.out, ← HR.out, HD.out]; exact (reds_no (redB_no (.inr (.inr (.inl HI.out))))).symm), HB1.out.trans (HBP.out.mono HB1.out.size)⟩
                  · have g4 : (py == 9) = false := by simp [a4]
                    have g4' : (py != 9) = true := by simp [a4]
                    go_wp2_with fail
                    go_quiet (fail)
                    go_wp2_with fail
                    go_ret
                    exact ⟨ret_bool (by rw [E.out, ← HR.out, HD.out]; exact (reds_no (redB_no (.inr (.inr (.inr (by rw [HCA.out]; exact a4)))))).symm), HB1.out.trans ((HBO.out.trans (below_drewN' _ _ _)).mono HB1.out.size)⟩
    · obtain rfl : k = l := by omega
      go_wp2_with fail
      go_ret
      exact ⟨ret_bool (by rw [E.out, ← HR.out, List.drop_eq_nil_of_le (by rw [HL.out]; omega)]; cases prevR xs k <;> rfl), HB1.out.trans (hb.mono HB1.out.size)⟩
end Go.Proofs.Ytalgdeieejpelaa

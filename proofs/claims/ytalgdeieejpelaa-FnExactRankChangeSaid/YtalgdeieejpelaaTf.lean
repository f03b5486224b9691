/- Walks: lists of redress of the program (chapter 29). -/
import Derived.Test.YtalgdeieejpelaaTe
import Derived.IntWalk
import Derived.Lib.QuietBelow
namespace Go.Proofs.Ytalgdeieejpelaa
open Go.RowKit Go.Sort
set_option linter.unusedVariables false
set_option maxRecDepth 100000

theorem within_bl {n a b : Int} {r : Bool} (h : withinB n a b = r) (w : World) : Calls Try.prog 37 #[.int .i64 n, .int .i64 a, .int .i64 b] w fun e w' => e = .returned (.bool r) ∧ Below w.heap.size w w' :=
  (within_litT h w).mono fun _ _ ⟨a, b⟩ => ⟨a, by rw [b]; exact Below.refl _ _⟩
set_option maxHeartbeats 4000000 in
theorem areRedress_any (P : Option Addr) (n c : Nat) (C : Option Addr) (m d : Nat) (t : Tb) (A : Option Addr) (l cl : Nat) (xs : List RedT) (ok : TabOk t) (w : World) (h : RdT w P n C m t) (hl : Rd w 4 A l (reds xs)) :
    Calls Try.prog 35 #[.agg #[.int .i64 t.boats, .slice P n c, .slice C m d], .slice A l cl] w fun e w' => e = .returned (.bool (redsB t xs)) ∧ Below w.heap.size w w' := by
  have hn := h.pts.le
  have hll := hl.le
  have hn12 : n ≤ 12 := by have := ok.many; have := h.pts.len; omega
  have HN := Lib.hid h.pts.len
  have HL := Lib.hid hl.len_red
  have hnm : n = m := by have := ok.same; have := h.pts.len; have := h.cds.len; omega
  subst hnm
  have hb1' := ok.b1
  have hb2' := ok.b2
  have E := Lib.hid (show redsB t xs = redsGo t none xs from rfl)
  generalize redsB t xs = R at *
  have HOK := Lib.hid ok
  clear ok
  go_enter Try.func35, Try.ntmps35
  go_wp2_with fail
  obtain ⟨w1, hw1, X0, hb1, hs1⟩ := one_box w #[.int .i64 t.boats, .slice P n c, .slice C n d] 31
  rw [← hw1]
  have hs1 : w.heap.size < w1.heap.size := by omega
  clear hw1
  have h1 := h.below hb1
  have HL1 := Lib.hid (hl.below hb1)
  have HB1 := Lib.hid hb1
  clear h hb1 hl
  go_loopw [11] (fun i wr => ∃ k : Nat, k ≤ l ∧ i = .int .i64 k ∧ Hid (redsGo t (prevR xs k) (xs.drop k) = redsGo t none xs) ∧ Below w1.heap.size w1 wr) (fun i _ => l - (intOf i).toNat)
  case atStart => exact ⟨0, Nat.zero_le _, rfl, Lib.hid rfl, Below.refl _ _⟩
  case round =>
    obtain ⟨k, hk, rfl, HR, hb⟩ := hrel
    by_cases hlt : k < l
    · obtain ⟨b, o, x0, x1, x2, x3, rfl, hx, hd, hc0, hc1, hc2, hc3⟩ := (HL1.out.below hb).red hlt
      have HD := Lib.hid hd; have HX := Lib.hid hx
      clear hd hx
      go_wp2_with fail
      clear hc0 hc1 hc2 hc3
      obtain ⟨wa, hwa, XA, hba, hsa⟩ := one_box wr #[.int .i64 x0, .int .i64 x1, .int .i64 x2, .int .i64 x3] 46
      rw [← hwa]
      have hsr := hb.size
      have hsa : wr.heap.size < wa.heap.size := by omega
      have F0 := ((X0.below hb).below hba).f3
      have FA := XA.f4
      have HBW := Lib.hid (hb.trans (hba.mono hb.size))
      have HX0 := Lib.hid (show Box wa w.heap.size _ _ from (X0.below hb).below hba)
      have HXA := Lib.hid XA
      clear hwa hb hba X0 XA
      cases a1 : withinB x0 0 ((n : Int) - 1) with
      | false =>
        have HA1 := Lib.hid (show withinB x0 0 ((t.pts.length : Int) - 1) = false by rw [HN.out]; exact a1)
        have HW1 := Lib.hid (fun w => within_bl a1 w)
        clear a1
        have kq0 := cell_regrown (F0.1)
        have kq1 := cell_regrown (F0.2.1)
        have kq2 := cell_regrown (F0.2.2.1)
        have kq3 := cell_regrown (FA.1)
        have kq4 := cell_regrown (FA.2.1)
        have kq5 := cell_regrown (FA.2.2.1)
        have kq6 := cell_regrown (FA.2.2.2.1)
        refine wp_region_quiet_below (by kernel_rfl) (by kernel_rfl) ?_
        repeat (first | go_big_quiet_step ((first | (go_at_call 37; (with_reducible exact Calls.regrown_of (HW1.out _))))) | quiet_step ((first | (go_at_call 37; (with_reducible exact Calls.regrown_of (HW1.out _))))))
        refine wpQuiet_nil ?_
        intro _ hw'
        obtain ⟨⟨dq, osq⟩, hw''⟩ := hw'
        subst hw''
        obtain ⟨wq, hq0, hq⟩ : ∃ wq, wq = grow (redrawn wa dq) osq ∧ Below wa.heap.size wa wq := ⟨_, rfl, below_regrown _ _ _⟩
        rw [← hq0]
        clear hq0 kq0 kq1 kq2 kq3 kq4 kq5 kq6
        go_wp2_with fail
        go_ret
        exact ⟨ret_bool (by rw [E.out, ← HR.out, HD.out]; exact (reds_no (redB_no (.inl HA1.out))).symm), HB1.out.trans ((HBW.out.trans (hq.mono HBW.out.size)).mono HB1.out.size)⟩
      | true =>
        have HA1 := Lib.hid (show withinB x0 0 ((t.pts.length : Int) - 1) = true by rw [HN.out]; exact a1)
        have HW1 := Lib.hid (fun w => within_bl a1 w)
        have r1 := withinB_iff.1 a1
        clear a1
        cases a2 : withinB x1 0 (t.boats - 1) with
        | false =>
          have HA2 := Lib.hid a2
          have HW2 := Lib.hid (fun w => within_bl a2 w)
          clear a2
          have kq0 := cell_regrown (F0.1)
          have kq1 := cell_regrown (F0.2.1)
          have kq2 := cell_regrown (F0.2.2.1)
          have kq3 := cell_regrown (FA.1)
          have kq4 := cell_regrown (FA.2.1)
          have kq5 := cell_regrown (FA.2.2.1)
          have kq6 := cell_regrown (FA.2.2.2.1)
          refine wp_region_quiet_below (by kernel_rfl) (by kernel_rfl) ?_
          repeat (first | go_big_quiet_step ((first | (go_at_call 37; (with_reducible exact Calls.regrown_of (HW1.out _))) | (go_at_call 37; (with_reducible exact Calls.regrown_of (HW2.out _))))) | quiet_step ((first | (go_at_call 37; (with_reducible exact Calls.regrown_of (HW1.out _))) | (go_at_call 37; (with_reducible exact Calls.regrown_of (HW2.out _))))))
          refine wpQuiet_nil ?_
          intro _ hw'
          obtain ⟨⟨dq, osq⟩, hw''⟩ := hw'
          subst hw''
          obtain ⟨wq, hq0, hq⟩ : ∃ wq, wq = grow (redrawn wa dq) osq ∧ Below wa.heap.size wa wq := ⟨_, rfl, below_regrown _ _ _⟩
          rw [← hq0]
          clear hq0 kq0 kq1 kq2 kq3 kq4 kq5 kq6
          go_wp2_with fail
          go_ret
          exact ⟨ret_bool (by rw [E.out, ← HR.out, HD.out]; exact (reds_no (redB_no (.inr (.inl HA2.out)))).symm), HB1.out.trans ((HBW.out.trans (hq.mono HBW.out.size)).mono HB1.out.size)⟩
        | true =>
          have HA2 := Lib.hid a2
          have HW2 := Lib.hid (fun w => within_bl a2 w)
          have r2 := withinB_iff.1 a2
          clear a2
          have HRED := Lib.hid (fun w => isRedress_anyT x0 x1 x2 x3 w)
          have wp1 : IntKind.i64.wrap ((n : Int) - 1) = (n : Int) - 1 := IntWalk.i64_in _ (by omega)
          have wp2 : IntKind.i64.wrap (t.boats - 1) = t.boats - 1 := IntWalk.i64_in _ (by omega)
          cases a3 : isRedBT x2 x3 with
          | false =>
            rw [a3] at HRED
            have HA3 := Lib.hid a3
            clear a3
            have kq0 := cell_regrown (F0.1)
            have kq1 := cell_regrown (F0.2.1)
            have kq2 := cell_regrown (F0.2.2.1)
            have kq3 := cell_regrown (FA.1)
            have kq4 := cell_regrown (FA.2.1)
            have kq5 := cell_regrown (FA.2.2.1)
            have kq6 := cell_regrown (FA.2.2.2.1)
            refine wp_region_quiet_below (by kernel_rfl) (by kernel_rfl) ?_
            repeat (first | go_big_quiet_step ((first | (go_at_call 37; (with_reducible exact Calls.regrown_of (HW1.out _))) | (go_at_call 37; (with_reducible exact Calls.regrown_of (HW2.out _))) | (go_at_call 47; (with_reducible exact Calls.regrown_of (HRED.out _))))) | quiet_step ((first | (go_at_call 37; (with_reducible exact Calls.regrown_of (HW1.out _))) | (go_at_call 37; (with_reducible exact Calls.regrown_of (HW2.out _))) | (go_at_call 47; (with_reducible exact Calls.regrown_of (HRED.out _))))))
            refine wpQuiet_nil ?_
            intro _ hw'
            obtain ⟨⟨dq, osq⟩, hw''⟩ := hw'
            subst hw''
            obtain ⟨wq, hq0, hq⟩ : ∃ wq, wq = grow (redrawn wa dq) osq ∧ Below wa.heap.size wa wq := ⟨_, rfl, below_regrown _ _ _⟩
            rw [← hq0]
            clear hq0 kq0 kq1 kq2 kq3 kq4 kq5 kq6
            go_wp2_with fail
            go_ret
            exact ⟨ret_bool (by rw [E.out, ← HR.out, HD.out]; exact (reds_no (redB_no (.inr (.inr (.inl HA3.out))))).symm), HB1.out.trans ((HBW.out.trans (hq.mono HBW.out.size)).mono HB1.out.size)⟩
          | true =>
            rw [a3] at HRED
            have HA3 := Lib.hid a3
            clear a3
            obtain ⟨rc, rfl⟩ := int_up x0 r1.1
            obtain ⟨bt, rfl⟩ := int_up x1 r2.1
            have hrn : rc < n := by omega
            have hbt : (bt : Int) < t.boats := by omega
            have HT := Lib.hid ((h1.below HBW.out))
            obtain ⟨b5, o5, A5, c5, p5, b6, o6, A6, c6, q5, px, py, b7, o7, b8, o8, rfl, rfl, _, hq5, _, hcC, rfl, rfl, _, hbq, _, hq16, _, hpy, _, _, _, hyc⟩ := tab_row HT.out HOK.out hrn hbt
            have HCA := Lib.hid (show codeAt t (rc : Int) (bt : Int) = py from by rw [← hpy, ← getD_of_drop hq5]; rfl)
            clear hq5 hpy
            by_cases a4 : py = 9
            · subst a4
              have kq0 := cell_regrown (F0.1)
              have kq1 := cell_regrown (F0.2.1)
              have kq2 := cell_regrown (F0.2.2.1)
              have kq3 := cell_regrown (FA.1)
              have kq4 := cell_regrown (FA.2.1)
              have kq5 := cell_regrown (FA.2.2.1)
              have kq6 := cell_regrown (FA.2.2.2.1)
              have kq7 := cell_regrown (hcC)
              have kq8 := cell_regrown (hyc)
              refine wp_region_quiet_below (by kernel_rfl) (by kernel_rfl) ?_
              repeat (first | go_big_quiet_step ((first | (go_at_call 37; (with_reducible exact Calls.regrown_of (HW1.out _))) | (go_at_call 37; (with_reducible exact Calls.regrown_of (HW2.out _))) | (go_at_call 47; (with_reducible exact Calls.regrown_of (HRED.out _))))) | quiet_step ((first | (go_at_call 37; (with_reducible exact Calls.regrown_of (HW1.out _))) | (go_at_call 37; (with_reducible exact Calls.regrown_of (HW2.out _))) | (go_at_call 47; (with_reducible exact Calls.regrown_of (HRED.out _))))))
              refine wpQuiet_nil ?_
              intro _ hw'
              obtain ⟨⟨dq, osq⟩, hw''⟩ := hw'
              subst hw''
              obtain ⟨wq, hq0, hq⟩ : ∃ wq, wq = grow (redrawn wa dq) osq ∧ Below wa.heap.size wa wq := ⟨_, rfl, below_regrown _ _ _⟩
              rw [← hq0]
              clear hq0 kq0 kq1 kq2 kq3 kq4 kq5 kq6 kq7 kq8
              have HBQ := Lib.hid (HBW.out.trans (hq.mono HBW.out.size))
              have F0 := (HX0.out.below hq).f3
              have FA := (HXA.out.below hq).f4
              clear hq hcC hyc
              have HRB := Lib.hid (redB_ok (t := t) (x := ((rc : Int), (bt : Int), x2, x3)) HA1.out HA2.out HA3.out HCA.out)
              have HRP := Lib.hid (fun w' (h : RdT w' (some ⟨b5, o5, none⟩) n (some ⟨b6, o6, none⟩) n t) => redressPoints_any _ n c _ n d t rc bt x2 x3 (isRedB_kind HA3.out) HOK.out hbt w' h)
              obtain ⟨rv, rr, hrp⟩ : ∃ a b, redPtF t ((rc : Int), (bt : Int), x2, x3) = (a, b) := ⟨_, _, rfl⟩
              rw [hrp] at HRP HRB
              clear hrp
              have HPV := Lib.hid (show ∀ j, k = j + 1 → ∃ y, xs[j]? = some y from fun j e => ⟨xs[j]'(by rw [HL.out]; omega), List.getElem?_eq_getElem _⟩)
              have HPP := Lib.hid (show prevR xs (k + 1) = some ((rc : Int), (bt : Int), x2, x3) from HX.out)
              rcases Nat.eq_zero_or_pos k with hk0 | hk0
              · have HK0 := Lib.hid hk0
                have e0 : decide (0 < (k : Int)) = false := by simp; omega
                go_wp2_with fail
                go_quiet (fail)
                clear e0
                cases rr with
                | false =>
                  go_wp2_with fail
                  refine (HRP.out _ (h1.below (HBQ.out.trans (below_drewN' _ _ _)))).mono ?_
                  rintro e wp ⟨rfl, hbp⟩
                  have HBP := Lib.hid ((HBQ.out.trans (below_drewN' _ _ _)).trans (hbp.mono (HBQ.out.trans (below_drewN' _ _ _)).size))
                  clear hbp
                  go_wp2_with fail
                  go_ret
                  exact ⟨ret_bool (by rw [E.out, ← HR.out, HD.out]; exact (reds_no HRB.out).symm), HB1.out.trans (HBP.out.mono HB1.out.size)⟩
                | true =>
                  go_wp2_with fail
                  refine (HRP.out _ (h1.below (HBQ.out.trans (below_drewN' _ _ _)))).mono ?_
                  rintro e wp ⟨rfl, hbp⟩
                  have HBP := Lib.hid ((HBQ.out.trans (below_drewN' _ _ _)).trans (hbp.mono (HBQ.out.trans (below_drewN' _ _ _)).size))
                  clear hbp
                  go_wp2_with fail
                  go_roundw
                  case rel => exact ⟨k + 1, by omega, by go_num, Lib.hid (by rw [HPP.out, ← HR.out, HD.out, HK0.out, show prevR xs 0 = none from rfl]; exact (reds_first HRB.out).symm), HBP.out⟩
                  case measure => simp [intOf] <;> omega
              · obtain ⟨j, rfl⟩ : ∃ j, k = j + 1 := ⟨k - 1, by omega⟩
                obtain ⟨bj, oj, y0, y1, y2, y3, hbj, hyj, _, hy0, hy1, _, _⟩ := (HL1.out.below HBQ.out).red (k := j) (by omega)
                injection hbj with hbj; injection hbj with hbj hoj; subst hbj; subst hoj
                have HPJ := Lib.hid (show prevR xs (j + 1) = some (y0, y1, y2, y3) from hyj)
                clear hyj
                by_cases g1 : (rc : Int) < y0
                · go_wp2_with fail
                  go_quiet (fail)
                  go_wp2_with fail
                  go_ret
                  exact ⟨ret_bool (by rw [E.out, ← HR.out, HD.out, HPJ.out]; exact (reds_bad (by unfold ltRB; simp; omega)).symm), HB1.out.trans ((HBQ.out.trans (below_drewN' _ _ _)).mono HB1.out.size)⟩
                · by_cases g2 : y0 = rc
                  · subst g2
                    by_cases g3 : (bt : Int) ≤ y1
                    · go_wp2_with fail
                      go_quiet (fail)
                      go_wp2_with fail
                      go_ret
                      exact ⟨ret_bool (by rw [E.out, ← HR.out, HD.out, HPJ.out]; exact (reds_bad (by unfold ltRB; simp; omega)).symm), HB1.out.trans ((HBQ.out.trans (below_drewN' _ _ _)).mono HB1.out.size)⟩
                    · have HLT := Lib.hid (show ltRB (((rc : Nat) : Int), y1, y2, y3) ((rc : Int), (bt : Int), x2, x3) = true from by unfold ltRB; simp; omega)
                      go_wp2_with fail
                      go_quiet (fail)
                      cases rr with
                      | false =>
                        go_wp2_with fail
                        refine (HRP.out _ (h1.below (HBQ.out.trans (below_drewN' _ _ _)))).mono ?_
                        rintro e wp ⟨rfl, hbp⟩
                        have HBP := Lib.hid ((HBQ.out.trans (below_drewN' _ _ _)).trans (hbp.mono (HBQ.out.trans (below_drewN' _ _ _)).size))
                        clear hbp
                        go_wp2_with fail
                        go_ret
                        exact ⟨ret_bool (by rw [E.out, ← HR.out, HD.out]; exact (reds_no HRB.out).symm), HB1.out.trans (HBP.out.mono HB1.out.size)⟩
                      | true =>
                        go_wp2_with fail
                        refine (HRP.out _ (h1.below (HBQ.out.trans (below_drewN' _ _ _)))).mono ?_
                        rintro e wp ⟨rfl, hbp⟩
                        have HBP := Lib.hid ((HBQ.out.trans (below_drewN' _ _ _)).trans (hbp.mono (HBQ.out.trans (below_drewN' _ _ _)).size))
                        clear hbp
                        go_wp2_with fail
                        go_roundw
                        case rel => exact ⟨(j + 1) + 1, by omega, by go_num, Lib.hid (by rw [HPP.out, ← HR.out, HD.out, HPJ.out]; exact (reds_next HRB.out HLT.out).symm), HBP.out⟩
                        case measure => simp [intOf] <;> omega
                  · have g2' : (y0 == (rc : Int)) = false := by simp; omega
                    have g1' : decide ((rc : Int) < y0) = false := by simp; omega
                    have HLT := Lib.hid (show ltRB (y0, y1, y2, y3) ((rc : Int), (bt : Int), x2, x3) = true from by unfold ltRB; simp; omega)
                    go_wp2_with fail
                    go_quiet (fail)
                    cases rr with
                    | false =>
                      go_wp2_with fail
                      refine (HRP.out _ (h1.below (HBQ.out.trans (below_drewN' _ _ _)))).mono ?_
                      rintro e wp ⟨rfl, hbp⟩
                      have HBP := Lib.hid ((HBQ.out.trans (below_drewN' _ _ _)).trans (hbp.mono (HBQ.out.trans (below_drewN' _ _ _)).size))
                      clear hbp
                      go_wp2_with fail
                      go_ret
                      exact ⟨ret_bool (by rw [E.out, ← HR.out, HD.out]; exact (reds_no HRB.out).symm), HB1.out.trans (HBP.out.mono HB1.out.size)⟩
                    | true =>
                      go_wp2_with fail
                      refine (HRP.out _ (h1.below (HBQ.out.trans (below_drewN' _ _ _)))).mono ?_
                      rintro e wp ⟨rfl, hbp⟩
                      have HBP := Lib.hid ((HBQ.out.trans (below_drewN' _ _ _)).trans (hbp.mono (HBQ.out.trans (below_drewN' _ _ _)).size))
                      clear hbp
                      go_wp2_with fail
                      go_roundw
                      case rel => exact ⟨(j + 1) + 1, by omega, by go_num, Lib.hid (by rw [HPP.out, ← HR.out, HD.out, HPJ.out]; exact (reds_next HRB.out HLT.out).symm), HBP.out⟩
                      case measure => simp [intOf] <;> omega
            · have g4 : (py == 9) = false := by simp [a4]
              have g4' : (py != 9) = true := by simp [a4]
              have kq0 := cell_regrown (F0.1)
              have kq1 := cell_regrown (F0.2.1)
              have kq2 := cell_regrown (F0.2.2.1)
              have kq3 := cell_regrown (FA.1)
              have kq4 := cell_regrown (FA.2.1)
              have kq5 := cell_regrown (FA.2.2.1)
              have kq6 := cell_regrown (FA.2.2.2.1)
              have kq7 := cell_regrown (hcC)
              have kq8 := cell_regrown (hyc)
              refine wp_region_quiet_below (by kernel_rfl) (by kernel_rfl) ?_
              repeat (first | go_big_quiet_step ((first | (go_at_call 37; (with_reducible exact Calls.regrown_of (HW1.out _))) | (go_at_call 37; (with_reducible exact Calls.regrown_of (HW2.out _))) | (go_at_call 47; (with_reducible exact Calls.regrown_of (HRED.out _))))) | quiet_step ((first | (go_at_call 37; (with_reducible exact Calls.regrown_of (HW1.out _))) | (go_at_call 37; (with_reducible exact Calls.regrown_of (HW2.out _))) | (go_at_call 47; (with_reducible exact Calls.regrown_of (HRED.out _))))))
              refine wpQuiet_nil ?_
              intro _ hw'
              obtain ⟨⟨dq, osq⟩, hw''⟩ := hw'
              subst hw''
              obtain ⟨wq, hq0, hq⟩ : ∃ wq, wq = grow (redrawn wa dq) osq ∧ Below wa.heap.size wa wq := ⟨_, rfl, below_regrown _ _ _⟩
              rw [← hq0]
              clear hq0 kq0 kq1 kq2 kq3 kq4 kq5 kq6 kq7 kq8
              go_wp2_with fail
              go_ret
              exact ⟨ret_bool (by rw [E.out, ← HR.out, HD.out]; exact (reds_no (redB_no (.inr (.inr (.inr (by rw [HCA.out]; exact a4)))))).symm), HB1.out.trans ((HBW.out.trans (hq.mono HBW.out.size)).mono HB1.out.size)⟩
    · obtain rfl : k = l := by omega
      go_wp2_with fail
      go_ret
      exact ⟨ret_bool (by rw [E.out, ← HR.out, List.drop_eq_nil_of_le (by rw [HL.out]; omega)]; cases prevR xs k <;> rfl), HB1.out.trans (hb.mono HB1.out.size)⟩
end Go.Proofs.Ytalgdeieejpelaa

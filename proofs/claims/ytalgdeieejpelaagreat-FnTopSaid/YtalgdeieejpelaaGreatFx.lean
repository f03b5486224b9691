/- Walks: points of a race in fleets, the spec. -/
import Derived.Test.YtalgdeieejpelaaGreatFt
import Derived.Test.YtalgdeieejpelaaGreatZmh
import Derived.Test.YtalgdeieejpelaaGreatZmb
import Derived.BigRegion
import Derived.Lib.QuietBelow
namespace Go.Proofs.YtalgdeieejpelaaGreat
open Go.RowKit Go.Sort
set_option linter.unusedVariables false
set_option maxRecDepth 100000

theorem l26Done_any (x0 x1 x2 : Int) (w : World) :
    Calls Tryz.prog 134 #[.agg #[.int .i64 x0, .int .i64 x1, .int .i64 x2]] w fun e w' => e = .returned (.bool (x1 == 0)) ∧ Below w.heap.size w w' := by
  obtain ⟨w1, hw1, X0, hb1, hs1⟩ := one_box w #[.int .i64 x0, .int .i64 x1, .int .i64 x2] 128
  go_enter Tryz.func134, Tryz.ntmps134
  have F0 := X0.f3
  go_wp2_with fail
  rw [← hw1]
  go_wp2_with fail
  go_ret
  exact ⟨rfl, hb1⟩
theorem l26Done_lit (x0 x2 : Int) {x1 : Int} {r : Bool} (h : (x1 == 0) = r) (w : World) :
    Calls Tryz.prog 134 #[.agg #[.int .i64 x0, .int .i64 x1, .int .i64 x2]] w fun e w' => e = .returned (.bool r) ∧ Below w.heap.size w w' := by
  subst h; exact l26Done_any x0 x1 x2 w
theorem ofFleet_snoc (fl : Int) (f : FinishT) (x : Int) : ∀ (fs : List FinishT) (l : List Int), fs.length = l.length → ofFleet fl (fs ++ [f]) (l ++ [x]) = ofFleet fl fs l ++ (if x = fl then [f] else []) := by
  intro fs
  induction fs with
  | nil =>
    intro l h
    cases l with
    | nil => simp only [List.nil_append, ofFleet]
    | cons y l => simp at h
  | cons g r ih =>
    intro l h
    cases l with
    | nil => simp at h
    | cons y l =>
      simp only [List.cons_append, ofFleet]
      rw [ih l (by simpa using h)]
      by_cases hy : y = fl
      · rw [if_pos hy, if_pos hy]; rfl
      · rw [if_neg hy, if_neg hy]
set_option maxHeartbeats 40000000 in
theorem l26Place_any (A : Option Addr) (n c : Nat) (fs : List FinishT) (B : Option Addr) (m d : Nat) (list : List Int) (q : Nat) (y0 y1 y2 lb : Int) (w : World) (h : Rd w 3 A n (fins fs)) (hl : Rd w 1 B m (ints list)) (hq : fs[q]? = some (y0, y1, y2)) (hql : list[q]? = some lb) (hnm : n = m) (hn : n ≤ 16) :
    Calls Tryz.prog 123 #[.agg #[.slice A n c], .slice B m d, .int .i64 q] w fun e w' => e = .returned (.tuple #[.int .i64 (1 + ltN y2 (ofFleet lb fs list)), .int .i64 (eqN y2 (ofFleet lb fs list))]) ∧ Below w.heap.size w w' := by
  subst hnm
  have HN := Lib.hid h.len_fin
  have HM := Lib.hid hl.len_int
  have hqn : q < n := by have := (List.getElem?_eq_some_iff.1 hq).1; rw [HN.out] at this; exact this
  obtain ⟨b, o, z0, z1, z2, hbe, hz, _, hd0, hd1, hd2⟩ := h.fin hqn
  subst hbe
  rw [hq] at hz
  injection hz with hz
  injection hz with hz0 hz
  injection hz with hz1 hz2
  subst hz0; subst hz1; subst hz2
  obtain ⟨b2, o2, z, hbe, hz, _, he⟩ := hl.int hqn
  subst hbe
  rw [hql] at hz
  injection hz with hz
  subst hz
  have HRD := Lib.hid (fun w' (hb : Below w.heap.size w w') => h.below hb)
  have HRL := Lib.hid (fun w' (hb : Below w.heap.size w w') => hl.below hb)
  obtain ⟨w1, hw1, X0, hb1, hs1⟩ := one_box w #[.slice (some ⟨b, o, none⟩) n c] 90
  have HCQ := Lib.hid (fun w' (hb : Below w.heap.size w w') => (hb.cell (p := ⟨b, o + q * 3 + 2, none⟩) (cell_lt hd2)).trans hd2)
  have HCL := Lib.hid (fun w' (hb : Below w.heap.size w w') => (hb.cell (p := ⟨b2, o2 + q, none⟩) (cell_lt he)).trans he)
  have HB1 := Lib.hid hb1
  have HX1 := Lib.hid X0
  clear h hl hq hql hd0 hd1 hd2 he hb1 X0
  go_enter Tryz.func123, Tryz.ntmps123
  go_wp2_with fail
  rw [← hw1]
  clear hw1
  have F0 := HX1.out.l1
  go_wp2_with fail
  go_loopw [8, 9, 10] (fun p s i wr => ∃ j : Nat, j ≤ n ∧ i = .int .i64 j ∧ p = .int .i64 (1 + ltN y2 (ofFleet lb (fs.take j) (list.take j))) ∧ s = .int .i64 (eqN y2 (ofFleet lb (fs.take j) (list.take j))) ∧ Hid (Box wr w.heap.size #[.slice (some ⟨b, o, none⟩) n c] 90) ∧ Hid (Below w.heap.size w wr)) (fun _ _ i _ => n - (intOf i).toNat)
  case atStart => exact ⟨0, Nat.zero_le _, rfl, by simp [ofFleet, ltN], by simp [ofFleet, eqN], HX1, HB1⟩
  case round =>
    clear F0 HX1 HB1
    obtain ⟨j, hj, rfl, rfl, rfl, HX, HB⟩ := hrel
    obtain ⟨wo, hwo⟩ : ∃ wo : World, wo = wr := ⟨_, rfl⟩
    subst hwo
    have F0 := HX.out.l1
    have hl1 : (ofFleet lb (fs.take j) (list.take j)).length ≤ 16 := Nat.le_trans (ofFleet_len _ _ _) (by rw [List.length_take, HN.out]; omega)
    have hp1 := ltN_le y2 (ofFleet lb (fs.take j) (list.take j))
    have hp2 := eqN_le y2 (ofFleet lb (fs.take j) (list.take j))
    by_cases hjn : j < n
    · obtain ⟨b', o', x0, x1, x2, hbe, hx, _, hc0, hc1, hc2⟩ := (HRD.out _ HB.out).fin hjn
      injection hbe with hbe; injection hbe with hbe1 hbe2; subst hbe1; subst hbe2
      obtain ⟨b3, o3, lj, hbe, hlx, _, hcl⟩ := (HRL.out _ HB.out).int hjn
      injection hbe with hbe; injection hbe with hbe1 hbe2; subst hbe1; subst hbe2
      have hcq := HCQ.out _ HB.out
      have hcb := HCL.out _ HB.out
      have HSN := Lib.hid (show ofFleet lb (fs.take (j + 1)) (list.take (j + 1)) = ofFleet lb (fs.take j) (list.take j) ++ (if lj = lb then [(x0, x1, x2)] else []) from by rw [take_snoc_get hx, take_snoc_get hlx]; exact ofFleet_snoc _ _ _ _ _ (by rw [List.length_take, List.length_take, HN.out, HM.out]))
      generalize ofFleet lb (fs.take j) (list.take j) = pre at *
      clear hx hlx
      generalize hLN : ltN y2 pre = ln at *
      generalize hEN : eqN y2 pre = en at *
      have HLN := Lib.hid hLN
      have HEN := Lib.hid hEN
      clear hLN hEN
      obtain ⟨wa, hwa, XA, hba, hsa⟩ := one_box wo #[.int .i64 x0, .int .i64 x1, .int .i64 x2] 128
      have HBA := Lib.hid (HB.out.trans (hba.mono HB.out.size))
      have HXA := Lib.hid (HX.out.below hba)
      have hql1 := cell_lt hcl
      have hql2 := cell_lt hcb
      have hql3 := cell_lt hcq
      replace hcl := (hba.cell (p := ⟨b2, o2 + j, none⟩) hql1).trans hcl
      replace hcb := (hba.cell (p := ⟨b2, o2 + q, none⟩) hql2).trans hcb
      replace hcq := (hba.cell (p := ⟨b, o + q * 3 + 2, none⟩) hql3).trans hcq
      clear hql1 hql2 hql3
      go_wp2_with fail
      rw [← hwa]
      clear hwa F0 hc0 hc1 hc2
      by_cases e1 : x1 = 0
      · have h0 : (x1 == 0) = true := by simp [e1]
        by_cases e2 : lj = lb
        · have h2 : (lj != lb) = false := by simp [e2]
          have HSN2 := Lib.hid (show ofFleet lb (fs.take (j + 1)) (list.take (j + 1)) = pre ++ [(x0, x1, x2)] from by rw [HSN.out, if_pos e2])
          subst e2
          subst e1
          have kq0 := cell_regrown (XA.cell (i := 0) rfl)
          have kq1 := cell_regrown (XA.cell (i := 1) rfl)
          have kq2 := cell_regrown (XA.cell (i := 2) rfl)
          have kq3 := cell_regrown (hcl)
          have kq4 := cell_regrown (hcb)
          refine wp_region_quiet_below (by kernel_rfl) (by kernel_rfl) ?_
          repeat (first | go_big_quiet_step ((first | (go_at_call 134; (with_reducible exact Calls.regrown_of (l26Done_lit _ _ h0 _))))) | quiet_step ((first | (go_at_call 134; (with_reducible exact Calls.regrown_of (l26Done_lit _ _ h0 _))))))
          refine wpQuiet_nil ?_
          intro _ hw'
          obtain ⟨⟨dq, osq⟩, hw''⟩ := hw'
          subst hw''
          obtain ⟨wq, hq0, hq⟩ : ∃ wnew, wnew = grow (redrawn wa dq) osq ∧ Below wa.heap.size wa wnew := ⟨_, rfl, below_regrown _ _ _⟩
          rw [← hq0]
          clear hq0 kq0 kq1 kq2 kq3 kq4
          have HBQ := Lib.hid (HBA.out.trans (hq.mono HBA.out.size))
          have HXQ := Lib.hid (HXA.out.below hq)
          have XQ := XA.below hq
          have hcq2 := (hq.cell (p := ⟨b, o + q * 3 + 2, none⟩) (cell_lt hcq)).trans hcq
          have F1 := HXQ.out.l1
          have F2 := XQ.f3
          clear hq
          by_cases g1 : x2 < y2
          · have gb : decide (x2 < y2) = true := by simpa using g1
            have g2 : ¬ x2 = y2 := by omega
            have gc : (x2 == y2) = false := by simpa using g2
            have HLT := Lib.hid (show ltN y2 (ofFleet lj (fs.take (j + 1)) (list.take (j + 1))) = ln + 1 from by rw [HSN2.out, ltN_snoc, HLN.out, if_pos (by simpa using g1)])
            have HET := Lib.hid (show eqN y2 (ofFleet lj (fs.take (j + 1)) (list.take (j + 1))) = en + 0 from by rw [HSN2.out, eqN_snoc, HEN.out, if_neg (by simpa using g2)])
            clear HSN2 HSN
            clear hcl hcb hcq XA HXA HBA
            go_wp2_with fail
            go_region
            go_wp2_with fail
            go_region
            go_wp2_with fail
            have hdd : Below wq.heap.size wq wq.drew.drew := below_drewN (below_drewN (Below.refl _ _) 1) 1
            go_roundw
            case rel => exact ⟨j + 1, by omega, by go_num, by rw [HLT.out]; first | done | (congr 1 <;> omega), by rw [HET.out]; first | done | (congr 1 <;> omega), Lib.hid (HXQ.out.below hdd), Lib.hid (HBQ.out.trans (hdd.mono HBQ.out.size))⟩
            case measure => simp [intOf] <;> omega
          · have gb : decide (x2 < y2) = false := by simpa using g1
            by_cases g2 : x2 = y2
            · have gc : (x2 == y2) = true := by simpa using g2
              have HLT := Lib.hid (show ltN y2 (ofFleet lj (fs.take (j + 1)) (list.take (j + 1))) = ln + 0 from by rw [HSN2.out, ltN_snoc, HLN.out, if_neg (by simpa using g1)])
              have HET := Lib.hid (show eqN y2 (ofFleet lj (fs.take (j + 1)) (list.take (j + 1))) = en + 1 from by rw [HSN2.out, eqN_snoc, HEN.out, if_pos (by simpa using g2)])
              clear HSN2 HSN
              clear hcl hcb hcq XA HXA HBA
              go_wp2_with fail
              go_region
              go_wp2_with fail
              go_region
              go_wp2_with fail
              have hdd : Below wq.heap.size wq wq.drew.drew := below_drewN (below_drewN (Below.refl _ _) 1) 1
              go_roundw
              case rel => exact ⟨j + 1, by omega, by go_num, by rw [HLT.out]; first | done | (congr 1 <;> omega), by rw [HET.out]; first | done | (congr 1 <;> omega), Lib.hid (HXQ.out.below hdd), Lib.hid (HBQ.out.trans (hdd.mono HBQ.out.size))⟩
              case measure => simp [intOf] <;> omega
            · have gc : (x2 == y2) = false := by simpa using g2
              have HLT := Lib.hid (show ltN y2 (ofFleet lj (fs.take (j + 1)) (list.take (j + 1))) = ln + 0 from by rw [HSN2.out, ltN_snoc, HLN.out, if_neg (by simpa using g1)])
              have HET := Lib.hid (show eqN y2 (ofFleet lj (fs.take (j + 1)) (list.take (j + 1))) = en + 0 from by rw [HSN2.out, eqN_snoc, HEN.out, if_neg (by simpa using g2)])
              clear HSN2 HSN
              clear hcl hcb hcq XA HXA HBA
              go_wp2_with fail
              go_region
              go_wp2_with fail
              go_region
              go_wp2_with fail
              have hdd : Below wq.heap.size wq wq.drew.drew := below_drewN (below_drewN (Below.refl _ _) 1) 1
              go_roundw
              case rel => exact ⟨j + 1, by omega, by go_num, by rw [HLT.out]; first | done | (congr 1 <;> omega), by rw [HET.out]; first | done | (congr 1 <;> omega), Lib.hid (HXQ.out.below hdd), Lib.hid (HBQ.out.trans (hdd.mono HBQ.out.size))⟩
              case measure => simp [intOf] <;> omega
        · have h2 : (lj != lb) = true := by simp [e2]
          have HSN2 := Lib.hid (show ofFleet lb (fs.take (j + 1)) (list.take (j + 1)) = pre from by rw [HSN.out, if_neg e2, List.append_nil])
          subst e1
          clear e2 HSN
          have kq0 := cell_regrown (XA.cell (i := 0) rfl)
          have kq1 := cell_regrown (XA.cell (i := 1) rfl)
          have kq2 := cell_regrown (XA.cell (i := 2) rfl)
          have kq3 := cell_regrown (hcl)
          have kq4 := cell_regrown (hcb)
          refine wp_region_quiet_below (by kernel_rfl) (by kernel_rfl) ?_
          repeat (first | go_big_quiet_step ((first | (go_at_call 134; (with_reducible exact Calls.regrown_of (l26Done_lit _ _ h0 _))))) | quiet_step ((first | (go_at_call 134; (with_reducible exact Calls.regrown_of (l26Done_lit _ _ h0 _))))))
          refine wpQuiet_nil ?_
          intro _ hw'
          obtain ⟨⟨dq, osq⟩, hw''⟩ := hw'
          subst hw''
          obtain ⟨wq, hq0, hq⟩ : ∃ wnew, wnew = grow (redrawn wa dq) osq ∧ Below wa.heap.size wa wnew := ⟨_, rfl, below_regrown _ _ _⟩
          rw [← hq0]
          clear hq0 kq0 kq1 kq2 kq3 kq4
          have HBQ := Lib.hid (HBA.out.trans (hq.mono HBA.out.size))
          have HXQ := Lib.hid (HXA.out.below hq)
          clear hq
          go_wp2_with fail
          go_roundw
          case rel => exact ⟨j + 1, by omega, by go_num, by rw [HSN2.out, HLN.out], by rw [HSN2.out, HEN.out], HXQ, HBQ⟩
          case measure => simp [intOf] <;> omega
      · have h0 : (x1 == 0) = false := by simp [e1]
        have HSN2 := Lib.hid (show ltN y2 (ofFleet lb (fs.take (j + 1)) (list.take (j + 1))) = ln ∧ eqN y2 (ofFleet lb (fs.take (j + 1)) (list.take (j + 1))) = en from by
          rw [HSN.out]; split
          · rw [ltN_snoc, eqN_snoc, if_neg (by simp [e1]), if_neg (by simp [e1])]; exact ⟨HLN.out, HEN.out⟩
          · rw [List.append_nil]; exact ⟨HLN.out, HEN.out⟩)
        clear e1 HSN
        have kq0 := cell_regrown (XA.cell (i := 0) rfl)
        have kq1 := cell_regrown (XA.cell (i := 1) rfl)
        have kq2 := cell_regrown (XA.cell (i := 2) rfl)
        have kq3 := cell_regrown (hcl)
        have kq4 := cell_regrown (hcb)
        refine wp_region_quiet_below (by kernel_rfl) (by kernel_rfl) ?_
        repeat (first | go_big_quiet_step ((first | (go_at_call 134; (with_reducible exact Calls.regrown_of (l26Done_lit _ _ h0 _))))) | quiet_step ((first | (go_at_call 134; (with_reducible exact Calls.regrown_of (l26Done_lit _ _ h0 _))))))
        refine wpQuiet_nil ?_
        intro _ hw'
        obtain ⟨⟨dq, osq⟩, hw''⟩ := hw'
        subst hw''
        obtain ⟨wq, hq0, hq⟩ : ∃ wnew, wnew = grow (redrawn wa dq) osq ∧ Below wa.heap.size wa wnew := ⟨_, rfl, below_regrown _ _ _⟩
        rw [← hq0]
        clear hq0 kq0 kq1 kq2 kq3 kq4
        have HBQ := Lib.hid (HBA.out.trans (hq.mono HBA.out.size))
        have HXQ := Lib.hid (HXA.out.below hq)
        clear hq
        go_wp2_with fail
        go_roundw
        case rel => exact ⟨j + 1, by omega, by go_num, by rw [HSN2.out.1], by rw [HSN2.out.2], HXQ, HBQ⟩
        case measure => simp [intOf] <;> omega
    · obtain rfl : j = n := by omega
      rw [List.take_of_length_le (by rw [HN.out]; exact Nat.le_refl _), List.take_of_length_le (by rw [HM.out]; exact Nat.le_refl _)]
      go_wp2_with fail
      go_ret2
      exact ⟨rfl, HB.out⟩
end Go.Proofs.YtalgdeieejpelaaGreat

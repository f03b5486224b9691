/- General and plain lemmas, and light walks (merged): Fx Yr Wek Wib Co. -/
import Derived.Test.YtalgdeieejpelaaGreatDoorFt
import Derived.Test.YtalgdeieejpelaaGreatDoorZmf
import Derived.Test.YtalgdeieejpelaaGreatDoorZme
import Derived.BigRegion
import Derived.Lib.QuietBelow
/- Walks: points of a race in fleets, the spec. -/
namespace Go.Proofs.YtalgdeieejpelaaGreatDoor
open Go.RowKit Go.Sort
set_option linter.unusedVariables false
set_option maxRecDepth 100000

theorem l26Done_any (x0 x1 x2 : Int) (w : World) :
    Calls Tryz.prog 138 #[.agg #[.int .i64 x0, .int .i64 x1, .int .i64 x2]] w fun e w' => e = .returned (.bool (x1 == 0)) ∧ Below w.heap.size w w' := by
  obtain ⟨w1, hw1, X0, hb1, hs1⟩ := one_box w #[.int .i64 x0, .int .i64 x1, .int .i64 x2] 109
  go_enter Tryz.func138, Tryz.ntmps138
  have F0 := X0.f3
  go_wp2_with fail
  rw [← hw1]
  go_wp2_with fail
  go_ret
  exact ⟨rfl, hb1⟩
theorem l26Done_lit (x0 x2 : Int) {x1 : Int} {r : Bool} (h : (x1 == 0) = r) (w : World) :
    Calls Tryz.prog 138 #[.agg #[.int .i64 x0, .int .i64 x1, .int .i64 x2]] w fun e w' => e = .returned (.bool r) ∧ Below w.heap.size w w' := by
  subst h; exact l26Done_any x0 x1 x2 w
theorem ofFleet_snoc (fl : Int) (f : FinishT) (x : Int) : ∀ (fs : List FinishT) (l : List Int), fs.length = l.length → ofFleet fl (fs ++ [f]) (l ++ [x]) = ofFleet fl fs l ++ (if x = fl then [f] else []) := by
  intro fs
  induction fs with
  | nil =>
    intro l h
    cases l with
    | nil => simp only [List.nil_append, ofFleet]
    | cons y l => simp at h
  | cons g r ih =>
    intro l h
    cases l with
    | nil => simp at h
    | cons y l =>
      simp only [List.cons_append, ofFleet]
      rw [ih l (by simpa using h)]
      by_cases hy : y = fl
      · rw [if_pos hy, if_pos hy]; rfl
      · rw [if_neg hy, if_neg hy]
set_option maxHeartbeats 40000000 in
theorem l26Place_any (A : Option Addr) (n c : Nat) (fs : List FinishT) (B : Option Addr) (m d : Nat) (list : List Int) (q : Nat) (y0 y1 y2 lb : Int) (w : World) (h : Rd w 3 A n (fins fs)) (hl : Rd w 1 B m (ints list)) (hq : fs[q]? = some (y0, y1, y2)) (hql : list[q]? = some lb) (hnm : n = m) (hn : n ≤ 16) :
    Calls Tryz.prog 120 #[.agg #[.slice A n c], .slice B m d, .int .i64 q] w fun e w' => e = .returned (.tuple #[.int .i64 (1 + ltN y2 (ofFleet lb fs list)), .int .i64 (eqN y2 (ofFleet lb fs list))]) ∧ Below w.heap.size w w' := by
  subst hnm
  have HN := Lib.hid h.len_fin
  have HM := Lib.hid hl.len_int
  have hqn : q < n := by have := (List.getElem?_eq_some_iff.1 hq).1; rw [HN.out] at this; exact this
  obtain ⟨b, o, z0, z1, z2, hbe, hz, _, hd0, hd1, hd2⟩ := h.fin hqn
  subst hbe
  rw [hq] at hz
  injection hz with hz
  injection hz with hz0 hz
  injection hz with hz1 hz2
  subst hz0; subst hz1; subst hz2
  obtain ⟨b2, o2, z, hbe, hz, _, he⟩ := hl.int hqn
  subst hbe
  rw [hql] at hz
  injection hz with hz
  subst hz
  have HRD := Lib.hid (fun w' (hb : Below w.heap.size w w') => h.below hb)
  have HRL := Lib.hid (fun w' (hb : Below w.heap.size w w') => hl.below hb)
  obtain ⟨w1, hw1, X0, hb1, hs1⟩ := one_box w #[.slice (some ⟨b, o, none⟩) n c] 107
  have HCQ := Lib.hid (fun w' (hb : Below w.heap.size w w') => (hb.cell (p := ⟨b, o + q * 3 + 2, none⟩) (cell_lt hd2)).trans hd2)
  have HCL := Lib.hid (fun w' (hb : Below w.heap.size w w') => (hb.cell (p := ⟨b2, o2 + q, none⟩) (cell_lt he)).trans he)
  have HB1 := Lib.hid hb1
  have HX1 := Lib.hid X0
  clear h hl hq hql hd0 hd1 hd2 he hb1 X0
  go_enter Tryz.func120, Tryz.ntmps120
  go_wp2_with fail
  rw [← hw1]
  clear hw1
  have F0 := HX1.out.l1
  go_wp2_with fail
  go_loopw [8, 9, 10] (fun p s i wr => ∃ j : Nat, j ≤ n ∧ i = .int .i64 j ∧ p = .int .i64 (1 + ltN y2 (ofFleet lb (fs.take j) (list.take j))) ∧ s = .int .i64 (eqN y2 (ofFleet lb (fs.take j) (list.take j))) ∧ Hid (Box wr w.heap.size #[.slice (some ⟨b, o, none⟩) n c] 107) ∧ Hid (Below w.heap.size w wr)) (fun _ _ i _ => n - (intOf i).toNat)
  case atStart => exact ⟨0, Nat.zero_le _, rfl, by simp [ofFleet, ltN], by simp [ofFleet, eqN], HX1, HB1⟩
  case round =>
    clear F0 HX1 HB1
    obtain ⟨j, hj, rfl, rfl, rfl, HX, HB⟩ := hrel
    obtain ⟨wo, hwo⟩ : ∃ wo : World, wo = wr := ⟨_, rfl⟩
    subst hwo
    have F0 := HX.out.l1
    have hl1 : (ofFleet lb (fs.take j) (list.take j)).length ≤ 16 := Nat.le_trans (ofFleet_len _ _ _) (by rw [List.length_take, HN.out]; omega)
    have hp1 := ltN_le y2 (ofFleet lb (fs.take j) (list.take j))
    have hp2 := eqN_le y2 (ofFleet lb (fs.take j) (list.take j))
    by_cases hjn : j < n
    · obtain ⟨b', o', x0, x1, x2, hbe, hx, _, hc0, hc1, hc2⟩ := (HRD.out _ HB.out).fin hjn
      injection hbe with hbe; injection hbe with hbe1 hbe2; subst hbe1; subst hbe2
      obtain ⟨b3, o3, lj, hbe, hlx, _, hcl⟩ := (HRL.out _ HB.out).int hjn
      injection hbe with hbe; injection hbe with hbe1 hbe2; subst hbe1; subst hbe2
      have hcq := HCQ.out _ HB.out
      have hcb := HCL.out _ HB.out
      have HSN := Lib.hid (show ofFleet lb (fs.take (j + 1)) (list.take (j + 1)) = ofFleet lb (fs.take j) (list.take j) ++ (if lj = lb then [(x0, x1, x2)] else []) from by rw [take_snoc_get hx, take_snoc_get hlx]; exact ofFleet_snoc _ _ _ _ _ (by rw [List.length_take, List.length_take, HN.out, HM.out]))
      generalize ofFleet lb (fs.take j) (list.take j) = pre at *
      clear hx hlx
      generalize hLN : ltN y2 pre = ln at *
      generalize hEN : eqN y2 pre = en at *
      have HLN := Lib.hid hLN
      have HEN := Lib.hid hEN
      clear hLN hEN
      obtain ⟨wa, hwa, XA, hba, hsa⟩ := one_box wo #[.int .i64 x0, .int .i64 x1, .int .i64 x2] 109
      have HBA := Lib.hid (HB.out.trans (hba.mono HB.out.size))
      have HXA := Lib.hid (HX.out.below hba)
      have hql1 := cell_lt hcl
      have hql2 := cell_lt hcb
      have hql3 := cell_lt hcq
      replace hcl := (hba.cell (p := ⟨b2, o2 + j, none⟩) hql1).trans hcl
      replace hcb := (hba.cell (p := ⟨b2, o2 + q, none⟩) hql2).trans hcb
      replace hcq := (hba.cell (p := ⟨b, o + q * 3 + 2, none⟩) hql3).trans hcq
      clear hql1 hql2 hql3
      go_wp2_with fail
      rw [← hwa]
      clear hwa F0 hc0 hc1 hc2
      by_cases e1 : x1 = 0
      · have h0 : (x1 == 0) = true := by simp [e1]
        by_cases e2 : lj = lb
        · have h2 : (lj != lb) = false := by simp [e2]
          have HSN2 := Lib.hid (show ofFleet lb (fs.take (j + 1)) (list.take (j + 1)) = pre ++ [(x0, x1, x2)] from by rw [HSN.out, if_pos e2])
          subst e2
          subst e1
          have kq0 := cell_regrown (XA.cell (i := 0) rfl)
          have kq1 := cell_regrown (XA.cell (i := 1) rfl)
          have kq2 := cell_regrown (XA.cell (i := 2) rfl)
          have kq3 := cell_regrown (hcl)
          have kq4 := cell_regrown (hcb)
          refine wp_region_quiet_below (by kernel_rfl) (by kernel_rfl) ?_
          repeat (first | go_big_quiet_step ((first | (go_at_call 138; (with_reducible exact Calls.regrown_of (l26Done_lit _ _ h0 _))))) | quiet_step ((first | (go_at_call 138; (with_reducible exact Calls.regrown_of (l26Done_lit _ _ h0 _))))))
          refine wpQuiet_nil ?_
          intro _ hw'
          obtain ⟨⟨dq, osq⟩, hw''⟩ := hw'
          subst hw''
          obtain ⟨wq, hq0, hq⟩ : ∃ wnew, wnew = grow (redrawn wa dq) osq ∧ Below wa.heap.size wa wnew := ⟨_, rfl, below_regrown _ _ _⟩
          rw [← hq0]
          clear hq0 kq0 kq1 kq2 kq3 kq4
          have HBQ := Lib.hid (HBA.out.trans (hq.mono HBA.out.size))
          have HXQ := Lib.hid (HXA.out.below hq)
          have XQ := XA.below hq
          have hcq2 := (hq.cell (p := ⟨b, o + q * 3 + 2, none⟩) (cell_lt hcq)).trans hcq
          have F1 := HXQ.out.l1
          have F2 := XQ.f3
          clear hq
          by_cases g1 : x2 < y2
          · have gb : decide (x2 < y2) = true := by simpa using g1
            have g2 : ¬ x2 = y2 := by omega
            have gc : (x2 == y2) = false := by simpa using g2
            have HLT := Lib.hid (show ltN y2 (ofFleet lj (fs.take (j + 1)) (list.take (j + 1))) = ln + 1 from by rw [HSN2.out, ltN_snoc, HLN.out, if_pos (by simpa using g1)])
            have HET := Lib.hid (show eqN y2 (ofFleet lj (fs.take (j + 1)) (list.take (j + 1))) = en + 0 from by rw [HSN2.out, eqN_snoc, HEN.out, if_neg (by simpa using g2)])
            clear HSN2 HSN
            clear hcl hcb hcq XA HXA HBA
            go_wp2_with fail
            go_region
            go_wp2_with fail
            go_region
            go_wp2_with fail
            have hdd : Below wq.heap.size wq wq.drew.drew := below_drewN (below_drewN (Below.refl _ _) 1) 1
            go_roundw
            case rel => exact ⟨j + 1, by omega, by go_num, by rw [HLT.out]; first | done | (congr 1 <;> omega), by rw [HET.out]; first | done | (congr 1 <;> omega), Lib.hid (HXQ.out.below hdd), Lib.hid (HBQ.out.trans (hdd.mono HBQ.out.size))⟩
            case measure => simp [intOf] <;> omega
          · have gb : decide (x2 < y2) = false := by simpa using g1
            by_cases g2 : x2 = y2
            · have gc : (x2 == y2) = true := by simpa using g2
              have HLT := Lib.hid (show ltN y2 (ofFleet lj (fs.take (j + 1)) (list.take (j + 1))) = ln + 0 from by rw [HSN2.out, ltN_snoc, HLN.out, if_neg (by simpa using g1)])
              have HET := Lib.hid (show eqN y2 (ofFleet lj (fs.take (j + 1)) (list.take (j + 1))) = en + 1 from by rw [HSN2.out, eqN_snoc, HEN.out, if_pos (by simpa using g2)])
              clear HSN2 HSN
              clear hcl hcb hcq XA HXA HBA
              go_wp2_with fail
              go_region
              go_wp2_with fail
              go_region
              go_wp2_with fail
              have hdd : Below wq.heap.size wq wq.drew.drew := below_drewN (below_drewN (Below.refl _ _) 1) 1
              go_roundw
              case rel => exact ⟨j + 1, by omega, by go_num, by rw [HLT.out]; first | done | (congr 1 <;> omega), by rw [HET.out]; first | done | (congr 1 <;> omega), Lib.hid (HXQ.out.below hdd), Lib.hid (HBQ.out.trans (hdd.mono HBQ.out.size))⟩
              case measure => simp [intOf] <;> omega
            · have gc : (x2 == y2) = false := by simpa using g2
              have HLT := Lib.hid (show ltN y2 (ofFleet lj (fs.take (j + 1)) (list.take (j + 1))) = ln + 0 from by rw [HSN2.out, ltN_snoc, HLN.out, if_neg (by simpa using g1)])
              have HET := Lib.hid (show eqN y2 (ofFleet lj (fs.take (j + 1)) (list.take (j + 1))) = en + 0 from by rw [HSN2.out, eqN_snoc, HEN.out, if_neg (by simpa using g2)])
              clear HSN2 HSN
              clear hcl hcb hcq XA HXA HBA
              go_wp2_with fail
              go_region
              go_wp2_with fail
              go_region
              go_wp2_with fail
              have hdd : Below wq.heap.size wq wq.drew.drew := below_drewN (below_drewN (Below.refl _ _) 1) 1
              go_roundw
              case rel => exact ⟨j + 1, by omega, by go_num, by rw [HLT.out]; first | done | (congr 1 <;> omega), by rw [HET.out]; first | done | (congr 1 <;> omega), Lib.hid (HXQ.out.below hdd), Lib.hid (HBQ.out.trans (hdd.mono HBQ.out.size))⟩
              case measure => simp [intOf] <;> omega
        · have h2 : (lj != lb) = true := by simp [e2]
          have HSN2 := Lib.hid (show ofFleet lb (fs.take (j + 1)) (list.take (j + 1)) = pre from by rw [HSN.out, if_neg e2, List.append_nil])
          subst e1
          clear e2 HSN
          have kq0 := cell_regrown (XA.cell (i := 0) rfl)
          have kq1 := cell_regrown (XA.cell (i := 1) rfl)
          have kq2 := cell_regrown (XA.cell (i := 2) rfl)
          have kq3 := cell_regrown (hcl)
          have kq4 := cell_regrown (hcb)
          refine wp_region_quiet_below (by kernel_rfl) (by kernel_rfl) ?_
          repeat (first | go_big_quiet_step ((first | (go_at_call 138; (with_reducible exact Calls.regrown_of (l26Done_lit _ _ h0 _))))) | quiet_step ((first | (go_at_call 138; (with_reducible exact Calls.regrown_of (l26Done_lit _ _ h0 _))))))
          refine wpQuiet_nil ?_
          intro _ hw'
          obtain ⟨⟨dq, osq⟩, hw''⟩ := hw'
          subst hw''
          obtain ⟨wq, hq0, hq⟩ : ∃ wnew, wnew = grow (redrawn wa dq) osq ∧ Below wa.heap.size wa wnew := ⟨_, rfl, below_regrown _ _ _⟩
          rw [← hq0]
          clear hq0 kq0 kq1 kq2 kq3 kq4
          have HBQ := Lib.hid (HBA.out.trans (hq.mono HBA.out.size))
          have HXQ := Lib.hid (HXA.out.below hq)
          clear hq
          go_wp2_with fail
          go_roundw
          case rel => exact ⟨j + 1, by omega, by go_num, by rw [HSN2.out, HLN.out], by rw [HSN2.out, HEN.out], HXQ, HBQ⟩
          case measure => simp [intOf] <;> omega
      · have h0 : (x1 == 0) = false := by simp [e1]
        have HSN2 := Lib.hid (show ltN y2 (ofFleet lb (fs.take (j + 1)) (list.take (j + 1))) = ln ∧ eqN y2 (ofFleet lb (fs.take (j + 1)) (list.take (j + 1))) = en from by
          rw [HSN.out]; split
          · rw [ltN_snoc, eqN_snoc, if_neg (by simp [e1]), if_neg (by simp [e1])]; exact ⟨HLN.out, HEN.out⟩
          · rw [List.append_nil]; exact ⟨HLN.out, HEN.out⟩)
        clear e1 HSN
        have kq0 := cell_regrown (XA.cell (i := 0) rfl)
        have kq1 := cell_regrown (XA.cell (i := 1) rfl)
        have kq2 := cell_regrown (XA.cell (i := 2) rfl)
        have kq3 := cell_regrown (hcl)
        have kq4 := cell_regrown (hcb)
        refine wp_region_quiet_below (by kernel_rfl) (by kernel_rfl) ?_
        repeat (first | go_big_quiet_step ((first | (go_at_call 138; (with_reducible exact Calls.regrown_of (l26Done_lit _ _ h0 _))))) | quiet_step ((first | (go_at_call 138; (with_reducible exact Calls.regrown_of (l26Done_lit _ _ h0 _))))))
        refine wpQuiet_nil ?_
        intro _ hw'
        obtain ⟨⟨dq, osq⟩, hw''⟩ := hw'
        subst hw''
        obtain ⟨wq, hq0, hq⟩ : ∃ wnew, wnew = grow (redrawn wa dq) osq ∧ Below wa.heap.size wa wnew := ⟨_, rfl, below_regrown _ _ _⟩
        rw [← hq0]
        clear hq0 kq0 kq1 kq2 kq3 kq4
        have HBQ := Lib.hid (HBA.out.trans (hq.mono HBA.out.size))
        have HXQ := Lib.hid (HXA.out.below hq)
        clear hq
        go_wp2_with fail
        go_roundw
        case rel => exact ⟨j + 1, by omega, by go_num, by rw [HSN2.out.1], by rw [HSN2.out.2], HXQ, HBQ⟩
        case measure => simp [intOf] <;> omega
    · obtain rfl : j = n := by omega
      rw [List.take_of_length_le (by rw [HN.out]; exact Nat.le_refl _), List.take_of_length_le (by rw [HM.out]; exact Nat.le_refl _)]
      go_wp2_with fail
      go_ret2
      exact ⟨rfl, HB.out⟩
end Go.Proofs.YtalgdeieejpelaaGreatDoor

/- Memory: tables that are drawn: what stays readable while the source turns; places written; parts of a table. -/
namespace Go.Proofs.YtalgdeieejpelaaGreatDoor
open Go.RowKit
set_option linter.unusedVariables false

theorem chg_wide {lo hi lo2 hi2 : Nat} {w w' : World} (h : Chg lo hi w w') (h1 : lo2 ≤ lo) (h2 : hi ≤ hi2) : Chg lo2 hi2 w w' := ⟨h.os, h.tape, h.output, h.size, fun k hk hn => h.block k hk (by omega)⟩
/-- The table reads as t, whatever turns below lo. -/
def KRd (w : World) (lo : Nat) (P : Option Addr) (n : Nat) (C : Option Addr) (m : Nat) (t : Tb) : Prop := ∀ w', Chg 0 lo w w' → RdT w' P n C m t
theorem KRd.rd {w : World} {lo n m : Nat} {P C : Option Addr} {t : Tb} (h : KRd w lo P n C m t) : RdT w P n C m t := h w (Chg.refl _ _ _)
theorem KRd.turn {w w' : World} {lo n m : Nat} {P C : Option Addr} {t : Tb} (h : KRd w lo P n C m t) (k : Chg 0 lo w w') : KRd w' lo P n C m t := fun w2 h2 => h w2 (k.trans h2)
theorem KRd.below {w w' : World} {lo n m : Nat} {P C : Option Addr} {t : Tb} (h : KRd w lo P n C m t) (k : Below w.heap.size w w') : KRd w' lo P n C m t := h.turn (Chg.of_below k)
theorem KRd.less {w : World} {lo lo2 n m : Nat} {P C : Option Addr} {t : Tb} (h : KRd w lo P n C m t) (k : lo2 ≤ lo) : KRd w lo2 P n C m t := fun w2 h2 => h w2 (chg_wide h2 (Nat.le_refl _) k)
theorem OwnT.krd {w : World} {lo base n c m d : Nat} {P C : Option Addr} {vs us : List Value} {t : Tb} (h : OwnT w base P n c vs C m d us t) (hg : lo ≤ base) : KRd w lo P n C m t :=
  fun w' k => (h.chg k h.in_ (.inr hg)).rd
/-- One place of the second column. -/
theorem OwnT.at2 {w : World} {base n c m d rc bt : Nat} {P C : Option Addr} {vs us : List Value} {t : Tb} {row : List Int} (h : OwnT w base P n c vs C m d us t) (hr : t.cds[rc]? = some row) (hb : bt < row.length) :
    ∃ g gr cr x, C = some ⟨g, 0, none⟩ ∧ us[rc]? = some (.slice (some ⟨gr, 0, none⟩) row.length cr) ∧ w.cell? ⟨g, rc, none⟩ = some (.slice (some ⟨gr, 0, none⟩) row.length cr) ∧ w.cell? ⟨gr, bt, none⟩ = some (.int .i64 x) ∧ w.frozen? ⟨gr, bt, none⟩ = false ∧ base ≤ gr ∧ gr < w.heap.size ∧ base ≤ g ∧ g < w.heap.size ∧ rc < m := by
  have hrc : rc < m := by have := (List.getElem?_eq_some_iff.1 hr).1; rw [h.cds.len] at this; exact this
  obtain ⟨v, A', c', ys, h1, h2, _, e, ho⟩ := h.cds.get hrc
  obtain rfl : row = ys := by rw [hr] at h2; injection h2
  obtain ⟨g, u, hA, hg1, hg2, hu, hcu, _⟩ := own_at h.cds.outer hrc
  obtain rfl : v = u := by rw [h1] at hu; injection hu
  subst e
  obtain ⟨gr, x, hA', hr1, hr2, hx, hcx, hfx⟩ := own_int_at ho hb
  subst hA'
  exact ⟨g, gr, c', x, hA, h1, hcu, hcx, hfx, hr1, hr2, hg1, hg2, hrc⟩
theorem OwnT.setRC2 {w : World} {base n c m d rc bt gr cr : Nat} {P C : Option Addr} {vs us : List Value} {t : Tb} {row : List Int} (h : OwnT w base P n c vs C m d us t) (hr : t.cds[rc]? = some row) (hv : us[rc]? = some (.slice (some ⟨gr, 0, none⟩) row.length cr)) (x : Int) :
    OwnT (w.setCell ⟨gr, bt, none⟩ (.int .i64 x)) base P n c vs C m d us ⟨t.boats, t.pts, Go.Proofs.YtalgdeieejpelaaGreatDoor.setRC t.cds rc bt x⟩ := by
  obtain ⟨A', c', e, ho⟩ := h.cds.row rc _ row hv hr
  injection e with e1 _ e2
  subst e1 e2
  have hs : (w.setCell ⟨gr, bt, none⟩ (.int .i64 x)).ownsRow base 2 1 (.slice (some ⟨gr, 0, none⟩) row.length cr) row.length (ints (row.set bt x)) := by
    rw [ints_set]; exact (ho.stored bt _).1
  have hg : w.grownBy (w.setCell ⟨gr, bt, none⟩ (.int .i64 x)) (some gr) := (ho.stored bt _).2
  have hd : t.cds.getD rc [] = row := by simp [List.getD, hr]
  unfold Go.Proofs.YtalgdeieejpelaaGreatDoor.setRC
  rw [hd]
  refine ⟨h.pts.grown hg (fun b hb e => ?_) (fun v hv2 b hb e => ?_), h.cds.upd (by decide) hv hr (by simp) hg (by rw [List.length_set]; exact hs), h.apO, h.apR⟩
  · exact own_type_ne h.pts.outer ho (by decide) b hb (by simpa [Value.ownBlock] using e)
  · exact h.apR v hv2 _ (List.mem_of_getElem? hv) b hb (by rw [← e]; rfl)
/-- A part of a row. -/
theorem Rd.tail1 {w : World} {b n : Nat} {x : Int} {xs : List Int} (h : Rd w 1 (some ⟨b, 0, none⟩) n (ints (x :: xs))) : Rd w 1 (some ⟨b, 1, none⟩) xs.length (ints xs) := by
  have hl := h.len
  have hn : 0 < n := by simp [ints] at hl; omega
  obtain ⟨b', o', e, hc⟩ := h.pos hn
  injection e with e
  injection e with e1 e2
  subst e1; subst e2
  have hle := h.le
  refine ⟨by simp [ints], by simp [ints] at hl; omega, fun _ => ⟨b, 1, rfl, fun i u hu => ?_⟩⟩
  have := hc (i + 1) u (by simpa [ints] using hu)
  rw [show 1 + i = 0 + (i + 1) by omega]
  exact this
/-- The first column's row i begins one place later. -/
theorem OwnT.cut_row {w : World} {lo base n c m d i gP gr cr : Nat} {C : Option Addr} {vs us : List Value} {t : Tb} {x : Int} {row : List Int} (h : OwnT w base (some ⟨gP, 0, none⟩) n c vs C m d us t) (hg : lo ≤ base) (hr : t.pts[i]? = some (x :: row)) (hv : vs[i]? = some (.slice (some ⟨gr, 0, none⟩) (x :: row).length cr)) (z : Nat) (o : Addr)
    (ho : o = ⟨gr, 1, none⟩ ∨ row = []) : KRd (w.setCell ⟨gP, i, none⟩ (.slice (some o) row.length z)) lo (some ⟨gP, 0, none⟩) n C m ⟨t.boats, t.pts.set i row, t.cds⟩ := by
  intro w' k
  have hst := h.pts.outer.stored i (.slice (some o) row.length z)
  have hin : i < n := by have := (List.getElem?_eq_some_iff.1 hr).1; rw [h.pts.len] at this; exact this
  have hrow : ∀ (u : Value) (mm : Nat) (zs : List Value), w.ownsRow base 2 1 u mm zs → w'.ownsRow base 2 1 u mm zs := by
    intro u mm zs hu
    have h1 : (w.setCell ⟨gP, i, none⟩ (.slice (some o) row.length z)).ownsRow base 2 1 u mm zs := by
      refine hu.kept hst.2 ?_
      rcases hb : u.ownBlock with _ | b
      · exact .inl rfl
      · exact .inr (fun he => own_type_ne h.pts.outer hu (by decide) b (by simpa [Value.ownBlock] using he.symm) hb)
    exact own_chg h1 k (fun b hb => .inr (Nat.le_trans hg (h1.lt b hb).1))
  have hout : w'.ownsRow base 35 1 (.slice (some ⟨gP, 0, none⟩) n c) n (vs.set i (.slice (some o) row.length z)) := own_chg hst.1 k (fun b hb => .inr (Nat.le_trans hg (hst.1.lt b hb).1))
  have hcd := h.cds.grown hst.2 (fun b hb e => h.apO gP rfl (by rw [hb]; exact e.symm)) (fun v hv2 b hb e => by
    obtain ⟨m9, zs9, ho9⟩ := h.cds.row_ty hv2
    exact own_type_ne h.pts.outer ho9 (by decide) gP rfl (by rw [hb]; exact e.symm))
  refine ⟨⟨by simp [h.pts.len], h.pts.nle, fun q hq => ?_⟩, (hcd.chg k hcd.in_ (.inr hg)).rd⟩
  obtain ⟨g9, u, hA, _, _, hu, hcu, _⟩ := own_at hout hq
  injection hA with hA
  injection hA with hA _
  subst hA
  by_cases hqi : q = i
  · subst hqi
    rw [List.getElem?_set_self (by rw [h.pts.vlen]; exact hin)] at hu
    injection hu with hu
    subst hu
    obtain ⟨A2, c2, e2, ho2⟩ := h.pts.row q _ _ hv hr
    injection e2 with e2 _ _
    subst e2
    refine ⟨gP, 0, some o, z, row, rfl, by rw [List.getElem?_set_self (by rw [h.pts.len]; exact hin)], by rw [Nat.zero_add]; exact hcu, ?_⟩
    rcases ho with rfl | rfl
    · exact Rd.tail1 (own_rd (hrow _ _ _ ho2))
    · exact ⟨by simp [ints], by simp, fun h0 => by simp at h0⟩
  · rw [List.getElem?_set_ne (fun e => hqi e.symm)] at hu
    obtain ⟨v, A2, c2, ys, h1, h2, _, e2, ho2⟩ := h.pts.get hq
    rw [h1] at hu
    injection hu with hu
    subst hu
    subst e2
    exact ⟨gP, 0, A2, c2, ys, rfl, by rw [List.getElem?_set_ne (fun e => hqi e.symm)]; exact h2, by rw [Nat.zero_add]; exact hcu, own_rd (hrow _ _ _ ho2)⟩
/-- The second column begins one row later. -/
theorem OwnT.cut_cds {w : World} {lo base n c m d gC : Nat} {P : Option Addr} {vs us : List Value} {t : Tb} (h : OwnT w base P n c vs (some ⟨gC, 0, none⟩) m d us t) (hg : lo ≤ base) (hm : 0 < m) (o : Addr) (ho : o = ⟨gC, 1, none⟩ ∨ m = 1) : KRd w lo P n (some o) (m - 1) ⟨t.boats, t.pts, t.cds.drop 1⟩ := by
  intro w' k
  have h' := h.chg k h.in_ (.inr hg)
  refine ⟨h'.pts.rd, ⟨by simp [h.cds.len], by have := h.cds.nle; omega, fun q hq => ?_⟩⟩
  rcases ho with rfl | rfl
  · obtain ⟨v, A2, c2, ys, h1, h2, _, e2, ho2⟩ := h'.cds.get (k := q + 1) (by omega)
    obtain ⟨g9, u, hA, _, _, hu, hcu, _⟩ := own_at h'.cds.outer (k := q + 1) (by omega)
    injection hA with hA
    injection hA with hA _
    subst hA
    obtain rfl : v = u := by rw [h1] at hu; injection hu
    subst e2
    exact ⟨gC, 1, A2, c2, ys, rfl, by rw [List.getElem?_drop, Nat.add_comm 1 q]; exact h2, by rw [Nat.add_comm 1 q]; exact hcu, own_rd ho2⟩
  · omega
/-- A table is drawn. -/
def RetTD (w0 w : World) (A : Option Addr) (n cap : Nat) (code : List Int) (g : Nat) (r : Tb × St) (e : Ending) (w' : World) : Prop :=
  ∃ P np cp C nc dc, e = .returned (.agg #[.int .i64 r.1.boats, .slice P np cp, .slice C nc dc]) ∧ KRd w' w.heap.size P np C nc r.1 ∧ (tableB r.1 = true → ∃ vs us, OwnT w' w.heap.size P np cp vs C nc dc us r.1) ∧ Src w0 w' A n cap code g r.2 ∧ Chg g (g + 1) w w'
end Go.Proofs.YtalgdeieejpelaaGreatDoor

/- Walks: the drawn number of fleets. -/
namespace Go.Proofs.YtalgdeieejpelaaGreatDoor
open Go.RowKit
set_option linter.unusedVariables false
set_option maxRecDepth 100000

end Go.Proofs.YtalgdeieejpelaaGreatDoor

/- Walks: drawn fleets. -/
namespace Go.Proofs.YtalgdeieejpelaaGreatDoor
open Go.RowKit
set_option linter.unusedVariables false
set_option maxRecDepth 100000

/-- New integers are drawn (nil, too). -/
def RetO (w0 w : World) (A : Option Addr) (n cap : Nat) (code : List Int) (g : Nat) (r : List Int × St) (e : Ending) (w' : World) : Prop :=
  ∃ A' m c, e = .returned (.slice A' m c) ∧ w'.ownsRow w.heap.size 2 1 (.slice A' m c) m (ints r.1) ∧ Src w0 w' A n cap code g r.2 ∧ Chg g (g + 1) w w'

end Go.Proofs.YtalgdeieejpelaaGreatDoor

/- The code of a drawn law, as it came in. -/
namespace Go.Proofs.YtalgdeieejpelaaGreatDoor
open Go.RowKit
set_option linter.unusedVariables false

theorem IsRow.u8 {w : World} {a : Option Addr} {len cap : Nat} {zs : List Int} (h : IsRow .u8 w a len cap zs) : Rd w 1 a len (u8s (zs.take len)) ∧ ∀ c ∈ zs.take len, 0 ≤ c ∧ c ≤ 255 := by
  rcases h with ⟨rfl, rfl, rfl, rfl⟩ | ⟨x, rfl, h1, h2, h3, h4, h5⟩
  · exact ⟨⟨rfl, by omega, fun h => by omega⟩, fun c hc => by simp at hc⟩
  · unfold maxLen at h2
    refine ⟨⟨by simp [u8s]; omega, by omega, fun hn => ?_⟩, ?_⟩
    · have h0 := h4 0 (by omega)
      have hadd0 : x.add 0 = x := by simp [Addr.add]
      rw [hadd0] at h0
      obtain ⟨b, o, sp⟩ := x
      obtain rfl : sp = none := spot_none h0
      refine ⟨b, o, rfl, fun i u hu => ?_⟩
      have hlen : i < (u8s (zs.take len)).length := by
        rcases Nat.lt_or_ge i (u8s (zs.take len)).length with h | h
        · exact h
        · rw [List.getElem?_eq_none h] at hu; cases hu
      have hi : i < len := by simp [u8s] at hlen; omega
      have hc := h4 i (by omega)
      have hadd : (⟨b, o, none⟩ : Addr).add i = ⟨b, o + i, none⟩ := by unfold Addr.add; split <;> simp_all
      rw [hadd] at hc
      rw [hc, ← hu]
      simp [u8s, hi, List.getElem?_eq_getElem (show i < zs.length by omega)]
    · intro c hc
      have hw := h5 c (List.mem_of_mem_take hc)
      simp [Lit.wf, IntKind.min, IntKind.max, IntKind.signed, IntKind.bits] at hw
      omega
theorem code0_of {w : World} {a : Option Addr} {len cap : Nat} {zs : List Int} (h : IsRow .u8 w a len cap zs) (hl : len ≤ 4096) : Code0 w a len (zs.take len) := ⟨h.u8.1, by omega, h.u8.2⟩
theorem IsRow.addr {k : IntKind} {w : World} {a : Option Addr} {len cap : Nat} {zs : List Int} (h : IsRow k w a len cap zs) : (a = none ∧ len = 0 ∧ cap = 0) ∨ ∃ ad, a = some ad := by
  rcases h with ⟨rfl, rfl, rfl, rfl⟩ | ⟨x, rfl, _⟩
  · exact .inl ⟨rfl, rfl, rfl⟩
  · exact .inr ⟨x, rfl⟩
theorem IsRow.lenle {k : IntKind} {w : World} {a : Option Addr} {len cap : Nat} {zs : List Int} (h : IsRow k w a len cap zs) : len ≤ 9223372036854775807 := by
  rcases h with ⟨rfl, rfl, rfl, rfl⟩ | ⟨x, rfl, h1, h2, _⟩
  · omega
  · unfold maxLen at h2; omega
theorem big_any (A : Option Addr) (n c : Nat) (hn : n ≤ 9223372036854775807) (w : World) :
    Calls Tryz.prog 4 #[.slice A n c] w fun e w' => e = .returned (.bool (decide (4096 < n))) ∧ w = w' := by
  go_enter Tryz.func4, Tryz.ntmps4
  go_wp2_with fail
  go_ret
  refine ⟨?_, rfl⟩
  refine ret_bool ?_
  rw [Bool.eq_iff_iff]
  simp only [decide_eq_true_eq]
  omega
end Go.Proofs.YtalgdeieejpelaaGreatDoor

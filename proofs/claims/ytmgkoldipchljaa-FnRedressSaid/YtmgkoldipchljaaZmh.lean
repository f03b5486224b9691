/- General and plain lemmas, and light walks (merged): Ft Fx Te Ys. -/
import Derived.Test.YtmgkoldipchljaaFr
import Derived.Test.YtmgkoldipchljaaZmg
import Derived.Test.YtmgkoldipchljaaZmf
import Derived.Test.YtmgkoldipchljaaTd
import Derived.BigRegion
import Derived.Lib.QuietBelow
/- Walks: places in a race (chapter 26), the program. -/
namespace Go.Proofs.Ytmgkoldipchljaa
open Go.RowKit
set_option linter.unusedVariables false
set_option maxRecDepth 100000

/-- Result: two new rows of numbers. -/
def RetPP (w : World) (r : List Int × List Int) (e : Ending) (w' : World) : Prop :=
  ∃ A n c A2 c2, e = .returned (.tuple #[.slice A n c, .slice A2 n c2]) ∧ w'.ownsRow w.heap.size 2 1 (.slice A n c) n (ints r.1) ∧ w'.ownsRow w.heap.size 2 1 (.slice A2 n c2) n (ints r.2) ∧ Below w.heap.size w w'
def doneL (g : FinishT → Int) (fs : List FinishT) (k : Nat) : List Int := (fs.map g).take k ++ List.replicate (fs.length - k) 0
theorem doneL_len (g : FinishT → Int) (fs : List FinishT) (k : Nat) (hk : k ≤ fs.length) : (doneL g fs k).length = fs.length := by unfold doneL; simp; omega
theorem doneL_next (g : FinishT → Int) {fs : List FinishT} {k : Nat} {f : FinishT} (hf : fs[k]? = some f) (hk : k < fs.length) : doneL g fs (k + 1) = (doneL g fs k).set k (g f) := by
  unfold doneL
  exact (copy_stepG 0 (fs.map g) fs.length k (g f) (by simp) (by rw [List.getElem?_map, hf]; rfl) hk).symm
theorem doneL_zero (g : FinishT → Int) {fs : List FinishT} {k : Nat} (hk : k < fs.length) : (doneL g fs k)[k]? = some 0 := by
  unfold doneL
  rw [List.getElem?_append_right (by simp; omega), List.getElem?_replicate, if_pos (by simp; omega)]
theorem set_same {α : Type} {xs : List α} {k : Nat} {x : α} (h : xs[k]? = some x) : xs.set k x = xs := by
  obtain ⟨hk, he⟩ := List.getElem?_eq_some_iff.1 h
  subst he
  exact List.set_getElem_self hk
theorem ltN_snoc (t : Int) (fs : List FinishT) (g : FinishT) : ltN t (fs ++ [g]) = ltN t fs + (if (g.2.1 == 0 && decide (g.2.2 < t)) = true then 1 else 0) := by
  unfold ltN
  rw [List.filter_append, List.length_append, List.filter_cons]
  split <;> simp_all
theorem eqN_snoc (t : Int) (fs : List FinishT) (g : FinishT) : eqN t (fs ++ [g]) = eqN t fs + (if (g.2.1 == 0 && (g.2.2 == t)) = true then 1 else 0) := by
  unfold eqN
  rw [List.filter_append, List.length_append, List.filter_cons]
  split <;> simp_all
theorem two_makes (w : World) (n : Nat) (hn : n ≤ 1048576) : ∃ w1, w1 = ((w.alloc (.cells (madeCells #[.int .i64 0] n) 2)).alloc (.cells (madeCells #[.int .i64 0] n) 2)).drew ∧
    w1.ownsRow w.heap.size 2 1 (.slice (some ⟨w.heap.size, 0, none⟩) n n) n (ints (List.replicate n 0)) ∧ w1.ownsRow w.heap.size 2 1 (.slice (some ⟨w.heap.size + 1, 0, none⟩) n n) n (ints (List.replicate n 0)) ∧ Below w.heap.size w w1 := by
  have h1 := own_made w w.heap.size 2 n (.int .i64 0) (Nat.le_refl _) (by omega)
  have h2 := own_made (w.alloc (.cells (madeCells #[.int .i64 0] n) 2)) w.heap.size 2 n (.int .i64 0) (by simp) (by omega)
  rw [World.size_alloc] at h2
  rw [← ints_replicate] at h1 h2
  refine ⟨_, rfl, own_drewN (own_below h1 ((Below.refl _ _).alloc (Nat.le_refl _) _)) 1, own_drewN h2 1, below_drewN (((Below.refl _ _).alloc (Nat.le_refl _) _).alloc (by simp) _) 1⟩
end Go.Proofs.Ytmgkoldipchljaa

/- Walks: points of a race in fleets, the spec. -/
namespace Go.Proofs.Ytmgkoldipchljaa
open Go.RowKit Go.Sort
set_option linter.unusedVariables false
set_option maxRecDepth 100000

theorem l26Done_any (x0 x1 x2 : Int) (w : World) :
    Calls Try.prog 94 #[.agg #[.int .i64 x0, .int .i64 x1, .int .i64 x2]] w fun e w' => e = .returned (.bool (x1 == 0)) ∧ Below w.heap.size w w' := by
  obtain ⟨w1, hw1, X0, hb1, hs1⟩ := one_box w #[.int .i64 x0, .int .i64 x1, .int .i64 x2] 95
  go_enter Try.func94, Try.ntmps94
  have F0 := X0.f3
  go_wp2_with fail
  rw [← hw1]
  go_wp2_with fail
  go_ret
  exact ⟨rfl, hb1⟩
theorem l26Done_lit (x0 x2 : Int) {x1 : Int} {r : Bool} (h : (x1 == 0) = r) (w : World) :
    Calls Try.prog 94 #[.agg #[.int .i64 x0, .int .i64 x1, .int .i64 x2]] w fun e w' => e = .returned (.bool r) ∧ Below w.heap.size w w' := by
  subst h; exact l26Done_any x0 x1 x2 w
theorem ofFleet_snoc (fl : Int) (f : FinishT) (x : Int) : ∀ (fs : List FinishT) (l : List Int), fs.length = l.length → ofFleet fl (fs ++ [f]) (l ++ [x]) = ofFleet fl fs l ++ (if x = fl then [f] else []) := by
  intro fs
  induction fs with
  | nil =>
    intro l h
    cases l with
    | nil => simp only [List.nil_append, ofFleet]
    | cons y l => simp at h
  | cons g r ih =>
    intro l h
    cases l with
    | nil => simp at h
    | cons y l =>
      simp only [List.cons_append, ofFleet]
      rw [ih l (by simpa using h)]
      by_cases hy : y = fl
      · rw [if_pos hy, if_pos hy]; rfl
      · rw [if_neg hy, if_neg hy]
set_option maxHeartbeats 40000000 in
theorem l26Place_any (A : Option Addr) (n c : Nat) (fs : List FinishT) (B : Option Addr) (m d : Nat) (list : List Int) (q : Nat) (y0 y1 y2 lb : Int) (w : World) (h : Rd w 3 A n (fins fs)) (hl : Rd w 1 B m (ints list)) (hq : fs[q]? = some (y0, y1, y2)) (hql : list[q]? = some lb) (hnm : n = m) (hn : n ≤ 16) :
    Calls Try.prog 88 #[.agg #[.slice A n c], .slice B m d, .int .i64 q] w fun e w' => e = .returned (.tuple #[.int .i64 (1 + ltN y2 (ofFleet lb fs list)), .int .i64 (eqN y2 (ofFleet lb fs list))]) ∧ Below w.heap.size w w' := by
  subst hnm
  have HN := Lib.hid h.len_fin
  have HM := Lib.hid hl.len_int
  have hqn : q < n := by have := (List.getElem?_eq_some_iff.1 hq).1; rw [HN.out] at this; exact this
  obtain ⟨b, o, z0, z1, z2, hbe, hz, _, hd0, hd1, hd2⟩ := h.fin hqn
  subst hbe
  rw [hq] at hz
  injection hz with hz
  injection hz with hz0 hz
  injection hz with hz1 hz2
  subst hz0; subst hz1; subst hz2
  obtain ⟨b2, o2, z, hbe, hz, _, he⟩ := hl.int hqn
  subst hbe
  rw [hql] at hz
  injection hz with hz
  subst hz
  have HRD := Lib.hid (fun w' (hb : Below w.heap.size w w') => h.below hb)
  have HRL := Lib.hid (fun w' (hb : Below w.heap.size w w') => hl.below hb)
  obtain ⟨w1, hw1, X0, hb1, hs1⟩ := one_box w #[.slice (some ⟨b, o, none⟩) n c] 93
  have HCQ := Lib.hid (fun w' (hb : Below w.heap.size w w') => (hb.cell (p := ⟨b, o + q * 3 + 2, none⟩) (cell_lt hd2)).trans hd2)
  have HCL := Lib.hid (fun w' (hb : Below w.heap.size w w') => (hb.cell (p := ⟨b2, o2 + q, none⟩) (cell_lt he)).trans he)
  have HB1 := Lib.hid hb1
  have HX1 := Lib.hid X0
  clear h hl hq hql hd0 hd1 hd2 he hb1 X0
  go_enter Try.func88, Try.ntmps88
  go_wp2_with fail
  rw [← hw1]
  clear hw1
  have F0 := HX1.out.l1
  go_wp2_with fail
  go_loopw [8, 9, 10] (fun p s i wr => ∃ j : Nat, j ≤ n ∧ i = .int .i64 j ∧ p = .int .i64 (1 + ltN y2 (ofFleet lb (fs.take j) (list.take j))) ∧ s = .int .i64 (eqN y2 (ofFleet lb (fs.take j) (list.take j))) ∧ Hid (Box wr w.heap.size #[.slice (some ⟨b, o, none⟩) n c] 93) ∧ Hid (Below w.heap.size w wr)) (fun _ _ i _ => n - (intOf i).toNat)
  case atStart => exact ⟨0, Nat.zero_le _, rfl, by simp [ofFleet, ltN], by simp [ofFleet, eqN], HX1, HB1⟩
  case round =>
    clear F0 HX1 HB1
    obtain ⟨j, hj, rfl, rfl, rfl, HX, HB⟩ := hrel
    obtain ⟨wo, hwo⟩ : ∃ wo : World, wo = wr := ⟨_, rfl⟩
    subst hwo
    have F0 := HX.out.l1
    have hl1 : (ofFleet lb (fs.take j) (list.take j)).length ≤ 16 := Nat.le_trans (ofFleet_len _ _ _) (by rw [List.length_take, HN.out]; omega)
    have hp1 := ltN_le y2 (ofFleet lb (fs.take j) (list.take j))
    have hp2 := eqN_le y2 (ofFleet lb (fs.take j) (list.take j))
    by_cases hjn : j < n
    · obtain ⟨b', o', x0, x1, x2, hbe, hx, _, hc0, hc1, hc2⟩ := (HRD.out _ HB.out).fin hjn
      injection hbe with hbe; injection hbe with hbe1 hbe2; subst hbe1; subst hbe2
      obtain ⟨b3, o3, lj, hbe, hlx, _, hcl⟩ := (HRL.out _ HB.out).int hjn
      injection hbe with hbe; injection hbe with hbe1 hbe2; subst hbe1; subst hbe2
      have hcq := HCQ.out _ HB.out
      have hcb := HCL.out _ HB.out
      have HSN := Lib.hid (show ofFleet lb (fs.take (j + 1)) (list.take (j + 1)) = ofFleet lb (fs.take j) (list.take j) ++ (if lj = lb then [(x0, x1, x2)] else []) from by rw [take_snoc_get hx, take_snoc_get hlx]; exact ofFleet_snoc _ _ _ _ _ (by rw [List.length_take, List.length_take, HN.out, HM.out]))
      generalize ofFleet lb (fs.take j) (list.take j) = pre at *
      clear hx hlx
      generalize hLN : ltN y2 pre = ln at *
      generalize hEN : eqN y2 pre = en at *
      have HLN := Lib.hid hLN
      have HEN := Lib.hid hEN
      clear hLN hEN
      obtain ⟨wa, hwa, XA, hba, hsa⟩ := one_box wo #[.int .i64 x0, .int .i64 x1, .int .i64 x2] 95
      have HBA := Lib.hid (HB.out.trans (hba.mono HB.out.size))
      have HXA := Lib.hid (HX.out.below hba)
      have hql1 := cell_lt hcl
      have hql2 := cell_lt hcb
      have hql3 := cell_lt hcq
      replace hcl := (hba.cell (p := ⟨b2, o2 + j, none⟩) hql1).trans hcl
      replace hcb := (hba.cell (p := ⟨b2, o2 + q, none⟩) hql2).trans hcb
      replace hcq := (hba.cell (p := ⟨b, o + q * 3 + 2, none⟩) hql3).trans hcq
      clear hql1 hql2 hql3
      go_wp2_with fail
      rw [← hwa]
      clear hwa F0 hc0 hc1 hc2
      by_cases e1 : x1 = 0
      · have h0 : (x1 == 0) = true := by simp [e1]
        by_cases e2 : lj = lb
        · have h2 : (lj != lb) = false := by simp [e2]
          have HSN2 := Lib.hid (show ofFleet lb (fs.take (j + 1)) (list.take (j + 1)) = pre ++ [(x0, x1, x2)] from by rw [HSN.out, if_pos e2])
          subst e2
          subst e1
          have kq0 := cell_regrown (XA.cell (i := 0) rfl)
          have kq1 := cell_regrown (XA.cell (i := 1) rfl)
          have kq2 := cell_regrown (XA.cell (i := 2) rfl)
          have kq3 := cell_regrown (hcl)
          have kq4 := cell_regrown (hcb)
          refine wp_region_quiet_below (by kernel_rfl) (by kernel_rfl) ?_
          repeat (first | go_big_quiet_step ((first | (go_at_call 94; (with_reducible exact Calls.regrown_of (l26Done_lit _ _ h0 _))))) | quiet_step ((first | (go_at_call 94; (with_reducible exact Calls.regrown_of (l26Done_lit _ _ h0 _))))))
          refine wpQuiet_nil ?_
          intro _ hw'
          obtain ⟨⟨dq, osq⟩, hw''⟩ := hw'
          subst hw''
          obtain ⟨wq, hq0, hq⟩ : ∃ wnew, wnew = grow (redrawn wa dq) osq ∧ Below wa.heap.size wa wnew := ⟨_, rfl, below_regrown _ _ _⟩
          rw [← hq0]
          clear hq0 kq0 kq1 kq2 kq3 kq4
          have HBQ := Lib.hid (HBA.out.trans (hq.mono HBA.out.size))
          have HXQ := Lib.hid (HXA.out.below hq)
          have XQ := XA.below hq
          have hcq2 := (hq.cell (p := ⟨b, o + q * 3 + 2, none⟩) (cell_lt hcq)).trans hcq
          have F1 := HXQ.out.l1
          have F2 := XQ.f3
          clear hq
          by_cases g1 : x2 < y2
          · have gb : decide (x2 < y2) = true := by simpa using g1
            have g2 : ¬ x2 = y2 := by omega
            have gc : (x2 == y2) = false := by simpa using g2
            have HLT := Lib.hid (show ltN y2 (ofFleet lj (fs.take (j + 1)) (list.take (j + 1))) = ln + 1 from by rw [HSN2.out, ltN_snoc, HLN.out, if_pos (by simpa using g1)])
            have HET := Lib.hid (show eqN y2 (ofFleet lj (fs.take (j + 1)) (list.take (j + 1))) = en + 0 from by rw [HSN2.out, eqN_snoc, HEN.out, if_neg (by simpa using g2)])
            clear HSN2 HSN
            clear hcl hcb hcq XA HXA HBA
            go_wp2_with fail
            go_region
            go_wp2_with fail
            go_region
            go_wp2_with fail
            have hdd : Below wq.heap.size wq wq.drew.drew := below_drewN (below_drewN (Below.refl _ _) 1) 1
            go_roundw
            case rel => exact ⟨j + 1, by omega, by go_num, by rw [HLT.out]; first | done | (congr 1 <;> omega), by rw [HET.out]; first | done | (congr 1 <;> omega), Lib.hid (HXQ.out.below hdd), Lib.hid (HBQ.out.trans (hdd.mono HBQ.out.size))⟩
            case measure => simp [intOf] <;> omega
          · have gb : decide (x2 < y2) = false := by simpa using g1
            by_cases g2 : x2 = y2
            · have gc : (x2 == y2) = true := by simpa using g2
              have HLT := Lib.hid (show ltN y2 (ofFleet lj (fs.take (j + 1)) (list.take (j + 1))) = ln + 0 from by rw [HSN2.out, ltN_snoc, HLN.out, if_neg (by simpa using g1)])
              have HET := Lib.hid (show eqN y2 (ofFleet lj (fs.take (j + 1)) (list.take (j + 1))) = en + 1 from by rw [HSN2.out, eqN_snoc, HEN.out, if_pos (by simpa using g2)])
              clear HSN2 HSN
              clear hcl hcb hcq XA HXA HBA
              go_wp2_with fail
              go_region
              go_wp2_with fail
              go_region
              go_wp2_with fail
              have hdd : Below wq.heap.size wq wq.drew.drew := below_drewN (below_drewN (Below.refl _ _) 1) 1
              go_roundw
              case rel => exact ⟨j + 1, by omega, by go_num, by rw [HLT.out]; first | done | (congr 1 <;> omega), by rw [HET.out]; first | done | (congr 1 <;> omega), Lib.hid (HXQ.out.below hdd), Lib.hid (HBQ.out.trans (hdd.mono HBQ.out.size))⟩
              case measure => simp [intOf] <;> omega
            · have gc : (x2 == y2) = false := by simpa using g2
              have HLT := Lib.hid (show ltN y2 (ofFleet lj (fs.take (j + 1)) (list.take (j + 1))) = ln + 0 from by rw [HSN2.out, ltN_snoc, HLN.out, if_neg (by simpa using g1)])
              have HET := Lib.hid (show eqN y2 (ofFleet lj (fs.take (j + 1)) (list.take (j + 1))) = en + 0 from by rw [HSN2.out, eqN_snoc, HEN.out, if_neg (by simpa using g2)])
              clear HSN2 HSN
              clear hcl hcb hcq XA HXA HBA
              go_wp2_with fail
              go_region
              go_wp2_with fail
              go_region
              go_wp2_with fail
              have hdd : Below wq.heap.size wq wq.drew.drew := below_drewN (below_drewN (Below.refl _ _) 1) 1
              go_roundw
              case rel => exact ⟨j + 1, by omega, by go_num, by rw [HLT.out]; first | done | (congr 1 <;> omega), by rw [HET.out]; first | done | (congr 1 <;> omega), Lib.hid (HXQ.out.below hdd), Lib.hid (HBQ.out.trans (hdd.mono HBQ.out.size))⟩
              case measure => simp [intOf] <;> omega
        · have h2 : (lj != lb) = true := by simp [e2]
          have HSN2 := Lib.hid (show ofFleet lb (fs.take (j + 1)) (list.take (j + 1)) = pre from by rw [HSN.out, if_neg e2, List.append_nil])
          subst e1
          clear e2 HSN
          have kq0 := cell_regrown (XA.cell (i := 0) rfl)
          have kq1 := cell_regrown (XA.cell (i := 1) rfl)
          have kq2 := cell_regrown (XA.cell (i := 2) rfl)
          have kq3 := cell_regrown (hcl)
          have kq4 := cell_regrown (hcb)
          refine wp_region_quiet_below (by kernel_rfl) (by kernel_rfl) ?_
          repeat (first | go_big_quiet_step ((first | (go_at_call 94; (with_reducible exact Calls.regrown_of (l26Done_lit _ _ h0 _))))) | quiet_step ((first | (go_at_call 94; (with_reducible exact Calls.regrown_of (l26Done_lit _ _ h0 _))))))
          refine wpQuiet_nil ?_
          intro _ hw'
          obtain ⟨⟨dq, osq⟩, hw''⟩ := hw'
          subst hw''
          obtain ⟨wq, hq0, hq⟩ : ∃ wnew, wnew = grow (redrawn wa dq) osq ∧ Below wa.heap.size wa wnew := ⟨_, rfl, below_regrown _ _ _⟩
          rw [← hq0]
          clear hq0 kq0 kq1 kq2 kq3 kq4
          have HBQ := Lib.hid (HBA.out.trans (hq.mono HBA.out.size))
          have HXQ := Lib.hid (HXA.out.below hq)
          clear hq
          go_wp2_with fail
          go_roundw
          case rel => exact ⟨j + 1, by omega, by go_num, by rw [HSN2.out, HLN.out], by rw [HSN2.out, HEN.out], HXQ, HBQ⟩
          case measure => simp [intOf] <;> omega
      · have h0 : (x1 == 0) = false := by simp [e1]
        have HSN2 := Lib.hid (show ltN y2 (ofFleet lb (fs.take (j + 1)) (list.take (j + 1))) = ln ∧ eqN y2 (ofFleet lb (fs.take (j + 1)) (list.take (j + 1))) = en from by
          rw [HSN.out]; split
          · rw [ltN_snoc, eqN_snoc, if_neg (by simp [e1]), if_neg (by simp [e1])]; exact ⟨HLN.out, HEN.out⟩
          · rw [List.append_nil]; exact ⟨HLN.out, HEN.out⟩)
        clear e1 HSN
        have kq0 := cell_regrown (XA.cell (i := 0) rfl)
        have kq1 := cell_regrown (XA.cell (i := 1) rfl)
        have kq2 := cell_regrown (XA.cell (i := 2) rfl)
        have kq3 := cell_regrown (hcl)
        have kq4 := cell_regrown (hcb)
        refine wp_region_quiet_below (by kernel_rfl) (by kernel_rfl) ?_
        repeat (first | go_big_quiet_step ((first | (go_at_call 94; (with_reducible exact Calls.regrown_of (l26Done_lit _ _ h0 _))))) | quiet_step ((first | (go_at_call 94; (with_reducible exact Calls.regrown_of (l26Done_lit _ _ h0 _))))))
        refine wpQuiet_nil ?_
        intro _ hw'
        obtain ⟨⟨dq, osq⟩, hw''⟩ := hw'
        subst hw''
        obtain ⟨wq, hq0, hq⟩ : ∃ wnew, wnew = grow (redrawn wa dq) osq ∧ Below wa.heap.size wa wnew := ⟨_, rfl, below_regrown _ _ _⟩
        rw [← hq0]
        clear hq0 kq0 kq1 kq2 kq3 kq4
        have HBQ := Lib.hid (HBA.out.trans (hq.mono HBA.out.size))
        have HXQ := Lib.hid (HXA.out.below hq)
        clear hq
        go_wp2_with fail
        go_roundw
        case rel => exact ⟨j + 1, by omega, by go_num, by rw [HSN2.out.1], by rw [HSN2.out.2], HXQ, HBQ⟩
        case measure => simp [intOf] <;> omega
    · obtain rfl : j = n := by omega
      rw [List.take_of_length_le (by rw [HN.out]; exact Nat.le_refl _), List.take_of_length_le (by rw [HM.out]; exact Nat.le_refl _)]
      go_wp2_with fail
      go_ret2
      exact ⟨rfl, HB.out⟩
end Go.Proofs.Ytmgkoldipchljaa

/- Walks: lists of redress (chapter 29), both sides. -/
namespace Go.Proofs.Ytmgkoldipchljaa
open Go.RowKit
set_option linter.unusedVariables false
set_option maxRecDepth 100000

/-- Points of a redress, and whether there are some. -/
def redPtF (t : Tb) (x : RedT) : Int × Bool := if x.2.2.1 = 3 then (x.2.2.2, true) else avgF t x.1 x.2.1 x.2.2.1
theorem redB_ok {t : Tb} {x : RedT} (a1 : withinB x.1 0 ((t.pts.length : Int) - 1) = true) (a2 : withinB x.2.1 0 (t.boats - 1) = true) (a3 : isRedBT x.2.2.1 x.2.2.2 = true) (a4 : codeAt t x.1 x.2.1 = 9) : redB t x = (redPtF t x).2 := by
  unfold redB redPtF
  rw [a1, a2, a3, a4]
  by_cases h : x.2.2.1 = 3
  · simp [h]
  · simp [h]
theorem redB_no {t : Tb} {x : RedT} (h : withinB x.1 0 ((t.pts.length : Int) - 1) = false ∨ withinB x.2.1 0 (t.boats - 1) = false ∨ isRedBT x.2.2.1 x.2.2.2 = false ∨ codeAt t x.1 x.2.1 ≠ 9) : redB t x = false := by
  unfold redB
  rcases h with h | h | h | h
  · rw [h]; simp
  · rw [h]; simp
  · rw [h]; simp
  · have : (codeAt t x.1 x.2.1 == 9) = false := by simpa using h
    rw [this]; simp
def prevR (xs : List RedT) : Nat → Option RedT
  | 0 => none
  | k + 1 => xs[k]?
theorem reds_no {t : Tb} {x : RedT} {p : Option RedT} {r : List RedT} (h : redB t x = false) : redsGo t p (x :: r) = false := by
  cases p <;> simp [redsGo, h]
theorem reds_first {t : Tb} {x : RedT} {r : List RedT} (h : redB t x = true) : redsGo t none (x :: r) = redsGo t (some x) r := by simp [redsGo, h]
theorem reds_next {t : Tb} {x y : RedT} {r : List RedT} (h : redB t x = true) (hl : ltRB y x = true) : redsGo t (some y) (x :: r) = redsGo t (some x) r := by simp [redsGo, h, hl]
theorem reds_bad {t : Tb} {x y : RedT} {r : List RedT} (hl : ltRB y x = false) : redsGo t (some y) (x :: r) = false := by simp [redsGo, hl]
theorem isRedB_kind {k p : Int} (h : isRedBT k p = true) : k = 1 ∨ k = 2 ∨ k = 3 := by
  unfold isRedBT at h
  by_cases h3 : k = 3
  · exact .inr (.inr h3)
  · rw [if_neg h3] at h
    simp only [Bool.and_eq_true, withinB_iff] at h
    omega
theorem within_litT {n a b : Int} {r : Bool} (h : withinB n a b = r) (w : World) : Calls Try.prog 31 #[.int .i64 n, .int .i64 a, .int .i64 b] w fun e w' => e = .returned (.bool r) ∧ w = w' := by
  subst h; exact within_any n a b w
theorem l01In_litT {n a b : Int} {r : Bool} (h : withinB n a b = r) (w : World) : Calls Try.prog 34 #[.int .i64 n, .int .i64 a, .int .i64 b] w fun e w' => e = .returned (.bool r) ∧ w = w' := by
  subst h; exact l01In_any n a b w
theorem isRedress_anyT (x0 x1 x2 x3 : Int) (w : World) :
    Calls Try.prog 61 #[.agg #[.int .i64 x0, .int .i64 x1, .int .i64 x2, .int .i64 x3]] w fun e w' => e = .returned (.bool (isRedBT x2 x3)) ∧ Below w.heap.size w w' := by
  have HB := Lib.hid (show ∀ o, Below w.heap.size w (w.alloc o) from fun o => (Below.refl _ _).alloc (Nat.le_refl _) o)
  unfold isRedBT
  by_cases h3 : x2 = 3
  · subst h3
    rw [if_pos rfl]
    go_enter Try.func61, Try.ntmps61
    go_wp2_with (go_at_call 31; refine (within_any _ _ _ _).mono ?_; rintro e w' ⟨rfl, rfl⟩)
    go_ret
    exact ⟨rfl, HB.out _⟩
  · rw [if_neg h3]
    have e3 : (x2 == 3) = false := by simp [h3]
    cases h12 : withinB x2 1 2 with
    | false =>
      have HWL := Lib.hid (fun w => within_litT h12 w)
      clear h12
      go_enter Try.func61, Try.ntmps61
      go_wp2_with (go_at_call 31; refine (HWL.out _).mono ?_; rintro e w' ⟨rfl, rfl⟩)
      go_ret
      exact ⟨rfl, HB.out _⟩
    | true =>
      have HWL := Lib.hid (fun w => within_litT h12 w)
      clear h12
      go_enter Try.func61, Try.ntmps61
      go_wp2_with (go_at_call 31; refine (HWL.out _).mono ?_; rintro e w' ⟨rfl, rfl⟩)
      go_ret
      exact ⟨ret_bool (by simp), HB.out _⟩
theorem redressPoints_any (P : Option Addr) (n c : Nat) (C : Option Addr) (m d : Nat) (t : Tb) (x0 : Int) (bt : Nat) (x2 x3 : Int) (hk : x2 = 1 ∨ x2 = 2 ∨ x2 = 3) (ok : TabOk t) (hbt : (bt : Int) < t.boats) (w : World) (h : RdT w P n C m t) :
    Calls Try.prog 58 #[.agg #[.int .i64 t.boats, .slice P n c, .slice C m d], .agg #[.int .i64 x0, .int .i64 bt, .int .i64 x2, .int .i64 x3]] w fun e w' => e = .returned (.tuple #[.int .i64 (redPtF t (x0, (bt : Int), x2, x3)).1, .bool (redPtF t (x0, (bt : Int), x2, x3)).2]) ∧ Below w.heap.size w w' := by
  have HB := Lib.hid (show ∀ o1 o2, Below w.heap.size w ((w.alloc o1).alloc o2) from fun o1 o2 => ((Below.refl _ _).alloc (Nat.le_refl _) _).alloc (by simp) _)
  unfold redPtF
  show Calls _ _ _ _ fun e w' => e = .returned (.tuple #[.int .i64 (if x2 = 3 then (x3, true) else avgF t x0 bt x2).1, .bool (if x2 = 3 then (x3, true) else avgF t x0 bt x2).2]) ∧ Below w.heap.size w w'
  by_cases h3 : x2 = 3
  · subst h3
    rw [if_pos rfl]
    go_enter Try.func58, Try.ntmps58
    go_wp2_with fail
    go_ret2
    exact ⟨rfl, HB.out _ _⟩
  · rw [if_neg h3]
    have e3 : (x2 == 3) = false := by simp [h3]
    have HA := Lib.hid (fun w' (hb : Below w.heap.size w w') => implAvg_any P n c C m d t x0 bt x2 (by omega) ok hbt w' (h.below hb))
    generalize avgF t x0 bt x2 = R at *
    clear h hk hbt ok h3
    go_enter Try.func58, Try.ntmps58
    go_wp2_with fail
    refine (HA.out _ (HB.out _ _)).mono ?_
    rintro e w2 ⟨rfl, hb2⟩
    have HB2 := Lib.hid ((HB.out _ _).trans (hb2.mono (HB.out _ _).size))
    clear hb2
    go_wp2_with fail
    go_ret2
    exact ⟨rfl, HB2.out⟩
end Go.Proofs.Ytmgkoldipchljaa

/- Walks: averages of a table, both sides; plain: an average lies between the least and the greatest points. -/
namespace Go.Proofs.Ytmgkoldipchljaa
open Go.RowKit
set_option linter.unusedVariables false
set_option maxRecDepth 100000

/-- Least and greatest points of the races that count. -/
def mmGo (race kind : Int) (b : Nat) : Nat → List (List Int) → List (List Int) → Int → Int → Int × Int
  | k, p :: ps, c :: cs, lo, hi => if (otherB race kind k && !(c.getD b 0 == 9)) = true then mmGo race kind b (k + 1) ps cs (min lo (p.getD b 0)) (max hi (p.getD b 0)) else mmGo race kind b (k + 1) ps cs lo hi
  | _, _, _, lo, hi => (lo, hi)
theorem mm_avg (race kind : Int) (b : Nat) : ∀ (ps cs : List (List Int)) (k : Nat) (s m lo hi : Int), 0 ≤ m → lo * m ≤ s → s ≤ hi * m →
    0 ≤ (avgGo race kind b k ps cs s m).2 ∧ (mmGo race kind b k ps cs lo hi).1 * (avgGo race kind b k ps cs s m).2 ≤ (avgGo race kind b k ps cs s m).1 ∧ (avgGo race kind b k ps cs s m).1 ≤ (mmGo race kind b k ps cs lo hi).2 * (avgGo race kind b k ps cs s m).2 := by
  intro ps
  induction ps with
  | nil => intro cs k s m lo hi h0 h1 h2; cases cs <;> exact ⟨h0, h1, h2⟩
  | cons p ps ih =>
    intro cs k s m lo hi h0 h1 h2
    cases cs with
    | nil => exact ⟨h0, h1, h2⟩
    | cons c cs =>
      unfold avgGo mmGo
      split
      · refine ih cs (k + 1) _ _ _ _ (by omega) ?_ ?_
        · have e1 : min lo (p.getD b 0) * m ≤ lo * m := Int.mul_le_mul_of_nonneg_right (Int.min_le_left _ _) h0
          have e2 : min lo (p.getD b 0) ≤ p.getD b 0 := Int.min_le_right _ _
          rw [Int.mul_add, Int.mul_one]
          omega
        · have e1 : hi * m ≤ max hi (p.getD b 0) * m := Int.mul_le_mul_of_nonneg_right (Int.le_max_left _ _) h0
          have e2 : p.getD b 0 ≤ max hi (p.getD b 0) := Int.le_max_right _ _
          rw [Int.mul_add, Int.mul_one]
          omega
      · exact ih cs (k + 1) s m lo hi h0 h1 h2
/-- An average lies between the least and the greatest points. -/
theorem avg_between (t : Tb) (race boat kind : Int) (h : (avgF t race boat kind).2 = true) :
    (mmGo race kind boat.toNat 0 t.pts t.cds 10000 0).1 ≤ (avgF t race boat kind).1 ∧ (avgF t race boat kind).1 ≤ (mmGo race kind boat.toNat 0 t.pts t.cds 10000 0).2 := by
  have hm := mm_avg race kind boat.toNat t.pts t.cds 0 0 0 10000 0 (by omega) (by omega) (by omega)
  unfold avgF avgOf at h ⊢
  generalize avgGo race kind boat.toNat 0 t.pts t.cds 0 0 = r at *
  generalize mmGo race kind boat.toNat 0 t.pts t.cds 10000 0 = q at *
  obtain ⟨s, m⟩ := r
  obtain ⟨lo, hi⟩ := q
  simp only at hm h ⊢
  by_cases h0 : m = 0
  · rw [if_pos h0] at h; cases h
  · rw [if_neg h0]
    simp only
    obtain ⟨a1, a2, a3⟩ := hm
    constructor
    · refine Int.le_ediv_of_mul_le (by omega) ?_
      have : lo * (2 * m) = 2 * (lo * m) := by rw [Int.mul_left_comm]
      omega
    · have : (2 * s + m) / (2 * m) < hi + 1 := by
        refine Int.ediv_lt_of_lt_mul (by omega) ?_
        have e : (hi + 1) * (2 * m) = 2 * (hi * m) + 2 * m := by rw [Int.add_mul, Int.one_mul, Int.mul_left_comm]
        omega
      omega
set_option maxHeartbeats 2000000 in
theorem implAvgPoints_any (P : Option Addr) (n c : Nat) (C : Option Addr) (m d : Nat) (t : Tb) (race boat kind : Int) (w : World) (h : RdT w P n C m t) :
    Calls Try.prog 8 #[.agg #[.int .i64 t.boats, .slice P n c, .slice C m d], .int .i64 race, .int .i64 boat, .int .i64 kind] w fun e w' => e = .returned (.tuple #[.int .i64 (avgPointsF t race boat kind).1, .int .i64 (avgPointsF t race boat kind).2]) ∧ Below w.heap.size w w' := by
  have hpl := h.pts.len
  have HT := Lib.hid (fun w' (hb : Below w.heap.size w w') => h.below hb)
  have HI := Lib.hid (fun w' (hb : Below w.heap.size w w') => implIsTable_any P n c C m d t w' (h.below hb))
  obtain ⟨w1, hw1, X0, hb1, hs1⟩ := one_box w #[.int .i64 t.boats, .slice P n c, .slice C m d] 26
  have HB1 := Lib.hid hb1
  have HX0 := Lib.hid X0
  have F0 := X0.f3
  clear hb1 X0 h
  go_enter Try.func8, Try.ntmps8
  cases hg : tableB t with
  | false =>
    rw [hg] at HI
    have HA := Lib.hid (show avgPointsF t race boat kind = (0, 1) from by unfold avgPointsF; rw [hg]; rfl)
    go_wp2_with fail
    rw [← hw1]
    clear hw1
    refine (HI.out _ HB1.out).mono ?_
    rintro e w2 ⟨rfl, hb2⟩
    have HB2 := Lib.hid (HB1.out.trans (hb2.mono HB1.out.size))
    clear hb2 F0
    go_wp2_with fail
    go_ret2
    exact ⟨by rw [HA.out]; first | done | rfl, HB2.out⟩
  | true =>
    rw [hg] at HI
    have ok := tableB_ok hg
    have hb01 := ok.b1; have hb16 := ok.b2; have hn12 := ok.many
    have HOK := Lib.hid ok
    clear ok
    go_wp2_with fail
    rw [← hw1]
    clear hw1
    refine (HI.out _ HB1.out).mono ?_
    rintro e w2 ⟨rfl, hb2⟩
    have HB2 := Lib.hid (HB1.out.trans (hb2.mono HB1.out.size))
    clear F0
    have F0 := (HX0.out.below hb2).f3
    clear hb2
    have hn12' : n ≤ 12 := by omega
    cases h1 : withinB race 0 ((n : Int) - 1) with
    | false =>
      have HW1 := Lib.hid (fun w => within_litT h1 w)
      have HA := Lib.hid (show avgPointsF t race boat kind = (0, 2) from by unfold avgPointsF; rw [hg, if_pos rfl, if_neg]; rintro ⟨e, _⟩; rw [hpl, h1] at e; cases e)
      clear h1
      go_wp2_with fail
      refine (HW1.out _).mono ?_
      rintro e w' ⟨rfl, rfl⟩
      go_wp2_with fail
      go_ret2
      exact ⟨by rw [HA.out]; first | done | rfl, HB2.out⟩
    | true =>
    have HW1 := Lib.hid (fun w => within_litT h1 w)
    cases h2 : withinB boat 0 (t.boats - 1) with
    | false =>
      have HW2 := Lib.hid (fun w => within_litT h2 w)
      have HA := Lib.hid (show avgPointsF t race boat kind = (0, 2) from by unfold avgPointsF; rw [hg, if_pos rfl, if_neg]; rintro ⟨_, e, _⟩; rw [h2] at e; cases e)
      clear h1 h2
      go_wp2_with fail
      refine (HW1.out _).mono ?_
      rintro e w' ⟨rfl, rfl⟩
      go_wp2_with fail
      refine (HW2.out _).mono ?_
      rintro e w' ⟨rfl, rfl⟩
      go_wp2_with fail
      go_ret2
      exact ⟨by rw [HA.out]; first | done | rfl, HB2.out⟩
    | true =>
    have HW2 := Lib.hid (fun w => within_litT h2 w)
    cases h3 : withinB kind 1 2 with
    | false =>
      have HW3 := Lib.hid (fun w => within_litT h3 w)
      have HA := Lib.hid (show avgPointsF t race boat kind = (0, 2) from by unfold avgPointsF; rw [hg, if_pos rfl, if_neg]; rintro ⟨_, _, e⟩; rw [h3] at e; cases e)
      clear h1 h2 h3
      go_wp2_with fail
      refine (HW1.out _).mono ?_
      rintro e w' ⟨rfl, rfl⟩
      go_wp2_with fail
      refine (HW2.out _).mono ?_
      rintro e w' ⟨rfl, rfl⟩
      go_wp2_with fail
      refine (HW3.out _).mono ?_
      rintro e w' ⟨rfl, rfl⟩
      go_wp2_with fail
      go_ret2
      exact ⟨by rw [HA.out]; first | done | rfl, HB2.out⟩
    | true =>
    have HW3 := Lib.hid (fun w => within_litT h3 w)
    have hk := withinB_iff.1 h3
    have hbt := withinB_iff.1 h2
    obtain ⟨bt, rfl⟩ := int_up boat hbt.1
    have HAV := Lib.hid (implAvg_any P n c C m d t race bt kind (by omega) HOK.out (by omega) w2 (HT.out w2 HB2.out))
    have ha : avgPointsF t race (bt : Int) kind = if (avgF t race (bt : Int) kind).2 = true then ((avgF t race (bt : Int) kind).1, 0) else (0, 4) := by unfold avgPointsF; rw [hg, if_pos rfl, if_pos ⟨by rw [hpl]; exact h1, h2, h3⟩]
    generalize avgF t race (bt : Int) kind = R at *
    obtain ⟨x, ok⟩ := R
    simp only at ha
    have HA := Lib.hid ha
    clear h1 h2 h3 ha hg hbt
    go_wp2_with fail
    refine (HW1.out _).mono ?_
    rintro e w' ⟨rfl, rfl⟩
    go_wp2_with fail
    refine (HW2.out _).mono ?_
    rintro e w' ⟨rfl, rfl⟩
    go_wp2_with fail
    refine (HW3.out _).mono ?_
    rintro e w' ⟨rfl, rfl⟩
    go_wp2_with fail
    refine HAV.out.mono ?_
    rintro e w3 ⟨rfl, hb3⟩
    have HB3 := Lib.hid (HB2.out.trans (hb3.mono HB2.out.size))
    clear hb3 F0
    simp only
    cases ok with
    | false =>
      go_wp2_with fail
      go_ret2
      exact ⟨by rw [HA.out]; first | done | rfl, HB3.out⟩
    | true =>
      go_wp2_with fail
      go_ret2
      exact ⟨by rw [HA.out]; first | done | rfl, HB3.out⟩
set_option maxHeartbeats 2000000 in
theorem specAvgPoints_any (P : Option Addr) (n c : Nat) (C : Option Addr) (m d : Nat) (t : Tb) (race boat kind : Int) (w : World) (h : RdT w P n C m t) :
    Calls Try.prog 9 #[.agg #[.int .i64 t.boats, .slice P n c, .slice C m d], .int .i64 race, .int .i64 boat, .int .i64 kind] w fun e w' => e = .returned (.tuple #[.int .i64 (avgPointsF t race boat kind).1, .int .i64 (avgPointsF t race boat kind).2]) ∧ Below w.heap.size w w' := by
  have hpl := h.pts.len
  have HT := Lib.hid (fun w' (hb : Below w.heap.size w w') => h.below hb)
  have HI := Lib.hid (fun w' (hb : Below w.heap.size w w') => specIsTable_any P n c C m d t w' (h.below hb))
  obtain ⟨w1, hw1, X0, hb1, hs1⟩ := one_box w #[.int .i64 t.boats, .slice P n c, .slice C m d] 26
  have HB1 := Lib.hid hb1
  have HX0 := Lib.hid X0
  have F0 := X0.f3
  clear hb1 X0 h
  go_enter Try.func9, Try.ntmps9
  cases hg : tableB t with
  | false =>
    rw [hg] at HI
    have HA := Lib.hid (show avgPointsF t race boat kind = (0, 1) from by unfold avgPointsF; rw [hg]; rfl)
    go_wp2_with fail
    rw [← hw1]
    clear hw1
    refine (HI.out _ HB1.out).mono ?_
    rintro e w2 ⟨rfl, hb2⟩
    have HB2 := Lib.hid (HB1.out.trans (hb2.mono HB1.out.size))
    clear hb2 F0
    go_wp2_with fail
    go_ret2
    exact ⟨by rw [HA.out]; first | done | rfl, HB2.out⟩
  | true =>
    rw [hg] at HI
    have ok := tableB_ok hg
    have hb01 := ok.b1; have hb16 := ok.b2; have hn12 := ok.many
    have HOK := Lib.hid ok
    clear ok
    go_wp2_with fail
    rw [← hw1]
    clear hw1
    refine (HI.out _ HB1.out).mono ?_
    rintro e w2 ⟨rfl, hb2⟩
    have HB2 := Lib.hid (HB1.out.trans (hb2.mono HB1.out.size))
    clear F0
    have F0 := (HX0.out.below hb2).f3
    clear hb2
    have hn12' : n ≤ 12 := by omega
    cases h1 : withinB race 0 ((n : Int) - 1) with
    | false =>
      have HW1 := Lib.hid (fun w => l01In_litT h1 w)
      have HA := Lib.hid (show avgPointsF t race boat kind = (0, 2) from by unfold avgPointsF; rw [hg, if_pos rfl, if_neg]; rintro ⟨e, _⟩; rw [hpl, h1] at e; cases e)
      clear h1
      go_wp2_with fail
      refine (HW1.out _).mono ?_
      rintro e w' ⟨rfl, rfl⟩
      go_wp2_with fail
      go_ret2
      exact ⟨by rw [HA.out]; first | done | rfl, HB2.out⟩
    | true =>
    have HW1 := Lib.hid (fun w => l01In_litT h1 w)
    cases h2 : withinB boat 0 (t.boats - 1) with
    | false =>
      have HW2 := Lib.hid (fun w => l01In_litT h2 w)
      have HA := Lib.hid (show avgPointsF t race boat kind = (0, 2) from by unfold avgPointsF; rw [hg, if_pos rfl, if_neg]; rintro ⟨_, e, _⟩; rw [h2] at e; cases e)
      clear h1 h2
      go_wp2_with fail
      refine (HW1.out _).mono ?_
      rintro e w' ⟨rfl, rfl⟩
      go_wp2_with fail
      refine (HW2.out _).mono ?_
      rintro e w' ⟨rfl, rfl⟩
      go_wp2_with fail
      go_ret2
      exact ⟨by rw [HA.out]; first | done | rfl, HB2.out⟩
    | true =>
    have HW2 := Lib.hid (fun w => l01In_litT h2 w)
    cases h3 : withinB kind 1 2 with
    | false =>
      have HW3 := Lib.hid (fun w => l01In_litT h3 w)
      have HA := Lib.hid (show avgPointsF t race boat kind = (0, 2) from by unfold avgPointsF; rw [hg, if_pos rfl, if_neg]; rintro ⟨_, _, e⟩; rw [h3] at e; cases e)
      clear h1 h2 h3
      go_wp2_with fail
      refine (HW1.out _).mono ?_
      rintro e w' ⟨rfl, rfl⟩
      go_wp2_with fail
      refine (HW2.out _).mono ?_
      rintro e w' ⟨rfl, rfl⟩
      go_wp2_with fail
      refine (HW3.out _).mono ?_
      rintro e w' ⟨rfl, rfl⟩
      go_wp2_with fail
      go_ret2
      exact ⟨by rw [HA.out]; first | done | rfl, HB2.out⟩
    | true =>
    have HW3 := Lib.hid (fun w => l01In_litT h3 w)
    have hk := withinB_iff.1 h3
    have hbt := withinB_iff.1 h2
    obtain ⟨bt, rfl⟩ := int_up boat hbt.1
    have HAV := Lib.hid (specAvg_any P n c C m d t race bt kind HOK.out (by omega) w2 (HT.out w2 HB2.out))
    have ha : avgPointsF t race (bt : Int) kind = if (avgF t race (bt : Int) kind).2 = true then ((avgF t race (bt : Int) kind).1, 0) else (0, 4) := by unfold avgPointsF; rw [hg, if_pos rfl, if_pos ⟨by rw [hpl]; exact h1, h2, h3⟩]
    generalize avgF t race (bt : Int) kind = R at *
    obtain ⟨x, ok⟩ := R
    simp only at ha
    have HA := Lib.hid ha
    clear h1 h2 h3 ha hg hbt
    go_wp2_with fail
    refine (HW1.out _).mono ?_
    rintro e w' ⟨rfl, rfl⟩
    go_wp2_with fail
    refine (HW2.out _).mono ?_
    rintro e w' ⟨rfl, rfl⟩
    go_wp2_with fail
    refine (HW3.out _).mono ?_
    rintro e w' ⟨rfl, rfl⟩
    go_wp2_with fail
    refine HAV.out.mono ?_
    rintro e w3 ⟨rfl, hb3⟩
    have HB3 := Lib.hid (HB2.out.trans (hb3.mono HB2.out.size))
    clear hb3 F0
    simp only
    cases ok with
    | false =>
      go_wp2_with fail
      go_ret2
      exact ⟨by rw [HA.out]; first | done | rfl, HB3.out⟩
    | true =>
      go_wp2_with fail
      go_ret2
      exact ⟨by rw [HA.out]; first | done | rfl, HB3.out⟩
end Go.Proofs.Ytmgkoldipchljaa

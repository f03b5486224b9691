/- Walks: comparing boats, ranks, of the reference (chapter 28). -/
import Derived.Test.YtalgdeieejpelaaGreatDoorZe
namespace Go.Proofs.YtalgdeieejpelaaGreatDoor
open Go.RowKit Go.Sort
set_option linter.unusedVariables false
set_option maxRecDepth 100000

def RetC (w : World) (r : Int × Int × Int) (e : Ending) (w' : World) : Prop := e = .returned (.tuple #[.int .i64 r.1, .int .i64 r.2.1, .int .i64 r.2.2]) ∧ Below w.heap.size w w'
theorem sign_any28 (a b : Int) (w : World) : Calls Tryz.prog 68 #[.int .i64 a, .int .i64 b] w fun e w' => e = .returned (.int .i64 (sgnZ (a - b))) ∧ w' = w := by
  by_cases h1 : a < b
  · have e : sgnZ (a - b) = -1 := by unfold sgnZ; rw [if_pos (by omega)]
    have d1 : decide (a < b) = true := decide_eq_true h1
    rw [e]
    clear h1 e
    go_enter Tryz.func68, Tryz.ntmps68
    go_wp2_with fail
    go_ret
    exact ⟨rfl, rfl⟩
  · have d1 : decide (a < b) = false := decide_eq_false h1
    by_cases h2 : b < a
    · have e : sgnZ (a - b) = 1 := by unfold sgnZ; rw [if_neg (by omega), if_pos (by omega)]
      have d2 : decide (b < a) = true := decide_eq_true h2
      rw [e]
      clear h1 h2 e
      go_enter Tryz.func68, Tryz.ntmps68
      go_wp2_with fail
      go_ret
      exact ⟨rfl, rfl⟩
    · have e : sgnZ (a - b) = 0 := by unfold sgnZ; rw [if_neg (by omega), if_neg (by omega)]
      have d2 : decide (b < a) = false := decide_eq_false h2
      rw [e]
      clear h1 h2 e
      go_enter Tryz.func68, Tryz.ntmps68
      go_wp2_with fail
      go_ret
      exact ⟨rfl, rfl⟩
theorem cmp_net {t : Tb} {rule : List Int} {a b : Int} (h : netT t rule a ≠ netT t rule b) : cmpT t rule a b = (sgnZ (netT t rule a - netT t rule b), 1, 0) := by unfold cmpT; rw [if_pos h]
theorem cmp_best {t : Tb} {rule : List Int} {a b d : Int} (h : netT t rule a = netT t rule b) (h2 : lexC (srtT t rule a) (srtT t rule b) = d) (hd : d ≠ 0) : cmpT t rule a b = (sgnZ d, 2, 0) := by
  unfold cmpT
  rw [if_neg (fun h' => h' h), h2, if_pos hd]
theorem cmp_last {t : Tb} {rule : List Int} {a b d k : Int} (h : netT t rule a = netT t rule b) (h2 : lexC (srtT t rule a) (srtT t rule b) = 0) (h3 : lastGoR (colOf t.pts a) (colOf t.pts b) t.pts.length = (d, k)) (hd : d ≠ 0) : cmpT t rule a b = (sgnZ d, 3, k) := by
  unfold cmpT
  rw [if_neg (fun h' => h' h), if_neg (fun h' => h' h2), h3, if_pos hd]
theorem cmp_none {t : Tb} {rule : List Int} {a b k : Int} (h : netT t rule a = netT t rule b) (h2 : lexC (srtT t rule a) (srtT t rule b) = 0) (h3 : lastGoR (colOf t.pts a) (colOf t.pts b) t.pts.length = (0, k)) : cmpT t rule a b = (0, 0, 0) := by
  unfold cmpT
  rw [if_neg (fun h' => h' h), if_neg (fun h' => h' h2), h3, if_neg (fun h' => h' rfl)]
theorem lastGoR_succ (P Q : List Int) (k : Nat) : lastGoR P Q (k + 1) = if atI P k = atI Q k then lastGoR P Q k else (atI P k - atI Q k, (k : Int)) := rfl
theorem lexC_cons (x y : Int) (xs ys : List Int) : lexC (x :: xs) (y :: ys) = if x = y then lexC xs ys else x - y := rfl
set_option maxHeartbeats 8000000 in
theorem specCmp_any (P : Option Addr) (n c : Nat) (C : Option Addr) (m d : Nat) (t : Tb) (ok : TabOk t) (A : Option Addr) (l cl : Nat) (rule : List Int) (hrule : rule.length ≤ 3) (a b : Nat) (ha : (a : Int) < t.boats) (hb : (b : Int) < t.boats) (w : World) (h : RdT w P n C m t) (hl : Rd w 1 A l (ints rule)) :
    Calls Tryz.prog 52 #[.agg #[.int .i64 t.boats, .slice P n c, .slice C m d], .slice A l cl, .int .i64 a, .int .i64 b] w (RetC w (cmpT t rule a b)) := by
  have hn12 : n ≤ 12 := by have := ok.many; have := h.pts.len; omega
  have hpl := h.pts.len
  obtain rfl : n = m := by have := h.cds.len; have := ok.same; omega
  obtain ⟨wa, hwa, XT, hba, hsa⟩ := one_box w #[.int .i64 t.boats, .slice P n c, .slice C n d] 33
  have HWA := Lib.hid hwa
  have HBA := Lib.hid hba
  have HXT := Lib.hid XT
  have HCA := Lib.hid (fun w' (hb' : Below w.heap.size w w') => specCounted_any P n c C n d t ok A l cl rule hrule a ha w' (h.below hb') (hl.below hb'))
  have HCB := Lib.hid (fun w' (hb' : Below w.heap.size w w') => specCounted_any P n c C n d t ok A l cl rule hrule b hb w' (h.below hb') (hl.below hb'))
  have HBX := Lib.hid (show ∀ x ∈ srtT t rule a, 0 ≤ x ∧ x ≤ 10000 from fun x hx => cntT_bd ok (srtT_mem.1 hx))
  have HBY := Lib.hid (show ∀ x ∈ srtT t rule b, 0 ≤ x ∧ x ≤ 10000 from fun x hx => cntT_bd ok (srtT_mem.1 hx))
  have hlx := cntT_len ok rule a
  have hly := cntT_len ok rule b
  have HNA := Lib.hid (srtT_sum t rule a)
  have HNB := Lib.hid (srtT_sum t rule b)
  have HSX := Lib.hid (fun A n c hn w h => specSorted_any A n c (cntT t rule a) hn w h)
  have HSY := Lib.hid (fun A n c hn w h => specSorted_any A n c (cntT t rule b) hn w h)
  have hex : insSort ltI (cntT t rule a) = srtT t rule a := rfl
  have hey : insSort ltI (cntT t rule b) = srtT t rule b := rfl
  rw [hex] at HSX
  rw [hey] at HSY
  have HLA := Lib.hid (srtT_len t rule a)
  have HLB := Lib.hid (srtT_len t rule b)
  have HN1 := Lib.hid (fun h => cmp_net (t := t) (rule := rule) (a := a) (b := b) h)
  have HN2 := Lib.hid (fun d h h2 hd => cmp_best (t := t) (rule := rule) (a := a) (b := b) (d := d) h h2 hd)
  have HN3 := Lib.hid (fun d k h h2 h3 hd => cmp_last (t := t) (rule := rule) (a := a) (b := b) (d := d) (k := k) h h2 h3 hd)
  have HN4 := Lib.hid (fun k h h2 h3 => cmp_none (t := t) (rule := rule) (a := a) (b := b) (k := k) h h2 h3)
  rw [hpl] at HN3 HN4
  have HT := Lib.hid h
  have HOK := Lib.hid ok
  have HAT := Lib.hid ha
  have HBT := Lib.hid hb
  generalize cmpT t rule a b = R at *
  generalize srtT t rule a = X at *
  generalize srtT t rule b = Y at *
  generalize netT t rule a = NA at *
  generalize netT t rule b = NB at *
  have FX := XT.f3
  clear hwa hba hsa XT h hl ok ha hb hpl hrule hex hey
  go_enter Tryz.func52, Tryz.ntmps52
  go_wp2_with fail
  rw [← HWA.out]
  clear HWA
  go_wp2_with fail
  refine (HCA.out _ HBA.out).mono ?_
  rintro e w1 ⟨g1, n1, c1, rfl, ho1, hno1, hb1⟩
  have HB1 := Lib.hid (HBA.out.trans (hb1.mono HBA.out.size))
  have HXT1 := Lib.hid (HXT.out.below hb1)
  have hl1 := own_len ho1
  have hs1 := HSX.out (some ⟨g1, 0, none⟩) n1 c1 (by omega) w1 (own_rd ho1)
  have HS1 := Lib.hid hs1
  clear ho1 hb1 HCA HXT FX hs1 HSX hl1
  go_wp2_with fail
  refine HS1.out.mono ?_
  rintro e w2 ⟨gx, nx, cx, rfl, hox, hnx, hb2⟩
  have HOX := Lib.hid hox
  have HB2 := Lib.hid (HB1.out.trans (hb2.mono HB1.out.size))
  have HXT2 := Lib.hid (HXT1.out.below hb2)
  have FX := HXT2.out.f3
  clear hox hb2 HXT1 HS1
  go_wp2_with fail
  refine (HCB.out _ HB2.out).mono ?_
  rintro e w3 ⟨g3, n3, c3, rfl, ho3, hno3, hb3⟩
  have HB3 := Lib.hid (HB2.out.trans (hb3.mono HB2.out.size))
  have HXT3 := Lib.hid (HXT2.out.below hb3)
  have HOX3 := Lib.hid (own_below HOX.out hb3)
  have hl3 := own_len ho3
  have hs3 := HSY.out (some ⟨g3, 0, none⟩) n3 c3 (by omega) w3 (own_rd ho3)
  have HS3 := Lib.hid hs3
  clear ho3 hb3 HCB HXT2 HOX FX hs3 HSY hl3
  go_wp2_with fail
  refine HS3.out.mono ?_
  rintro e w4 ⟨gy, ny, cy, rfl, hoy, hny, hb4⟩
  have hrx := own_rd (own_below HOX3.out hb4)
  have hry := own_rd hoy
  have HB4 := Lib.hid (HB3.out.trans (hb4.mono HB3.out.size))
  have HXT4 := Lib.hid (HXT3.out.below hb4)
  have hnx2 : nx ≤ 12 := by have h1 := hrx.len_int; have := HLA.out; omega
  have hny2 : ny ≤ 12 := by have h1 := hry.len_int; have := HLB.out; omega
  have HLX := Lib.hid hrx.len_int
  have HLY := Lib.hid hry.len_int
  have HRX := Lib.hid hrx
  have HRY := Lib.hid hry
  have HUX := Lib.hid (specSum_any (some ⟨gx, 0, none⟩) nx cx X HBX.out hnx2 w4 hrx)
  have HUY := Lib.hid (specSum_any (some ⟨gy, 0, none⟩) ny cy Y HBY.out hny2 w4 hry)
  rw [HNA.out] at HUX
  rw [HNB.out] at HUY
  clear hoy hb4 HXT3 HOX3 HS3 hrx hry
  by_cases hne : NA = NB
  rotate_left
  · have hnb : (NA != NB) = true := by simp [hne]
    have HR := Lib.hid (HN1.out hne)
    clear hne
    go_wp2_with fail
    refine HUX.out.mono ?_
    rintro e w5 ⟨rfl, rfl⟩
    go_wp2_with fail
    refine HUY.out.mono ?_
    rintro e w5 ⟨rfl, rfl⟩
    go_wp2_with fail
    refine HUX.out.mono ?_
    rintro e w5 ⟨rfl, rfl⟩
    go_wp2_with fail
    refine HUY.out.mono ?_
    rintro e w5 ⟨rfl, rfl⟩
    go_wp2_with fail
    refine (sign_any28 _ _ _).mono ?_
    rintro e w5 ⟨rfl, rfl⟩
    go_wp2_with fail
    go_ret3
    exact ⟨by rw [HR.out]; rfl, HB4.out⟩
  have hnb : (NA != NB) = false := by simp [hne]
  have HNE := Lib.hid hne
  have HL0 := Lib.hid (show lexC X Y = lexC (X.drop 0) (Y.drop 0) from by rw [List.drop_zero, List.drop_zero])
  clear hne HN1
  go_wp2_with fail
  refine HUX.out.mono ?_
  rintro e w5 ⟨rfl, rfl⟩
  go_wp2_with fail
  refine HUY.out.mono ?_
  rintro e w5 ⟨rfl, rfl⟩
  go_wp2_with fail
  clear hnb
  go_loopw [13] (fun i wr => ∃ k : Nat, k ≤ nx ∧ k ≤ ny ∧ i = .int .i64 k ∧ Hid (lexC X Y = lexC (X.drop k) (Y.drop k)) ∧ Hid (Drawn w4 wr)) (fun i _ => nx - (intOf i).toNat)
  case atStart => exact ⟨0, Nat.zero_le _, Nat.zero_le _, rfl, HL0, Lib.hid (Drawn.refl _)⟩
  case round =>
    clear HL0
    obtain ⟨k, hkx, hky, rfl, HI, HQ⟩ := hrel
    obtain ⟨wo, hwo⟩ : ∃ wo : World, wo = wr := ⟨_, rfl⟩
    subst hwo
    by_cases hlt : k < nx ∧ k < ny
    · obtain ⟨hlx, hly⟩ := hlt
      have hkd : decide ((k : Int) < (nx : Int)) = true := by simpa using hlx
      have hkd2 : decide ((k : Int) < (ny : Int)) = true := by simpa using hly
      obtain ⟨b1, o1, x, e1, hx, hd, hcx⟩ := (HRX.out.drawn HQ.out).int hlx
      obtain ⟨b2, o2, y, e2, hy, hd2, hcy⟩ := (HRY.out.drawn HQ.out).int hly
      injection e1 with e1
      injection e1 with q1 q2
      subst q1 q2
      injection e2 with e2
      injection e2 with q1 q2
      subst q1 q2
      simp only [Nat.zero_add] at hcx hcy
      obtain ⟨hx0, hx1⟩ := HBX.out x (List.mem_of_getElem? hx)
      obtain ⟨hy0, hy1⟩ := HBY.out y (List.mem_of_getElem? hy)
      have hi := HI.out
      rw [hd, hd2, lexC_cons] at hi
      have HI1 := Lib.hid hi
      clear hi HI hd hd2 hx hy
      by_cases hxy : x = y
      · have hne2 : (x != y) = false := by simp [hxy]
        have hi := HI1.out
        rw [if_pos hxy] at hi
        have HI2 := Lib.hid hi
        clear hi HI1 hxy
        go_wp2_with fail
        go_quiet (fail)
        go_wp2_with fail
        go_roundw
        case rel => exact ⟨k + 1, by omega, by omega, by go_num, HI2, Lib.hid (HQ.out.step _)⟩
        case measure => simp [intOf] <;> omega
      · have hne2 : (x != y) = true := by simp [hxy]
        have hi := HI1.out
        rw [if_neg hxy] at hi
        have HR := Lib.hid (HN2.out (x - y) HNE.out hi (by omega))
        clear hi HI1 hxy HN2 HN3 HN4
        go_wp2_with fail
        go_quiet (fail)
        obtain ⟨wq, hwq, hqd⟩ : ∃ wq, wq = wo.drewN nq ∧ Below wo.heap.size wo wq := ⟨_, rfl, below_drewN' _ _ _⟩
        rw [← hwq]
        have hcx' := (hqd.cell (p := ⟨gx, k, none⟩) (cell_lt hcx)).trans hcx
        have hcy' := (hqd.cell (p := ⟨gy, k, none⟩) (cell_lt hcy)).trans hcy
        have HBQ := Lib.hid (HB4.out.trans ((HQ.out.below.trans (hqd.mono HQ.out.below.size)).mono HB4.out.size))
        clear hwq hqd hcx hcy
        go_wp2_with fail
        go_quiet ((go_at_call 68; exact Calls.quiet_of_same (sign_any28 _ _ _)))
        obtain ⟨wq2, hwq, hqd⟩ : ∃ wq2, wq2 = wq.drewN nq ∧ Below wq.heap.size wq wq2 := ⟨_, rfl, below_drewN' _ _ _⟩
        rw [← hwq]
        have HBR := Lib.hid (HBQ.out.trans (hqd.mono HBQ.out.size))
        clear hwq hqd
        go_wp2_with fail
        go_ret3
        exact ⟨by rw [HR.out]; rfl, HBR.out⟩
    · have hz : lexC X Y = 0 := by
        rw [HI.out]
        rcases Nat.lt_or_ge k nx with h1 | h1
        · rw [show Y.drop k = [] from List.drop_eq_nil_of_le (by rw [HLY.out]; omega), lexC_nil2]
        · rw [show X.drop k = [] from List.drop_eq_nil_of_le (by rw [HLX.out]; omega), lexC_nil]
      have HZ := Lib.hid hz
      have hor : nx ≤ k ∨ (k < nx ∧ ny ≤ k) := by omega
      have HB5 := Lib.hid (HB4.out.trans (HQ.out.below.mono HB4.out.size))
      have HX5 := Lib.hid (HXT4.out.below HQ.out.below)
      have HG0 := Lib.hid (show lastGoR (colOf t.pts a) (colOf t.pts b) ((((n : Int) - 1) + 1).toNat) = lastGoR (colOf t.pts a) (colOf t.pts b) n from by congr 1; omega)
      have FX := HX5.out.f3
      clear hz HI hlt HN2
      rcases hor with e1 | ⟨e1, e2⟩
      · go_wp2_with fail
        clear FX
        go_loopw [14] (fun i wr => ∃ z : Int, i = .int .i64 z ∧ -1 ≤ z ∧ z ≤ (n : Int) - 1 ∧ Hid (lastGoR (colOf t.pts a) (colOf t.pts b) ((z + 1).toNat) = lastGoR (colOf t.pts a) (colOf t.pts b) n) ∧ Hid (Drawn wo wr)) (fun i _ => (intOf i + 1).toNat)
        case atStart => exact ⟨_, rfl, by omega, by omega, HG0, Lib.hid (Drawn.refl _)⟩
        case round =>
          clear HG0
          obtain ⟨z, rfl, hz1, hz2, HI, HQ2⟩ := hrel
          obtain ⟨wp, hwp⟩ : ∃ wp : World, wp = wr := ⟨_, rfl⟩
          subst hwp
          by_cases hpos : 0 ≤ z
          · obtain ⟨j, rfl⟩ := int_up z hpos
            have hjn : j < n := by omega
            have HB6 := Lib.hid (HB5.out.trans (HQ2.out.below.mono HB5.out.size))
            obtain ⟨bp, op, A', c', p, b', o', A2, c2, q, x, y, b3, o3, b4, o4, rfl, rfl, hd, hd', hc, hc', rfl, rfl, hbp, hbq, hp16, hq16, hx, hy, hx0, hx1, hxc, hyc⟩ := tab_row (HT.out.below HB6.out) HOK.out (k := j) hjn HAT.out
            obtain ⟨e, u, B', f', r, e', u', B2, f2, s, x', y', e3, u3, e4, u4, hP, hC, hd2, hd2', hc2, hc2', hB', rfl, hbr, hbs, hr16, hs16, hx', hy', hx0', hx1', hxc', hyc'⟩ := tab_row (HT.out.below HB6.out) HOK.out (k := j) hjn HBT.out
            injection hP with hP
            injection hP with e1' e2'
            subst e1' e2'
            rw [hc] at hc2
            injection hc2 with hc2
            injection hc2 with q1 q2 q3
            subst hB'
            injection q1 with q1
            injection q1 with q4 q5
            subst q4 q5
            have HX := Lib.hid (show atI (colOf t.pts (a : Int)) (j : Int) = x from col_at hd hx)
            have HX' := Lib.hid (show atI (colOf t.pts (b : Int)) (j : Int) = x' from col_at hd2 hx')
            have hbr' : b < p.length := by omega
            have hi := HI.out
            rw [show ((j : Int) + 1).toNat = j + 1 by omega, lastGoR_succ, HX.out, HX'.out] at hi
            have HI1 := Lib.hid hi
            have FX := (HX5.out.below HQ2.out.below).f3
            have hj0 : decide ((0 : Int) ≤ (j : Int)) = true := by simp
            clear hi HI hd hd' hd2 hd2' hx hy hx' hy' hC hc' hc2' hyc hyc' q2 q3 hbq hbs hq16 hs16 hpos
            by_cases hxy : x = x'
            · have hne2 : (x != x') = false := by simp [hxy]
              have hi := HI1.out
              rw [if_pos hxy] at hi
              have HI2 := Lib.hid (show lastGoR (colOf t.pts (a : Int)) (colOf t.pts (b : Int)) ((((j : Int) - 1) + 1).toNat) = lastGoR (colOf t.pts (a : Int)) (colOf t.pts (b : Int)) n from by rw [← hi]; congr 1; omega)
              clear hi HI1 hxy
              go_wp2_with fail
              go_quiet (fail)
              go_wp2_with fail
              go_roundw
              case rel => exact ⟨(j : Int) - 1, by first | rfl | go_num, by omega, by omega, HI2, Lib.hid (HQ2.out.step _)⟩
              case measure => simp [intOf] <;> omega
            · have hne2 : (x != x') = true := by simp [hxy]
              have hi := HI1.out
              rw [if_neg hxy] at hi
              have HR := Lib.hid (HN3.out (x - x') (j : Int) HNE.out HZ.out hi.symm (by omega))
              clear hi HI1 hxy HN3 HN4
              go_wp2_with fail
              go_quiet (fail)
              obtain ⟨wq, hwq, hqd⟩ : ∃ wq, wq = wp.drewN nq ∧ Below wp.heap.size wp wq := ⟨_, rfl, below_drewN' _ _ _⟩
              rw [← hwq]
              have hcq := (hqd.cell (p := ⟨bp, op + j, none⟩) (cell_lt hc)).trans hc
              have hxq := (hqd.cell (p := ⟨b3, o3 + a, none⟩) (cell_lt hxc)).trans hxc
              have hyq := (hqd.cell (p := ⟨b3, o3 + b, none⟩) (cell_lt hxc')).trans hxc'
              have HBQ := Lib.hid (HB6.out.trans (hqd.mono HB6.out.size))
              have FXq := (HX5.out.below (HQ2.out.below.trans (hqd.mono HQ2.out.below.size))).f3
              clear hwq hqd hc hxc hxc' FX
              go_wp2_with fail
              go_quiet ((go_at_call 68; exact Calls.quiet_of_same (sign_any28 _ _ _)))
              obtain ⟨wq2, hwq, hqd⟩ : ∃ wq2, wq2 = wq.drewN nq ∧ Below wq.heap.size wq wq2 := ⟨_, rfl, below_drewN' _ _ _⟩
              rw [← hwq]
              have HBR := Lib.hid (HBQ.out.trans (hqd.mono HBQ.out.size))
              clear hwq hqd
              go_wp2_with fail
              go_ret3
              exact ⟨by rw [HR.out]; rfl, HBR.out⟩
          · have hz : z = -1 := by omega
            subst hz
            have hi := HI.out
            rw [show ((-1 : Int) + 1).toNat = 0 by decide, lastGoR] at hi
            have HR := Lib.hid (HN4.out (-1) HNE.out HZ.out hi.symm)
            clear hi HI
            go_wp2_with fail
            go_ret3
            exact ⟨by rw [HR.out]; rfl, HB5.out.trans (HQ2.out.below.mono HB5.out.size)⟩
      · have e3 : decide (k < ny) = false := by simp; omega
        go_wp2_with fail
        clear FX
        go_loopw [14] (fun i wr => ∃ z : Int, i = .int .i64 z ∧ -1 ≤ z ∧ z ≤ (n : Int) - 1 ∧ Hid (lastGoR (colOf t.pts a) (colOf t.pts b) ((z + 1).toNat) = lastGoR (colOf t.pts a) (colOf t.pts b) n) ∧ Hid (Drawn wo wr)) (fun i _ => (intOf i + 1).toNat)
        case atStart => exact ⟨_, rfl, by omega, by omega, HG0, Lib.hid (Drawn.refl _)⟩
        case round =>
          clear HG0
          obtain ⟨z, rfl, hz1, hz2, HI, HQ2⟩ := hrel
          obtain ⟨wp, hwp⟩ : ∃ wp : World, wp = wr := ⟨_, rfl⟩
          subst hwp
          by_cases hpos : 0 ≤ z
          · obtain ⟨j, rfl⟩ := int_up z hpos
            have hjn : j < n := by omega
            have HB6 := Lib.hid (HB5.out.trans (HQ2.out.below.mono HB5.out.size))
            obtain ⟨bp, op, A', c', p, b', o', A2, c2, q, x, y, b3, o3, b4, o4, rfl, rfl, hd, hd', hc, hc', rfl, rfl, hbp, hbq, hp16, hq16, hx, hy, hx0, hx1, hxc, hyc⟩ := tab_row (HT.out.below HB6.out) HOK.out (k := j) hjn HAT.out
            obtain ⟨e, u, B', f', r, e', u', B2, f2, s, x', y', e3, u3, e4, u4, hP, hC, hd2, hd2', hc2, hc2', hB', rfl, hbr, hbs, hr16, hs16, hx', hy', hx0', hx1', hxc', hyc'⟩ := tab_row (HT.out.below HB6.out) HOK.out (k := j) hjn HBT.out
            injection hP with hP
            injection hP with e1' e2'
            subst e1' e2'
            rw [hc] at hc2
            injection hc2 with hc2
            injection hc2 with q1 q2 q3
            subst hB'
            injection q1 with q1
            injection q1 with q4 q5
            subst q4 q5
            have HX := Lib.hid (show atI (colOf t.pts (a : Int)) (j : Int) = x from col_at hd hx)
            have HX' := Lib.hid (show atI (colOf t.pts (b : Int)) (j : Int) = x' from col_at hd2 hx')
            have hbr' : b < p.length := by omega
            have hi := HI.out
            rw [show ((j : Int) + 1).toNat = j + 1 by omega, lastGoR_succ, HX.out, HX'.out] at hi
            have HI1 := Lib.hid hi
            have FX := (HX5.out.below HQ2.out.below).f3
            have hj0 : decide ((0 : Int) ≤ (j : Int)) = true := by simp
            clear hi HI hd hd' hd2 hd2' hx hy hx' hy' hC hc' hc2' hyc hyc' q2 q3 hbq hbs hq16 hs16 hpos
            by_cases hxy : x = x'
            · have hne2 : (x != x') = false := by simp [hxy]
              have hi := HI1.out
              rw [if_pos hxy] at hi
              have HI2 := Lib.hid (show lastGoR (colOf t.pts (a : Int)) (colOf t.pts (b : Int)) ((((j : Int) - 1) + 1).toNat) = lastGoR (colOf t.pts (a : Int)) (colOf t.pts (b : Int)) n from by rw [← hi]; congr 1; omega)
              clear hi HI1 hxy
              go_wp2_with fail
              go_quiet (fail)
              go_wp2_with fail
              go_roundw
              case rel => exact ⟨(j : Int) - 1, by first | rfl | go_num, by omega, by omega, HI2, Lib.hid (HQ2.out.step _)⟩
              case measure => simp [intOf] <;> omega
            · have hne2 : (x != x') = true := by simp [hxy]
              have hi := HI1.out
              rw [if_neg hxy] at hi
              have HR := Lib.hid (HN3.out (x - x') (j : Int) HNE.out HZ.out hi.symm (by omega))
              clear hi HI1 hxy HN3 HN4
              go_wp2_with fail
              go_quiet (fail)
              obtain ⟨wq, hwq, hqd⟩ : ∃ wq, wq = wp.drewN nq ∧ Below wp.heap.size wp wq := ⟨_, rfl, below_drewN' _ _ _⟩
              rw [← hwq]
              have hcq := (hqd.cell (p := ⟨bp, op + j, none⟩) (cell_lt hc)).trans hc
              have hxq := (hqd.cell (p := ⟨b3, o3 + a, none⟩) (cell_lt hxc)).trans hxc
              have hyq := (hqd.cell (p := ⟨b3, o3 + b, none⟩) (cell_lt hxc')).trans hxc'
              have HBQ := Lib.hid (HB6.out.trans (hqd.mono HB6.out.size))
              have FXq := (HX5.out.below (HQ2.out.below.trans (hqd.mono HQ2.out.below.size))).f3
              clear hwq hqd hc hxc hxc' FX
              go_wp2_with fail
              go_quiet ((go_at_call 68; exact Calls.quiet_of_same (sign_any28 _ _ _)))
              obtain ⟨wq2, hwq, hqd⟩ : ∃ wq2, wq2 = wq.drewN nq ∧ Below wq.heap.size wq wq2 := ⟨_, rfl, below_drewN' _ _ _⟩
              rw [← hwq]
              have HBR := Lib.hid (HBQ.out.trans (hqd.mono HBQ.out.size))
              clear hwq hqd
              go_wp2_with fail
              go_ret3
              exact ⟨by rw [HR.out]; rfl, HBR.out⟩
          · have hz : z = -1 := by omega
            subst hz
            have hi := HI.out
            rw [show ((-1 : Int) + 1).toNat = 0 by decide, lastGoR] at hi
            have HR := Lib.hid (HN4.out (-1) HNE.out HZ.out hi.symm)
            clear hi HI
            go_wp2_with fail
            go_ret3
            exact ⟨by rw [HR.out]; rfl, HB5.out.trans (HQ2.out.below.mono HB5.out.size)⟩
end Go.Proofs.YtalgdeieejpelaaGreatDoor

/- The walk of FnAverages. -/
import Derived.Test.YtmgkoldipchljaaYu
import Derived.Test.YtmgkoldipchljaaZmh
import Derived.Test.YtmgkoldipchljaaZmf
namespace Go.Proofs.Ytmgkoldipchljaa
open Go.RowKit Go.Sort
set_option linter.unusedVariables false
set_option maxRecDepth 100000

theorem avgPoints_ok {t : Tb} {race boat kind x : Int} (h : avgPointsF t race boat kind = (x, 0)) : TabOk t ∧ 0 ≤ race ∧ race < t.pts.length ∧ 0 ≤ boat ∧ boat < t.boats ∧ (kind = 1 ∨ kind = 2) ∧ (mmGo race kind boat.toNat 0 t.pts t.cds 10000 0).1 ≤ x ∧ x ≤ (mmGo race kind boat.toNat 0 t.pts t.cds 10000 0).2 := by
  unfold avgPointsF at h
  split at h
  · rename_i ht
    split at h
    · rename_i hw
      split at h
      · rename_i ha
        obtain ⟨h1, h2, h3⟩ := hw
        unfold withinB at h1 h2 h3
        simp only [Bool.and_eq_true, decide_eq_true_eq] at h1 h2 h3
        have hb := avg_between t race boat kind ha
        injection h with h _
        rw [h] at hb
        exact ⟨tableB_ok ht, by omega, by omega, by omega, by omega, by omega, hb.1, hb.2⟩
      · injection h with _ h; cases h
    · injection h with _ h; cases h
  · injection h with _ h; cases h
theorem mmGo_nil (race kind : Int) (b k : Nat) (cs : List (List Int)) (lo hi : Int) : mmGo race kind b k [] cs lo hi = (lo, hi) := by cases cs <;> rfl
set_option maxHeartbeats 8000000 in
theorem fnAverages_walk (a0 : Option Addr) (len0 cap0 : Nat) (z0 : List Int) (w : World) (v0 : IsRow .u8 w a0 len0 cap0 z0) :
    Calls Try.prog 3 #[.slice a0 len0 cap0] w fun e w' => e = .returned (.bool true) ∧ Below w.heap.size w w' := by
  have hle := v0.lenle
  by_cases hbig : 4096 < len0
  · have hd : decide (4096 < len0) = true := by simpa using hbig
    have HB := Lib.hid (big_any a0 len0 cap0 hle w)
    rw [hd] at HB
    clear hd v0
    go_enter Try.func3, Try.ntmps3
    go_wp2_with fail
    refine HB.out.mono ?_
    rintro e w' ⟨rfl, rfl⟩
    go_wp2_with fail
    go_ret
    exact ⟨rfl, Below.refl _ _⟩
  have hd : decide (4096 < len0) = false := by simpa using hbig
  have HB := Lib.hid (big_any a0 len0 cap0 hle w)
  rw [hd] at HB
  clear hd
  have hcode := code0_of v0 (by omega)
  generalize z0.take len0 = code at hcode
  clear v0
  have HD := Lib.hid (fun W hb => drawAvg_any w a0 len0 cap0 code hcode W hb)
  clear hcode
  generalize avgD code = D at *
  obtain ⟨t, race, boat, kind⟩ := D
  have HI := Lib.hid (fun P n c C m d w h => implAvgPoints_any P n c C m d t race boat kind w h)
  have HS := Lib.hid (fun P n c C m d w h => specAvgPoints_any P n c C m d t race boat kind w h)
  have HOK := Lib.hid (fun x => @avgPoints_ok t race boat kind x)
  generalize avgPointsF t race boat kind = Z at *
  obtain ⟨x, c⟩ := Z
  go_enter Try.func3, Try.ntmps3
  go_wp2_with fail
  refine HB.out.mono ?_
  rintro e w' ⟨rfl, rfl⟩
  go_wp2_with fail
  refine (HD.out _ (Below.refl _ _)).mono ?_
  rintro e w1 ⟨P1, n1, c1, C1, m1, d1, rfl, k1, hb⟩
  have B_w1 := Lib.hid (hb)
  have z_w1 := hb.size
  have K1 := Lib.hid k1
  clear hb
  try simp only
  obtain ⟨w2, hw, Xt, hb, hs⟩ := one_box w1 #[.int .i64 t.boats, .slice P1 n1 c1, .slice C1 m1 d1] 26
  replace Xt := Lib.hid Xt
  have B_w2 := Lib.hid (B_w1.out.trans (hb.mono B_w1.out.size))
  have z_w2 := hb.size
  replace K1 := Lib.hid (K1.out.below hb)
  have l_t := Xt.out.lt
  have e_w2 : w2.heap.size = w1.heap.size + 1 := hs
  replace e_w2 := Lib.hid e_w2
  have HW_w2 := Lib.hid hw
  clear hb hs hw
  go_wp2_with fail
  rw [← HW_w2.out]
  clear HW_w2
  have Ft := Xt.out.f3
  go_wp2_with fail
  clear Ft
  refine (HI.out _ _ _ _ _ _ _ K1.out.rd).mono ?_
  rintro e w3 ⟨rfl, hb⟩
  have B_w3 := Lib.hid (B_w2.out.trans (hb.mono B_w2.out.size))
  have z_w3 := hb.size
  replace K1 := Lib.hid (K1.out.below hb)
  replace Xt := Lib.hid (Xt.out.below hb)
  clear hb
  try simp only
  clear K1
  go_wp2_with fail
  refine (HD.out _ B_w3.out).mono ?_
  rintro e w4 ⟨P2, n2, c2, C2, m2, d2, rfl, k2, hb⟩
  have B_w4 := Lib.hid (B_w3.out.trans (hb.mono B_w3.out.size))
  have z_w4 := hb.size
  replace Xt := Lib.hid (Xt.out.below hb)
  have K2 := Lib.hid k2
  clear hb
  try simp only
  have ee := e_w2.out
  have e4 := B_w1.out.size
  obtain ⟨w5, hw⟩ : ∃ wz : World, wz = (((w4.setCell ⟨w1.heap.size, 0, none⟩ (.int .i64 t.boats)).setCell ⟨w1.heap.size, 1, none⟩ (.slice P2 n2 c2)).setCell ⟨w1.heap.size, 2, none⟩ (.slice C2 m2 d2)) := ⟨_, rfl⟩
  have hc : Chg (w1.heap.size) (w1.heap.size + 1) w4 w5 := by rw [hw]; (repeat refine chg_set ?_ (by omega) (by omega) _); exact Chg.refl _ _ _
  replace K2 := Lib.hid (K2.out.turn (chg_wide hc (Nat.zero_le _) (by omega)))
  have B_w5 := Lib.hid (below_chg B_w4.out hc (by omega) B_w4.out.size)
  have z_w5 := hc.size
  have Yt : Box w5 (w1.heap.size) #[.int .i64 t.boats, .slice P2 n2 c2, .slice C2 m2 d2] 26 := by rw [hw]; have := (((Xt.out.set 0 (.int .i64 t.boats)).set 1 (.slice P2 n2 c2)).set 2 (.slice C2 m2 d2)); simpa using this
  have Gt := Xt.out.f3
  replace Xt := Lib.hid Yt
  clear Yt
  have HW_w5 := Lib.hid hw
  clear hw hc
  go_wp2_with fail
  rw [← HW_w5.out]
  clear HW_w5 Gt
  clear ee e4
  have Ft := Xt.out.f3
  go_wp2_with fail
  clear Ft
  refine (HS.out _ _ _ _ _ _ _ K2.out.rd).mono ?_
  rintro e w6 ⟨rfl, hb⟩
  have B_w6 := Lib.hid (B_w5.out.trans (hb.mono B_w5.out.size))
  have z_w6 := hb.size
  replace K2 := Lib.hid (K2.out.below hb)
  replace Xt := Lib.hid (Xt.out.below hb)
  clear hb
  try simp only
  have hcc : (c != c) = false := by simp
  have hxx : (x != x) = false := by simp
  by_cases hC0 : c = 0
  rotate_left
  · have hCb : (c != 0) = true := by simp [hC0]
    clear hC0
    go_wp2_with fail
    go_ret
    exact ⟨rfl, B_w6.out⟩
  subst hC0
  obtain ⟨ok, hr0, hr1, hb0, hb1, hk, hlo, hhi⟩ := HOK.out x rfl
  have h1 := K2.out.rd
  have hpl := h1.pts.len
  have hcl := h1.cds.len
  have hsm := ok.same
  have hnm : n2 = m2 := by omega
  subst hnm
  obtain ⟨bt, rfl⟩ := int_up boat hb0
  rw [Int.toNat_natCast] at hlo hhi
  have hmany := ok.many
  have hn12 : n2 ≤ 12 := by omega
  have HN := Lib.hid hpl
  have HTOK := Lib.hid ok
  have HBT := Lib.hid hb1
  obtain ⟨R, hR⟩ : ∃ R, R = mmGo race kind bt 0 t.pts t.cds 10000 0 := ⟨_, rfl⟩
  rw [← hR] at hlo hhi
  have HRR := Lib.hid hR
  have HLO := Lib.hid hlo; have HHI := Lib.hid hhi
  clear hpl hcl hsm ok hb0 hb1 hmany hcc hxx hlo hhi hR HOK HD HI HS HB
  have F0 := Xt.out.f3
  clear Xt K2
  go_wp2_with fail
  go_loop [11, 12, 13] (fun lo hi i => ∃ (k : Nat) (l h : Int), k ≤ n2 ∧ i = .int .i64 k ∧ lo = .int .i64 l ∧ hi = .int .i64 h ∧ Hid (mmGo race kind bt k (t.pts.drop k) (t.cds.drop k) l h = R)) (fun _ _ i => n2 - (intOf i).toNat)
  case atStart => exact ⟨0, 10000, 0, Nat.zero_le _, rfl, rfl, rfl, Lib.hid HRR.out.symm⟩
  case round =>
    obtain ⟨k, lo, hi, hkn, rfl, rfl, rfl, HR⟩ := hrel
    by_cases hlt : k < n2
    · obtain ⟨b, o, A', c', p, b', o', A2, cc, q, x1, y, b3, o3, b4, o4, rfl, rfl, hd, hd', hc, hc', rfl, rfl, hbp, hbq, hp16, hq16, hx, hy, hx0, hx1, hxc, hyc⟩ := tab_row h1 HTOK.out hlt HBT.out
      have HD := Lib.hid hd; have HD' := Lib.hid hd'; have HX := Lib.hid hx; have HY := Lib.hid hy
      clear hd hd' hx hy h1
      by_cases hq : (otherB race kind k && !(y == 9)) = true
      · have HQ := Lib.hid hq
        unfold otherB at hq
        simp only [Bool.and_eq_true, Bool.not_eq_true', beq_eq_false_iff_ne, Bool.and_eq_false_iff, decide_eq_false_iff_not] at hq
        obtain ⟨⟨q1, q2⟩, q3⟩ := hq
        have e1 : ((k : Int) != race) = true := by simpa using q1
        have e2 : (y != 9) = true := by simpa using q3
        clear q1 q3
        rcases hk with rfl | rfl
        · go_wp2_with fail
          go_round
          case rel => exact ⟨k + 1, min lo x1, max hi x1, by omega, by go_num, rfl, rfl, Lib.hid (by rw [← HR.out, HD.out, HD'.out, mmGo, HX.out, HY.out, if_pos HQ.out])⟩
          case measure => simp [intOf] <;> omega
        · have e3 : decide ((k : Int) < race) = true := by
            have : (k : Int) ≠ race := by simpa using e1
            simp only [decide_eq_true_eq]; simp at q2; omega
          clear q2
          go_wp2_with fail
          go_round
          case rel => exact ⟨k + 1, min lo x1, max hi x1, by omega, by go_num, rfl, rfl, Lib.hid (by rw [← HR.out, HD.out, HD'.out, mmGo, HX.out, HY.out, if_pos HQ.out])⟩
          case measure => simp [intOf] <;> omega
      · have HQ := Lib.hid hq
        by_cases e1' : (k : Int) = race
        · have e1 : ((k : Int) != race) = false := by simpa using e1'
          clear e1' hq
          go_wp2_with fail
          go_round
          case rel => exact ⟨k + 1, lo, hi, by omega, by go_num, rfl, rfl, Lib.hid (by rw [← HR.out, HD.out, HD'.out, mmGo, HX.out, HY.out, if_neg HQ.out])⟩
          case measure => simp [intOf] <;> omega
        have e1 : ((k : Int) != race) = true := by simpa using e1'
        by_cases e2' : y = 9
        · have e2 : (y != 9) = false := by simp [e2']
          clear e2' hq
          go_wp2_with fail
          go_round
          case rel => exact ⟨k + 1, lo, hi, by omega, by go_num, rfl, rfl, Lib.hid (by rw [← HR.out, HD.out, HD'.out, mmGo, HX.out, HY.out, if_neg HQ.out])⟩
          case measure => simp [intOf] <;> omega
        have e2 : (y != 9) = true := by simpa using e2'
        have e4 : kind = 2 ∧ ¬ (k : Int) < race := by
          by_cases h2 : kind = 2
          · refine ⟨h2, fun h => hq ?_⟩
            have h3 : ¬ (race < (k : Int)) := by omega
            simp [otherB, e1', e2', h2, h3]
          · exact absurd (show (otherB race kind k && !(y == 9)) = true by simp [otherB, h2, e1', e2']) hq
        obtain ⟨rfl, e4⟩ := e4
        have e3 : decide ((k : Int) < race) = false := by simpa using e4
        clear e4 hq e1' e2'
        go_wp2_with fail
        go_round
        case rel => exact ⟨k + 1, lo, hi, by omega, by go_num, rfl, rfl, Lib.hid (by rw [← HR.out, HD.out, HD'.out, mmGo, HX.out, HY.out, if_neg HQ.out])⟩
        case measure => simp [intOf] <;> omega
    · obtain rfl : k = n2 := by omega
      rw [List.drop_eq_nil_of_le (by rw [HN.out]; omega)] at HR
      have hr := HR.out
      rw [mmGo_nil] at hr
      subst hr
      have e1 : decide (lo ≤ x) = true := by simpa using HLO.out
      have e2 : decide (x ≤ hi) = true := by simpa using HHI.out
      clear h1 HLO HHI HR
      go_wp2_with fail
      go_ret
      exact ⟨rfl, B_w6.out⟩
end Go.Proofs.Ytmgkoldipchljaa

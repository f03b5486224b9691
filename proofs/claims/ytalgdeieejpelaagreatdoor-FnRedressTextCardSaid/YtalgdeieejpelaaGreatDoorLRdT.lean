/- The walk of FnRedressText. -/
import Derived.Test.YtalgdeieejpelaaGreatDoorVa
import Derived.Test.YtalgdeieejpelaaGreatDoorVb
import Derived.Test.YtalgdeieejpelaaGreatDoorQq
import Derived.Test.YtalgdeieejpelaaGreatDoorZmg
namespace Go.Proofs.YtalgdeieejpelaaGreatDoor
open Go.RowKit Go.Sort
set_option linter.unusedVariables false
set_option maxRecDepth 100000

theorem rk_good {t : Tb} {xs : List RedT} {rule : List Int} {boat a b : Int} (h : rkChF t xs rule boat = (a, b, 0)) : TabOk t ∧ ruleB rule = true ∧ (0 ≤ boat ∧ boat < t.boats) ∧ a = rankT t rule boat := by
  by_cases h1 : redCodeF t xs = 0
  · by_cases h2 : codeT t rule boat = 0
    · rw [rkCh_ok h1 h2] at h
      injection h with h3 h4
      have h5 := code_ok h2
      refine ⟨tableB_ok (redCode_ok h1).1, ?_, ⟨h5.2.1, h5.2.2⟩, h3.symm⟩
      unfold codeT at h2
      rw [if_pos (redCode_ok h1).1] at h2
      by_cases h6 : ruleB rule = true ∧ withinB boat 0 (t.boats - 1) = true
      · exact h6.1
      · rw [if_neg h6] at h2; omega
    · rw [rkCh_code h2] at h
      injection h with _ h3
      injection h3 with _ h4
      exact absurd h4 h2
  · rw [rkCh_red h1] at h
    injection h with _ h3
    injection h3 with _ h4
    exact absurd h4 h1
theorem str_facts {ss : List UInt8} (h : ss ≠ []) (hl : ss.length ≤ 40) : (str ss).toList.isEmpty = false ∧ (str ss).size ≤ 2097152 ∧ (str ss).data.toList = ss := by
  have e : (str ss).data.toList = ss := str_list ss
  refine ⟨?_, ?_, e⟩
  · have h2 : (str ss).toList = ss := by rw [ByteArray.toList_eq]; exact e
    rw [h2]
    cases ss with
    | nil => exact absurd rfl h
    | cons c r => rfl
  · have : (str ss).size = ss.length := by simp [str, ByteArray.size]
    omega
theorem code_zero {t : Tb} {rule : List Int} (ok : TabOk t) (hr : ruleB rule = true) : codeT t rule 0 = 0 := by
  unfold codeT
  rw [if_pos ok.tableB, if_pos ⟨hr, withinB_iff.2 ⟨by omega, by have := ok.b1; omega⟩⟩]
set_option maxHeartbeats 16000000 in
theorem fnRedressText_walk (a0 : Option Addr) (len0 cap0 : Nat) (z0 : List Int) (w : World) (HL0 : ∀ w', Below w.heap.size w w' → Libs w') (v0 : IsRow .u8 w a0 len0 cap0 z0) :
    Calls Tryz.prog 3 #[.slice a0 len0 cap0] w fun e w' => e = .returned (.bool true) ∧ Below w.heap.size w w' := by
  have hle := v0.lenle
  have HL := Lib.hid HL0
  clear HL0
  by_cases hbig : 4096 < len0
  · have hd : decide (4096 < len0) = true := by simpa using hbig
    have HB := Lib.hid (big_any a0 len0 cap0 hle w)
    rw [hd] at HB
    clear hd v0
    go_enter Tryz.func3, Tryz.ntmps3
    go_wp2_with fail
    refine HB.out.mono ?_
    rintro e w' ⟨rfl, rfl⟩
    go_wp2_with fail
    go_ret
    exact ⟨rfl, Below.refl _ _⟩
  have hd : decide (4096 < len0) = false := by simpa using hbig
  have HB := Lib.hid (big_any a0 len0 cap0 hle w)
  rw [hd] at HB
  clear hd
  have hcode := code0_of v0 (by omega)
  generalize z0.take len0 = code at hcode
  clear v0
  have HX1 := Lib.hid (fun W hb => drawRT_any w a0 len0 cap0 code hcode W hb)
  have HX2 := Lib.hid (fun W hb => drawRR29_any w a0 len0 cap0 code hcode (by omega) W hb)
  have HRK := Lib.hid (fun W hb => drawRK_any w a0 len0 cap0 code hcode W hb)
  clear hcode
  generalize rkD code = D at *
  obtain ⟨⟨t, xs⟩, ru, bo⟩ := D
  obtain ⟨Z, hZ⟩ : ∃ Z, Z = rkChF t xs ru bo := ⟨_, rfl⟩
  have HI := Lib.hid (fun P n c C m d L ln lc A l cl W h hx hl => implRankCh_any P n c C m d t L ln lc xs A l cl ru bo W h hx hl)
  have HS := Lib.hid (fun P n c C m d L ln lc A l cl W h hx hl => specRankCh_any P n c C m d t L ln lc xs A l cl ru bo W h hx hl)
  rw [← hZ] at HI HS
  obtain ⟨ra, rb, rc⟩ := Z
  have HZ := Lib.hid hZ.symm
  clear hZ
  go_enter Tryz.func3, Tryz.ntmps3
  go_wp2_with fail
  refine HB.out.mono ?_
  rintro e w' ⟨rfl, rfl⟩
  go_wp2_with fail
  refine (HX1.out _ (Below.refl _ _)).mono ?_
  rintro e W1 ⟨x0, x1, x2, x3, rfl, hb⟩
  have B_W1 := Lib.hid (hb)
  have z_W1 := hb.size
  clear hb
  try simp only
  obtain ⟨W2, hw, Xx, hb, hs⟩ := one_box W1 #[.int .i64 x0, .int .i64 x1, .int .i64 x2, .int .i64 x3] 25
  replace Xx := Lib.hid Xx
  have B_W2 := Lib.hid (B_W1.out.trans (hb.mono B_W1.out.size))
  have z_W2 := hb.size
  have l_x := Xx.out.lt
  have e_W2 : W2.heap.size = W1.heap.size + 1 := hs
  replace e_W2 := Lib.hid e_W2
  have HW_W2 := Lib.hid hw
  clear hb hs hw
  go_wp2_with fail
  rw [← HW_W2.out]
  clear HW_W2
  refine (implRedText_any x0 x1 x2 x3 _ (fun w' hb => (HL.out _ (B_W2.out.trans (hb.mono B_W2.out.size))).pow)).mono ?_
  rintro e W3 ⟨rfl, hb⟩
  have B_W3 := Lib.hid (B_W2.out.trans (hb.mono B_W2.out.size))
  have z_W3 := hb.size
  replace Xx := Lib.hid (Xx.out.below hb)
  clear hb
  try simp only
  go_wp2_with fail
  refine (HX2.out _ B_W3.out).mono ?_
  rintro e W4 ⟨u, rfl, hu, hb⟩
  have B_W4 := Lib.hid (B_W3.out.trans (hb.mono B_W3.out.size))
  have z_W4 := hb.size
  replace Xx := Lib.hid (Xx.out.below hb)
  clear hb
  try simp only
  have HIR := Lib.hid (fun w' (hb : Below w.heap.size w w') => implRead_any u (by omega) w' (fun w2 h2 => HL.out _ (hb.trans (h2.mono hb.size))))
  have HSR := Lib.hid (fun w' => specRead_any u (by omega) w')
  rw [impl_spec] at HIR
  generalize specR u.data.toList = RR at *
  unfold RetRd at HIR HSR
  generalize outR RR = DD at *
  obtain ⟨⟨y0, y1, y2, y3⟩, ok⟩ := DD
  simp only at HIR HSR
  go_wp2_with fail
  refine (HIR.out _ B_W4.out).mono ?_
  rintro e W5 ⟨rfl, hb⟩
  have B_W5 := Lib.hid (B_W4.out.trans (hb.mono B_W4.out.size))
  have z_W5 := hb.size
  replace Xx := Lib.hid (Xx.out.below hb)
  clear hb
  try simp only
  obtain ⟨W6, hw, Xy, hb, hs⟩ := one_box W5 #[.int .i64 y0, .int .i64 y1, .int .i64 y2, .int .i64 y3] 25
  replace Xy := Lib.hid Xy
  have B_W6 := Lib.hid (B_W5.out.trans (hb.mono B_W5.out.size))
  have z_W6 := hb.size
  replace Xx := Lib.hid (Xx.out.below hb)
  have l_y := Xy.out.lt
  have e_W6 : W6.heap.size = W5.heap.size + 1 := hs
  replace e_W6 := Lib.hid e_W6
  have HW_W6 := Lib.hid hw
  clear hb hs hw
  go_wp2_with fail
  rw [← HW_W6.out]
  clear HW_W6
  refine (HSR.out _).mono ?_
  rintro e W7 ⟨rfl, hb⟩
  have B_W7 := Lib.hid (B_W6.out.trans (hb.mono B_W6.out.size))
  have z_W7 := hb.size
  replace Xx := Lib.hid (Xx.out.below hb)
  replace Xy := Lib.hid (Xy.out.below hb)
  clear hb
  try simp only
  obtain ⟨W8, hw, Xz, hb, hs⟩ := one_box W7 #[.int .i64 y0, .int .i64 y1, .int .i64 y2, .int .i64 y3] 25
  replace Xz := Lib.hid Xz
  have B_W8 := Lib.hid (B_W7.out.trans (hb.mono B_W7.out.size))
  have z_W8 := hb.size
  replace Xx := Lib.hid (Xx.out.below hb)
  replace Xy := Lib.hid (Xy.out.below hb)
  have l_z := Xz.out.lt
  have e_W8 : W8.heap.size = W7.heap.size + 1 := hs
  replace e_W8 := Lib.hid e_W8
  have HW_W8 := Lib.hid hw
  clear hb hs hw
  have Fx := Xx.out.f4
  rw [HW_W8.out] at Fx
  go_wp2_with fail
  rw [← HW_W8.out]
  clear HW_W8
  clear Fx
  refine (specRedText_any x0 x1 x2 x3 _).mono ?_
  rintro e W9 ⟨rfl, hb⟩
  have B_W9 := Lib.hid (B_W8.out.trans (hb.mono B_W8.out.size))
  have z_W9 := hb.size
  replace Xx := Lib.hid (Xx.out.below hb)
  replace Xy := Lib.hid (Xy.out.below hb)
  replace Xz := Lib.hid (Xz.out.below hb)
  clear hb
  try simp only
  clear HIR HSR HX1 HX2
  obtain ⟨ss, hss⟩ : ∃ ss, ss = redS (x0, x1, x2, x3) := ⟨_, rfl⟩
  rw [← hss]
  have HSS := Lib.hid hss
  clear hss
  have hok : (ok != ok) = false := by simp
  have hst : ((str ss).toList == (str ss).toList) = true := by simp
  by_cases hne : ss = []
  · skip
    clear Xx
    have hem : (str ss).toList.isEmpty = true := by rw [hne, ByteArray.toList_eq]; rfl
    clear hne
    have Fy := Xy.out.f4
    have Fz := Xz.out.f4
    go_wp2_with fail
    clear Fy Fz
    clear Xy
    clear Xz
    clear hok hst hem
    refine (HRK.out _ B_W9.out).mono ?_
    rintro e W10 ⟨P1, n1, c1, C1, m1, d1, A1, l1, e1, D1, q1, f1, rfl, k1, o1, r1, hb⟩
    have B_W10 := Lib.hid (B_W9.out.trans (hb.mono B_W9.out.size))
    have z_W10 := hb.size
    have K1 := Lib.hid k1
    have O1 := Lib.hid o1
    have R1 := Lib.hid r1
    clear hb
    try simp only
    obtain ⟨W11, hw, Xt, hb, hs⟩ := one_box W10 #[.int .i64 t.boats, .slice P1 n1 c1, .slice C1 m1 d1] 33
    replace Xt := Lib.hid Xt
    have B_W11 := Lib.hid (B_W10.out.trans (hb.mono B_W10.out.size))
    have z_W11 := hb.size
    replace K1 := Lib.hid (K1.out.below hb)
    replace O1 := Lib.hid (own_below O1.out hb)
    replace R1 := Lib.hid (own_below R1.out hb)
    have l_t := Xt.out.lt
    have e_W11 : W11.heap.size = W10.heap.size + 1 := hs
    replace e_W11 := Lib.hid e_W11
    have HW_W11 := Lib.hid hw
    clear hb hs hw
    go_wp2_with fail
    rw [← HW_W11.out]
    clear HW_W11
    refine (HI.out _ _ _ _ _ _ _ _ _ _ _ _ _ K1.out.rd (own_rd O1.out) (own_rd R1.out)).mono ?_
    rintro e W12 ⟨rfl, hb⟩
    have B_W12 := Lib.hid (B_W11.out.trans (hb.mono B_W11.out.size))
    have z_W12 := hb.size
    replace K1 := Lib.hid (K1.out.below hb)
    replace O1 := Lib.hid (own_below O1.out hb)
    replace R1 := Lib.hid (own_below R1.out hb)
    replace Xt := Lib.hid (Xt.out.below hb)
    clear hb
    try simp only
    clear K1
    clear O1
    clear R1
    go_wp2_with fail
    refine (HRK.out _ B_W12.out).mono ?_
    rintro e W13 ⟨P2, n2, c2, C2, m2, d2, A2, l2, e2, D2, q2, f2, rfl, k2, o2, r2, hb⟩
    have B_W13 := Lib.hid (B_W12.out.trans (hb.mono B_W12.out.size))
    have z_W13 := hb.size
    replace Xt := Lib.hid (Xt.out.below hb)
    have K2 := Lib.hid k2
    have O2 := Lib.hid o2
    have R2 := Lib.hid r2
    clear hb
    try simp only
    have ee := e_W11.out
    have e4 := B_W10.out.size
    have e5 := B_W12.out.size
    obtain ⟨W14, hw⟩ : ∃ wz : World, wz = (((W13.setCell ⟨W10.heap.size, 0, none⟩ (.int .i64 t.boats)).setCell ⟨W10.heap.size, 1, none⟩ (.slice P2 n2 c2)).setCell ⟨W10.heap.size, 2, none⟩ (.slice C2 m2 d2)) := ⟨_, rfl⟩
    have hc : Chg (W10.heap.size) (W10.heap.size + 1) W13 W14 := by rw [hw]; (repeat refine chg_set ?_ (by omega) (by omega) _); exact Chg.refl _ _ _
    replace K2 := Lib.hid (K2.out.turn (chg_wide hc (Nat.zero_le _) (by omega)))
    have B_W14 := Lib.hid (below_chg B_W13.out hc (by omega) B_W13.out.size)
    have z_W14 := hc.size
    replace O2 := Lib.hid (own_chg O2.out hc (fun b hb => by have := (O2.out.lt b hb).1; omega))
    replace R2 := Lib.hid (own_chg R2.out hc (fun b hb => by have := (R2.out.lt b hb).1; omega))
    have Yt : Box W14 (W10.heap.size) #[.int .i64 t.boats, .slice P2 n2 c2, .slice C2 m2 d2] 33 := by rw [hw]; have := (((Xt.out.set 0 (.int .i64 t.boats)).set 1 (.slice P2 n2 c2)).set 2 (.slice C2 m2 d2)); simpa using this
    have Gt := Xt.out.f3
    replace Xt := Lib.hid Yt
    clear Yt
    have HW_W14 := Lib.hid hw
    clear hw hc
    go_wp2_with fail
    rw [← HW_W14.out]
    clear HW_W14 Gt
    clear ee e4 e5
    refine (HS.out _ _ _ _ _ _ _ _ _ _ _ _ _ K2.out.rd (own_rd O2.out) (own_rd R2.out)).mono ?_
    rintro e W15 ⟨rfl, hb⟩
    have B_W15 := Lib.hid (B_W14.out.trans (hb.mono B_W14.out.size))
    have z_W15 := hb.size
    replace O2 := Lib.hid (own_below O2.out hb)
    replace R2 := Lib.hid (own_below R2.out hb)
    replace K2 := Lib.hid (K2.out.below hb)
    replace Xt := Lib.hid (Xt.out.below hb)
    clear hb
    try simp only
    have h1 : (ra != ra) = false := by simp
    have h2 : (rb != rb) = false := by simp
    have h3 : (rc != rc) = false := by simp
    by_cases hC0 : rc = 0
    rotate_left
    · have hCb : (rc != 0) = true := by simp [hC0]
      clear hC0
      go_wp2_with fail
      go_ret
      exact ⟨rfl, B_W15.out⟩
    subst hC0
    obtain ⟨tok, hrule, hbo, hra⟩ := rk_good HZ.out
    obtain ⟨bn, rfl⟩ := int_up bo hbo.1
    obtain ⟨N, hN⟩ : ∃ N : Nat, t.boats = (N : Int) := ⟨t.boats.toNat, by have := tok.b1; omega⟩
    have hNb : bn < N := by omega
    have HG := Lib.hid (rkL_get hN ru hNb)
    have HG2 := Lib.hid (rkL_len hN ru)
    have HRO := Lib.hid (fun P n c C m d A l cl W h hl => implRanksOf_ok P n c C m d t tok A l cl ru (ruleB_len hrule) (code_zero tok hrule) W h hl)
    have HRA := Lib.hid hra
    clear hrule hbo tok hra hN
    have Ft := Xt.out.f3
    go_wp2_with fail
    clear Ft
    refine (HRO.out _ _ _ _ _ _ _ _ _ _ K2.out.rd (own_rd R2.out)).mono ?_
    rintro e W16 ⟨A9, n9, e9, rfl, o9, hb⟩
    have B_W16 := Lib.hid (B_W15.out.trans (hb.mono B_W15.out.size))
    have z_W16 := hb.size
    replace O2 := Lib.hid (own_below O2.out hb)
    replace R2 := Lib.hid (own_below R2.out hb)
    replace K2 := Lib.hid (K2.out.below hb)
    replace Xt := Lib.hid (Xt.out.below hb)
    have O9 := Lib.hid o9
    clear hb
    try simp only
    obtain rfl : n9 = N := by rw [← own_len O9.out, HG2.out]
    obtain ⟨g9, y9, rfl, -, -, hy9, hc9, -⟩ := own_int_at O9.out (k := bn) hNb
    obtain rfl : y9 = ra := by have := HG.out; rw [hy9] at this; injection this with this; rw [this]; exact HRA.out.symm
    have hyy : (y9 == y9) = true := by simp
    have hbl : decide ((bn : Int) < (n9 : Int)) = true := decide_eq_true (by omega)
    clear hy9
    go_wp2_with fail
    go_ret
    exact ⟨rfl, B_W16.out⟩
  · skip
    obtain ⟨hem, hsz, hdt⟩ := str_facts hne (by have := redS_len (x0, x1, x2, x3); rw [← HSS.out] at this; omega)
    have hrk : rdOk (x0, x1, x2, x3) = true ∧ redL (x0, x1, x2, x3) = ss := redS_ok HSS.out.symm hne
    have HBK := Lib.hid (fun w' (hb : Below w.heap.size w w') => implRead_any (str ss) hsz w' (fun w2 h2 => HL.out _ (hb.trans (h2.mono hb.size))))
    have himp : implR (str ss).data.toList = some (x0, x1, x2, x3) := by rw [hdt, ← hrk.2]; exact impl_red hrk.1
    rw [himp] at HBK
    unfold RetRd outR at HBK
    simp only at HBK
    clear hrk hsz hne hdt himp
    have Fy := Xy.out.f4
    have Fz := Xz.out.f4
    go_wp2_with fail
    clear Fy Fz
    clear Xy
    clear Xz
    clear hok hst hem
    refine (HBK.out _ B_W9.out).mono ?_
    rintro e W10 ⟨rfl, hb⟩
    have B_W10 := Lib.hid (B_W9.out.trans (hb.mono B_W9.out.size))
    have z_W10 := hb.size
    replace Xx := Lib.hid (Xx.out.below hb)
    clear hb
    try simp only
    obtain ⟨W11, hw, Xv, hb, hs⟩ := one_box W10 #[.int .i64 x0, .int .i64 x1, .int .i64 x2, .int .i64 x3] 25
    replace Xv := Lib.hid Xv
    have B_W11 := Lib.hid (B_W10.out.trans (hb.mono B_W10.out.size))
    have z_W11 := hb.size
    replace Xx := Lib.hid (Xx.out.below hb)
    have l_v := Xv.out.lt
    have e_W11 : W11.heap.size = W10.heap.size + 1 := hs
    replace e_W11 := Lib.hid e_W11
    have HW_W11 := Lib.hid hw
    clear hb hs hw
    have Fx := Xx.out.f4
    have Fv := Xv.out.f4
    rw [HW_W11.out] at Fx Fv
    go_wp2_with fail
    rw [← HW_W11.out]
    clear HW_W11 Fx Fv
    clear Xx
    clear Xv
    refine (HRK.out _ B_W11.out).mono ?_
    rintro e W12 ⟨P1, n1, c1, C1, m1, d1, A1, l1, e1, D1, q1, f1, rfl, k1, o1, r1, hb⟩
    have B_W12 := Lib.hid (B_W11.out.trans (hb.mono B_W11.out.size))
    have z_W12 := hb.size
    have K1 := Lib.hid k1
    have O1 := Lib.hid o1
    have R1 := Lib.hid r1
    clear hb
    try simp only
    obtain ⟨W13, hw, Xt, hb, hs⟩ := one_box W12 #[.int .i64 t.boats, .slice P1 n1 c1, .slice C1 m1 d1] 33
    replace Xt := Lib.hid Xt
    have B_W13 := Lib.hid (B_W12.out.trans (hb.mono B_W12.out.size))
    have z_W13 := hb.size
    replace K1 := Lib.hid (K1.out.below hb)
    replace O1 := Lib.hid (own_below O1.out hb)
    replace R1 := Lib.hid (own_below R1.out hb)
    have l_t := Xt.out.lt
    have e_W13 : W13.heap.size = W12.heap.size + 1 := hs
    replace e_W13 := Lib.hid e_W13
    have HW_W13 := Lib.hid hw
    clear hb hs hw
    go_wp2_with fail
    rw [← HW_W13.out]
    clear HW_W13
    refine (HI.out _ _ _ _ _ _ _ _ _ _ _ _ _ K1.out.rd (own_rd O1.out) (own_rd R1.out)).mono ?_
    rintro e W14 ⟨rfl, hb⟩
    have B_W14 := Lib.hid (B_W13.out.trans (hb.mono B_W13.out.size))
    have z_W14 := hb.size
    replace K1 := Lib.hid (K1.out.below hb)
    replace O1 := Lib.hid (own_below O1.out hb)
    replace R1 := Lib.hid (own_below R1.out hb)
    replace Xt := Lib.hid (Xt.out.below hb)
    clear hb
    try simp only
    clear K1
    clear O1
    clear R1
    go_wp2_with fail
    refine (HRK.out _ B_W14.out).mono ?_
    rintro e W15 ⟨P2, n2, c2, C2, m2, d2, A2, l2, e2, D2, q2, f2, rfl, k2, o2, r2, hb⟩
    have B_W15 := Lib.hid (B_W14.out.trans (hb.mono B_W14.out.size))
    have z_W15 := hb.size
    replace Xt := Lib.hid (Xt.out.below hb)
    have K2 := Lib.hid k2
    have O2 := Lib.hid o2
    have R2 := Lib.hid r2
    clear hb
    try simp only
    have ee := e_W13.out
    have e4 := B_W12.out.size
    have e5 := B_W14.out.size
    obtain ⟨W16, hw⟩ : ∃ wz : World, wz = (((W15.setCell ⟨W12.heap.size, 0, none⟩ (.int .i64 t.boats)).setCell ⟨W12.heap.size, 1, none⟩ (.slice P2 n2 c2)).setCell ⟨W12.heap.size, 2, none⟩ (.slice C2 m2 d2)) := ⟨_, rfl⟩
    have hc : Chg (W12.heap.size) (W12.heap.size + 1) W15 W16 := by rw [hw]; (repeat refine chg_set ?_ (by omega) (by omega) _); exact Chg.refl _ _ _
    replace K2 := Lib.hid (K2.out.turn (chg_wide hc (Nat.zero_le _) (by omega)))
    have B_W16 := Lib.hid (below_chg B_W15.out hc (by omega) B_W15.out.size)
    have z_W16 := hc.size
    replace O2 := Lib.hid (own_chg O2.out hc (fun b hb => by have := (O2.out.lt b hb).1; omega))
    replace R2 := Lib.hid (own_chg R2.out hc (fun b hb => by have := (R2.out.lt b hb).1; omega))
    have Yt : Box W16 (W12.heap.size) #[.int .i64 t.boats, .slice P2 n2 c2, .slice C2 m2 d2] 33 := by rw [hw]; have := (((Xt.out.set 0 (.int .i64 t.boats)).set 1 (.slice P2 n2 c2)).set 2 (.slice C2 m2 d2)); simpa using this
    have Gt := Xt.out.f3
    replace Xt := Lib.hid Yt
    clear Yt
    have HW_W16 := Lib.hid hw
    clear hw hc
    go_wp2_with fail
    rw [← HW_W16.out]
    clear HW_W16 Gt
    clear ee e4 e5
    refine (HS.out _ _ _ _ _ _ _ _ _ _ _ _ _ K2.out.rd (own_rd O2.out) (own_rd R2.out)).mono ?_
    rintro e W17 ⟨rfl, hb⟩
    have B_W17 := Lib.hid (B_W16.out.trans (hb.mono B_W16.out.size))
    have z_W17 := hb.size
    replace O2 := Lib.hid (own_below O2.out hb)
    replace R2 := Lib.hid (own_below R2.out hb)
    replace K2 := Lib.hid (K2.out.below hb)
    replace Xt := Lib.hid (Xt.out.below hb)
    clear hb
    try simp only
    have h1 : (ra != ra) = false := by simp
    have h2 : (rb != rb) = false := by simp
    have h3 : (rc != rc) = false := by simp
    by_cases hC0 : rc = 0
    rotate_left
    · have hCb : (rc != 0) = true := by simp [hC0]
      clear hC0
      go_wp2_with fail
      go_ret
      exact ⟨rfl, B_W17.out⟩
    subst hC0
    obtain ⟨tok, hrule, hbo, hra⟩ := rk_good HZ.out
    obtain ⟨bn, rfl⟩ := int_up bo hbo.1
    obtain ⟨N, hN⟩ : ∃ N : Nat, t.boats = (N : Int) := ⟨t.boats.toNat, by have := tok.b1; omega⟩
    have hNb : bn < N := by omega
    have HG := Lib.hid (rkL_get hN ru hNb)
    have HG2 := Lib.hid (rkL_len hN ru)
    have HRO := Lib.hid (fun P n c C m d A l cl W h hl => implRanksOf_ok P n c C m d t tok A l cl ru (ruleB_len hrule) (code_zero tok hrule) W h hl)
    have HRA := Lib.hid hra
    clear hrule hbo tok hra hN
    have Ft := Xt.out.f3
    go_wp2_with fail
    clear Ft
    refine (HRO.out _ _ _ _ _ _ _ _ _ _ K2.out.rd (own_rd R2.out)).mono ?_
    rintro e W18 ⟨A9, n9, e9, rfl, o9, hb⟩
    have B_W18 := Lib.hid (B_W17.out.trans (hb.mono B_W17.out.size))
    have z_W18 := hb.size
    replace O2 := Lib.hid (own_below O2.out hb)
    replace R2 := Lib.hid (own_below R2.out hb)
    replace K2 := Lib.hid (K2.out.below hb)
    replace Xt := Lib.hid (Xt.out.below hb)
    have O9 := Lib.hid o9
    clear hb
    try simp only
    obtain rfl : n9 = N := by rw [← own_len O9.out, HG2.out]
    obtain ⟨g9, y9, rfl, -, -, hy9, hc9, -⟩ := own_int_at O9.out (k := bn) hNb
    obtain rfl : y9 = ra := by have := HG.out; rw [hy9] at this; injection this with this; rw [this]; exact HRA.out.symm
    have hyy : (y9 == y9) = true := by simp
    have hbl : decide ((bn : Int) < (n9 : Int)) = true := decide_eq_true (by omega)
    clear hy9
    go_wp2_with fail
    go_ret
    exact ⟨rfl, B_W18.out⟩
end Go.Proofs.YtalgdeieejpelaaGreatDoor

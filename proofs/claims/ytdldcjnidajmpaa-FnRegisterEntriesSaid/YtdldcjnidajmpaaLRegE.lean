/- The walk of FnRegisterEntries. -/
import Derived.Test.YtdldcjnidajmpaaRu2
import Derived.Test.YtdldcjnidajmpaaMs2
import Derived.Test.YtdldcjnidajmpaaCo
import Derived.IntWalk
import Derived.Lib.QuietBelow
import Derived.Deep.RegionHeld3
namespace Go.Proofs.Ytdldcjnidajmpaa
open Go.RowKit Go.Sort
set_option linter.unusedVariables false
set_option maxRecDepth 100000

set_option maxHeartbeats 8000000 in
theorem fnRegisterEntries_walk (a0 : Option Addr) (len0 cap0 : Nat) (z0 : List Int) (w : World) (v0 : IsRow .u8 w a0 len0 cap0 z0) :
    Calls Try.prog 12 #[.slice a0 len0 cap0] w fun e w' => e = .returned (.bool true) ∧ Below w.heap.size w w' := by
  have hle := v0.lenle
  by_cases hbig : 4096 < len0
  · have hd : decide (4096 < len0) = true := by simpa using hbig
    have HB := Lib.hid (big_any a0 len0 cap0 hle w)
    rw [hd] at HB
    clear hd v0
    go_enter Try.func12, Try.ntmps12
    go_wp2_with fail
    refine HB.out.mono ?_
    rintro e w' ⟨rfl, rfl⟩
    go_wp2_with fail
    go_ret
    exact ⟨rfl, Below.refl _ _⟩
  have hd : decide (4096 < len0) = false := by simpa using hbig
  have HB := Lib.hid (big_any a0 len0 cap0 hle w)
  rw [hd] at HB
  clear hd
  have hcode := code0_of v0 (by omega)
  generalize z0.take len0 = code at hcode
  clear v0
  have HD := Lib.hid (fun W hb => drawAdd_any w a0 len0 cap0 code hcode W hb)
  have HV := Lib.hid (fun W hb => drawCur_any w a0 len0 cap0 code hcode W hb)
  clear hcode
  generalize addD code = D at *
  obtain ⟨⟨rb, rs, rl⟩, ⟨x0, x1, x2, x3, x4, x5, x6⟩⟩ := D
  generalize regD code (fromF code) = V at *
  obtain ⟨⟨vb, vs, vl⟩, s9⟩ := V
  simp only at HD HV
  obtain ⟨C, hC⟩ : ∃ C, C = addC rb rs rl (x0, x1, x2, x3, x4, x5, x6) := ⟨_, rfl⟩
  have HI := Lib.hid (fun A n c W h => implAddEntry_any rb rs A n c rl x0 x1 x2 x3 x4 x5 x6 W h)
  have HS := Lib.hid (fun A n c W h => specAddEntry_any rb rs A n c rl x0 x1 x2 x3 x4 x5 x6 W h)
  rw [← hC] at HI HS
  have HC := Lib.hid hC
  clear hC
  go_enter Try.func12, Try.ntmps12
  go_wp2_with fail
  refine HB.out.mono ?_
  rintro e w' ⟨rfl, rfl⟩
  go_wp2_with fail
  refine (HD.out _ (Below.refl _ _)).mono ?_
  rintro e w1 ⟨A1, m1, c1, rfl, o1, l1, hb⟩
  have B_w1 := Lib.hid (hb)
  have z_w1 := hb.size
  have O1 := Lib.hid o1
  clear hb
  try simp only
  simp only [E.race, E.boat, E.rev, E.code, E.time, E.kind, E.points]
  obtain ⟨w2, hw, Xr, Xx, hb, hs⟩ := two_boxes w1 #[.int .i64 rb, .int .i64 rs, .slice A1 m1 c1] #[.int .i64 x0, .int .i64 x1, .int .i64 x2, .int .i64 x3, .int .i64 x4, .int .i64 x5, .int .i64 x6] 51 66
  replace Xr := Lib.hid Xr
  replace Xx := Lib.hid Xx
  have B_w2 := Lib.hid (B_w1.out.trans (hb.mono B_w1.out.size))
  have z_w2 := hb.size
  replace O1 := Lib.hid (own_below O1.out hb)
  have l_r := Xr.out.lt
  have l_x := Xx.out.lt
  have e_w2 : w2.heap.size = w1.heap.size + 1 + 1 := hs
  replace e_w2 := Lib.hid e_w2
  have HW_w2 := Lib.hid hw
  clear hb hs hw
  go_wp2_with fail
  rw [← HW_w2.out]
  clear HW_w2
  refine (HI.out _ _ _ _ ⟨own_rd O1.out, own_capE O1.out⟩).mono ?_
  rintro e w3 ⟨A3, m3, c3, rfl, o3, l3, hb⟩
  have B_w3 := Lib.hid (B_w2.out.trans (hb.mono B_w2.out.size))
  have z_w3 := hb.size
  replace O1 := Lib.hid (own_below O1.out hb)
  replace Xr := Lib.hid (Xr.out.below hb)
  replace Xx := Lib.hid (Xx.out.below hb)
  have O3 := Lib.hid o3
  clear hb
  try simp only
  clear O1
  obtain ⟨w4, hw, Xo, hb, hs⟩ := one_box w3 #[.int .i64 (addB rb rs rl (x0, x1, x2, x3, x4, x5, x6)), .int .i64 (addS rb rs rl (x0, x1, x2, x3, x4, x5, x6)), .slice A3 m3 c3] 51
  replace Xo := Lib.hid Xo
  have B_w4 := Lib.hid (B_w3.out.trans (hb.mono B_w3.out.size))
  have z_w4 := hb.size
  replace O3 := Lib.hid (own_below O3.out hb)
  replace Xr := Lib.hid (Xr.out.below hb)
  replace Xx := Lib.hid (Xx.out.below hb)
  have l_o := Xo.out.lt
  have e_w4 : w4.heap.size = w3.heap.size + 1 := hs
  replace e_w4 := Lib.hid e_w4
  have HW_w4 := Lib.hid hw
  clear hb hs hw
  go_wp2_with fail
  rw [← HW_w4.out]
  clear HW_w4
  refine (HD.out _ B_w4.out).mono ?_
  rintro e w5 ⟨A5, m5, c5, rfl, o5, l5, hb⟩
  have B_w5 := Lib.hid (B_w4.out.trans (hb.mono B_w4.out.size))
  have z_w5 := hb.size
  replace O3 := Lib.hid (own_below O3.out hb)
  replace Xr := Lib.hid (Xr.out.below hb)
  replace Xx := Lib.hid (Xx.out.below hb)
  replace Xo := Lib.hid (Xo.out.below hb)
  have O5 := Lib.hid o5
  clear hb
  try simp only
  simp only [E.race, E.boat, E.rev, E.code, E.time, E.kind, E.points]
  have ee := e_w2.out
  have e4 := B_w1.out.size
  obtain ⟨w6, hw⟩ : ∃ wz : World, wz = ((((((((((w5.setCell ⟨w1.heap.size, 0, none⟩ (.int .i64 rb)).setCell ⟨w1.heap.size, 1, none⟩ (.int .i64 rs)).setCell ⟨w1.heap.size, 2, none⟩ (.slice A5 m5 c5)).setCell ⟨w1.heap.size + 1, 0, none⟩ (.int .i64 x0)).setCell ⟨w1.heap.size + 1, 1, none⟩ (.int .i64 x1)).setCell ⟨w1.heap.size + 1, 2, none⟩ (.int .i64 x2)).setCell ⟨w1.heap.size + 1, 3, none⟩ (.int .i64 x3)).setCell ⟨w1.heap.size + 1, 4, none⟩ (.int .i64 x4)).setCell ⟨w1.heap.size + 1, 5, none⟩ (.int .i64 x5)).setCell ⟨w1.heap.size + 1, 6, none⟩ (.int .i64 x6)) := ⟨_, rfl⟩
  have hc : Chg (w1.heap.size) (w1.heap.size + 1 + 1) w5 w6 := by rw [hw]; (repeat refine chg_set ?_ (by omega) (by omega) _); exact Chg.refl _ _ _
  have B_w6 := Lib.hid (below_chg B_w5.out hc (by omega) B_w5.out.size)
  have z_w6 := hc.size
  replace O3 := Lib.hid (own_chg O3.out hc (fun b hb => by have := (O3.out.lt b hb).1; omega))
  replace O5 := Lib.hid (own_chg O5.out hc (fun b hb => by have := (O5.out.lt b hb).1; omega))
  replace Xo := Lib.hid (Xo.out.chg hc (by omega))
  have Yr : Box w6 (w1.heap.size) #[.int .i64 rb, .int .i64 rs, .slice A5 m5 c5] 51 := by rw [hw]; have := ((((((((((Xr.out.set 0 (.int .i64 rb)).set 1 (.int .i64 rs)).set 2 (.slice A5 m5 c5)).other (c := w1.heap.size + 1) (i := 0) (by omega) (.int .i64 x0)).other (c := w1.heap.size + 1) (i := 1) (by omega) (.int .i64 x1)).other (c := w1.heap.size + 1) (i := 2) (by omega) (.int .i64 x2)).other (c := w1.heap.size + 1) (i := 3) (by omega) (.int .i64 x3)).other (c := w1.heap.size + 1) (i := 4) (by omega) (.int .i64 x4)).other (c := w1.heap.size + 1) (i := 5) (by omega) (.int .i64 x5)).other (c := w1.heap.size + 1) (i := 6) (by omega) (.int .i64 x6)); simpa using this
  have Yx : Box w6 (w1.heap.size + 1) #[.int .i64 x0, .int .i64 x1, .int .i64 x2, .int .i64 x3, .int .i64 x4, .int .i64 x5, .int .i64 x6] 66 := by rw [hw]; have := ((((((((((Xx.out.other (c := w1.heap.size) (i := 0) (by omega) (.int .i64 rb)).other (c := w1.heap.size) (i := 1) (by omega) (.int .i64 rs)).other (c := w1.heap.size) (i := 2) (by omega) (.slice A5 m5 c5)).set 0 (.int .i64 x0)).set 1 (.int .i64 x1)).set 2 (.int .i64 x2)).set 3 (.int .i64 x3)).set 4 (.int .i64 x4)).set 5 (.int .i64 x5)).set 6 (.int .i64 x6)); simpa using this
  have Gr := Xr.out.f3
  have Gx := Xx.out.f7
  have Gxz := Xx.out.z7
  replace Xr := Lib.hid Yr
  clear Yr
  replace Xx := Lib.hid Yx
  clear Yx
  have HW_w6 := Lib.hid hw
  clear hw hc
  go_wp2_with fail
  rw [← HW_w6.out]
  clear HW_w6 Gr Gx Gxz
  clear ee e4
  refine (HS.out _ _ _ _ ⟨own_rd O5.out, own_capE O5.out⟩).mono ?_
  rintro e w7 ⟨A7, m7, c7, rfl, o7, l7, hb⟩
  have B_w7 := Lib.hid (B_w6.out.trans (hb.mono B_w6.out.size))
  have z_w7 := hb.size
  replace O3 := Lib.hid (own_below O3.out hb)
  replace O5 := Lib.hid (own_below O5.out hb)
  replace Xr := Lib.hid (Xr.out.below hb)
  replace Xx := Lib.hid (Xx.out.below hb)
  replace Xo := Lib.hid (Xo.out.below hb)
  have O7 := Lib.hid o7
  clear hb
  try simp only
  obtain ⟨w8, hw, Xq, hb, hs⟩ := one_box w7 #[.int .i64 (addB rb rs rl (x0, x1, x2, x3, x4, x5, x6)), .int .i64 (addS rb rs rl (x0, x1, x2, x3, x4, x5, x6)), .slice A7 m7 c7] 51
  replace Xq := Lib.hid Xq
  have B_w8 := Lib.hid (B_w7.out.trans (hb.mono B_w7.out.size))
  have z_w8 := hb.size
  replace O3 := Lib.hid (own_below O3.out hb)
  replace O5 := Lib.hid (own_below O5.out hb)
  replace O7 := Lib.hid (own_below O7.out hb)
  replace Xr := Lib.hid (Xr.out.below hb)
  replace Xx := Lib.hid (Xx.out.below hb)
  replace Xo := Lib.hid (Xo.out.below hb)
  have l_q := Xq.out.lt
  have e_w8 : w8.heap.size = w7.heap.size + 1 := hs
  replace e_w8 := Lib.hid e_w8
  have HW_w8 := Lib.hid hw
  clear hb hs hw
  go_wp2_with fail
  rw [← HW_w8.out]
  clear HW_w8
  have hcc : (C != C) = false := by simp
  have HA := Lib.hid (fun d os => w6Registers_same (addB rb rs rl (x0, x1, x2, x3, x4, x5, x6)) (addS rb rs rl (x0, x1, x2, x3, x4, x5, x6)) A3 A7 m3 c3 m7 c7 (addL rb rs rl (x0, x1, x2, x3, x4, x5, x6)) (grow (redrawn w8 d) os) ((own_rd O3.out).below (below_regrown _ _ _)) ((own_rd O7.out).below (below_regrown _ _ _)))
  have HJ := Lib.hid (fun d os => implIsRegister_any rb rs A5 m5 c5 rl (grow (redrawn w8 d) os) (RegRd.below ⟨own_rd O5.out, own_capE O5.out⟩ (below_regrown _ _ _)))
  have HK9 := Lib.hid (fun d os => specIsRegister_any rb rs A5 m5 c5 rl (grow (redrawn w8 d) os) (RegRd.below ⟨own_rd O5.out, own_capE O5.out⟩ (below_regrown _ _ _)))
  have kq0 := cell_regrown (Xo.out.cell (i := 0) rfl)
  have kq1 := cell_regrown (Xo.out.cell (i := 1) rfl)
  have kq2 := cell_regrown (Xo.out.cell (i := 2) rfl)
  have kq3 := cell_regrown (Xq.out.cell (i := 0) rfl)
  have kq4 := cell_regrown (Xq.out.cell (i := 1) rfl)
  have kq5 := cell_regrown (Xq.out.cell (i := 2) rfl)
  have kq6 := cell_regrown (Xr.out.cell (i := 0) rfl)
  have kq7 := cell_regrown (Xr.out.cell (i := 1) rfl)
  have kq8 := cell_regrown (Xr.out.cell (i := 2) rfl)
  refine wp_region_quiet_below (by kernel_rfl) (by kernel_rfl) ?_
  repeat (first | go_big_quiet_step ((first | (go_at_call 56; (with_reducible exact Calls.regrown_of (HA.out _ _))) | (go_at_call 32; (with_reducible exact Calls.regrown_of (HJ.out _ _))) | (go_at_call 30; (with_reducible exact Calls.regrown_of (HK9.out _ _))))) | quiet_step ((first | (go_at_call 56; (with_reducible exact Calls.regrown_of (HA.out _ _))) | (go_at_call 32; (with_reducible exact Calls.regrown_of (HJ.out _ _))) | (go_at_call 30; (with_reducible exact Calls.regrown_of (HK9.out _ _))))))
  refine wpQuiet_nil ?_
  intro _ hw'
  obtain ⟨⟨dq, osq⟩, hw''⟩ := hw'
  subst hw''
  obtain ⟨w9, hq0, hb⟩ : ∃ wnew, wnew = grow (redrawn w8 dq) osq ∧ Below w8.heap.size w8 wnew := ⟨_, rfl, below_regrown _ _ _⟩
  rw [← hq0]
  clear hq0 kq0 kq1 kq2 kq3 kq4 kq5 kq6 kq7 kq8
  have B_w9 := Lib.hid (B_w8.out.trans (hb.mono B_w8.out.size))
  have z_w9 := hb.size
  replace O3 := Lib.hid (own_below O3.out hb)
  replace O5 := Lib.hid (own_below O5.out hb)
  replace O7 := Lib.hid (own_below O7.out hb)
  replace Xr := Lib.hid (Xr.out.below hb)
  replace Xx := Lib.hid (Xx.out.below hb)
  replace Xo := Lib.hid (Xo.out.below hb)
  replace Xq := Lib.hid (Xq.out.below hb)
  clear hb
  clear HA HJ HK9 hcc
  clear O3
  clear O5
  clear Xo
  go_wp2_with fail
  refine (HV.out _ B_w9.out).mono ?_
  rintro e w10 ⟨Av, mv, cv, rfl, ov, lv, hb⟩
  have B_w10 := Lib.hid (B_w9.out.trans (hb.mono B_w9.out.size))
  have z_w10 := hb.size
  replace O7 := Lib.hid (own_below O7.out hb)
  replace Xr := Lib.hid (Xr.out.below hb)
  replace Xx := Lib.hid (Xx.out.below hb)
  replace Xq := Lib.hid (Xq.out.below hb)
  have Ov := Lib.hid ov
  clear hb
  try simp only
  obtain ⟨w11, hw, Xv, hb, hs⟩ := one_box w10 #[.int .i64 vb, .int .i64 vs, .slice Av mv cv] 51
  replace Xv := Lib.hid Xv
  have B_w11 := Lib.hid (B_w10.out.trans (hb.mono B_w10.out.size))
  have z_w11 := hb.size
  replace O7 := Lib.hid (own_below O7.out hb)
  replace Ov := Lib.hid (own_below Ov.out hb)
  replace Xr := Lib.hid (Xr.out.below hb)
  replace Xx := Lib.hid (Xx.out.below hb)
  replace Xq := Lib.hid (Xq.out.below hb)
  have l_v := Xv.out.lt
  have e_w11 : w11.heap.size = w10.heap.size + 1 := hs
  replace e_w11 := Lib.hid e_w11
  have HW_w11 := Lib.hid hw
  clear hb hs hw
  go_wp2_with fail
  rw [← HW_w11.out]
  clear HW_w11
  refine (implCurrentEntries_any vb vs Av mv cv vl _ ⟨own_rd Ov.out, own_capE Ov.out⟩).mono ?_
  rintro e w12 ⟨AL, nL, cL, rfl, oL, lL, hb⟩
  have B_w12 := Lib.hid (B_w11.out.trans (hb.mono B_w11.out.size))
  have z_w12 := hb.size
  replace O7 := Lib.hid (own_below O7.out hb)
  replace Ov := Lib.hid (own_below Ov.out hb)
  replace Xr := Lib.hid (Xr.out.below hb)
  replace Xx := Lib.hid (Xx.out.below hb)
  replace Xq := Lib.hid (Xq.out.below hb)
  replace Xv := Lib.hid (Xv.out.below hb)
  have OL := Lib.hid oL
  clear hb
  try simp only
  go_wp2_with fail
  refine (HV.out _ B_w12.out).mono ?_
  rintro e w13 ⟨Au, mu, cu, rfl, ou, lu, hb⟩
  have B_w13 := Lib.hid (B_w12.out.trans (hb.mono B_w12.out.size))
  have z_w13 := hb.size
  replace O7 := Lib.hid (own_below O7.out hb)
  replace Ov := Lib.hid (own_below Ov.out hb)
  replace OL := Lib.hid (own_below OL.out hb)
  replace Xr := Lib.hid (Xr.out.below hb)
  replace Xx := Lib.hid (Xx.out.below hb)
  replace Xq := Lib.hid (Xq.out.below hb)
  replace Xv := Lib.hid (Xv.out.below hb)
  have Ou := Lib.hid ou
  clear hb
  try simp only
  go_wp2_with fail
  refine (specCurrentEntries_any vb vs Au mu cu vl _ ⟨own_rd Ou.out, own_capE Ou.out⟩).mono ?_
  rintro e w14 ⟨AR, nR, cR, rfl, oR, lR, hb⟩
  have B_w14 := Lib.hid (B_w13.out.trans (hb.mono B_w13.out.size))
  have z_w14 := hb.size
  replace O7 := Lib.hid (own_below O7.out hb)
  replace Ov := Lib.hid (own_below Ov.out hb)
  replace OL := Lib.hid (own_below OL.out hb)
  replace Ou := Lib.hid (own_below Ou.out hb)
  replace Xr := Lib.hid (Xr.out.below hb)
  replace Xx := Lib.hid (Xx.out.below hb)
  replace Xq := Lib.hid (Xq.out.below hb)
  replace Xv := Lib.hid (Xv.out.below hb)
  have OR := Lib.hid oR
  clear hb
  try simp only
  clear Ou
  have hcv : (curC vb vs vl != curC vb vs vl) = false := by simp
  go_wp2_with fail
  refine (w6Entries_same _ _ _ _ _ _ _ _ (own_rd OL.out) (own_rd OR.out)).mono ?_
  rintro e w15 ⟨rfl, hb⟩
  have B_w15 := Lib.hid (B_w14.out.trans (hb.mono B_w14.out.size))
  have z_w15 := hb.size
  replace O7 := Lib.hid (own_below O7.out hb)
  replace Ov := Lib.hid (own_below Ov.out hb)
  replace OL := Lib.hid (own_below OL.out hb)
  replace OR := Lib.hid (own_below OR.out hb)
  replace Xr := Lib.hid (Xr.out.below hb)
  replace Xx := Lib.hid (Xx.out.below hb)
  replace Xq := Lib.hid (Xq.out.below hb)
  replace Xv := Lib.hid (Xv.out.below hb)
  clear hb
  try simp only
  clear OL
  clear hcv
  have HLR := Lib.hid (own_len_flat entC_len (by decide) OR.out)
  have HOR := Lib.hid (fun W (hb : Below w15.heap.size w15 W) => own_below OR.out hb)
  have HXV := Lib.hid (fun W (hb : Below w15.heap.size w15 W) => Xv.out.below hb)
  have HRV := Lib.hid (fun W (hb : Below w15.heap.size w15 W) => RegRd.below (w := w15) (w' := W) (A := Av) (n := mv) (c := cv) (xs := vl) ⟨own_rd Ov.out, own_capE Ov.out⟩ hb)
  have lvv := Xv.out.lt
  clear Ov
  clear Xv
  go_wp2_with fail
  go_loopw [14] (fun i wr => ∃ k : Nat, k ≤ nR ∧ i = .int .i64 k ∧ Hid (Below w15.heap.size w15 wr)) (fun i _ => nR - (intOf i).toNat)
  case atStart => exact ⟨0, Nat.zero_le _, rfl, Lib.hid (Below.refl _ _)⟩
  case round =>
    obtain ⟨k, hk, rfl, HB9⟩ := hrel
    obtain ⟨wo, hwo⟩ : ∃ wo : World, wo = wr := ⟨_, rfl⟩
    subst hwo
    have hso := HB9.out.size
    by_cases hlt : k < nR
    · obtain ⟨gR, y0, y1, y2, y3, y4, y5, y6, rfl, hgR, hgRl, hy, _, c0, c1, c2, c3, c4, c5, c6, _⟩ := own_ent_at (HOR.out _ HB9.out) hlt
      obtain ⟨hh0, mh, hh1, hh2⟩ := curL_ok (List.mem_of_getElem? hy)
      simp only [E.race, E.boat] at hh0 hh1 hh2
      have HH := Lib.hid (fun W hb => implHistoryOf_any vb vs y0 y1 Av mv cv vl W (HRV.out W hb))
      rw [hh0] at HH
      have H1 := Lib.hid hh1; have H2 := Lib.hid hh2
      have V := HXV.out _ HB9.out
      have lV := V.lt
      have FV := V.f3
      have HYK := Lib.hid hy
      have hy9 := True.intro
      clear hy hh0 hh1 hh2
      go_wp2_with fail
      have HSR := Lib.hid (show ∀ w1, Below wo.heap.size wo w1 → (w1.cell? ⟨w10.heap.size, 0, none⟩ = some (.int .i64 vb) ∧ w1.cell? ⟨w10.heap.size, 1, none⟩ = some (.int .i64 vs) ∧ w1.cell? ⟨w10.heap.size, 2, none⟩ = some (.slice Av mv cv) ∧ w1.cell? ⟨gR, k * 7, none⟩ = some (.int .i64 y0) ∧ w1.cell? ⟨gR, k * 7 + 1, none⟩ = some (.int .i64 y1) ∧ Below wo.heap.size wo w1) from fun w1 hb => ⟨(hb.cell (p := ⟨w10.heap.size, 0, none⟩) (show w10.heap.size < wo.heap.size by omega)).trans (V.cell (i := 0) rfl), (hb.cell (p := ⟨w10.heap.size, 1, none⟩) (show w10.heap.size < wo.heap.size by omega)).trans (V.cell (i := 1) rfl), (hb.cell (p := ⟨w10.heap.size, 2, none⟩) (show w10.heap.size < wo.heap.size by omega)).trans (V.cell (i := 2) rfl), (hb.cell (p := ⟨gR, k * 7, none⟩) (show gR < wo.heap.size by omega)).trans c0, (hb.cell (p := ⟨gR, k * 7 + 1, none⟩) (show gR < wo.heap.size by omega)).trans c1, hb⟩)
      go_region_held3 (fun w1 => w1.cell? ⟨w10.heap.size, 0, none⟩ = some (.int .i64 vb) ∧ w1.cell? ⟨w10.heap.size, 1, none⟩ = some (.int .i64 vs) ∧ w1.cell? ⟨w10.heap.size, 2, none⟩ = some (.slice Av mv cv) ∧ w1.cell? ⟨gR, k * 7, none⟩ = some (.int .i64 y0) ∧ w1.cell? ⟨gR, k * 7 + 1, none⟩ = some (.int .i64 y1) ∧ Below wo.heap.size wo w1) (first | exact HSR.out _ HBq | exact HSR.out _ ((Drawn.refl _).step 1).below | exact HSR.out _ (Drawn.refl _).below | assumption) (first | (go_at_call 35; have hq := (‹_ ∧ _ ∧ _ ∧ _ ∧ _ ∧ Below wo.heap.size wo _›).2.2.2.2.2; refine (HH.out _ (HB9.out.trans (hq.mono HB9.out.size))).mono ?_; rintro e wq ⟨A9, n9, c9, rfl, o9, l9, hbq⟩; have HBq := hq.trans (hbq.mono hq.size)))
      have hn9 : n9 = mh + 1 := by have := own_len_flat entC_len (by decide) o9; rw [H1.out] at this; exact this.symm
      subst hn9
      have HB10 := Lib.hid (HB9.out.trans (HBq.mono HB9.out.size))
      obtain ⟨g9, z0, z1, z2, z3, z4, z5, z6, rfl, hg9, hg9l, hz, _, d0, d1, d2, d3, d4, d5, d6, _⟩ := own_ent_at o9 (k := mh) (by omega)
      rw [H2.out] at hz
      injection hz with hz
      simp only [Prod.mk.injEq] at hz
      obtain ⟨rfl, rfl, rfl, rfl, rfl, rfl, rfl⟩ := hz
      clear c0 c1 c2 c3 c4 c5 c6 FV V o9
      obtain ⟨gR', u0, u1, u2, u3, u4, u5, u6, hgR', _, _, hu, _, c0, c1, c2, c3, c4, c5, c6, _⟩ := own_ent_at (HOR.out _ HB10.out) hlt
      clear hy9
      obtain rfl : gR = gR' := by injection hgR' with e; injection e
      obtain ⟨rfl, rfl, rfl, rfl, rfl, rfl, rfl⟩ : y0 = u0 ∧ y1 = u1 ∧ y2 = u2 ∧ y3 = u3 ∧ y4 = u4 ∧ y5 = u5 ∧ y6 = u6 := by
        have h1 := HYK.out
        rw [hu] at h1
        injection h1 with h1
        simp only [Prod.mk.injEq] at h1
        omega
      clear hu hgR'
      have hmi : ((mh : Int) + 1 == 0) = false := by simp; omega
      go_wp2_with fail
      have kq0 := cell_regrown (d0)
      have kq1 := cell_regrown (d1)
      have kq2 := cell_regrown (d2)
      have kq3 := cell_regrown (d3)
      have kq4 := cell_regrown (d4)
      have kq5 := cell_regrown (d5)
      have kq6 := cell_regrown (d6)
      have kq7 := cell_regrown (c0)
      have kq8 := cell_regrown (c1)
      have kq9 := cell_regrown (c2)
      have kq10 := cell_regrown (c3)
      have kq11 := cell_regrown (c4)
      have kq12 := cell_regrown (c5)
      have kq13 := cell_regrown (c6)
      refine wp_region_quiet_below (by kernel_rfl) (by kernel_rfl) ?_
      repeat (first | go_big_quiet_step ((fail)) | quiet_step ((fail)))
      refine wpQuiet_nil ?_
      intro _ hw'
      obtain ⟨⟨dq, osq⟩, hw''⟩ := hw'
      subst hw''
      obtain ⟨w18, hq0, hb18⟩ : ∃ wnew, wnew = grow (redrawn wq dq) osq ∧ Below wq.heap.size wq wnew := ⟨_, rfl, below_regrown _ _ _⟩
      rw [← hq0]
      clear hq0 kq0 kq1 kq2 kq3 kq4 kq5 kq6 kq7 kq8 kq9 kq10 kq11 kq12 kq13
      have HB11 := Lib.hid (HB10.out.trans (hb18.mono HB10.out.size))
      go_wp2_with fail
      go_roundw
      case rel => exact ⟨k + 1, by omega, by go_num, HB11⟩
      case measure => simp [intOf] <;> omega
    · obtain rfl : k = nR := by omega
      clear HOR HXV HRV
      have BBo := Lib.hid (B_w15.out.trans (HB9.out.mono B_w15.out.size))
      have XQ := Lib.hid (Xq.out.below HB9.out); have XX := Lib.hid (Xx.out.below HB9.out)
      have OQ := Lib.hid (own_below O7.out HB9.out)
      clear Xq Xx O7 Xr
      by_cases hC0 : C = 0
      rotate_left
      · have hCb : (C != 0) = true := by simp [hC0]
        clear hC0
        go_wp2_with fail
        go_ret
        exact ⟨rfl, BBo.out⟩
      subst hC0
      have hA := HC.out.symm
      obtain ⟨ha1, ha2, ha3⟩ := add_vals hA
      have HN := Lib.hid (add_once hA)
      rw [ha1, ha2] at XQ
      rw [ha3] at OQ
      have HHH := Lib.hid (fun W hb => implHistoryOf_any rb rs x0 x1 A7 m7 c7 (rl ++ [(x0, x1, x2, x3, x4, x5, x6)]) W hb)
      rw [show histC rb rs (rl ++ [(x0, x1, x2, x3, x4, x5, x6)]) x0 x1 = 0 from add_hist hA] at HHH
      simp only [E.race, E.boat] at HN
      generalize histL rb rs (rl ++ [(x0, x1, x2, x3, x4, x5, x6)]) x0 x1 = H at *
      have FQ := XQ.out.f3
      have FXX := XX.out.f7
      clear ha1 ha2 ha3 hA HI HS
      go_wp2_with fail
      refine (HHH.out _ ⟨own_rd OQ.out, own_capE OQ.out⟩).mono ?_
      rintro e w20 ⟨A20, n20, c20, rfl, o20, l20, hb⟩
      have B20 := Lib.hid (BBo.out.trans (hb.mono BBo.out.size))
      have O20 := Lib.hid o20
      have X20 := Lib.hid (XX.out.below hb)
      have HL20 := Lib.hid (own_len_flat entC_len (by decide) o20)
      clear hb o20 FQ FXX
      try simp only
      go_wp2_with fail
      go_loopw [19, 20] (fun f i wr => ∃ k : Nat, k ≤ n20 ∧ i = .int .i64 k ∧ f = .int .i64 (cntE (x0, x1, x2, x3, x4, x5, x6) (H.take k) : Nat) ∧ Hid (Below w20.heap.size w20 wr)) (fun _ i _ => n20 - (intOf i).toNat)
      case atStart => exact ⟨0, Nat.zero_le _, rfl, rfl, Lib.hid (Below.refl _ _)⟩
      case round =>
        obtain ⟨k, hk, rfl, rfl, HB9⟩ := hrel
        obtain ⟨wo, hwo⟩ : ∃ wo : World, wo = wr := ⟨_, rfl⟩
        subst hwo
        have hso := HB9.out.size
        by_cases hlt : k < n20
        · obtain ⟨g2, z0, z1, z2, z3, z4, z5, z6, rfl, hg2, hg2l, hz, _, hz0, hz1, hz2, hz3, hz4, hz5, hz6, _⟩ := own_ent_at (own_below O20.out HB9.out) hlt
          have HT := Lib.hid (show cntE (x0, x1, x2, x3, x4, x5, x6) (H.take (k + 1)) = cntE (x0, x1, x2, x3, x4, x5, x6) (H.take k) + (if (z0, z1, z2, z3, z4, z5, z6) = (x0, x1, x2, x3, x4, x5, x6) then 1 else 0) from by rw [take_snoc hz]; exact cntE_snoc _ _ _)
          have hcl := cntE_le (x0, x1, x2, x3, x4, x5, x6) (H.take k)
          have hcl2 : (H.take k).length ≤ k := List.length_take_le _ _
          generalize cntE (x0, x1, x2, x3, x4, x5, x6) (H.take k) = cn at *
          have F3 := (X20.out.below HB9.out).f7
          clear hz hg2
          by_cases e0 : z0 = x0
          rotate_left
          · have HD := Lib.hid (show cntE (x0, x1, x2, x3, x4, x5, x6) (H.take (k + 1)) = cn from by rw [HT.out, if_neg (fun h => e0 (by simp only [Prod.mk.injEq] at h; omega))]; rfl)
            go_wp2_with fail
            go_region
            have HB10 := Lib.hid (HB9.out.trans ((below_drewN' wo.heap.size wo 1).mono HB9.out.size))
            go_wp2_with fail
            go_roundw
            case rel => exact ⟨k + 1, by omega, by go_num, by rw [HD.out], HB10⟩
            case measure => simp [intOf] <;> omega
          subst e0
          by_cases e1 : z1 = x1
          rotate_left
          · have HD := Lib.hid (show cntE (z0, x1, x2, x3, x4, x5, x6) (H.take (k + 1)) = cn from by rw [HT.out, if_neg (fun h => e1 (by simp only [Prod.mk.injEq] at h; omega))]; rfl)
            go_wp2_with fail
            go_region
            have HB10 := Lib.hid (HB9.out.trans ((below_drewN' wo.heap.size wo 1).mono HB9.out.size))
            go_wp2_with fail
            go_roundw
            case rel => exact ⟨k + 1, by omega, by go_num, by rw [HD.out], HB10⟩
            case measure => simp [intOf] <;> omega
          subst e1
          by_cases e2 : z2 = x2
          rotate_left
          · have HD := Lib.hid (show cntE (z0, z1, x2, x3, x4, x5, x6) (H.take (k + 1)) = cn from by rw [HT.out, if_neg (fun h => e2 (by simp only [Prod.mk.injEq] at h; omega))]; rfl)
            go_wp2_with fail
            go_region
            have HB10 := Lib.hid (HB9.out.trans ((below_drewN' wo.heap.size wo 1).mono HB9.out.size))
            go_wp2_with fail
            go_roundw
            case rel => exact ⟨k + 1, by omega, by go_num, by rw [HD.out], HB10⟩
            case measure => simp [intOf] <;> omega
          subst e2
          by_cases e3 : z3 = x3
          rotate_left
          · have HD := Lib.hid (show cntE (z0, z1, z2, x3, x4, x5, x6) (H.take (k + 1)) = cn from by rw [HT.out, if_neg (fun h => e3 (by simp only [Prod.mk.injEq] at h; omega))]; rfl)
            go_wp2_with fail
            go_region
            have HB10 := Lib.hid (HB9.out.trans ((below_drewN' wo.heap.size wo 1).mono HB9.out.size))
            go_wp2_with fail
            go_roundw
            case rel => exact ⟨k + 1, by omega, by go_num, by rw [HD.out], HB10⟩
            case measure => simp [intOf] <;> omega
          subst e3
          by_cases e4 : z4 = x4
          rotate_left
          · have HD := Lib.hid (show cntE (z0, z1, z2, z3, x4, x5, x6) (H.take (k + 1)) = cn from by rw [HT.out, if_neg (fun h => e4 (by simp only [Prod.mk.injEq] at h; omega))]; rfl)
            go_wp2_with fail
            go_region
            have HB10 := Lib.hid (HB9.out.trans ((below_drewN' wo.heap.size wo 1).mono HB9.out.size))
            go_wp2_with fail
            go_roundw
            case rel => exact ⟨k + 1, by omega, by go_num, by rw [HD.out], HB10⟩
            case measure => simp [intOf] <;> omega
          subst e4
          by_cases e5 : z5 = x5
          rotate_left
          · have HD := Lib.hid (show cntE (z0, z1, z2, z3, z4, x5, x6) (H.take (k + 1)) = cn from by rw [HT.out, if_neg (fun h => e5 (by simp only [Prod.mk.injEq] at h; omega))]; rfl)
            go_wp2_with fail
            go_region
            have HB10 := Lib.hid (HB9.out.trans ((below_drewN' wo.heap.size wo 1).mono HB9.out.size))
            go_wp2_with fail
            go_roundw
            case rel => exact ⟨k + 1, by omega, by go_num, by rw [HD.out], HB10⟩
            case measure => simp [intOf] <;> omega
          subst e5
          by_cases e6 : z6 = x6
          rotate_left
          · have HD := Lib.hid (show cntE (z0, z1, z2, z3, z4, z5, x6) (H.take (k + 1)) = cn from by rw [HT.out, if_neg (fun h => e6 (by simp only [Prod.mk.injEq] at h; omega))]; rfl)
            go_wp2_with fail
            go_region
            have HB10 := Lib.hid (HB9.out.trans ((below_drewN' wo.heap.size wo 1).mono HB9.out.size))
            go_wp2_with fail
            go_roundw
            case rel => exact ⟨k + 1, by omega, by go_num, by rw [HD.out], HB10⟩
            case measure => simp [intOf] <;> omega
          subst e6
          have HD := Lib.hid (show cntE (z0, z1, z2, z3, z4, z5, z6) (H.take (k + 1)) = cn + 1 from by rw [HT.out, if_pos rfl])
          go_wp2_with fail
          go_region
          have HB10 := Lib.hid (HB9.out.trans ((below_drewN' wo.heap.size wo 1).mono HB9.out.size))
          go_wp2_with fail
          go_roundw
          case rel => exact ⟨k + 1, by omega, by go_num, by rw [HD.out]; go_num, HB10⟩
          case measure => simp [intOf] <;> omega
        · obtain rfl : k = n20 := by omega
          have ht : H.take k = H := List.take_of_length_le (by rw [HL20.out]; exact Nat.le_refl _)
          rw [ht, HN.out]
          go_wp2_with fail
          go_ret
          exact ⟨rfl, B20.out.trans (HB9.out.mono B20.out.size)⟩
end Go.Proofs.Ytdldcjnidajmpaa

/- The walk of FnCorrections. -/
import Derived.Test.YtdldcjnidajmpaaRu2
import Derived.Test.YtdldcjnidajmpaaRc2
import Derived.Test.YtdldcjnidajmpaaJk
import Derived.Test.YtdldcjnidajmpaaZme
import Derived.Test.YtdldcjnidajmpaaZmb
import Derived.IntWalk
import Derived.Lib.QuietBelow
import Derived.Deep.RegionHeld3
namespace Go.Proofs.Ytdldcjnidajmpaa
open Go.RowKit Go.Sort
set_option linter.unusedVariables false
set_option maxRecDepth 100000

set_option maxHeartbeats 8000000 in
theorem fnCorrections_walk (a0 : Option Addr) (len0 cap0 : Nat) (z0 : List Int) (w : World) (v0 : IsRow .u8 w a0 len0 cap0 z0) :
    Calls Try.prog 13 #[.slice a0 len0 cap0] w fun e w' => e = .returned (.bool true) ∧ Below w.heap.size w w' := by
  have hle := v0.lenle
  by_cases hbig : 4096 < len0
  · have hd : decide (4096 < len0) = true := by simpa using hbig
    have HB := Lib.hid (big_any a0 len0 cap0 hle w)
    rw [hd] at HB
    clear hd v0
    go_enter Try.func13, Try.ntmps13
    go_wp2_with fail
    refine HB.out.mono ?_
    rintro e w' ⟨rfl, rfl⟩
    go_wp2_with fail
    go_ret
    exact ⟨rfl, Below.refl _ _⟩
  have hd : decide (4096 < len0) = false := by simpa using hbig
  have HB := Lib.hid (big_any a0 len0 cap0 hle w)
  rw [hd] at HB
  clear hd
  have hcode := code0_of v0 (by omega)
  generalize z0.take len0 = code at hcode
  clear v0
  have HD := Lib.hid (fun W hb => drawCor_any w a0 len0 cap0 code hcode (by omega) W hb)
  clear hcode
  generalize corD code = D at *
  obtain ⟨⟨rb, rs, rl⟩, ⟨x0, x1, x2, x3, x4, x5, x6⟩⟩ := D
  obtain ⟨C, hC⟩ : ∃ C, C = corC rb rs rl (x0, x1, x2, x3, x4, x5, x6) := ⟨_, rfl⟩
  have HI := Lib.hid (fun A n c W h => implCorrectEntry_any rb rs A n c rl x0 x1 x2 x3 x4 x5 x6 W h)
  have HS := Lib.hid (fun A n c W h => specCorrectEntry_any rb rs A n c rl x0 x1 x2 x3 x4 x5 x6 W h)
  rw [← hC] at HI HS
  have HC := Lib.hid hC
  clear hC
  go_enter Try.func13, Try.ntmps13
  go_wp2_with fail
  refine HB.out.mono ?_
  rintro e w' ⟨rfl, rfl⟩
  go_wp2_with fail
  refine (HD.out _ (Below.refl _ _)).mono ?_
  rintro e w1 ⟨A1, m1, c1, rfl, o1, l1, hb⟩
  have B_w1 := Lib.hid (hb)
  have z_w1 := hb.size
  have O1 := Lib.hid o1
  clear hb
  try simp only
  simp only [E.race, E.boat, E.rev, E.code, E.time, E.kind, E.points]
  obtain ⟨w2, hw, Xr, Xx, hb, hs⟩ := two_boxes w1 #[.int .i64 rb, .int .i64 rs, .slice A1 m1 c1] #[.int .i64 x0, .int .i64 x1, .int .i64 x2, .int .i64 x3, .int .i64 x4, .int .i64 x5, .int .i64 x6] 51 66
  replace Xr := Lib.hid Xr
  replace Xx := Lib.hid Xx
  have B_w2 := Lib.hid (B_w1.out.trans (hb.mono B_w1.out.size))
  have z_w2 := hb.size
  replace O1 := Lib.hid (own_below O1.out hb)
  have l_r := Xr.out.lt
  have l_x := Xx.out.lt
  have e_w2 : w2.heap.size = w1.heap.size + 1 + 1 := hs
  replace e_w2 := Lib.hid e_w2
  have HW_w2 := Lib.hid hw
  clear hb hs hw
  go_wp2_with fail
  rw [← HW_w2.out]
  clear HW_w2
  refine (HI.out _ _ _ _ ⟨own_rd O1.out, own_capE O1.out⟩).mono ?_
  rintro e w3 ⟨A3, m3, c3, rfl, o3, l3, hb⟩
  have B_w3 := Lib.hid (B_w2.out.trans (hb.mono B_w2.out.size))
  have z_w3 := hb.size
  replace O1 := Lib.hid (own_below O1.out hb)
  replace Xr := Lib.hid (Xr.out.below hb)
  replace Xx := Lib.hid (Xx.out.below hb)
  have O3 := Lib.hid o3
  clear hb
  try simp only
  clear O1
  obtain ⟨w4, hw, Xo, hb, hs⟩ := one_box w3 #[.int .i64 (corB rb rs rl (x0, x1, x2, x3, x4, x5, x6)), .int .i64 (corS rb rs rl (x0, x1, x2, x3, x4, x5, x6)), .slice A3 m3 c3] 51
  replace Xo := Lib.hid Xo
  have B_w4 := Lib.hid (B_w3.out.trans (hb.mono B_w3.out.size))
  have z_w4 := hb.size
  replace O3 := Lib.hid (own_below O3.out hb)
  replace Xr := Lib.hid (Xr.out.below hb)
  replace Xx := Lib.hid (Xx.out.below hb)
  have l_o := Xo.out.lt
  have e_w4 : w4.heap.size = w3.heap.size + 1 := hs
  replace e_w4 := Lib.hid e_w4
  have HW_w4 := Lib.hid hw
  clear hb hs hw
  go_wp2_with fail
  rw [← HW_w4.out]
  clear HW_w4
  refine (HD.out _ B_w4.out).mono ?_
  rintro e w5 ⟨A5, m5, c5, rfl, o5, l5, hb⟩
  have B_w5 := Lib.hid (B_w4.out.trans (hb.mono B_w4.out.size))
  have z_w5 := hb.size
  replace O3 := Lib.hid (own_below O3.out hb)
  replace Xr := Lib.hid (Xr.out.below hb)
  replace Xx := Lib.hid (Xx.out.below hb)
  replace Xo := Lib.hid (Xo.out.below hb)
  have O5 := Lib.hid o5
  clear hb
  try simp only
  simp only [E.race, E.boat, E.rev, E.code, E.time, E.kind, E.points]
  have ee := e_w2.out
  have e4 := B_w1.out.size
  obtain ⟨w6, hw⟩ : ∃ wz : World, wz = ((((((((((w5.setCell ⟨w1.heap.size, 0, none⟩ (.int .i64 rb)).setCell ⟨w1.heap.size, 1, none⟩ (.int .i64 rs)).setCell ⟨w1.heap.size, 2, none⟩ (.slice A5 m5 c5)).setCell ⟨w1.heap.size + 1, 0, none⟩ (.int .i64 x0)).setCell ⟨w1.heap.size + 1, 1, none⟩ (.int .i64 x1)).setCell ⟨w1.heap.size + 1, 2, none⟩ (.int .i64 x2)).setCell ⟨w1.heap.size + 1, 3, none⟩ (.int .i64 x3)).setCell ⟨w1.heap.size + 1, 4, none⟩ (.int .i64 x4)).setCell ⟨w1.heap.size + 1, 5, none⟩ (.int .i64 x5)).setCell ⟨w1.heap.size + 1, 6, none⟩ (.int .i64 x6)) := ⟨_, rfl⟩
  have hc : Chg (w1.heap.size) (w1.heap.size + 1 + 1) w5 w6 := by rw [hw]; (repeat refine chg_set ?_ (by omega) (by omega) _); exact Chg.refl _ _ _
  have B_w6 := Lib.hid (below_chg B_w5.out hc (by omega) B_w5.out.size)
  have z_w6 := hc.size
  replace O3 := Lib.hid (own_chg O3.out hc (fun b hb => by have := (O3.out.lt b hb).1; omega))
  replace O5 := Lib.hid (own_chg O5.out hc (fun b hb => by have := (O5.out.lt b hb).1; omega))
  replace Xo := Lib.hid (Xo.out.chg hc (by omega))
  have Yr : Box w6 (w1.heap.size) #[.int .i64 rb, .int .i64 rs, .slice A5 m5 c5] 51 := by rw [hw]; have := ((((((((((Xr.out.set 0 (.int .i64 rb)).set 1 (.int .i64 rs)).set 2 (.slice A5 m5 c5)).other (c := w1.heap.size + 1) (i := 0) (by omega) (.int .i64 x0)).other (c := w1.heap.size + 1) (i := 1) (by omega) (.int .i64 x1)).other (c := w1.heap.size + 1) (i := 2) (by omega) (.int .i64 x2)).other (c := w1.heap.size + 1) (i := 3) (by omega) (.int .i64 x3)).other (c := w1.heap.size + 1) (i := 4) (by omega) (.int .i64 x4)).other (c := w1.heap.size + 1) (i := 5) (by omega) (.int .i64 x5)).other (c := w1.heap.size + 1) (i := 6) (by omega) (.int .i64 x6)); simpa using this
  have Yx : Box w6 (w1.heap.size + 1) #[.int .i64 x0, .int .i64 x1, .int .i64 x2, .int .i64 x3, .int .i64 x4, .int .i64 x5, .int .i64 x6] 66 := by rw [hw]; have := ((((((((((Xx.out.other (c := w1.heap.size) (i := 0) (by omega) (.int .i64 rb)).other (c := w1.heap.size) (i := 1) (by omega) (.int .i64 rs)).other (c := w1.heap.size) (i := 2) (by omega) (.slice A5 m5 c5)).set 0 (.int .i64 x0)).set 1 (.int .i64 x1)).set 2 (.int .i64 x2)).set 3 (.int .i64 x3)).set 4 (.int .i64 x4)).set 5 (.int .i64 x5)).set 6 (.int .i64 x6)); simpa using this
  have Gr := Xr.out.f3
  have Gx := Xx.out.f7
  have Gxz := Xx.out.z7
  replace Xr := Lib.hid Yr
  clear Yr
  replace Xx := Lib.hid Yx
  clear Yx
  have HW_w6 := Lib.hid hw
  clear hw hc
  go_wp2_with fail
  rw [← HW_w6.out]
  clear HW_w6 Gr Gx Gxz
  clear ee e4
  refine (HS.out _ _ _ _ ⟨own_rd O5.out, own_capE O5.out⟩).mono ?_
  rintro e w7 ⟨A7, m7, c7, rfl, o7, l7, hb⟩
  have B_w7 := Lib.hid (B_w6.out.trans (hb.mono B_w6.out.size))
  have z_w7 := hb.size
  replace O3 := Lib.hid (own_below O3.out hb)
  replace O5 := Lib.hid (own_below O5.out hb)
  replace Xr := Lib.hid (Xr.out.below hb)
  replace Xx := Lib.hid (Xx.out.below hb)
  replace Xo := Lib.hid (Xo.out.below hb)
  have O7 := Lib.hid o7
  clear hb
  try simp only
  obtain ⟨w8, hw, Xq, hb, hs⟩ := one_box w7 #[.int .i64 (corB rb rs rl (x0, x1, x2, x3, x4, x5, x6)), .int .i64 (corS rb rs rl (x0, x1, x2, x3, x4, x5, x6)), .slice A7 m7 c7] 51
  replace Xq := Lib.hid Xq
  have B_w8 := Lib.hid (B_w7.out.trans (hb.mono B_w7.out.size))
  have z_w8 := hb.size
  replace O3 := Lib.hid (own_below O3.out hb)
  replace O5 := Lib.hid (own_below O5.out hb)
  replace O7 := Lib.hid (own_below O7.out hb)
  replace Xr := Lib.hid (Xr.out.below hb)
  replace Xx := Lib.hid (Xx.out.below hb)
  replace Xo := Lib.hid (Xo.out.below hb)
  have l_q := Xq.out.lt
  have e_w8 : w8.heap.size = w7.heap.size + 1 := hs
  replace e_w8 := Lib.hid e_w8
  have HW_w8 := Lib.hid hw
  clear hb hs hw
  have hcc : (C != C) = false := by simp
  have Fo := Xo.out.f3
  have Fq := Xq.out.f3
  rw [HW_w8.out] at Fo Fq
  go_wp2_with fail
  rw [← HW_w8.out]
  clear HW_w8
  clear Fo Fq
  refine (w6Registers_same _ _ _ _ _ _ _ _ _ _ (own_rd O3.out) (own_rd O7.out)).mono ?_
  rintro e w9 ⟨rfl, hb⟩
  have B_w9 := Lib.hid (B_w8.out.trans (hb.mono B_w8.out.size))
  have z_w9 := hb.size
  replace O3 := Lib.hid (own_below O3.out hb)
  replace O5 := Lib.hid (own_below O5.out hb)
  replace O7 := Lib.hid (own_below O7.out hb)
  replace Xr := Lib.hid (Xr.out.below hb)
  replace Xx := Lib.hid (Xx.out.below hb)
  replace Xo := Lib.hid (Xo.out.below hb)
  replace Xq := Lib.hid (Xq.out.below hb)
  clear hb
  try simp only
  clear hcc
  clear O3
  clear Xo
  by_cases hC0 : C = 0
  rotate_left
  · have hCb : (C != 0) = true := by simp [hC0]
    clear hC0
    go_wp2_with fail
    go_ret
    exact ⟨rfl, B_w9.out⟩
  subst hC0
  have hA := HC.out.symm
  obtain ⟨ha1, ha2, ha3⟩ := cor_vals hA
  obtain ⟨hg0, hx2, hadd⟩ := cor_ok hA
  have hx2' : x2 = 0 := hx2
  have HG := Lib.hid (cor_reg hA)
  have HAF := Lib.hid (cor_after hA)
  have HH1 := Lib.hid (fun A n c W hb => implHistoryOf_any rb rs x0 x1 A n c rl W hb)
  have HH2 := Lib.hid (fun A n c W hb => implHistoryOf_any rb rs x0 x1 A n c (rl ++ [bump rl (x0, x1, x2, x3, x4, x5, x6)]) W hb)
  rw [show histC rb rs rl x0 x1 = 0 from cor_hist0 hA] at HH1
  rw [show histC rb rs (rl ++ [bump rl (x0, x1, x2, x3, x4, x5, x6)]) x0 x1 = 0 from cor_hist1 hA] at HH2
  rw [ha1, ha2] at Xq
  rw [ha3] at O7
  simp only [E.race, E.boat] at HAF
  have HJ := Lib.hid (fun A n c W hb => implIsRegister_any rb rs A n c (rl ++ [bump rl (x0, x1, x2, x3, x4, x5, x6)]) W hb)
  rw [HG.out] at HJ
  rw [HAF.out] at HH2
  have hm0 := maxR_nn rl x0 x1
  have hm1 := maxR_le (fun x hx => (add_ok hadd).1.okE x hx) x0 x1
  obtain ⟨M, hM⟩ : ∃ M, M = maxR rl x0 x1 + 1 := ⟨_, rfl⟩
  have HBU := Lib.hid (show bump rl (x0, x1, x2, x3, x4, x5, x6) = (x0, x1, M, x3, x4, x5, x6) from by rw [hM]; rfl)
  generalize histL rb rs rl x0 x1 = H at *
  subst hx2'
  clear ha1 ha2 ha3 hA HI HS HC hg0 hx2 hadd HG HAF hM hm0 hm1
  have Fr := Xr.out.f3
  have Fx := Xx.out.f7
  go_wp2_with fail
  clear Fr Fx
  refine (HH1.out _ _ _ _ ⟨own_rd O5.out, own_capE O5.out⟩).mono ?_
  rintro e w10 ⟨A8, n8, c8, rfl, o8, l8, hb⟩
  have B_w10 := Lib.hid (B_w9.out.trans (hb.mono B_w9.out.size))
  have z_w10 := hb.size
  replace O5 := Lib.hid (own_below O5.out hb)
  replace O7 := Lib.hid (own_below O7.out hb)
  replace Xr := Lib.hid (Xr.out.below hb)
  replace Xx := Lib.hid (Xx.out.below hb)
  replace Xq := Lib.hid (Xq.out.below hb)
  have O8 := Lib.hid o8
  clear hb
  try simp only
  clear O5
  clear Xr
  have Fq := Xq.out.f3
  have Fx := Xx.out.f7
  go_wp2_with fail
  clear Fq Fx
  refine (HH2.out _ _ _ _ ⟨own_rd O7.out, own_capE O7.out⟩).mono ?_
  rintro e w11 ⟨A9, n9, c9, rfl, o9, l9, hb⟩
  have B_w11 := Lib.hid (B_w10.out.trans (hb.mono B_w10.out.size))
  have z_w11 := hb.size
  replace O7 := Lib.hid (own_below O7.out hb)
  replace O8 := Lib.hid (own_below O8.out hb)
  replace Xx := Lib.hid (Xx.out.below hb)
  replace Xq := Lib.hid (Xq.out.below hb)
  have O9 := Lib.hid o9
  clear hb
  try simp only
  have hl8 := own_len_flat entC_len (by decide) O8.out
  have hl9 := own_len_flat entC_len (by decide) O9.out
  rw [List.length_append] at hl9
  obtain rfl : n9 = n8 + 1 := by rw [hl8] at hl9; simpa using hl9.symm
  have HL8 := Lib.hid hl8
  clear hl8 hl9
  have hnn : (((n8 : Nat) : Int) + 1 != (n8 : Int) + 1) = false := by simp
  go_wp2_with fail
  go_loopw [13] (fun i wr => ∃ k : Nat, k ≤ n8 ∧ i = .int .i64 k ∧ Hid (Below w11.heap.size w11 wr)) (fun i _ => n8 - (intOf i).toNat)
  case atStart => exact ⟨0, Nat.zero_le _, rfl, Lib.hid (Below.refl _ _)⟩
  case round =>
    obtain ⟨k, hk, rfl, HB9⟩ := hrel
    obtain ⟨wo, hwo⟩ : ∃ wo : World, wo = wr := ⟨_, rfl⟩
    subst hwo
    have hso := HB9.out.size
    by_cases hlt : k < n8
    · obtain ⟨g8, y0, y1, y2, y3, y4, y5, y6, rfl, _, _, hy, _, c0, c1, c2, c3, c4, c5, c6, _⟩ := own_ent_at (own_below O8.out HB9.out) hlt
      obtain ⟨g9, z0, z1, z2, z3, z4, z5, z6, rfl, _, _, hz, _, d0, d1, d2, d3, d4, d5, d6, _⟩ := own_ent_at (own_below O9.out HB9.out) (k := k) (by omega)
      rw [List.getElem?_append_left (by rw [HL8.out]; exact hlt), hy] at hz
      injection hz with hz
      simp only [Prod.mk.injEq] at hz
      obtain ⟨rfl, rfl, rfl, rfl, rfl, rfl, rfl⟩ := hz
      clear hy
      go_wp2_with fail
      go_region
      have HB11 := Lib.hid (HB9.out.trans ((below_drewN' wo.heap.size wo 1).mono HB9.out.size))
      go_wp2_with fail
      go_roundw
      case rel => exact ⟨k + 1, by omega, by go_num, HB11⟩
      case measure => simp [intOf] <;> omega
    · obtain rfl : k = n8 := by omega
      have BBo := Lib.hid (B_w11.out.trans (HB9.out.mono B_w11.out.size))
      obtain ⟨g9, z0, z1, z2, z3, z4, z5, z6, rfl, _, _, hz, _, d0, d1, d2, d3, d4, d5, d6, _⟩ := own_ent_at (own_below O9.out HB9.out) (k := k) (by omega)
      rw [List.getElem?_append_right (by rw [HL8.out]; omega), HL8.out, Nat.sub_self] at hz
      rw [HBU.out] at hz
      have hz := Option.some.inj (show some (x0, x1, M, x3, x4, x5, x6) = some (z0, z1, z2, z3, z4, z5, z6) from hz)
      simp only [Prod.mk.injEq] at hz
      obtain ⟨rfl, rfl, rfl, rfl, rfl, rfl, rfl⟩ := hz
      have FX := (Xx.out.below HB9.out).f7
      have FQ := (Xq.out.below HB9.out).f3
      have OQ := Lib.hid (own_below O7.out HB9.out)
      obtain ⟨wn, hwn, XN, hbn, hsn⟩ := one_box wo #[.int .i64 x0, .int .i64 x1, .int .i64 M, .int .i64 x3, .int .i64 x4, .int .i64 x5, .int .i64 x6] 66
      have lx := FX.2.2.2.2.2.2.2
      have lq := FQ.2.2.2.2.2.2
      have hne1 : (w1.heap.size + 1 = wo.heap.size) = False := by simp; omega
      have hne2 : (wo.heap.size = w1.heap.size + 1) = False := by simp; omega
      have hne3 : (w7.heap.size = wo.heap.size) = False := by simp; omega
      have hne4 : (wo.heap.size = w7.heap.size) = False := by simp; omega
      have HLN := Lib.hid (show Below wo.heap.size wo (wo.alloc (.cells #[.int .i64 x0, .int .i64 x1, .int .i64 0, .int .i64 x3, .int .i64 x4, .int .i64 x5, .int .i64 x6] 66)) from (Below.refl _ _).alloc (Nat.le_refl _) _)
      have HBn := Lib.hid (BBo.out.trans (HLN.out.mono BBo.out.size))
      clear hwn XN hbn hsn
      go_wp2_with fail
      refine (HJ.out A7 m7 c7 _ (RegRd.below ⟨own_rd OQ.out, own_capE OQ.out⟩ HLN.out)).mono ?_
      rintro e w30 ⟨rfl, hb⟩
      have BE := Lib.hid (HBn.out.trans (hb.mono HBn.out.size))
      clear hb
      go_wp2_with fail
      go_ret
      exact ⟨rfl, BE.out⟩
end Go.Proofs.Ytdldcjnidajmpaa

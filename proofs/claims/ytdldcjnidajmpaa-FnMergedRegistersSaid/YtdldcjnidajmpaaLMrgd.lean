/- The walk of FnMergedRegisters. -/
import Derived.Test.YtdldcjnidajmpaaRu
import Derived.Test.YtdldcjnidajmpaaRgv
import Derived.Test.YtdldcjnidajmpaaMw
import Derived.Test.YtdldcjnidajmpaaJs
import Derived.Test.YtdldcjnidajmpaaJn
import Derived.Test.YtdldcjnidajmpaaZmb
namespace Go.Proofs.Ytdldcjnidajmpaa
open Go.RowKit Go.Sort
set_option linter.unusedVariables false
set_option maxRecDepth 100000

theorem implMerge_good {a s : Int} {xs : List EntryT} {b t : Int} {ys zs : List EntryT} (h : mrgC a s xs b t ys = 0) (hz : xs ++ newE xs ys = zs) (A : Option Addr) (n c : Nat) (B : Option Addr) (m d : Nat) (w : World) (hr : RegRd w A n c xs) (hq : RegRd w B m d ys) :
    Calls Try.prog 47 #[.agg #[.int .i64 a, .int .i64 s, .slice A n c], .agg #[.int .i64 b, .int .i64 t, .slice B m d]] w (RetReg2 w a s zs 0) := by
  rw [← hz, ← mrg_post0 w h]
  exact implMerge_any a s A n c xs b t B m d ys w hr hq
theorem implRegSeries_good {b s : Int} {xs : List EntryT} {rows : List (List FinishT)} (h : RegOk b s xs) (hz : serF b xs = rows) (A : Option Addr) (n c : Nat) (w : World) (hr : RegRd w A n c xs) :
    Calls Try.prog 51 #[.agg #[.int .i64 b, .int .i64 s, .slice A n c]] w (RetSer w b s rows 0) := by
  obtain ⟨h0, h1, h2, h3⟩ := ser_good h
  have := implRegSeries_any b s A n c xs w hr
  rw [h0, h1, h2, h3, hz] at this
  exact this
set_option maxHeartbeats 8000000 in
theorem fnMergedRegisters_walk (a0 : Option Addr) (len0 cap0 : Nat) (z0 : List Int) (w : World) (v0 : IsRow .u8 w a0 len0 cap0 z0) :
    Calls Try.prog 14 #[.slice a0 len0 cap0] w fun e w' => e = .returned (.bool true) ∧ Below w.heap.size w w' := by
  have hle := v0.lenle
  by_cases hbig : 4096 < len0
  · have hd : decide (4096 < len0) = true := by simpa using hbig
    have HB := Lib.hid (big_any a0 len0 cap0 hle w)
    rw [hd] at HB
    clear hd v0
    go_enter Try.func14, Try.ntmps14
    go_wp2_with fail
    refine HB.out.mono ?_
    rintro e w' ⟨rfl, rfl⟩
    go_wp2_with fail
    go_ret
    exact ⟨rfl, Below.refl _ _⟩
  have hd : decide (4096 < len0) = false := by simpa using hbig
  have HB := Lib.hid (big_any a0 len0 cap0 hle w)
  rw [hd] at HB
  clear hd
  have hcode := code0_of v0 (by omega)
  generalize z0.take len0 = code at hcode
  clear v0
  have HD := Lib.hid (fun W hb => drawMerge_any w a0 len0 cap0 code hcode W hb)
  clear hcode
  generalize mgD code = D at *
  obtain ⟨⟨rb, rs, rl⟩, qb, qs, ql⟩ := D
  obtain ⟨C, hC⟩ : ∃ C, C = mrgC rb rs rl qb qs ql := ⟨_, rfl⟩
  have HI := Lib.hid (fun A n c B m d W h h' => implMerge_any rb rs A n c rl qb qs B m d ql W h h')
  have HS := Lib.hid (fun A n c B m d W h h' => specMerge_any rb rs A n c rl qb qs B m d ql W h h')
  rw [← hC] at HI HS
  have HC := Lib.hid hC
  clear hC
  go_enter Try.func14, Try.ntmps14
  go_wp2_with fail
  refine HB.out.mono ?_
  rintro e w' ⟨rfl, rfl⟩
  go_wp2_with fail
  refine (HD.out _ (Below.refl _ _)).mono ?_
  rintro e w1 ⟨A1, m1, c1, B1, d1, e1, rfl, o1, l1, p1, r1, hb⟩
  have B_w1 := Lib.hid (hb)
  have z_w1 := hb.size
  have O1 := Lib.hid o1
  have P1 := Lib.hid p1
  clear hb
  try simp only
  obtain ⟨w2, hw, Xr, Xx, hb, hs⟩ := two_boxes w1 #[.int .i64 rb, .int .i64 rs, .slice A1 m1 c1] #[.int .i64 qb, .int .i64 qs, .slice B1 d1 e1] 51 51
  replace Xr := Lib.hid Xr
  replace Xx := Lib.hid Xx
  have B_w2 := Lib.hid (B_w1.out.trans (hb.mono B_w1.out.size))
  have z_w2 := hb.size
  replace O1 := Lib.hid (own_below O1.out hb)
  replace P1 := Lib.hid (own_below P1.out hb)
  have l_r := Xr.out.lt
  have l_x := Xx.out.lt
  have e_w2 : w2.heap.size = w1.heap.size + 1 + 1 := hs
  replace e_w2 := Lib.hid e_w2
  have HW_w2 := Lib.hid hw
  clear hb hs hw
  go_wp2_with fail
  rw [← HW_w2.out]
  clear HW_w2
  refine (HI.out _ _ _ _ _ _ _ ⟨own_rd O1.out, own_capE O1.out⟩ ⟨own_rd P1.out, own_capE P1.out⟩).mono ?_
  rintro e w3 ⟨A3, m3, c3, rfl, o3, l3, hb⟩
  have B_w3 := Lib.hid (B_w2.out.trans (hb.mono B_w2.out.size))
  have z_w3 := hb.size
  replace O1 := Lib.hid (own_below O1.out hb)
  replace P1 := Lib.hid (own_below P1.out hb)
  replace Xr := Lib.hid (Xr.out.below hb)
  replace Xx := Lib.hid (Xx.out.below hb)
  have O3 := Lib.hid o3
  clear hb
  try simp only
  clear O1
  clear P1
  obtain ⟨w4, hw, Xo, hb, hs⟩ := one_box w3 #[.int .i64 (mrgB rb rs rl qb qs ql), .int .i64 (mrgS rb rs rl qb qs ql), .slice A3 m3 c3] 51
  replace Xo := Lib.hid Xo
  have B_w4 := Lib.hid (B_w3.out.trans (hb.mono B_w3.out.size))
  have z_w4 := hb.size
  replace O3 := Lib.hid (own_below O3.out hb)
  replace Xr := Lib.hid (Xr.out.below hb)
  replace Xx := Lib.hid (Xx.out.below hb)
  have l_o := Xo.out.lt
  have e_w4 : w4.heap.size = w3.heap.size + 1 := hs
  replace e_w4 := Lib.hid e_w4
  have HW_w4 := Lib.hid hw
  clear hb hs hw
  go_wp2_with fail
  rw [← HW_w4.out]
  clear HW_w4
  refine (HD.out _ B_w4.out).mono ?_
  rintro e w5 ⟨A5, m5, c5, B5, d5, e5, rfl, o5, l5, p5, r5, hb⟩
  have B_w5 := Lib.hid (B_w4.out.trans (hb.mono B_w4.out.size))
  have z_w5 := hb.size
  replace O3 := Lib.hid (own_below O3.out hb)
  replace Xr := Lib.hid (Xr.out.below hb)
  replace Xx := Lib.hid (Xx.out.below hb)
  replace Xo := Lib.hid (Xo.out.below hb)
  have O5 := Lib.hid o5
  have P5 := Lib.hid p5
  clear hb
  try simp only
  have ee := e_w2.out
  have e4 := B_w1.out.size
  obtain ⟨w6, hw⟩ : ∃ wz : World, wz = ((((((w5.setCell ⟨w1.heap.size, 0, none⟩ (.int .i64 rb)).setCell ⟨w1.heap.size, 1, none⟩ (.int .i64 rs)).setCell ⟨w1.heap.size, 2, none⟩ (.slice A5 m5 c5)).setCell ⟨w1.heap.size + 1, 0, none⟩ (.int .i64 qb)).setCell ⟨w1.heap.size + 1, 1, none⟩ (.int .i64 qs)).setCell ⟨w1.heap.size + 1, 2, none⟩ (.slice B5 d5 e5)) := ⟨_, rfl⟩
  have hc : Chg (w1.heap.size) (w1.heap.size + 1 + 1) w5 w6 := by rw [hw]; (repeat refine chg_set ?_ (by omega) (by omega) _); exact Chg.refl _ _ _
  have B_w6 := Lib.hid (below_chg B_w5.out hc (by omega) B_w5.out.size)
  have z_w6 := hc.size
  replace O3 := Lib.hid (own_chg O3.out hc (fun b hb => by have := (O3.out.lt b hb).1; omega))
  replace O5 := Lib.hid (own_chg O5.out hc (fun b hb => by have := (O5.out.lt b hb).1; omega))
  replace P5 := Lib.hid (own_chg P5.out hc (fun b hb => by have := (P5.out.lt b hb).1; omega))
  replace Xo := Lib.hid (Xo.out.chg hc (by omega))
  have Yr : Box w6 (w1.heap.size) #[.int .i64 rb, .int .i64 rs, .slice A5 m5 c5] 51 := by rw [hw]; have := ((((((Xr.out.set 0 (.int .i64 rb)).set 1 (.int .i64 rs)).set 2 (.slice A5 m5 c5)).other (c := w1.heap.size + 1) (i := 0) (by omega) (.int .i64 qb)).other (c := w1.heap.size + 1) (i := 1) (by omega) (.int .i64 qs)).other (c := w1.heap.size + 1) (i := 2) (by omega) (.slice B5 d5 e5)); simpa using this
  have Yx : Box w6 (w1.heap.size + 1) #[.int .i64 qb, .int .i64 qs, .slice B5 d5 e5] 51 := by rw [hw]; have := ((((((Xx.out.other (c := w1.heap.size) (i := 0) (by omega) (.int .i64 rb)).other (c := w1.heap.size) (i := 1) (by omega) (.int .i64 rs)).other (c := w1.heap.size) (i := 2) (by omega) (.slice A5 m5 c5)).set 0 (.int .i64 qb)).set 1 (.int .i64 qs)).set 2 (.slice B5 d5 e5)); simpa using this
  have Gr := Xr.out.f3
  have Gx := Xx.out.f3
  replace Xr := Lib.hid Yr
  clear Yr
  replace Xx := Lib.hid Yx
  clear Yx
  have HW_w6 := Lib.hid hw
  clear hw hc
  go_wp2_with fail
  rw [← HW_w6.out]
  clear HW_w6 Gr Gx
  clear ee e4
  refine (HS.out _ _ _ _ _ _ _ ⟨own_rd O5.out, own_capE O5.out⟩ ⟨own_rd P5.out, own_capE P5.out⟩).mono ?_
  rintro e w7 ⟨A7, m7, c7, rfl, o7, l7, hb⟩
  have B_w7 := Lib.hid (B_w6.out.trans (hb.mono B_w6.out.size))
  have z_w7 := hb.size
  replace O3 := Lib.hid (own_below O3.out hb)
  replace O5 := Lib.hid (own_below O5.out hb)
  replace P5 := Lib.hid (own_below P5.out hb)
  replace Xr := Lib.hid (Xr.out.below hb)
  replace Xx := Lib.hid (Xx.out.below hb)
  replace Xo := Lib.hid (Xo.out.below hb)
  have O7 := Lib.hid o7
  clear hb
  try simp only
  obtain ⟨w8, hw, Xq, hb, hs⟩ := one_box w7 #[.int .i64 (mrgB rb rs rl qb qs ql), .int .i64 (mrgS rb rs rl qb qs ql), .slice A7 m7 c7] 51
  replace Xq := Lib.hid Xq
  have B_w8 := Lib.hid (B_w7.out.trans (hb.mono B_w7.out.size))
  have z_w8 := hb.size
  replace O3 := Lib.hid (own_below O3.out hb)
  replace O5 := Lib.hid (own_below O5.out hb)
  replace P5 := Lib.hid (own_below P5.out hb)
  replace O7 := Lib.hid (own_below O7.out hb)
  replace Xr := Lib.hid (Xr.out.below hb)
  replace Xx := Lib.hid (Xx.out.below hb)
  replace Xo := Lib.hid (Xo.out.below hb)
  have l_q := Xq.out.lt
  have e_w8 : w8.heap.size = w7.heap.size + 1 := hs
  replace e_w8 := Lib.hid e_w8
  have HW_w8 := Lib.hid hw
  clear hb hs hw
  have hcc : (C != C) = false := by simp
  have Fo := Xo.out.f3
  have Fq := Xq.out.f3
  rw [HW_w8.out] at Fo Fq
  go_wp2_with fail
  rw [← HW_w8.out]
  clear HW_w8
  clear Fo Fq
  refine (w6Registers_same _ _ _ _ _ _ _ _ _ _ (own_rd O3.out) (own_rd O7.out)).mono ?_
  rintro e w9 ⟨rfl, hb⟩
  have B_w9 := Lib.hid (B_w8.out.trans (hb.mono B_w8.out.size))
  have z_w9 := hb.size
  replace O3 := Lib.hid (own_below O3.out hb)
  replace O5 := Lib.hid (own_below O5.out hb)
  replace P5 := Lib.hid (own_below P5.out hb)
  replace O7 := Lib.hid (own_below O7.out hb)
  replace Xr := Lib.hid (Xr.out.below hb)
  replace Xx := Lib.hid (Xx.out.below hb)
  replace Xo := Lib.hid (Xo.out.below hb)
  replace Xq := Lib.hid (Xq.out.below hb)
  clear hb
  try simp only
  clear hcc
  clear O3
  clear Xo
  by_cases hC0 : C = 0
  rotate_left
  · have hCb : (C != 0) = true := by simp [hC0]
    clear hC0
    go_wp2_with fail
    go_ret
    exact ⟨rfl, B_w9.out⟩
  subst hC0
  have hA := HC.out.symm
  obtain ⟨ha1, ha2, ha3⟩ := mrg_good hA
  rw [ha1, ha2] at Xq
  rw [ha3] at O7
  obtain ⟨e1, e2, _⟩ := mrg_ok hA
  subst e1
  subst e2
  have HSW := Lib.hid (fun A n c B m d W h h' => implMerge_good (mrg_swap hA) rfl A n c B m d W h h')
  have HAG := Lib.hid (fun A n c B m d W h h' => implMerge_good (mrg_again hA).1 (show (rl ++ newE rl ql) ++ newE (rl ++ newE rl ql) ql = rl ++ newE rl ql from by rw [(mrg_again hA).2, List.append_nil]) A n c B m d W h h')
  have HSX := Lib.hid (fun A n c W h => implRegSeries_good (mrg_valid hA) rfl A n c W h)
  have HSY := Lib.hid (fun A n c W h => implRegSeries_good (mrg_valid (mrg_swap hA)) (mrg_series hA) A n c W h)
  generalize serF rb (rl ++ newE rl ql) = rows at *
  generalize rl ++ newE rl ql = wl at *
  generalize ql ++ newE ql rl = tl at *
  clear ha1 ha2 ha3 hA HI HS HC HD
  have Fr := Xr.out.f3
  have Fx := Xx.out.f3
  go_wp2_with fail
  clear Fr Fx
  refine (HSW.out _ _ _ _ _ _ _ ⟨own_rd P5.out, own_capE P5.out⟩ ⟨own_rd O5.out, own_capE O5.out⟩).mono ?_
  rintro e w10 ⟨A8, m8, c8, rfl, o8, l8, hb⟩
  have B_w10 := Lib.hid (B_w9.out.trans (hb.mono B_w9.out.size))
  have z_w10 := hb.size
  replace O5 := Lib.hid (own_below O5.out hb)
  replace P5 := Lib.hid (own_below P5.out hb)
  replace O7 := Lib.hid (own_below O7.out hb)
  replace Xr := Lib.hid (Xr.out.below hb)
  replace Xx := Lib.hid (Xx.out.below hb)
  replace Xq := Lib.hid (Xq.out.below hb)
  have O8 := Lib.hid o8
  clear hb
  try simp only
  clear O5
  clear Xr
  obtain ⟨w11, hw, Xt, hb, hs⟩ := one_box w10 #[.int .i64 rb, .int .i64 rs, .slice A8 m8 c8] 51
  replace Xt := Lib.hid Xt
  have B_w11 := Lib.hid (B_w10.out.trans (hb.mono B_w10.out.size))
  have z_w11 := hb.size
  replace P5 := Lib.hid (own_below P5.out hb)
  replace O7 := Lib.hid (own_below O7.out hb)
  replace O8 := Lib.hid (own_below O8.out hb)
  replace Xx := Lib.hid (Xx.out.below hb)
  replace Xq := Lib.hid (Xq.out.below hb)
  have l_t := Xt.out.lt
  have e_w11 : w11.heap.size = w10.heap.size + 1 := hs
  replace e_w11 := Lib.hid e_w11
  have HW_w11 := Lib.hid hw
  clear hb hs hw
  have Fq := Xq.out.f3
  rw [HW_w11.out] at Fq
  go_wp2_with fail
  rw [← HW_w11.out]
  clear HW_w11
  clear Fq
  refine (HSX.out _ _ _ _ ⟨own_rd O7.out, own_capE O7.out⟩).mono ?_
  rintro e w12 ⟨A9, m9, c9, v9, rfl, o9, l9, hb⟩
  have B_w12 := Lib.hid (B_w11.out.trans (hb.mono B_w11.out.size))
  have z_w12 := hb.size
  replace P5 := Lib.hid (own_below P5.out hb)
  replace O7 := Lib.hid (own_below O7.out hb)
  replace O8 := Lib.hid (own_below O8.out hb)
  replace Xx := Lib.hid (Xx.out.below hb)
  replace Xq := Lib.hid (Xq.out.below hb)
  replace Xt := Lib.hid (Xt.out.below hb)
  have S9 := Lib.hid o9.rd
  clear hb
  try simp only
  obtain ⟨w13, hw, Xu, hb, hs⟩ := one_box w12 #[.int .i64 rb, .int .i64 rs, .slice A9 m9 c9] 73
  replace Xu := Lib.hid Xu
  have B_w13 := Lib.hid (B_w12.out.trans (hb.mono B_w12.out.size))
  have z_w13 := hb.size
  replace P5 := Lib.hid (own_below P5.out hb)
  replace O7 := Lib.hid (own_below O7.out hb)
  replace O8 := Lib.hid (own_below O8.out hb)
  replace S9 := Lib.hid (S9.out.below hb)
  replace Xx := Lib.hid (Xx.out.below hb)
  replace Xq := Lib.hid (Xq.out.below hb)
  replace Xt := Lib.hid (Xt.out.below hb)
  have l_u := Xu.out.lt
  have e_w13 : w13.heap.size = w12.heap.size + 1 := hs
  replace e_w13 := Lib.hid e_w13
  have HW_w13 := Lib.hid hw
  clear hb hs hw
  have Ft := Xt.out.f3
  rw [HW_w13.out] at Ft
  go_wp2_with fail
  rw [← HW_w13.out]
  clear HW_w13
  clear Ft
  refine (HSY.out _ _ _ _ ⟨own_rd O8.out, own_capE O8.out⟩).mono ?_
  rintro e w14 ⟨Ay, my, cy, vy, rfl, oy, ly, hb⟩
  have B_w14 := Lib.hid (B_w13.out.trans (hb.mono B_w13.out.size))
  have z_w14 := hb.size
  replace P5 := Lib.hid (own_below P5.out hb)
  replace O7 := Lib.hid (own_below O7.out hb)
  replace O8 := Lib.hid (own_below O8.out hb)
  replace S9 := Lib.hid (S9.out.below hb)
  replace Xx := Lib.hid (Xx.out.below hb)
  replace Xq := Lib.hid (Xq.out.below hb)
  replace Xt := Lib.hid (Xt.out.below hb)
  replace Xu := Lib.hid (Xu.out.below hb)
  have Sy := Lib.hid oy.rd
  clear hb
  try simp only
  clear O8
  clear Xt
  obtain ⟨w15, hw, Xy, hb, hs⟩ := one_box w14 #[.int .i64 rb, .int .i64 rs, .slice Ay my cy] 73
  replace Xy := Lib.hid Xy
  have B_w15 := Lib.hid (B_w14.out.trans (hb.mono B_w14.out.size))
  have z_w15 := hb.size
  replace P5 := Lib.hid (own_below P5.out hb)
  replace O7 := Lib.hid (own_below O7.out hb)
  replace S9 := Lib.hid (S9.out.below hb)
  replace Sy := Lib.hid (Sy.out.below hb)
  replace Xx := Lib.hid (Xx.out.below hb)
  replace Xq := Lib.hid (Xq.out.below hb)
  replace Xu := Lib.hid (Xu.out.below hb)
  have l_y := Xy.out.lt
  have e_w15 : w15.heap.size = w14.heap.size + 1 := hs
  replace e_w15 := Lib.hid e_w15
  have HW_w15 := Lib.hid hw
  clear hb hs hw
  have Fq := Xq.out.f3
  have Fx := Xx.out.f3
  rw [HW_w15.out] at Fq Fx
  go_wp2_with fail
  rw [← HW_w15.out]
  clear HW_w15
  clear Fq Fx
  refine (HAG.out _ _ _ _ _ _ _ ⟨own_rd O7.out, own_capE O7.out⟩ ⟨own_rd P5.out, own_capE P5.out⟩).mono ?_
  rintro e w16 ⟨Aa, ma, ca, rfl, oa, la, hb⟩
  have B_w16 := Lib.hid (B_w15.out.trans (hb.mono B_w15.out.size))
  have z_w16 := hb.size
  replace P5 := Lib.hid (own_below P5.out hb)
  replace O7 := Lib.hid (own_below O7.out hb)
  replace S9 := Lib.hid (S9.out.below hb)
  replace Sy := Lib.hid (Sy.out.below hb)
  replace Xx := Lib.hid (Xx.out.below hb)
  replace Xq := Lib.hid (Xq.out.below hb)
  replace Xu := Lib.hid (Xu.out.below hb)
  replace Xy := Lib.hid (Xy.out.below hb)
  have Oa := Lib.hid oa
  clear hb
  try simp only
  clear P5
  clear Xx
  obtain ⟨w17, hw, Xa, hb, hs⟩ := one_box w16 #[.int .i64 rb, .int .i64 rs, .slice Aa ma ca] 51
  replace Xa := Lib.hid Xa
  have B_w17 := Lib.hid (B_w16.out.trans (hb.mono B_w16.out.size))
  have z_w17 := hb.size
  replace O7 := Lib.hid (own_below O7.out hb)
  replace S9 := Lib.hid (S9.out.below hb)
  replace Sy := Lib.hid (Sy.out.below hb)
  replace Oa := Lib.hid (own_below Oa.out hb)
  replace Xq := Lib.hid (Xq.out.below hb)
  replace Xu := Lib.hid (Xu.out.below hb)
  replace Xy := Lib.hid (Xy.out.below hb)
  have l_a := Xa.out.lt
  have e_w17 : w17.heap.size = w16.heap.size + 1 := hs
  replace e_w17 := Lib.hid e_w17
  have HW_w17 := Lib.hid hw
  clear hb hs hw
  have Fu := Xu.out.f3
  have Fy := Xy.out.f3
  rw [HW_w17.out] at Fu Fy
  go_wp2_with fail
  rw [← HW_w17.out]
  clear HW_w17
  clear Fu Fy
  refine (w6Series_same _ _ _ _ _ _ _ _ _ _ S9.out Sy.out).mono ?_
  rintro e w18 ⟨rfl, hb⟩
  have B_w18 := Lib.hid (B_w17.out.trans (hb.mono B_w17.out.size))
  have z_w18 := hb.size
  replace O7 := Lib.hid (own_below O7.out hb)
  replace S9 := Lib.hid (S9.out.below hb)
  replace Sy := Lib.hid (Sy.out.below hb)
  replace Oa := Lib.hid (own_below Oa.out hb)
  replace Xq := Lib.hid (Xq.out.below hb)
  replace Xu := Lib.hid (Xu.out.below hb)
  replace Xy := Lib.hid (Xy.out.below hb)
  replace Xa := Lib.hid (Xa.out.below hb)
  clear hb
  try simp only
  clear Xu
  clear Xy
  clear S9
  clear Sy
  have Fa := Xa.out.f3
  have Fq := Xq.out.f3
  go_wp2_with fail
  clear Fa Fq
  refine (w6Registers_same _ _ _ _ _ _ _ _ _ _ (own_rd Oa.out) (own_rd O7.out)).mono ?_
  rintro e w19 ⟨rfl, hb⟩
  have B_w19 := Lib.hid (B_w18.out.trans (hb.mono B_w18.out.size))
  have z_w19 := hb.size
  replace O7 := Lib.hid (own_below O7.out hb)
  replace Oa := Lib.hid (own_below Oa.out hb)
  replace Xq := Lib.hid (Xq.out.below hb)
  replace Xa := Lib.hid (Xa.out.below hb)
  clear hb
  try simp only
  go_wp2_with fail
  go_ret
  exact ⟨rfl, B_w19.out⟩
end Go.Proofs.Ytdldcjnidajmpaa

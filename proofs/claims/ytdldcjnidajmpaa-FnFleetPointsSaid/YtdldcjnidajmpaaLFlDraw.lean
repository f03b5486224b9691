/- The walk of FnFleetPoints. -/
import Derived.Test.YtdldcjnidajmpaaRz
import Derived.Test.YtdldcjnidajmpaaRv
import Derived.Test.YtdldcjnidajmpaaFy
import Derived.Test.YtdldcjnidajmpaaFz2
import Derived.Test.YtdldcjnidajmpaaWl
import Derived.Test.YtdldcjnidajmpaaCo
import Derived.Deep.RegionHeld3
namespace Go.Proofs.Ytdldcjnidajmpaa
open Go.RowKit
set_option linter.unusedVariables false
set_option maxRecDepth 100000

theorem fleetPts_ok {fs : List FinishT} {list : List Int} {k : Int} {P : List Int} (h : fleetPointsL fs list k = (P, 0)) : raceB (list.length : Int) fs = true := by
  unfold fleetPointsL at h
  by_cases h0 : fleetsCodeF list k = 0
  · rw [if_pos h0] at h
    by_cases h1 : raceB (list.length : Int) fs = true
    · exact h1
    · rw [if_neg h1] at h
      injection h with _ h
      exact absurd h (by decide)
  · rw [if_neg h0] at h
    injection h with _ h
    exact absurd h h0
set_option maxHeartbeats 4000000 in
theorem fnFleetPoints_walk (a0 : Option Addr) (len0 cap0 : Nat) (z0 : List Int) (w : World) (v0 : IsRow .u8 w a0 len0 cap0 z0) :
    Calls Try.prog 4 #[.slice a0 len0 cap0] w fun e w' => e = .returned (.bool true) ∧ Below w.heap.size w w' := by
  have hle := v0.lenle
  by_cases hbig : 4096 < len0
  · have hd : decide (4096 < len0) = true := by simpa using hbig
    have HB := Lib.hid (big_any a0 len0 cap0 hle w)
    rw [hd] at HB
    clear hd v0
    go_enter Try.func4, Try.ntmps4
    go_wp2_with fail
    refine HB.out.mono ?_
    rintro e w' ⟨rfl, rfl⟩
    go_wp2_with fail
    go_ret
    exact ⟨rfl, Below.refl _ _⟩
  have hd : decide (4096 < len0) = false := by simpa using hbig
  have HB := Lib.hid (big_any a0 len0 cap0 hle w)
  rw [hd] at HB
  clear hd
  have hcode := code0_of v0 (by omega)
  generalize z0.take len0 = code at hcode
  clear v0
  have HD := Lib.hid (fun W hb => drawFleetPoints_any w a0 len0 cap0 code hcode W hb)
  clear hcode
  generalize fleetPtsD code = D at *
  obtain ⟨fs, list, k⟩ := D
  obtain ⟨C, hC⟩ : ∃ C, C = fleetPointsL fs list k := ⟨_, rfl⟩
  obtain ⟨P, cd⟩ := C
  have HI := Lib.hid (fun A n c B m d W h hl => implFleetPoints_any A n c fs B m d list k W h hl)
  have HS := Lib.hid (fun A n c B m d W h hl => specFleetPoints_any A n c fs B m d list k W h hl)
  rw [← hC] at HI HS
  have HOK := Lib.hid (fun (h : cd = 0) => fleetPts_ok (fs := fs) (list := list) (k := k) (P := P) (by rw [← hC, h]))
  clear hC
  go_enter Try.func4, Try.ntmps4
  go_wp2_with fail
  refine HB.out.mono ?_
  rintro e w' ⟨rfl, rfl⟩
  go_wp2_with fail
  refine (HD.out _ (Below.refl _ _)).mono ?_
  rintro e w1 ⟨A1, m1, c1, A2, m2, c2, rfl, o1, p1, l1, hb1⟩
  have O1 := Lib.hid o1
  have P1 := Lib.hid p1
  have B1 := Lib.hid hb1
  clear o1 p1 hb1
  obtain ⟨b1, hb1⟩ : ∃ b, b = w1.heap.size := ⟨_, rfl⟩
  obtain ⟨wb, hwb, X1, hbb, hsb⟩ := one_box w1 #[.slice A1 m1 c1] 31
  rw [← hb1] at X1
  have hb1b : b1 < wb.heap.size := by omega
  have hwb1 : w.heap.size ≤ b1 := by rw [hb1]; exact B1.out.size
  have BB := Lib.hid (B1.out.trans (hbb.mono B1.out.size))
  have OB := Lib.hid (own_below O1.out hbb)
  have PB := Lib.hid (own_below P1.out hbb)
  have XB := Lib.hid X1
  have HB1 := Lib.hid hb1
  clear O1 P1 B1 hbb hsb X1 hb1
  go_wp2_with fail
  rw [← HB1.out]
  rw [← hwb]
  clear hwb
  refine (HI.out _ _ _ _ _ _ _ (own_rd OB.out) (own_rd PB.out)).mono ?_
  rintro e w2 ⟨A3, m3, c3, rfl, o3, l3, hb2⟩
  have B2 := Lib.hid (BB.out.trans (hb2.mono BB.out.size))
  have X2 := Lib.hid (XB.out.below hb2)
  have O3 := Lib.hid o3
  have hz2 := hb2.size
  clear hb2 o3 BB OB PB XB
  simp only
  go_wp2_with fail
  refine (HD.out _ B2.out).mono ?_
  rintro e w3 ⟨A4, m4, c4, A5, m5, c5, rfl, o4, p4, l4, hb3⟩
  have X3 := X2.out.below hb3
  have F3 := X3.l1
  have hput := put_chg (g := b1) [.slice A4 m4 c4] 0 (Chg.refl b1 (b1 + 1) w3) (Nat.le_refl _) (by omega)
  obtain ⟨w4, hw4⟩ : ∃ w4, w4 = w3.setCell ⟨b1, 0, none⟩ (.slice A4 m4 c4) := ⟨_, rfl⟩
  have hc4 : Chg b1 (b1 + 1) w3 w4 := by rw [hw4]; exact hput
  have X4 := Lib.hid (show Box w4 b1 #[.slice A4 m4 c4] 31 from by rw [hw4]; exact X3.set 0 _)
  have O4 := Lib.hid (own_chg o4 hc4 (fun b hb => .inr (by have := (o4.lt b hb).1; omega)))
  have P4 := Lib.hid (own_chg p4 hc4 (fun b hb => .inr (by have := (p4.lt b hb).1; omega)))
  have O34 := Lib.hid (own_chg (own_below O3.out hb3) hc4 (fun b hb => .inr (by have := (O3.out.lt b hb).1; omega)))
  have B4 := Lib.hid (below_chg (B2.out.trans (hb3.mono B2.out.size)) hc4 hwb1 (by have := B2.out.size; have := hb3.size; omega))
  have hz3 := hb3.size
  have hz4 := hc4.size
  have HW4 := Lib.hid hw4
  clear o4 p4 hb3 X3 hput hc4 O3 X2 B2 hw4
  go_wp2_with fail
  rw [← HW4.out]
  clear HW4 F3
  refine (HS.out _ _ _ _ _ _ _ (own_rd O4.out) (own_rd P4.out)).mono ?_
  rintro e w5 ⟨A6, m6, c6, rfl, o6, l6, hb5⟩
  have B5 := Lib.hid (B4.out.trans (hb5.mono B4.out.size))
  have X5 := Lib.hid (X4.out.below hb5)
  have O5 := Lib.hid (own_below O4.out hb5)
  have P5 := Lib.hid (own_below P4.out hb5)
  have O35 := Lib.hid (own_below O34.out hb5)
  have O6 := Lib.hid o6
  have hz5 := hb5.size
  clear hb5 o6 B4 X4 O4 P4 O34
  simp only
  go_wp2_with fail
  refine (likeInts_below _ _ _ _ _ _ _ _ _ (own_rd O35.out) (own_rd O6.out)).mono ?_
  rintro e w6 ⟨rfl, hb6⟩
  have B6 := Lib.hid (B5.out.trans (hb6.mono B5.out.size))
  have X6 := Lib.hid (X5.out.below hb6)
  have OF6 := Lib.hid (own_below O5.out hb6)
  have OL6 := Lib.hid (own_below P5.out hb6)
  have hz6 := hb6.size
  clear hb6 B5 X5 O5 P5 O35 O6
  simp only
  by_cases hz : cd = 0
  · have hok := HOK.out hz
    subst hz
    have hlm : list.length = m5 := own_len OL6.out
    rw [hlm] at hok
    have HONE := Lib.hid (one_fleet hok)
    have HOKH := Lib.hid hok
    have hm16 : 1 ≤ m5 ∧ m5 ≤ 16 := by have ok := raceB_ok hok; have := ok.b1; have := ok.b2; omega
    obtain ⟨hm1, hm16⟩ := hm16
    have ew : racePointsC (m5 : Int) fs 0 = (racePointsF fs 0, 0) := by unfold racePointsC; rw [hok]; rfl
    have HRP := Lib.hid (fun A n c W h => implRacePoints_any (m5 : Int) A n c fs 0 W h)
    rw [ew] at HRP
    have HF1 := Lib.hid (fun A n c B m d W h hl => implFleetPoints_any A n c fs B m d (List.replicate m5 0) 1 W h hl)
    rw [HONE.out] at HF1
    clear hok hlm ew HONE HOK HI HS HD
    have F6 := X6.out.l1
    go_wp2_with fail
    refine (HRP.out _ _ _ _ (own_rd OF6.out)).mono ?_
    rintro e w7 ⟨A8, m8, c8, rfl, o8, l8, hb7⟩
    have B7 := Lib.hid (B6.out.trans (hb7.mono B6.out.size))
    have X7 := Lib.hid (X6.out.below hb7)
    have OF7 := Lib.hid (own_below OF6.out hb7)
    have O8 := Lib.hid o8
    have hz7 := hb7.size
    clear hb7 o8 B6 X6 OF6 F6
    simp only
    have F7 := X7.out.l1
    have hmk := run_make_i64 m5 (by omega)
    have HMK := Lib.hid (show ((w7.drewN 1).alloc (.cells (madeCells #[.int .i64 0] m5) 2)).ownsRow w7.heap.size 2 1 (.slice (some ⟨w7.heap.size, 0, none⟩) m5 m5) m5 (ints (List.replicate m5 0)) from by
      rw [ints_replicate]; exact own_made (w7.drewN 1) _ _ m5 (.int .i64 0) (Nat.le_refl _) (by omega))
    have HBM := Lib.hid (show Below w7.heap.size w7 ((w7.drewN 1).alloc (.cells (madeCells #[.int .i64 0] m5) 2)) from (below_drewN' _ _ 1).alloc (Nat.le_refl _) _)
    have HOM := Lib.hid (own_below OF7.out HBM.out)
    go_wp2_with fail
    go_region_with (go_at_call 19; (refine (HF1.out _ _ _ _ _ _ _ (own_rd HOM.out) (own_rd HMK.out)).mono ?_); (rintro e w8 ⟨A9, m9, c9, rfl, o9, l9, hb8⟩))
    all_goals
      have B8 := Lib.hid (B7.out.trans ((HBM.out.trans (hb8.mono HBM.out.size)).mono B7.out.size))
      have O88 := Lib.hid (own_below O8.out (HBM.out.trans (hb8.mono HBM.out.size)))
      have O9 := Lib.hid o9
      clear hb8 o9 hmk F7
      (try simp only)
      go_wp2_with fail
      refine (likeInts_below _ _ _ _ _ _ _ _ _ (own_rd O88.out) (own_rd O9.out)).mono ?_
      rintro e w9 ⟨rfl, hb9⟩
      have B9 := Lib.hid (B8.out.trans (hb9.mono B8.out.size))
      clear hb9
      go_wp2_with fail
      go_ret
      exact ⟨by simp, B9.out⟩
  · have hzb : (cd != 0) = true := by simpa using hz
    clear hz
    go_wp2_with fail
    go_ret
    exact ⟨rfl, B6.out⟩
end Go.Proofs.Ytdldcjnidajmpaa

/- The walk of FnRoutes. -/
import Derived.Test.YtpaamhkgokkgpaaHf
import Derived.Test.YtpaamhkgokkgpaaHo
import Derived.Test.YtpaamhkgokkgpaaHp
import Derived.Test.YtpaamhkgokkgpaaGn
import Derived.Test.YtpaamhkgokkgpaaGj
import Derived.Test.YtpaamhkgokkgpaaWl
import Derived.Test.YtpaamhkgokkgpaaCo
import Derived.Deep.RegionHeld3
namespace Go.Proofs.Ytpaamhkgokkgpaa
open Go.RowKit
set_option linter.unusedVariables false
set_option maxRecDepth 100000

set_option maxHeartbeats 4000000 in
theorem fnRoutes_walk (a0 : Option Addr) (len0 cap0 : Nat) (z0 : List Int) (w : World) (v0 : IsRow .u8 w a0 len0 cap0 z0) :
    Calls Try.prog 11 #[.slice a0 len0 cap0] w fun e w' => e = .returned (.bool true) ∧ Below w.heap.size w w' := by
  have hle := v0.lenle
  by_cases hbig : 4096 < len0
  · have hd : decide (4096 < len0) = true := by simpa using hbig
    have HB := Lib.hid (big_any a0 len0 cap0 hle w)
    rw [hd] at HB
    clear hd v0
    go_enter Try.func11, Try.ntmps11
    go_wp2_with fail
    refine HB.out.mono ?_
    rintro e w' ⟨rfl, rfl⟩
    go_wp2_with fail
    go_ret
    exact ⟨rfl, Below.refl _ _⟩
  have hd : decide (4096 < len0) = false := by simpa using hbig
  have HB := Lib.hid (big_any a0 len0 cap0 hle w)
  rw [hd] at HB
  clear hd
  have hcode := code0_of v0 (by omega)
  generalize z0.take len0 = code at hcode
  clear v0
  have HD := Lib.hid (fun W hb => drawRouteT_any a0 len0 cap0 code w hcode W hb)
  clear hcode
  go_enter Try.func11, Try.ntmps11
  go_wp2_with fail
  refine HB.out.mono ?_
  rintro e w' ⟨rfl, rfl⟩
  go_wp2_with fail
  refine (HD.out _ (Below.refl _ _)).mono ?_
  rintro e w1 ⟨W, H, A1, m, c1, xs, fr, A2, k, c2, route, rfl, hm, hk, hrd, hrr, hb1⟩
  have hlx := hrd.len_wind
  have hlr := hrr.len_int
  have hb2 : Below w1.heap.size w1 (w1.alloc (.cells #[.int .i64 W, .int .i64 H, .slice A1 m c1] 29)) := (Below.refl _ _).alloc (Nat.le_refl _) _
  have x0 : (w1.alloc (.cells #[.int .i64 W, .int .i64 H, .slice A1 m c1] 29)).cell? ⟨w1.heap.size, 0, none⟩ = some (.int .i64 W) := cell_top _ _ _ rfl rfl
  have x1 : (w1.alloc (.cells #[.int .i64 W, .int .i64 H, .slice A1 m c1] 29)).cell? ⟨w1.heap.size, 1, none⟩ = some (.int .i64 H) := cell_top _ _ _ rfl rfl
  have x2 : (w1.alloc (.cells #[.int .i64 W, .int .i64 H, .slice A1 m c1] 29)).cell? ⟨w1.heap.size, 2, none⟩ = some (.slice A1 m c1) := cell_top _ _ _ rfl rfl
  go_wp2_with fail
  obtain ⟨wv, hwv⟩ : ∃ x, x = w1.alloc (.cells #[.int .i64 W, .int .i64 H, .slice A1 m c1] 29) := ⟨_, rfl⟩
  rw [← hwv] at hb2 x0 x1 x2
  rw [← hwv]
  obtain ⟨bg, hbg⟩ : ∃ b, b = w1.heap.size := ⟨_, rfl⟩
  rw [← hbg] at x0 x1 x2
  try rw [← hbg]
  have BB := Lib.hid (hb1.trans (hb2.mono hb1.size))
  have HRD := Lib.hid (fun X (hb : Below wv.heap.size wv X) => (hrd.below hb2).below hb)
  have HRR := Lib.hid (fun X (hb : Below wv.heap.size wv X) => (hrr.below hb2).below hb)
  clear hwv hbg hb1 hb2 hrd hrr
  have HI := Lib.hid (fun X hr h2 => implTime_any W H A1 m c1 xs fr A2 k c2 route X hr h2)
  have HS := Lib.hid (fun X hr h2 => specTime_any W H A1 m c1 xs fr A2 k c2 route X hr h2)
  obtain ⟨s1, s2, s3⟩ := sail_code W H xs fr route
  have er : routeTimeF W H xs fr route = ((sailRouteF W H xs fr route).2.1, (sailRouteF W H xs fr route).2.2) := rfl
  generalize routeTimeF W H xs fr route = R at *
  obtain ⟨r1, r2⟩ := R
  injection er with er1 er2
  rw [s1] at er2
  have HE1 := Lib.hid er1
  have HS3 := Lib.hid s3
  have HE2 := Lib.hid er2
  clear er1 er2 s1 s2 s3
  refine (HI.out _ (HRD.out _ (Below.refl _ _)) (HRR.out _ (Below.refl _ _))).mono ?_
  rintro e w2 ⟨rfl, hb2⟩
  replace x0 := Keeps.below hb2 _ _ x0
  replace x1 := Keeps.below hb2 _ _ x1
  replace x2 := Keeps.below hb2 _ _ x2
  have B2 := Lib.hid hb2
  clear hb2
  go_wp2_with fail
  refine (HS.out _ (HRD.out _ B2.out) (HRR.out _ B2.out)).mono ?_
  rintro e w3 ⟨rfl, hb3⟩
  replace x0 := Keeps.below hb3 _ _ x0
  replace x1 := Keeps.below hb3 _ _ x1
  replace x2 := Keeps.below hb3 _ _ x2
  have B3 := Lib.hid (B2.out.trans (hb3.mono B2.out.size))
  clear hb3 HI HS B2
  by_cases hz : r2 = 0
  · subst hz
    obtain ⟨hz, hlen, cs0, t0, hrl, hsl⟩ := HS3.out HE2.out.symm
    obtain rfl : r1 = t0 := by rw [HE1.out, hsl]
    obtain ⟨hg, f0, f1⟩ := gcode_ok hz
    obtain ⟨s, rfl⟩ := int_up fr f0
    have hgl := hg.len
    have hs : s < m := by omega
    have HT := Lib.hid (times_ok hg (s := s) (by omega))
    have e1 : fastTF W H xs (s : Int) = (timesF W H xs s, 0) := by unfold fastTF; rw [if_pos hz, Int.toNat_natCast]
    have HF := Lib.hid (fun X hr => specFastT_any W H A1 m c1 xs (s : Int) X hr)
    rw [e1] at HF
    have HMT := Lib.hid (fun c' d X hr => implMoveTime_any W H A1 m c1 xs c' d X hr)
    have HNB := Lib.hid (fun c' d X hr => implNbOf_any W H A1 m c1 xs c' d X hr)
    have HSTEP := Lib.hid (fun d r cs (u : Nat) t (hu : u < xs.length) h => route_step (d := d) (r := r) (cs := cs) (u := u) (t := t) (R := (cs0, r1)) hg hu h)
    rw [hlx] at HSTEP
    have HRL := Lib.hid hrl
    have hk100 : k ≤ 100 := by omega
    have HLR := Lib.hid hlr
    clear hz hlen hsl hg hgl e1 hrl hlr f0 f1 HE1 HS3 HE2
    go_wp2_with fail
    go_loopw [10, 11, 12] (fun s10 s11 s12 wr => ∃ (i u : Nat) (sum : Int) (cs : List Int), i ≤ k ∧ s12 = .int .i64 i ∧ s10 = .int .i64 u ∧ u < m ∧ s11 = .int .i64 sum ∧ 0 ≤ sum ∧ sum ≤ 2520 * i ∧ routeL W H xs (route.drop i) cs u sum = some (cs0, r1) ∧ Way (arcsF W H xs) s u sum ∧ Below wv.heap.size wv wr ∧ Below w3.heap.size w3 wr) (fun _ _ s12 _ => k - (intOf s12).toNat)
    case atStart => exact ⟨0, s, 0, _, Nat.zero_le _, rfl, rfl, hs, rfl, by omega, by omega, HRL.out, Way.start, B3.out, Below.refl _ _⟩
    case round =>
      clear HRL
      obtain ⟨i, u, sum, cs, hi, rfl, rfl, hu, rfl, su0, su1, hrl, hway, hb, hb3⟩ := hrel
      obtain ⟨wo, rfl⟩ : ∃ wo : World, wo = wr := ⟨_, rfl⟩
      have BO := Lib.hid hb
      have BO3 := Lib.hid hb3
      have HWAY := Lib.hid hway
      have z0 := Keeps.below hb3 _ _ x0
      have z1 := Keeps.below hb3 _ _ x1
      have z2 := Keeps.below hb3 _ _ x2
      clear hb hb3 hway
      by_cases hlt : i < k
      · obtain ⟨b, oo, d, rfl, hx, hd, hcr⟩ := (HRR.out _ BO.out).int hlt
        rw [hd] at hrl
        obtain ⟨d0, d1, v, hv, hvl, hmo, hno, k1, k2, harc, cs', hnext⟩ := HSTEP.out _ _ _ _ _ hu hrl
        have HMT1 := Lib.hid (fun X hr => HMT.out u d X hr)
        have HNB1 := Lib.hid (fun X hr => HNB.out u d X hr)
        rw [hmo] at HMT1
        rw [hno] at HNB1
        unfold Ret2 at HMT1 HNB1
        have HWAY2 := Lib.hid (Way.move HWAY.out harc)
        have HNX := Lib.hid hnext
        generalize takeF xs u d = tk at *
        clear hx hd hrl hv hmo hno harc hnext HWAY
        have hl0 := cell_lt z0
        have hl1 := cell_lt hcr
        simp only at hl0 hl1
        go_wp2_with fail
        have HSR := Lib.hid (show ∀ w1, Below wo.heap.size wo w1 → (w1.cell? ⟨bg, 0, none⟩ = some (.int .i64 W) ∧ w1.cell? ⟨bg, 1, none⟩ = some (.int .i64 H) ∧ w1.cell? ⟨bg, 2, none⟩ = some (.slice A1 m c1) ∧ w1.cell? ⟨b, oo + i, none⟩ = some (.int .i64 d) ∧ Below wo.heap.size wo w1) from fun w1 hb => ⟨(hb.cell (p := ⟨bg, 0, none⟩) (show bg < wo.heap.size by omega)).trans z0, (hb.cell (p := ⟨bg, 1, none⟩) (show bg < wo.heap.size by omega)).trans z1, (hb.cell (p := ⟨bg, 2, none⟩) (show bg < wo.heap.size by omega)).trans z2, (hb.cell (p := ⟨b, oo + i, none⟩) (show b < wo.heap.size by omega)).trans hcr, hb⟩)
        go_region_held3 (fun w1 => w1.cell? ⟨bg, 0, none⟩ = some (.int .i64 W) ∧ w1.cell? ⟨bg, 1, none⟩ = some (.int .i64 H) ∧ w1.cell? ⟨bg, 2, none⟩ = some (.slice A1 m c1) ∧ w1.cell? ⟨b, oo + i, none⟩ = some (.int .i64 d) ∧ Below wo.heap.size wo w1) (first | exact HSR.out _ HBq | exact HSR.out _ ((Drawn.refl _).step 1).below | exact HSR.out _ (Drawn.refl _).below | assumption) (first | (go_at_call 23; have hq := (‹_ ∧ _ ∧ _ ∧ _ ∧ Below wo.heap.size wo _›).2.2.2.2; refine (HMT1.out _ (HRD.out _ (BO.out.trans (hq.mono BO.out.size)))).mono ?_; rintro e wq ⟨rfl, hbq⟩; have HBq := hq.trans (hbq.mono hq.size)))
        obtain ⟨w5, rfl⟩ : ∃ w5 : World, w5 = wq := ⟨_, rfl⟩
        have hb5 := HBq
        replace z0 := Keeps.below hb5 _ _ z0
        replace z1 := Keeps.below hb5 _ _ z1
        replace z2 := Keeps.below hb5 _ _ z2
        replace hcr := Keeps.below hb5 _ _ hcr
        have BO5 := Lib.hid (BO.out.trans (hb5.mono BO.out.size))
        have BO35 := Lib.hid (BO3.out.trans (hb5.mono BO3.out.size))
        clear HBq HSR hl0 hl1 hb5
        have hl0 := cell_lt z0
        have hl1 := cell_lt hcr
        simp only at hl0 hl1
        go_wp2_with fail
        have HSR := Lib.hid (show ∀ w1, Below w5.heap.size w5 w1 → (w1.cell? ⟨bg, 0, none⟩ = some (.int .i64 W) ∧ w1.cell? ⟨bg, 1, none⟩ = some (.int .i64 H) ∧ w1.cell? ⟨bg, 2, none⟩ = some (.slice A1 m c1) ∧ w1.cell? ⟨b, oo + i, none⟩ = some (.int .i64 d) ∧ Below w5.heap.size w5 w1) from fun w1 hb => ⟨(hb.cell (p := ⟨bg, 0, none⟩) (show bg < w5.heap.size by omega)).trans z0, (hb.cell (p := ⟨bg, 1, none⟩) (show bg < w5.heap.size by omega)).trans z1, (hb.cell (p := ⟨bg, 2, none⟩) (show bg < w5.heap.size by omega)).trans z2, (hb.cell (p := ⟨b, oo + i, none⟩) (show b < w5.heap.size by omega)).trans hcr, hb⟩)
        go_region_held3 (fun w1 => w1.cell? ⟨bg, 0, none⟩ = some (.int .i64 W) ∧ w1.cell? ⟨bg, 1, none⟩ = some (.int .i64 H) ∧ w1.cell? ⟨bg, 2, none⟩ = some (.slice A1 m c1) ∧ w1.cell? ⟨b, oo + i, none⟩ = some (.int .i64 d) ∧ Below w5.heap.size w5 w1) (first | exact HSR.out _ HBq | exact HSR.out _ ((Drawn.refl _).step 1).below | exact HSR.out _ (Drawn.refl _).below | assumption) (first | (go_at_call 21; have hq := (‹_ ∧ _ ∧ _ ∧ _ ∧ Below w5.heap.size w5 _›).2.2.2.2; refine (HNB1.out _ (HRD.out _ (BO5.out.trans (hq.mono BO5.out.size)))).mono ?_; rintro e wq ⟨rfl, hbq⟩; have HBq := hq.trans (hbq.mono hq.size)))
        obtain ⟨w6, rfl⟩ : ∃ w6 : World, w6 = wq := ⟨_, rfl⟩
        have hb6 := HBq
        have BO6 := Lib.hid (BO5.out.trans (hb6.mono BO5.out.size))
        have BO36 := Lib.hid (BO35.out.trans (hb6.mono BO35.out.size))
        clear HBq HSR hl0 hl1 hb6 z0 z1 z2 hcr
        go_wp2_with fail
        go_roundw
        case rel => exact ⟨i + 1, v, sum + tk, cs', by omega, by go_num, rfl, hvl, by go_num, by omega, by omega, HNX.out, HWAY2.out, BO6.out, BO36.out⟩
        case measure => simp [intOf] <;> omega
      · obtain rfl : k = i := by omega
        rw [List.drop_eq_nil_of_le (by rw [HLR.out]; exact Nat.le_refl _)] at hrl
        obtain rfl : sum = r1 := by rw [routeL] at hrl; injection hrl with hrl; injection hrl
        have hcl := HT.out.2.le HT.out.1.start HWAY.out
        have hTl := HT.out.1.len
        rw [hlx] at hTl
        have HCL := Lib.hid hcl
        clear hrl hcl
        go_wp2_with fail
        refine (HF.out _ (HRD.out _ BO.out)).mono ?_
        rintro e w7 ⟨A5, n5, c5, rfl, o5, hn5, hb7⟩
        simp only at o5
        have hl5 := own_len o5
        rw [hTl] at hl5
        obtain rfl : m = n5 := hl5
        obtain ⟨g5, y, rfl, _, _, hy, hcy, _⟩ := own_int_at o5 hu
        have hty := tm_get hy
        obtain ⟨y0, y1⟩ := HCL.out
        rw [hty] at y0 y1
        have B7 := Lib.hid (BO.out.trans (hb7.mono BO.out.size))
        clear o5 hb7 hy hty z0 z1 z2 hTl hlx
        go_wp2_with fail
        go_ret
        exact ⟨rfl, BB.out.trans (B7.out.mono BB.out.size)⟩
  · have hzb : (r2 != 0) = true := by simpa using hz
    clear HE1 HS3 HE2
    go_wp2_with fail
    go_ret
    exact ⟨rfl, BB.out.trans (B3.out.mono BB.out.size)⟩
end Go.Proofs.Ytpaamhkgokkgpaa

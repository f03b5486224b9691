/- The walk of FnFastest. -/
import Derived.Test.YtpaamhkgokkgpaaHf
import Derived.Test.YtpaamhkgokkgpaaHh
import Derived.Test.YtpaamhkgokkgpaaHl
import Derived.Test.YtpaamhkgokkgpaaHm
import Derived.Test.YtpaamhkgokkgpaaGn
import Derived.Test.YtpaamhkgokkgpaaGt
import Derived.Test.YtpaamhkgokkgpaaWl
import Derived.Test.YtpaamhkgokkgpaaCo
namespace Go.Proofs.Ytpaamhkgokkgpaa
open Go.RowKit
set_option linter.unusedVariables false
set_option maxRecDepth 100000

set_option maxHeartbeats 4000000 in
theorem fnFastest_walk (a0 : Option Addr) (len0 cap0 : Nat) (z0 : List Int) (w : World) (v0 : IsRow .u8 w a0 len0 cap0 z0) :
    Calls Try.prog 14 #[.slice a0 len0 cap0] w fun e w' => e = .returned (.bool true) ∧ Below w.heap.size w w' := by
  have hle := v0.lenle
  by_cases hbig : 4096 < len0
  · have hd : decide (4096 < len0) = true := by simpa using hbig
    have HB := Lib.hid (big_any a0 len0 cap0 hle w)
    rw [hd] at HB
    clear hd v0
    go_enter Try.func14, Try.ntmps14
    go_wp2_with fail
    refine HB.out.mono ?_
    rintro e w' ⟨rfl, rfl⟩
    go_wp2_with fail
    go_ret
    exact ⟨rfl, Below.refl _ _⟩
  have hd : decide (4096 < len0) = false := by simpa using hbig
  have HB := Lib.hid (big_any a0 len0 cap0 hle w)
  rw [hd] at HB
  clear hd
  have hcode := code0_of v0 (by omega)
  generalize z0.take len0 = code at hcode
  clear v0
  have HD := Lib.hid (fun W hb => drawFastR_any a0 len0 cap0 code w hcode W hb)
  clear hcode
  go_enter Try.func14, Try.ntmps14
  go_wp2_with fail
  refine HB.out.mono ?_
  rintro e w' ⟨rfl, rfl⟩
  go_wp2_with fail
  refine (HD.out _ (Below.refl _ _)).mono ?_
  rintro e w1 ⟨W, H, A1, m, c1, xs, fr, tt, rfl, hm, hrd, hb1⟩
  have hlx := hrd.len_wind
  have hb2 : Below w1.heap.size w1 (w1.alloc (.cells #[.int .i64 W, .int .i64 H, .slice A1 m c1] 29)) := (Below.refl _ _).alloc (Nat.le_refl _) _
  have x0 : (w1.alloc (.cells #[.int .i64 W, .int .i64 H, .slice A1 m c1] 29)).cell? ⟨w1.heap.size, 0, none⟩ = some (.int .i64 W) := cell_top _ _ _ rfl rfl
  have x1 : (w1.alloc (.cells #[.int .i64 W, .int .i64 H, .slice A1 m c1] 29)).cell? ⟨w1.heap.size, 1, none⟩ = some (.int .i64 H) := cell_top _ _ _ rfl rfl
  have x2 : (w1.alloc (.cells #[.int .i64 W, .int .i64 H, .slice A1 m c1] 29)).cell? ⟨w1.heap.size, 2, none⟩ = some (.slice A1 m c1) := cell_top _ _ _ rfl rfl
  go_wp2_with fail
  obtain ⟨wv, hwv⟩ : ∃ x, x = w1.alloc (.cells #[.int .i64 W, .int .i64 H, .slice A1 m c1] 29) := ⟨_, rfl⟩
  rw [← hwv] at hb2 x0 x1 x2
  rw [← hwv]
  obtain ⟨bg, hbg⟩ : ∃ b, b = w1.heap.size := ⟨_, rfl⟩
  rw [← hbg] at x0 x1 x2
  try rw [← hbg]
  have BB := Lib.hid (hb1.trans (hb2.mono hb1.size))
  have HRD := Lib.hid (fun X (hb : Below wv.heap.size wv X) => (hrd.below hb2).below hb)
  clear hwv hbg hb1 hb2 hrd
  generalize hR : fastRF W H xs fr tt = R
  have HI := Lib.hid (fun X hr => implFastR_any W H A1 m c1 xs fr tt X hr)
  have HS := Lib.hid (fun X hr => specFastR_any W H A1 m c1 xs fr tt X hr)
  rw [hR] at HI HS
  obtain ⟨r1, r2, r3⟩ := R
  have HRC := Lib.hid (route_cases hR)
  clear hR
  refine (HI.out _ (HRD.out _ (Below.refl _ _))).mono ?_
  rintro e w2 ⟨A2, n2, c2, rfl, o2, hn2, hb2⟩
  simp only at o2
  replace x0 := Keeps.below hb2 _ _ x0
  replace x1 := Keeps.below hb2 _ _ x1
  replace x2 := Keeps.below hb2 _ _ x2
  have B2 := Lib.hid hb2
  have O2 := Lib.hid o2
  clear o2 hb2
  go_wp2_with fail
  refine (HS.out _ (HRD.out _ B2.out)).mono ?_
  rintro e w3 ⟨A3, n3, c3, rfl, o3, hn3, hb3⟩
  simp only at o3
  replace x0 := Keeps.below hb3 _ _ x0
  replace x1 := Keeps.below hb3 _ _ x1
  replace x2 := Keeps.below hb3 _ _ x2
  have B3 := Lib.hid (B2.out.trans (hb3.mono B2.out.size))
  have O23 := Lib.hid (own_below O2.out hb3)
  have O3 := Lib.hid o3
  clear o3 hb3 O2
  go_wp2_with fail
  refine (likeInts_below _ _ _ _ _ _ _ _ _ (own_rd O23.out) (own_rd O3.out)).mono ?_
  rintro e w4 ⟨rfl, hb4⟩
  have hdd : decide (r1 = r1) = true := by simp
  replace x0 := Keeps.below hb4 _ _ x0
  replace x1 := Keeps.below hb4 _ _ x1
  replace x2 := Keeps.below hb4 _ _ x2
  have B4 := Lib.hid (B3.out.trans (hb4.mono B3.out.size))
  have O24 := Lib.hid (own_below O23.out hb4)
  clear hb4 O23 O3 HI HS
  rcases HRC.out with hr3 | ⟨s, tg, rfl, rfl, hz, hs, ht, hrest⟩
  · rcases hr3 with rfl | rfl
    · go_wp2_with fail
      go_ret
      exact ⟨rfl, BB.out.trans (B4.out.mono BB.out.size)⟩
    · go_wp2_with fail
      go_ret
      exact ⟨rfl, BB.out.trans (B4.out.mono BB.out.size)⟩
  have hT1 := timesB_cap (gcode_ok hz).1 false (s := s) hs
  rw [timesB_false (gcode_ok hz).1 hs] at hT1
  have hTl := hT1.len
  have hpot := times_pot hz
  have HIT := Lib.hid (fun X hr => implFastT_any W H A1 m c1 xs (s : Int) X hr)
  have HST := Lib.hid (fun X hr => specFastT_any W H A1 m c1 xs (s : Int) X hr)
  have HPO := Lib.hid (fun A2 n2 c2 X hr h2 => implPot_any W H A1 m c1 xs (s : Int) A2 n2 c2 (timesF W H xs s) X hr h2)
  have HPR := Lib.hid (fun A2 n2 c2 A5 n5 c5 X hr h2 h5 => implProved_any W H A1 m c1 xs (s : Int) A2 n2 c2 r1 A5 n5 c5 (timesF W H xs s) X hr h2 h5)
  have HCE := Lib.hid (fun A2 n2 c2 X hr h2 => implCells_any W H A1 m c1 xs (s : Int) A2 n2 c2 r1 X hr h2)
  have HTI := Lib.hid (fun A2 n2 c2 X hr h2 => implTime_any W H A1 m c1 xs (s : Int) A2 n2 c2 r1 X hr h2)
  have e1 : fastTF W H xs (s : Int) = (timesF W H xs s, 0) := by unfold fastTF; rw [if_pos hz, Int.toNat_natCast]
  rw [e1] at HIT HST
  rw [hpot] at HPO
  rw [hlx] at hs ht hTl
  have HREST := Lib.hid hrest
  have htm : tm (timesF W H xs s) tg = -1 ∨ True := .inr trivial
  clear hz hT1 hpot e1 hrest htm hlx HRC
  obtain ⟨T, hT⟩ : ∃ T, T = timesF W H xs s := ⟨_, rfl⟩
  have HTT := Lib.hid hT.symm
  rw [← hT] at HIT HST HPO HPR hTl
  clear hT
  rw [HTT.out] at HREST
  have hne1 : (r3 == 1) = false := by rcases HREST.out with ⟨rfl, _⟩ | ⟨rfl, _⟩ <;> rfl
  have hne4 : (r3 == 4) = false := by rcases HREST.out with ⟨rfl, _⟩ | ⟨rfl, _⟩ <;> rfl
  go_wp2_with fail
  refine (HIT.out _ (HRD.out _ B4.out)).mono ?_
  rintro e w5 ⟨A5, n5, c5, rfl, o5, hn5, hb5⟩
  simp only at o5
  replace x0 := Keeps.below hb5 _ _ x0
  replace x1 := Keeps.below hb5 _ _ x1
  replace x2 := Keeps.below hb5 _ _ x2
  have B5 := Lib.hid (B4.out.trans (hb5.mono B4.out.size))
  have O25 := Lib.hid (own_below O24.out hb5)
  have hl5 := own_len o5
  have HL5 := Lib.hid hl5
  have O5 := Lib.hid o5
  clear o5 hb5 O24 hl5
  go_wp2_with fail
  refine (HST.out _ (HRD.out _ B5.out)).mono ?_
  rintro e w6 ⟨A6, n6, c6, rfl, o6, hn6, hb6⟩
  simp only at o6
  replace x0 := Keeps.below hb6 _ _ x0
  replace x1 := Keeps.below hb6 _ _ x1
  replace x2 := Keeps.below hb6 _ _ x2
  have B6 := Lib.hid (B5.out.trans (hb6.mono B5.out.size))
  have O26 := Lib.hid (own_below O25.out hb6)
  have O56 := Lib.hid (own_below O5.out hb6)
  have hl6 := own_len o6
  rw [hTl] at hl6
  obtain rfl : m = n6 := hl6
  have O6 := Lib.hid o6
  clear o6 hb6 O25 O5
  go_wp2_with fail
  refine (likeInts_below _ _ _ _ _ _ _ _ _ (own_rd O56.out) (own_rd O6.out)).mono ?_
  rintro e w7 ⟨rfl, hb7⟩
  have hdt : decide (T = T) = true := by simp
  replace x0 := Keeps.below hb7 _ _ x0
  replace x1 := Keeps.below hb7 _ _ x1
  replace x2 := Keeps.below hb7 _ _ x2
  have B7 := Lib.hid (B6.out.trans (hb7.mono B6.out.size))
  have O27 := Lib.hid (own_below O26.out hb7)
  have O57 := Lib.hid (own_below O56.out hb7)
  have O67 := Lib.hid (own_below O6.out hb7)
  clear hb7 O26 O56 O6
  go_wp2_with fail
  refine (HPO.out _ _ _ _ (HRD.out _ B7.out) (own_rd O57.out)).mono ?_
  rintro e w8 ⟨rfl, hb8⟩
  replace x0 := Keeps.below hb8 _ _ x0
  replace x1 := Keeps.below hb8 _ _ x1
  replace x2 := Keeps.below hb8 _ _ x2
  have B8 := Lib.hid (B7.out.trans (hb8.mono B7.out.size))
  have O28 := Lib.hid (own_below O27.out hb8)
  have O58 := Lib.hid (own_below O57.out hb8)
  have O68 := Lib.hid (own_below O67.out hb8)
  clear hb8 O27 O57 O67
  obtain ⟨g6, lt, rfl, _, _, htg, hct, _⟩ := own_int_at O68.out ht
  have HTG := Lib.hid (tm_get htg)
  clear htg hTl
  rcases HREST.out with ⟨rfl, h5⟩ | ⟨rfl, cs, hfast⟩
  · obtain rfl : lt = -1 := by rw [← HTG.out]; exact h5
    clear h5
    go_wp2_with fail
    go_ret
    exact ⟨rfl, BB.out.trans (B8.out.mono BB.out.size)⟩
  · obtain rfl : lt = r2 := by rw [← HTG.out, ← HTT.out]; exact hfast.time
    have ec : cellsOnF W H xs (s : Int) r1 = (cs, 0) := by unfold cellsOnF; rw [hfast.sail]
    have et : routeTimeF W H xs (s : Int) r1 = (lt, 0) := by unfold routeTimeF; rw [hfast.sail]
    rw [ec] at HCE
    rw [et] at HTI
    have hpv := hfast.proved
    rw [HTT.out] at hpv
    rw [hpv] at HPR
    have hcl := hfast.len
    have HLAST := Lib.hid hfast.last
    have HCL := Lib.hid hcl
    clear ec et hpv hfast hcl
    go_wp2_with fail
    refine (HCE.out _ _ _ _ (HRD.out _ B8.out) (own_rd O28.out)).mono ?_
    rintro e w9 ⟨A9, n9, c9, rfl, o9, hn9, hb9⟩
    simp only at o9
    replace x0 := Keeps.below hb9 _ _ x0
    replace x1 := Keeps.below hb9 _ _ x1
    replace x2 := Keeps.below hb9 _ _ x2
    have B9 := Lib.hid (B8.out.trans (hb9.mono B8.out.size))
    have O29 := Lib.hid (own_below O28.out hb9)
    have O59 := Lib.hid (own_below O58.out hb9)
    replace hct := Keeps.below hb9 _ _ hct
    have hl9 := own_len o9
    have hl2 := own_len O29.out
    have hcl := HCL.out
    rw [hl9, hl2] at hcl
    obtain rfl : n9 = n2 + 1 := hcl
    have hlast := HLAST.out
    rw [hl2] at hlast
    obtain ⟨g9, y, rfl, _, _, hy, hcy, _⟩ := own_int_at o9 (k := n2) (by omega)
    rw [hlast] at hy
    obtain rfl : (tg : Int) = y := by injection hy
    clear o9 hb9 O28 O58 hl9 hl2 hlast hy HLAST HCL
    go_wp2_with fail
    refine (HTI.out _ _ _ _ (HRD.out _ B9.out) (own_rd O29.out)).mono ?_
    rintro e wa ⟨rfl, hba⟩
    replace x0 := Keeps.below hba _ _ x0
    replace x1 := Keeps.below hba _ _ x1
    replace x2 := Keeps.below hba _ _ x2
    have Ba := Lib.hid (B9.out.trans (hba.mono B9.out.size))
    have O2a := Lib.hid (own_below O29.out hba)
    have O5a := Lib.hid (own_below O59.out hba)
    replace hct := Keeps.below hba _ _ hct
    replace hcy := Keeps.below hba _ _ hcy
    clear hba O29 O59
    go_wp2_with fail
    refine (HPR.out _ _ _ _ _ _ _ (HRD.out _ Ba.out) (own_rd O2a.out) (own_rd O5a.out)).mono ?_
    rintro e wb ⟨rfl, hbb⟩
    have Bb := Lib.hid (Ba.out.trans (hbb.mono Ba.out.size))
    replace hct := Keeps.below hbb _ _ hct
    replace hcy := Keeps.below hbb _ _ hcy
    clear hbb x0 x1 x2
    go_wp2_with fail
    go_ret
    exact ⟨rfl, BB.out.trans (Bb.out.mono BB.out.size)⟩
end Go.Proofs.Ytpaamhkgokkgpaa

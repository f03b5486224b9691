/- The walk of FnPotential. -/
import Derived.Test.YtpaamhkgokkgpaaHf
import Derived.Test.YtpaamhkgokkgpaaHr
import Derived.Test.YtpaamhkgokkgpaaHs
import Derived.Test.YtpaamhkgokkgpaaGn
import Derived.Test.YtpaamhkgokkgpaaGt
import Derived.Test.YtpaamhkgokkgpaaWl
import Derived.Test.YtpaamhkgokkgpaaCo
namespace Go.Proofs.Ytpaamhkgokkgpaa
open Go.RowKit
set_option linter.unusedVariables false
set_option maxRecDepth 100000

set_option maxHeartbeats 4000000 in
theorem fnPotential_walk (a0 : Option Addr) (len0 cap0 : Nat) (z0 : List Int) (w : World) (v0 : IsRow .u8 w a0 len0 cap0 z0) :
    Calls Try.prog 13 #[.slice a0 len0 cap0] w fun e w' => e = .returned (.bool true) ∧ Below w.heap.size w w' := by
  have hle := v0.lenle
  by_cases hbig : 4096 < len0
  · have hd : decide (4096 < len0) = true := by simpa using hbig
    have HB := Lib.hid (big_any a0 len0 cap0 hle w)
    rw [hd] at HB
    clear hd v0
    go_enter Try.func13, Try.ntmps13
    go_wp2_with fail
    refine HB.out.mono ?_
    rintro e w' ⟨rfl, rfl⟩
    go_wp2_with fail
    go_ret
    exact ⟨rfl, Below.refl _ _⟩
  have hd : decide (4096 < len0) = false := by simpa using hbig
  have HB := Lib.hid (big_any a0 len0 cap0 hle w)
  rw [hd] at HB
  clear hd
  have hcode := code0_of v0 (by omega)
  generalize z0.take len0 = code at hcode
  clear v0
  have HD := Lib.hid (fun W hb => drawRouteP_any a0 len0 cap0 code w hcode W hb)
  clear hcode
  go_enter Try.func13, Try.ntmps13
  go_wp2_with fail
  refine HB.out.mono ?_
  rintro e w' ⟨rfl, rfl⟩
  go_wp2_with fail
  refine (HD.out _ (Below.refl _ _)).mono ?_
  rintro e w1 ⟨W, H, A1, m, c1, xs, fr, A2, k, c2, route, A3, k3, c3, L, rfl, hm, hk, hk3, hrd, hrr, hrl, hb1⟩
  have hlx := hrd.len_wind
  have hlL := hrl.len_int
  have hb2 : Below w1.heap.size w1 (w1.alloc (.cells #[.int .i64 W, .int .i64 H, .slice A1 m c1] 29)) := (Below.refl _ _).alloc (Nat.le_refl _) _
  have x0 : (w1.alloc (.cells #[.int .i64 W, .int .i64 H, .slice A1 m c1] 29)).cell? ⟨w1.heap.size, 0, none⟩ = some (.int .i64 W) := cell_top _ _ _ rfl rfl
  have x1 : (w1.alloc (.cells #[.int .i64 W, .int .i64 H, .slice A1 m c1] 29)).cell? ⟨w1.heap.size, 1, none⟩ = some (.int .i64 H) := cell_top _ _ _ rfl rfl
  have x2 : (w1.alloc (.cells #[.int .i64 W, .int .i64 H, .slice A1 m c1] 29)).cell? ⟨w1.heap.size, 2, none⟩ = some (.slice A1 m c1) := cell_top _ _ _ rfl rfl
  go_wp2_with fail
  obtain ⟨wv, hwv⟩ : ∃ x, x = w1.alloc (.cells #[.int .i64 W, .int .i64 H, .slice A1 m c1] 29) := ⟨_, rfl⟩
  rw [← hwv] at hb2 x0 x1 x2
  rw [← hwv]
  obtain ⟨bg, hbg⟩ : ∃ b, b = w1.heap.size := ⟨_, rfl⟩
  rw [← hbg] at x0 x1 x2
  try rw [← hbg]
  have BB := Lib.hid (hb1.trans (hb2.mono hb1.size))
  have HRD := Lib.hid (fun X (hb : Below wv.heap.size wv X) => (hrd.below hb2).below hb)
  have HRR := Lib.hid (fun X (hb : Below wv.heap.size wv X) => (hrr.below hb2).below hb)
  have HRL := Lib.hid (fun X (hb : Below wv.heap.size wv X) => (hrl.below hb2).below hb)
  clear hwv hbg hb1 hb2 hrd hrr hrl
  have HP1 := Lib.hid (fun X hr h2 => implPot_any W H A1 m c1 xs fr A3 k3 c3 L X hr h2)
  have HP2 := Lib.hid (fun X hr h2 => specPot_any W H A1 m c1 xs fr A3 k3 c3 L X hr h2)
  have HV1 := Lib.hid (fun X hr h2 h5 => implProved_any W H A1 m c1 xs fr A2 k c2 route A3 k3 c3 L X hr h2 h5)
  have HV2 := Lib.hid (fun X hr h2 h5 => specProved_any W H A1 m c1 xs fr A2 k c2 route A3 k3 c3 L X hr h2 h5)
  have HFT := Lib.hid (fun X hr => specFastT_any W H A1 m c1 xs fr X hr)
  have HTI := Lib.hid (fun X hr h2 => implTime_any W H A1 m c1 xs fr A2 k c2 route X hr h2)
  have HCE := Lib.hid (fun X hr h2 => specCells_any W H A1 m c1 xs fr A2 k c2 route X hr h2)
  unfold RetBI at HV1 HV2
  have hpp := fun h => proved_pot (route := route) (W := W) (H := H) (xs := xs) (fr := fr) (L := L) h
  have hpf := fun h => pot_facts (W := W) (H := H) (xs := xs) (fr := fr) (L := L) h
  have hpl := fun (s : Nat) (h : fr = s) (h2 : provedF W H xs fr route L = (true, 0)) => proved_last (W := W) (H := H) (xs := xs) (s := s) (route := route) (L := L) (by rw [← h]; exact h2)
  have HPP := Lib.hid hpp
  have HPF := Lib.hid hpf
  have HPL := Lib.hid hpl
  clear hpp hpf hpl
  generalize hpv : provedF W H xs fr route L = PV at *
  obtain ⟨pv, ok⟩ := PV
  have HPV := Lib.hid hpv
  clear hpv
  have B0 := Lib.hid (Below.refl wv.heap.size wv)
  generalize hpb : potB W H xs fr L = x at *
  have HPB := Lib.hid hpb
  clear hpb
  refine (HP1.out _ (HRD.out _ B0.out) (HRL.out _ B0.out)).mono ?_
  rintro e w2 ⟨rfl, hb⟩
  replace x0 := Keeps.below hb _ _ x0
  replace x1 := Keeps.below hb _ _ x1
  replace x2 := Keeps.below hb _ _ x2
  have B2 := Lib.hid (B0.out.trans (hb.mono B0.out.size))
  clear hb
  go_wp2_with fail
  refine (HP2.out _ (HRD.out _ B2.out) (HRL.out _ B2.out)).mono ?_
  rintro e w3 ⟨rfl, hb⟩
  replace x0 := Keeps.below hb _ _ x0
  replace x1 := Keeps.below hb _ _ x1
  replace x2 := Keeps.below hb _ _ x2
  have B3 := Lib.hid (B2.out.trans (hb.mono B2.out.size))
  clear hb
  go_wp2_with fail
  refine (HV1.out _ (HRD.out _ B3.out) (HRR.out _ B3.out) (HRL.out _ B3.out)).mono ?_
  rintro e w4 ⟨rfl, hb⟩
  replace x0 := Keeps.below hb _ _ x0
  replace x1 := Keeps.below hb _ _ x1
  replace x2 := Keeps.below hb _ _ x2
  have B4 := Lib.hid (B3.out.trans (hb.mono B3.out.size))
  clear hb
  go_wp2_with fail
  refine (HV2.out _ (HRD.out _ B4.out) (HRR.out _ B4.out) (HRL.out _ B4.out)).mono ?_
  rintro e w5 ⟨rfl, hb⟩
  replace x0 := Keeps.below hb _ _ x0
  replace x1 := Keeps.below hb _ _ x1
  replace x2 := Keeps.below hb _ _ x2
  have B5 := Lib.hid (B4.out.trans (hb.mono B4.out.size))
  clear hb
  go_wp2_with fail
  refine (HFT.out _ (HRD.out _ B5.out)).mono ?_
  rintro e w6 ⟨A5, n5, c5, rfl, o5, hn5, hb⟩
  replace x0 := Keeps.below hb _ _ x0
  replace x1 := Keeps.below hb _ _ x1
  replace x2 := Keeps.below hb _ _ x2
  have B6 := Lib.hid (B5.out.trans (hb.mono B5.out.size))
  have O5 := Lib.hid o5
  clear hb o5 HP1 HP2 HV1 HV2 HFT
  cases x with
  | false =>
    have hpv : pv = false := HPP.out rfl
    subst hpv
    by_cases hcd : (fastTF W H xs fr).2 = 0
    · have hcb : ((fastTF W H xs fr).2 != 0) = false := by simp [hcd]
      have hcz := hcd
      go_wp2_with fail
      clear hcd hcb
      go_loop [14] (fun s14 => s14 = .int .i64 0) (fun _ => 0)
      case atStart => rfl
      case round =>
        obtain rfl := hrel
        by_cases hok : ok = 0
        · subst hok
          go_wp2_with fail
          go_ret
          exact ⟨rfl, BB.out.trans (B6.out.mono BB.out.size)⟩
        · have hob : (ok != 0) = true := by simpa using hok
          go_wp2_with fail
          go_ret
          exact ⟨rfl, BB.out.trans (B6.out.mono BB.out.size)⟩
    · have hcb : ((fastTF W H xs fr).2 != 0) = true := by simpa using hcd
      go_wp2_with fail
      go_ret
      exact ⟨rfl, BB.out.trans (B6.out.mono BB.out.size)⟩
  | true =>
    obtain ⟨s, hfr, hs, hz, hg, hLl, hL0, hLc⟩ := HPF.out rfl
    have e1 : fastTF W H xs fr = (timesF W H xs s, 0) := by unfold fastTF; rw [if_pos hz, hfr, Int.toNat_natCast]
    have hTl := (times_ok hg hs).1.len
    have hTn := (times_ok hg hs).1.neg
    have HLE := Lib.hid (fun i hi hT => pot_le hg hs hL0 hLc (i := i) hi hT)
    have hcap := timesB_cap hg false hs
    rw [timesB_false hg hs] at hcap
    have HCAP := Lib.hid hcap
    have o5 := O5.out
    rw [e1] at o5
    dsimp only at o5
    replace O5 := Lib.hid o5
    clear o5
    have hPLs := HPL.out s hfr
    obtain ⟨cd, hcd⟩ : ∃ c, c = (fastTF W H xs fr).2 := ⟨_, rfl⟩
    have hcd0 : cd = 0 := by rw [hcd, e1]
    rw [← hcd]
    subst hcd0
    have hl5 := own_len O5.out
    rw [hTl, hlx] at hl5
    obtain rfl : m = n5 := hl5
    have hk3m : k3 = m := by omega
    obtain rfl : m = k3 := hk3m.symm
    rw [hlx] at HLE hTn HCAP
    have HTN := Lib.hid hTn
    have HXL := Lib.hid hlx
    have HPLS := Lib.hid hPLs
    generalize hT : timesF W H xs s = T at *
    have HTT := Lib.hid hT
    have hfs := Lib.hid hfr
    clear hcd e1 hz hg hLl hL0 hLc hTl hTn hcap hPLs hT hs hfr hlx hlL HPP HPF HPL
    go_wp2_with fail
    go_loopw [14] (fun s14 wr => ∃ i : Nat, i ≤ m ∧ s14 = .int .i64 i ∧ Drawn w6 wr) (fun s14 _ => m - (intOf s14).toNat)
    case atStart => exact ⟨0, Nat.zero_le _, rfl, Drawn.refl _⟩
    case round =>
      obtain ⟨i, hi, rfl, hq⟩ := hrel
      by_cases hlt : i < m
      · obtain ⟨g5, ti, rfl, _, _, hti, hct, _⟩ := own_int_at (hq.own O5.out) hlt
        obtain ⟨b, oo, li, rfl, hli, _, hcl⟩ := ((HRL.out _ B6.out).drawn hq).int hlt
        have htm := tm_get hti
        have hlm := tm_get hli
        by_cases ht0 : 0 ≤ ti
        · have hle := HLE.out i hlt (by rw [htm]; exact ht0)
          rw [htm, hlm] at hle
          obtain ⟨l0, l1⟩ := hle
          have hl0b : ¬ li < 0 := by omega
          have hl1b : ¬ ti < li := by omega
          clear hti hli htm hlm
          go_wp2_with fail
          go_quiet (fail)
          go_wp2_with fail
          go_roundw
          case rel => exact ⟨i + 1, by omega, by go_num, hq.step _⟩
          case measure => simp [intOf] <;> omega
        · obtain rfl : ti = -1 := by have := HTN.out i hlt (by rw [htm]; omega); rw [htm] at this; exact this
          clear hti hli htm hlm
          go_wp2_with fail
          go_quiet (fail)
          go_wp2_with fail
          go_roundw
          case rel => exact ⟨i + 1, by omega, by go_num, hq.step _⟩
          case measure => simp [intOf] <;> omega
      · obtain rfl : m = i := by omega
        have B7 := Lib.hid (B6.out.trans (hq.below.mono B6.out.size))
        have O57 := Lib.hid (hq.own O5.out)
        have z0 := Keeps.below hq.below _ _ x0
        have z1 := Keeps.below hq.below _ _ x1
        have z2 := Keeps.below hq.below _ _ x2
        clear hq O5 x0 x1 x2
        by_cases hok : ok = 0
        · subst hok
          cases pv with
          | false =>
            go_wp2_with fail
            go_ret
            exact ⟨rfl, BB.out.trans (B7.out.mono BB.out.size)⟩
          | true =>
            obtain ⟨cs, t, hsl, _, v, hv, hcl, hlast, htv, ht0⟩ := HPLS.out rfl
            rw [← hfs.out] at hsl
            have et : routeTimeF W H xs fr route = (t, 0) := by unfold routeTimeF; rw [hsl]
            have ec : cellsOnF W H xs fr route = (cs, 0) := by unfold cellsOnF; rw [hsl]
            rw [et] at HTI
            rw [ec] at HCE
            obtain ⟨g5, y, rfl, _, _, hy, hcy, _⟩ := own_int_at O57.out (k := v) (by have := HXL.out; omega)
            obtain rfl : y = t := by rw [← htv]; exact (tm_get hy).symm
            have HVM := Lib.hid (show v < m by have := HXL.out; omega)
            have HLAST := Lib.hid hlast
            have HCLN := Lib.hid hcl
            clear hsl et ec hv htv hy hlast hcl
            go_wp2_with fail
            refine (HTI.out _ (HRD.out _ B7.out) (HRR.out _ B7.out)).mono ?_
            rintro e w8 ⟨rfl, hb8⟩
            replace z0 := Keeps.below hb8 _ _ z0
            replace z1 := Keeps.below hb8 _ _ z1
            replace z2 := Keeps.below hb8 _ _ z2
            replace hcy := Keeps.below hb8 _ _ hcy
            have B8 := Lib.hid (B7.out.trans (hb8.mono B7.out.size))
            clear hb8
            go_wp2_with fail
            refine (HCE.out _ (HRD.out _ B8.out) (HRR.out _ B8.out)).mono ?_
            rintro e w9 ⟨A9, n9, c9, rfl, o9, hn9, hb9⟩
            simp only at o9
            replace hcy := Keeps.below hb9 _ _ hcy
            have hl9 := own_len o9
            have hcln := HCLN.out
            rw [hl9] at hcln
            obtain ⟨n', rfl⟩ : ∃ q, n9 = q + 1 := ⟨n9 - 1, by omega⟩
            have hlast := HLAST.out
            rw [hl9] at hlast
            obtain ⟨g9, z, rfl, _, _, hz, hcz, _⟩ := own_int_at o9 (k := n') (by omega)
            rw [show n' + 1 - 1 = n' by omega, hz] at hlast
            obtain rfl : z = (v : Int) := by injection hlast
            have B9 := Lib.hid (B8.out.trans (hb9.mono B8.out.size))
            have hvm : v < m := HVM.out
            clear o9 hb9 hl9 hlast hz z0 z1 z2
            go_wp2_with fail
            go_ret
            exact ⟨rfl, BB.out.trans (B9.out.mono BB.out.size)⟩
        · have hob : (ok != 0) = true := by simpa using hok
          go_wp2_with fail
          go_ret
          exact ⟨rfl, BB.out.trans (B7.out.mono BB.out.size)⟩
end Go.Proofs.Ytpaamhkgokkgpaa

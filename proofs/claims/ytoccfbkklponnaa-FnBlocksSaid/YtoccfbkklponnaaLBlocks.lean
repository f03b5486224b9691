/- The walk of FnBlocks. -/
import Derived.Test.YtoccfbkklponnaaWh
import Derived.Test.YtoccfbkklponnaaWg
import Derived.Test.YtoccfbkklponnaaWl
import Derived.Test.YtoccfbkklponnaaCo
namespace Go.Proofs.Ytoccfbkklponnaa
open Go.RowKit
set_option linter.unusedVariables false
set_option maxRecDepth 100000

theorem fnBlocks_walk (a0 : Option Addr) (len0 cap0 : Nat) (z0 : List Int) (w : World) (v0 : IsRow .u8 w a0 len0 cap0 z0) :
    Calls Try.prog 11 #[.slice a0 len0 cap0] w fun e w' => e = .returned (.bool true) ∧ Below w.heap.size w w' := by
  have hle := v0.lenle
  by_cases hbig : 4096 < len0
  · have hd : decide (4096 < len0) = true := by simpa using hbig
    have HB := Lib.hid (big_any a0 len0 cap0 hle w)
    rw [hd] at HB
    clear hd v0
    go_enter Try.func11, Try.ntmps11
    go_wp2_with fail
    refine HB.out.mono ?_
    rintro e w' ⟨rfl, rfl⟩
    go_wp2_with fail
    go_ret
    exact ⟨rfl, Below.refl _ _⟩
  have hd : decide (4096 < len0) = false := by simpa using hbig
  have HB := Lib.hid (big_any a0 len0 cap0 hle w)
  rw [hd] at HB
  clear hd
  have hcode := code0_of v0 (by omega)
  generalize z0.take len0 = code at hcode
  clear v0
  have hdraw := fun W hb => blockD_any w a0 len0 cap0 code hcode W hb
  generalize hxk : blockD code = xk at *
  clear hxk
  obtain ⟨xs, ss⟩ := xk
  have HD := Lib.hid hdraw; clear hdraw
  go_enter Try.func11, Try.ntmps11
  go_wp2_with fail
  refine HB.out.mono ?_
  rintro e w' ⟨rfl, rfl⟩
  go_wp2_with fail
  refine (HD.out _ (Below.refl _ _)).mono ?_
  rintro e w1 ⟨A1, n1, c1, B1, m1, d1, rfl, o1, p1, hn1, hm1, hb1⟩
  simp only at o1 p1
  have BB1 : Below w.heap.size w w1 := hb1
  go_wp2_with fail
  refine (implBlock_any _ _ _ _ _ _ _ _ _ (own_rd o1) (own_rd p1)).mono ?_
  rintro e w2 ⟨A2, n2, c2, rfl, o2, hn2, hb2⟩
  have BB2 : Below w.heap.size w w2 := BB1.trans (hb2.mono BB1.size)
  clear o1 p1
  go_wp2_with fail
  refine (HD.out _ BB2).mono ?_
  rintro e w3 ⟨A3, n3, c3, B3, m3, d3, rfl, o3, p3, hn3, hm3, hb3⟩
  simp only at o3 p3
  have BB3 : Below w.heap.size w w3 := BB2.trans (hb3.mono BB2.size)
  replace o2 := own_below o2 hb3
  go_wp2_with fail
  refine (specBlock_any _ _ _ _ _ _ _ _ _ (own_rd o3) (own_rd p3)).mono ?_
  rintro e w4 ⟨A4, n4, c4, rfl, o4, hn4, hb4⟩
  have BB4 : Below w.heap.size w w4 := BB3.trans (hb4.mono BB3.size)
  replace o2 := own_below o2 hb4
  replace o3 := own_below o3 hb4
  replace p3 := own_below p3 hb4
  go_wp2_with fail
  refine (likeInts_below _ _ _ _ _ _ _ _ _ (own_rd o2) (own_rd o4)).mono ?_
  rintro e w5 ⟨rfl, hb5⟩
  have BB5 : Below w.heap.size w w5 := BB4.trans (hb5.mono BB4.size)
  replace o3 := own_below o3 hb5
  replace o4 := own_below o4 hb5
  replace p3 := own_below p3 hb5
  clear o2
  have hl3 : xs.length = n3 := own_len o3
  have hlm3 : ss.length = m3 := own_len p3
  by_cases hz : (blockF xs ss).2 = 0
  · have ht := blocks_of hz
    rw [hz]
    generalize (blockF xs ss).1 = want at *
    clear hz
    have hl4 : want.length = n4 := own_len o4
    have es : sizesF want (ss.length : Int) = (ss, 0) := by unfold sizesF; rw [if_pos ht.code, Int.toNat_natCast, ht.cnt]
    have HSZ := Lib.hid (fun W hr => implSizes_any A4 n4 c4 want (ss.length : Int) W hr)
    rw [es, hlm3] at HSZ
    have HT := Lib.hid ht; have HL3 := Lib.hid hl3; have HL4 := Lib.hid hl4
    have h16 := ht.n16
    have hn16 : n3 ≤ 16 := by omega
    clear es ht hl4 hl3 h16
    go_wp2_with fail
    refine (HSZ.out _ (own_rd o4)).mono ?_
    rintro e w6 ⟨A6, n6, c6, rfl, o6, hn6, hb6⟩
    simp only at o6
    have O6 := Lib.hid o6; have O4 := Lib.hid (own_below o4 hb6); have O3 := Lib.hid (own_below o3 hb6); have P3 := Lib.hid (own_below p3 hb6)
    have BB := Lib.hid (BB5.trans (hb6.mono BB5.size))
    clear o6 o4 o3 p3 BB1 BB2 BB3 BB4 BB5 hb1 hb2 hb3 hb4 hb5 hb6
    go_wp2_with fail
    go_loopw [11] (fun i wr => ∃ j : Nat, 1 ≤ j ∧ j ≤ 16 ∧ i = .int .i64 j ∧ Drawn w6 wr) (fun i _ => 16 - (intOf i).toNat)
    case atStart => exact ⟨1, by omega, by omega, rfl, Drawn.refl _⟩
    case round =>
      obtain ⟨j, hj1, hj16, rfl, hq⟩ := hrel
      by_cases hlt : j < n3
      · obtain ⟨i, rfl⟩ : ∃ i, j = i + 1 := ⟨j - 1, by omega⟩
        obtain ⟨b, o, x, rfl, hx, _, hcx⟩ := ((own_rd O3.out).drawn hq).int (show i < n3 by omega)
        obtain ⟨b', o', y, hb', hy, _, hcy⟩ := ((own_rd O3.out).drawn hq).int hlt
        obtain ⟨rfl, rfl⟩ : b = b' ∧ o = o' := by injection hb' with hb'; injection hb' with e1 e2; exact ⟨e1, e2⟩
        obtain ⟨p, rfl, hp⟩ := HT.out.mem i x hx
        obtain ⟨q, rfl, hqn⟩ := HT.out.mem (i + 1) y hy
        obtain ⟨u, v, hu, hv, huv⟩ := HT.out.mono i p q hx hy
        have hpn : p < n4 := by rw [← HL4.out]; exact hp
        have hqn' : q < n4 := by rw [← HL4.out]; exact hqn
        obtain ⟨b4, o4, u', rfl, hu', _, hcu⟩ := ((own_rd O4.out).drawn hq).int hpn
        obtain ⟨b4', o4', v', hb4, hv', _, hcv⟩ := ((own_rd O4.out).drawn hq).int hqn'
        obtain ⟨rfl, rfl⟩ : b4 = b4' ∧ o4 = o4' := by injection hb4 with hb4; injection hb4 with e1 e2; exact ⟨e1, e2⟩
        obtain rfl : u' = u := by rw [Int.toNat_natCast, hu'] at hu; injection hu
        obtain rfl : v' = v := by rw [Int.toNat_natCast, hv'] at hv; injection hv
        clear hx hy hu hv hu' hv' hb' hb4 hp hqn
        have hi1 : IntKind.i64.wrap (((i + 1 : Nat) : Int) - 1) = (i : Int) := by rw [IntWalk.i64_in _ (by omega)]; omega
        have hdd : decide (v' < u') = false := by simp; omega
        go_wp2_with fail
        go_quiet (fail)
        go_wp2_with fail
        clear hi1 hdd
        go_roundw
        case rel => exact ⟨i + 2, by omega, by omega, by go_num, hq.step _⟩
        case measure => simp [intOf]; omega
      · have B8 := BB.out.trans (hq.below.mono BB.out.size)
        have R6 := (own_rd O6.out).drawn hq
        have RP := (own_rd P3.out).drawn hq
        have hdd : decide ((j : Int) < n3) = false := by simp; omega
        go_wp2_with fail
        refine (likeInts_below _ _ _ _ _ _ _ _ _ R6 RP).mono ?_
        rintro e w9 ⟨rfl, hb9⟩
        go_wp2_with fail
        go_ret
        exact ⟨by simp, B8.trans (hb9.mono B8.size)⟩
  · generalize blockF xs ss = r at *
    obtain ⟨want, code'⟩ := r
    simp only at hz
    have hne : (code' != 0) = true := by simp [hz]
    clear hz
    go_wp2_with fail
    go_ret
    exact ⟨rfl, BB5⟩
end Go.Proofs.Ytoccfbkklponnaa

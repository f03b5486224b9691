/- The walk of FnWinners. -/
import Derived.Test.YtfkllgnenbbccaaMy
import Derived.Test.YtfkllgnenbbccaaWx2
import Derived.Test.YtfkllgnenbbccaaWv8
import Derived.Test.YtfkllgnenbbccaaCo
namespace Go.Proofs.Ytfkllgnenbbccaa
open Go.RowKit
set_option linter.unusedVariables false
set_option maxRecDepth 100000

theorem win_facts {net : List Int} {factor boat : Int} {o : Bool} {be wo one : Int} (hc : canWinF net factor boat = (o, 0)) (hr : rankRangeF net factor boat = (be, wo, one)) :
    canWinF net factor 0 = (true, 0) ∧ o = (be == 1) ∧ be ≤ wo ∧ wo ≤ net.length := by
  unfold canWinF at hc
  by_cases hz : medalCodeF net factor boat = 0
  · rw [if_pos hz] at hc
    unfold rankRangeF at hr
    rw [if_pos hz] at hr
    obtain ⟨hm, f1, f3, b0, b1⟩ := medalCode_ok hz
    obtain ⟨hl1, hl5⟩ := medalB_len hm
    injection hc with hc _
    injection hr with h1 hr; injection hr with h2 h3
    have hb := range_bd (factor := factor) hl1 hl5 b0 b1
    have hz0 : medalCodeF net factor 0 = 0 := by
      unfold medalCodeF
      rw [if_pos hm, if_pos]
      rw [Bool.and_eq_true, withinB_iff, withinB_iff]; omega
    refine ⟨?_, by rw [← hc, h1], by omega, by omega⟩
    unfold canWinF
    rw [if_pos hz0, first_wins hm f1]; rfl
  · rw [if_neg hz] at hc
    injection hc with _ hc
    exact absurd hc hz
theorem fnWinners_walk (a0 : Option Addr) (len0 cap0 : Nat) (z0 : List Int) (w : World) (v0 : IsRow .u8 w a0 len0 cap0 z0) :
    Calls Try.prog 11 #[.slice a0 len0 cap0] w fun e w' => e = .returned (.bool true) ∧ Below w.heap.size w w' := by
  have hle := v0.lenle
  by_cases hbig : 4096 < len0
  · have hd : decide (4096 < len0) = true := by simpa using hbig
    have HB := Lib.hid (big_any a0 len0 cap0 hle w)
    rw [hd] at HB
    clear hd v0
    go_enter Try.func11, Try.ntmps11
    go_wp2_with fail
    refine HB.out.mono ?_
    rintro e w' ⟨rfl, rfl⟩
    go_wp2_with fail
    go_ret
    exact ⟨rfl, Below.refl _ _⟩
  have hd : decide (4096 < len0) = false := by simpa using hbig
  have HB := Lib.hid (big_any a0 len0 cap0 hle w)
  rw [hd] at HB
  clear hd
  have hcode := code0_of v0 (by omega)
  generalize z0.take len0 = code at hcode
  clear v0
  have HD := Lib.hid (fun W hb => drawCanWin_any a0 len0 cap0 code w hcode W hb)
  clear hcode
  unfold RetMW at HD
  generalize medalD code = D at *
  obtain ⟨net, factor, places, boat⟩ := D
  simp only at HD
  obtain ⟨C, hC⟩ : ∃ C, C = canWinF net factor boat := ⟨_, rfl⟩
  obtain ⟨o, cd⟩ := C
  obtain ⟨R, hR⟩ : ∃ R, R = rankRangeF net factor boat := ⟨_, rfl⟩
  obtain ⟨be, wo, one⟩ := R
  have HC1 := Lib.hid (fun A n c X hr => implCanWin_any A n c net factor boat X hr)
  have HC2 := Lib.hid (fun A n c X hr => specCanWin_any A n c net factor boat X hr)
  have HC3 := Lib.hid (fun A n c X hr => implCanWin_any A n c net factor 0 X hr)
  have HR1 := Lib.hid (fun A n c X hr => implRankRange_any A n c net factor boat X hr)
  have HR2 := Lib.hid (fun A n c X hr => specRankRange_any A n c net factor boat X hr)
  rw [← hC] at HC1 HC2
  rw [← hR] at HR1 HR2
  have HF := Lib.hid (fun (h : cd = 0) => win_facts (net := net) (factor := factor) (boat := boat) (o := o) (be := be) (wo := wo) (one := one) (by rw [← hC, h]) hR.symm)
  unfold RetBI at HC1 HC2 HC3
  unfold Ret3 at HR1 HR2
  clear hC hR
  go_enter Try.func11, Try.ntmps11
  go_wp2_with fail
  refine HB.out.mono ?_
  rintro e w' ⟨rfl, rfl⟩
  go_wp2_with fail
  refine (HD.out _ (Below.refl _ _)).mono ?_
  rintro e w1 ⟨A1, n1, c1, rfl, o1, hn1, hb1⟩
  have B1 := Lib.hid hb1
  have O1 := Lib.hid o1
  clear hb1 o1
  go_wp2_with fail
  refine (HC1.out _ _ _ _ (own_rd O1.out)).mono ?_
  rintro e w2 ⟨rfl, hb2⟩
  have B2 := Lib.hid (B1.out.trans (hb2.mono B1.out.size))
  have O2 := Lib.hid (own_below O1.out hb2)
  clear hb2
  go_wp2_with fail
  refine (HR1.out _ _ _ _ (own_rd O2.out)).mono ?_
  rintro e w3 ⟨rfl, hb3⟩
  have B3 := Lib.hid (B2.out.trans (hb3.mono B2.out.size))
  clear hb3 O1 O2
  go_wp2_with fail
  refine (HD.out _ B3.out).mono ?_
  rintro e w4 ⟨A4, n4, c4, rfl, o4, hn4, hb4⟩
  have hl4 := own_len o4
  have B4 := Lib.hid (B3.out.trans (hb4.mono B3.out.size))
  have O4 := Lib.hid o4
  clear hb4 o4
  go_wp2_with fail
  refine (HC2.out _ _ _ _ (own_rd O4.out)).mono ?_
  rintro e w5 ⟨rfl, hb5⟩
  have B5 := Lib.hid (B4.out.trans (hb5.mono B4.out.size))
  have O5 := Lib.hid (own_below O4.out hb5)
  clear hb5
  go_wp2_with fail
  refine (HR2.out _ _ _ _ (own_rd O5.out)).mono ?_
  rintro e w6 ⟨rfl, hb6⟩
  have B6 := Lib.hid (B5.out.trans (hb6.mono B5.out.size))
  have O6 := Lib.hid (own_below O5.out hb6)
  clear hb6
  by_cases hz : cd = 0
  · obtain ⟨e0, e1, e2, e3⟩ := HF.out hz
    subst hz
    rw [e0] at HC3
    rw [hl4] at e3
    subst e1
    clear e0 HF hl4
    go_wp2_with fail
    refine (HC3.out _ _ _ _ (own_rd O6.out)).mono ?_
    rintro e w7 ⟨rfl, hb7⟩
    have B7 := Lib.hid (B6.out.trans (hb7.mono B6.out.size))
    clear hb7
    go_wp2_with fail
    all_goals
      go_ret
      exact ⟨rfl, B7.out⟩
  · have hzb : (cd != 0) = true := by simpa using hz
    go_wp2_with fail
    go_ret
    exact ⟨rfl, B6.out⟩
end Go.Proofs.Ytfkllgnenbbccaa

/- The walk of FnFinals. -/
import Derived.Test.YtfkllgnenbbccaaMy
import Derived.Test.YtfkllgnenbbccaaWx2
import Derived.Test.YtfkllgnenbbccaaWv8
import Derived.Test.YtfkllgnenbbccaaWt3
import Derived.Test.YtfkllgnenbbccaaWq
import Derived.Test.YtfkllgnenbbccaaWl
import Derived.Test.YtfkllgnenbbccaaCo
namespace Go.Proofs.Ytfkllgnenbbccaa
open Go.RowKit
set_option linter.unusedVariables false
set_option maxRecDepth 100000

/-- What holds of the boats in their final order. -/
structure FinOk (net places : List Int) (factor : Int) (want pts : List Int) : Prop where
  ptsEq : finalPointsF net factor places = (pts, 0)
  plen : pts.length = net.length
  wlen : want.length = net.length
  boat : ∀ (i : Nat) (b : Int), want[i]? = some b → ∃ be wo, 0 ≤ b ∧ b < net.length ∧ finalRankF net factor places b = ((i : Int) + 1, 0) ∧ rankRangeF net factor b = (be, wo, 0) ∧ be ≤ (i : Int) + 1 ∧ (i : Int) + 1 ≤ wo
  next : ∀ (i : Nat) (b c : Int), want[i]? = some b → want[i + 1]? = some c → pts.getD b.toNat 0 ≤ pts.getD c.toNat 0
theorem fin_ok {net places : List Int} {factor : Int} {want : List Int} (h : finalOrderF net factor places = (want, 0)) : ∃ pts, FinOk net places factor want pts := by
  unfold finalOrderF at h
  by_cases hz : placesCodeF net factor places 0 = 0
  · rw [if_pos hz] at h
    injection h with h _
    subst h
    obtain ⟨hm, hl, hp⟩ := placesCode_ok hz
    obtain ⟨hmb, f1, f3, b0, b1⟩ := medalCode_ok hm
    obtain ⟨hl1, hl5⟩ := medalB_len hmb
    have hmem := perm_mem hl5 hl hp
    refine ⟨ptsF factor net places, by unfold finalPointsF; rw [if_pos hz], ptsF_len hl.symm, orderF_len _ _ _, ?_, ?_⟩
    · intro i b hb
      obtain ⟨q0, q1, q2, _⟩ := order_facts hl hp hb
      have hmz : medalCodeF net factor b = 0 := by
        unfold medalCodeF
        rw [if_pos hmb, if_pos]
        rw [Bool.and_eq_true, withinB_iff, withinB_iff]; omega
      have hpz : placesCodeF net factor places b = 0 := by
        unfold placesCodeF
        rw [if_pos hmz, if_pos]
        unfold placesB
        rw [Bool.and_eq_true, beq_iff_eq]; exact ⟨hl, hp⟩
      have hr := range_in (factor := factor) hl1 hl5 q1 hmem
      rw [q2] at hr
      exact ⟨_, _, q0, q1, by unfold finalRankF; rw [if_pos hpz, q2], by unfold rankRangeF; rw [if_pos hmz], hr.1, hr.2⟩
    · intro i b c hb hc
      exact (order_facts hl hp hb).2.2.2 c hc
  · rw [if_neg hz] at h
    injection h with _ h
    exact absurd h hz
set_option maxHeartbeats 4000000 in
theorem fnFinals_walk (a0 : Option Addr) (len0 cap0 : Nat) (z0 : List Int) (w : World) (v0 : IsRow .u8 w a0 len0 cap0 z0) :
    Calls Try.prog 12 #[.slice a0 len0 cap0] w fun e w' => e = .returned (.bool true) ∧ Below w.heap.size w w' := by
  have hle := v0.lenle
  by_cases hbig : 4096 < len0
  · have hd : decide (4096 < len0) = true := by simpa using hbig
    have HB := Lib.hid (big_any a0 len0 cap0 hle w)
    rw [hd] at HB
    clear hd v0
    go_enter Try.func12, Try.ntmps12
    go_wp2_with fail
    refine HB.out.mono ?_
    rintro e w' ⟨rfl, rfl⟩
    go_wp2_with fail
    go_ret
    exact ⟨rfl, Below.refl _ _⟩
  have hd : decide (4096 < len0) = false := by simpa using hbig
  have HB := Lib.hid (big_any a0 len0 cap0 hle w)
  rw [hd] at HB
  clear hd
  have hcode := code0_of v0 (by omega)
  generalize z0.take len0 = code at hcode
  clear v0
  have HD := Lib.hid (fun W hb => drawFinalOrder_any a0 len0 cap0 code w hcode W hb)
  clear hcode
  unfold RetMF at HD
  generalize medalD code = D at *
  obtain ⟨net, factor, places, boat⟩ := D
  simp only at HD
  obtain ⟨F, hF⟩ : ∃ F, F = finalOrderF net factor places := ⟨_, rfl⟩
  obtain ⟨want, cd⟩ := F
  have HO1 := Lib.hid (fun A n c A' n' c' X hr h' => implFinalOrder_any A n c net factor A' n' c' places X hr h')
  have HO2 := Lib.hid (fun A n c A' n' c' X hr h' => specFinalOrder_any A n c net factor A' n' c' places X hr h')
  rw [← hF] at HO1 HO2
  have HM1 := Lib.hid (fun A n c X hr => implIsMedal_any A n c net X hr)
  have HM2 := Lib.hid (fun A n c X hr => specIsMedal_any A n c net X hr)
  have HP := Lib.hid (fun A n c A' n' c' X hr h' => implFinalPoints_any A n c net factor A' n' c' places X hr h')
  have HR := Lib.hid (fun A n c A' n' c' b X hr h' => implFinalRank_any A n c net factor A' n' c' places b X hr h')
  have HG := Lib.hid (fun A n c b X hr => implRankRange_any A n c net factor b X hr)
  unfold Ret2 at HR
  unfold Ret3 at HG
  have HF := Lib.hid (fun (h : cd = 0) => fin_ok (net := net) (places := places) (factor := factor) (want := want) (by rw [← hF, h]))
  clear hF
  go_enter Try.func12, Try.ntmps12
  go_wp2_with fail
  refine HB.out.mono ?_
  rintro e w' ⟨rfl, rfl⟩
  go_wp2_with fail
  refine (HD.out _ (Below.refl _ _)).mono ?_
  rintro e w1 ⟨A1, n1, c1, A2, n2, c2, rfl, o1, o2, hn1, hn2, hb1⟩
  have B1 := Lib.hid hb1
  have O1 := Lib.hid (And.intro o1 o2)
  clear hb1 o1 o2
  go_wp2_with fail
  refine (HO1.out _ _ _ _ _ _ _ (own_rd O1.out.1) (own_rd O1.out.2)).mono ?_
  rintro e w2 ⟨A3, n3, c3, rfl, o3, hn3, hb2⟩
  simp only at o3
  simp only
  have B2 := Lib.hid (B1.out.trans (hb2.mono B1.out.size))
  have O3 := Lib.hid o3
  clear hb2 o3 O1
  go_wp2_with fail
  refine (HD.out _ B2.out).mono ?_
  rintro e w3 ⟨A4, n4, c4, A5, n5, c5, rfl, o4, o5, hn4, hn5, hb3⟩
  have B3 := Lib.hid (B2.out.trans (hb3.mono B2.out.size))
  have O33 := Lib.hid (own_below O3.out hb3)
  have hl4 := own_len o4
  have O4 := Lib.hid o4
  have O5 := Lib.hid o5
  clear hb3 o4 o5 O3
  go_wp2_with fail
  refine (HO2.out _ _ _ _ _ _ _ (own_rd O4.out) (own_rd O5.out)).mono ?_
  rintro e w4 ⟨A6, n6, c6, rfl, o6, hn6, hb4⟩
  simp only at o6
  simp only
  have hl6 := own_len o6
  have B4 := Lib.hid (B3.out.trans (hb4.mono B3.out.size))
  have O34 := Lib.hid (own_below O33.out hb4)
  have O44 := Lib.hid (own_below O4.out hb4)
  have O54 := Lib.hid (own_below O5.out hb4)
  have O6 := Lib.hid o6
  clear hb4 o6 O33 O4 O5
  go_wp2_with fail
  refine (likeInts_below _ _ _ _ _ _ _ _ _ (own_rd O34.out) (own_rd O6.out)).mono ?_
  rintro e w5 ⟨rfl, hb5⟩
  have hdt : decide (want = want) = true := by simp
  have B5 := Lib.hid (B4.out.trans (hb5.mono B4.out.size))
  have O45 := Lib.hid (own_below O44.out hb5)
  have O55 := Lib.hid (own_below O54.out hb5)
  have O65 := Lib.hid (own_below O6.out hb5)
  clear hb5 O34 O44 O54 O6
  go_wp2_with fail
  refine (HM1.out _ _ _ _ (own_rd O45.out)).mono ?_
  rintro e w6 ⟨rfl, hb6⟩
  have B6 := Lib.hid (B5.out.trans (hb6.mono B5.out.size))
  have O46 := Lib.hid (own_below O45.out hb6)
  have O56 := Lib.hid (own_below O55.out hb6)
  have O66 := Lib.hid (own_below O65.out hb6)
  clear hb6 O45 O55 O65
  go_wp2_with fail
  refine (HM2.out _ _ _ _ (own_rd O46.out)).mono ?_
  rintro e w7 ⟨rfl, hb7⟩
  have B7 := Lib.hid (B6.out.trans (hb7.mono B6.out.size))
  have O47 := Lib.hid (own_below O46.out hb7)
  have O57 := Lib.hid (own_below O56.out hb7)
  have O67 := Lib.hid (own_below O66.out hb7)
  clear hb7 O46 O56 O66
  by_cases hz : cd = 0
  · obtain ⟨pts, hfin⟩ := HF.out hz
    subst hz
    rw [hfin.ptsEq] at HP
    have HFIN := Lib.hid hfin
    have hpl := hfin.plen
    have hwl := hfin.wlen
    rw [hl4] at hpl hwl
    rw [hl6] at hwl
    obtain rfl : n6 = n4 := hwl
    have HPLN := Lib.hid hpl
    clear hfin hpl HF hl6
    go_wp2_with fail
    refine (HP.out _ _ _ _ _ _ _ (own_rd O47.out) (own_rd O57.out)).mono ?_
    rintro e w8 ⟨A8, n8, c8, rfl, o8, hn8, hb8⟩
    simp only at o8
    simp only
    have hl8 := own_len o8
    rw [HPLN.out] at hl8
    obtain rfl : n6 = n8 := hl8
    have B8 := Lib.hid (B7.out.trans (hb8.mono B7.out.size))
    have O48 := Lib.hid (own_below O47.out hb8)
    have O58 := Lib.hid (own_below O57.out hb8)
    have O68 := Lib.hid (own_below O67.out hb8)
    have O8 := Lib.hid o8
    have HL4 := Lib.hid hl4
    clear hb8 o8 O47 O57 O67 hl4
    go_wp2_with fail
    go_loopw [12] (fun s12 wr => ∃ i : Nat, i ≤ n6 ∧ s12 = .int .i64 i ∧ Below w8.heap.size w8 wr) (fun s12 _ => n6 - (intOf s12).toNat)
    case atStart => exact ⟨0, Nat.zero_le _, rfl, Below.refl _ _⟩
    case round =>
      obtain ⟨i, hi, rfl, hb⟩ := hrel
      obtain ⟨wo, rfl⟩ : ∃ wo : World, wo = wr := ⟨_, rfl⟩
      have BO := Lib.hid hb
      clear hb
      by_cases hlt : i < n6
      · obtain ⟨g6, b, rfl, _, _, hwb, hcb, _⟩ := own_int_at (own_below O68.out BO.out) hlt
        obtain ⟨be, wor, b0, b1, hfr, hrr, r0, r1⟩ := HFIN.out.boat i b hwb
        have HR1 := Lib.hid (fun A n c A' n' c' X hr h' => HR.out A n c A' n' c' b X hr h')
        have HG1 := Lib.hid (fun A n c X hr => HG.out A n c b X hr)
        rw [hfr] at HR1
        rw [hrr] at HG1
        obtain ⟨bn, rfl⟩ := int_up b b0
        have hbn : bn < n6 := by have := HL4.out; omega
        have hr0 : ¬ ((i : Int) + 1 < be) := by omega
        have hr1 : ¬ (wor < (i : Int) + 1) := by omega
        have HWB := Lib.hid hwb
        clear hfr hrr hwb b1
        go_wp2_with fail
        refine (HR1.out _ _ _ _ _ _ _ (own_rd (own_below O48.out BO.out)) (own_rd (own_below O58.out BO.out))).mono ?_
        rintro e wa ⟨rfl, hba⟩
        simp only
        have BA := Lib.hid (BO.out.trans (hba.mono BO.out.size))
        replace hcb := Keeps.below hba _ _ hcb
        clear hba
        go_wp2_with fail
        refine (HG1.out _ _ _ _ (own_rd (own_below O48.out BA.out))).mono ?_
        rintro e wb ⟨rfl, hbb⟩
        simp only
        have BBB := Lib.hid (BA.out.trans (hbb.mono BA.out.size))
        replace hcb := Keeps.below hbb _ _ hcb
        clear hbb
        by_cases hi0 : i = 0
        · subst hi0
          go_wp2_with fail
          go_quiet (fail)
          go_wp2_with fail
          go_roundw
          case rel => exact ⟨0 + 1, by omega, by go_num, below_drewN BBB.out _⟩
          case measure => simp [intOf] <;> omega
        · obtain ⟨j, rfl⟩ : ∃ j, i = j + 1 := ⟨i - 1, by omega⟩
          have hcj : ((j + 1 : Nat) : Int) = (j : Int) + 1 := by omega
          obtain ⟨g6', a, e6, _, _, hwa, hca, _⟩ := own_int_at (own_below O68.out BBB.out) (k := j) (by omega)
          obtain rfl : g6 = g6' := by injection e6 with e6; injection e6
          obtain ⟨_, _, a0, a1, _⟩ := HFIN.out.boat j a hwa
          have hnx := HFIN.out.next j a bn hwa HWB.out
          obtain ⟨an, rfl⟩ := int_up a a0
          have han : an < n6 := by have := HL4.out; omega
          obtain ⟨g8, x, rfl, _, _, hx, hcx, _⟩ := own_int_at (own_below O8.out BBB.out) han
          obtain ⟨g8', y, e8, _, _, hy, hcy, _⟩ := own_int_at (own_below O8.out BBB.out) hbn
          obtain rfl : g8 = g8' := by injection e8 with e8; injection e8
          rw [Int.toNat_natCast, Int.toNat_natCast, List.getD_eq_getElem?_getD, List.getD_eq_getElem?_getD, hx, hy] at hnx
          have hxy : ¬ y < x := by simpa using hnx
          have hwr : IntKind.i64.wrap ((j : Int) + 1 - 1) = (j : Int) := by rw [IntWalk.i64_in _ (by omega)]; omega
          rw [hcj] at hr0 hr1
          try rw [hcj]
          clear hx hy hnx hwa e6 e8 a1
          go_wp2_with fail
          go_quiet (fail)
          go_wp2_with fail
          go_roundw
          case rel => exact ⟨j + 1 + 1, by omega, by go_num, below_drewN BBB.out _⟩
          case measure => simp [intOf] <;> omega
      · obtain rfl : n6 = i := by omega
        have BF := Lib.hid (B8.out.trans (BO.out.mono B8.out.size))
        go_wp2_with fail
        go_ret
        exact ⟨rfl, BF.out⟩
  · have hzb : (cd != 0) = true := by simpa using hz
    go_wp2_with fail
    go_ret
    exact ⟨rfl, B7.out⟩
end Go.Proofs.Ytfkllgnenbbccaa

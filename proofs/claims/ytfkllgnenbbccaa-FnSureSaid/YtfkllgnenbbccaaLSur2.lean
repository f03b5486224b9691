/- The walk of FnSure. -/
import Derived.Test.YtfkllgnenbbccaaMy
import Derived.Test.YtfkllgnenbbccaaWx4
import Derived.Test.YtfkllgnenbbccaaWv8
import Derived.Test.YtfkllgnenbbccaaWu3
import Derived.Test.YtfkllgnenbbccaaWl
import Derived.Test.YtfkllgnenbbccaaCo
namespace Go.Proofs.Ytfkllgnenbbccaa
open Go.RowKit
set_option linter.unusedVariables false
set_option maxRecDepth 100000

theorem full_len {st net places fl : List Int} {factor : Int} (h : fullF st net factor places = (fl, 0)) : fl.length = st.length := by
  unfold fullF at h
  split at h
  · split at h
    · injection h with _ h; cases h
    · rename_i hn
      split at h
      · injection h with h _
        rw [← h, List.length_append, List.length_map, orderF_len, List.length_drop]
        omega
      · injection h with _ h; cases h
  · rename_i hz
    injection h with _ h
    exact absurd h hz
theorem sure_facts {net : List Int} {factor boat rank p : Int} (h : surePlaceF net factor boat rank = (p, 0)) :
    ∃ be wo, rankRangeF net factor boat = (be, wo, 0) ∧ (p = net.length ↔ wo ≤ rank) := by
  unfold surePlaceF at h
  by_cases hz : sureCodeF net factor boat rank = 0
  · rw [if_pos hz] at h
    injection h with h _
    unfold sureCodeF at hz
    by_cases hm : medalCodeF net factor boat = 0
    · rw [if_pos hm] at hz
      obtain ⟨hmb, f1, f3, b0, b1⟩ := medalCode_ok hm
      obtain ⟨hl1, hl5⟩ := medalB_len hmb
      have hw : withinB rank 1 net.length = true := by
        cases hw : withinB rank 1 net.length with
        | true => rfl
        | false => rw [hw] at hz; simp at hz
      obtain ⟨r1, r2⟩ := withinB_iff.1 hw
      refine ⟨_, _, by unfold rankRangeF; rw [if_pos hm], ?_⟩
      rw [← h, sure_same hl1 hl5 b0 b1 r1]
      have hall := sureG_all (fun k => (rangeS net factor boat k k).2) rank net.length 0
      rw [Int.zero_add] at hall
      rw [hall, worstF_le r1]
      constructor
      · intro hq p hp _
        have hb := place_bd (boat := boat) hl1 hl5 b1 hp
        have := hq (p.getD boat.toNat 0) (by omega) (by omega)
        exact (worstS_le hl5 r1).1 this p hp rfl
      · intro hp q q0 q1
        refine (worstS_le hl5 r1).2 (fun p hpm he => hp p hpm (by omega))
    · rw [if_neg hm] at hz
      exact absurd hz hm
  · rw [if_neg hz] at h
    injection h with _ h
    exact absurd h hz
set_option maxHeartbeats 4000000 in
theorem fnSure_walk (a0 : Option Addr) (len0 cap0 : Nat) (z0 : List Int) (w : World) (v0 : IsRow .u8 w a0 len0 cap0 z0) :
    Calls Try.prog 13 #[.slice a0 len0 cap0] w fun e w' => e = .returned (.bool true) ∧ Below w.heap.size w w' := by
  have hle := v0.lenle
  by_cases hbig : 4096 < len0
  · have hd : decide (4096 < len0) = true := by simpa using hbig
    have HB := Lib.hid (big_any a0 len0 cap0 hle w)
    rw [hd] at HB
    clear hd v0
    go_enter Try.func13, Try.ntmps13
    go_wp2_with fail
    refine HB.out.mono ?_
    rintro e w' ⟨rfl, rfl⟩
    go_wp2_with fail
    go_ret
    exact ⟨rfl, Below.refl _ _⟩
  have hd : decide (4096 < len0) = false := by simpa using hbig
  have HB := Lib.hid (big_any a0 len0 cap0 hle w)
  rw [hd] at HB
  clear hd
  have hcode := code0_of v0 (by omega)
  generalize z0.take len0 = code at hcode
  have hcadr := v0.addr
  clear v0
  have HD := Lib.hid (fun W hb => drawSure_any a0 len0 cap0 code w hcode (by omega) hcadr W hb)
  have HE := Lib.hid (fun W hb => drawFull_any a0 len0 cap0 code w hcode (by omega) hcadr W hb)
  clear hcode hcadr
  unfold RetM5 at HD
  unfold RetM6 at HE
  generalize rankD code (medalD code).1.length = rk at *
  generalize stD code (medalD code).1.length = st at *
  generalize medalD code = D at *
  obtain ⟨net, factor, places, boat⟩ := D
  simp only at HD HE
  obtain ⟨S, hS⟩ : ∃ S, S = surePlaceF net factor boat rk := ⟨_, rfl⟩
  obtain ⟨p, cd⟩ := S
  obtain ⟨F, hF⟩ : ∃ F, F = fullF st net factor places := ⟨_, rfl⟩
  obtain ⟨fl, one⟩ := F
  have HS1 := Lib.hid (fun A n c X hr => implSure_any A n c net factor boat rk X hr)
  have HS2 := Lib.hid (fun A n c X hr => specSure_any A n c net factor boat rk X hr)
  have HG := Lib.hid (fun A n c X hr => implRankRange_any A n c net factor boat X hr)
  have HF1 := Lib.hid (fun A0 n0 c0 A n c A' n' c' X h0 hcap h h' => implFull_any A0 n0 c0 st A n c net factor A' n' c' places X h0 hcap h h')
  have HF2 := Lib.hid (fun A0 n0 c0 A n c A' n' c' X h0 hcap h h' => specFull_any A0 n0 c0 st A n c net factor A' n' c' places X h0 hcap h h')
  rw [← hS] at HS1 HS2
  rw [← hF] at HF1 HF2
  unfold Ret2 at HS1 HS2
  unfold Ret3 at HG
  have HFL := Lib.hid (fun (h : one = 0) => full_len (st := st) (net := net) (places := places) (fl := fl) (factor := factor) (by rw [← hF, h]))
  have HSF := Lib.hid (fun (h : cd = 0) => sure_facts (net := net) (factor := factor) (boat := boat) (rank := rk) (p := p) (by rw [← hS, h]))
  clear hS hF
  go_enter Try.func13, Try.ntmps13
  go_wp2_with fail
  refine HB.out.mono ?_
  rintro e w' ⟨rfl, rfl⟩
  go_wp2_with fail
  refine (HD.out _ (Below.refl _ _)).mono ?_
  rintro e w1 ⟨A1, n1, c1, rfl, o1, hn1, hb1⟩
  have B1 := Lib.hid hb1
  have O1 := Lib.hid o1
  clear hb1 o1
  go_wp2_with fail
  refine (HS1.out _ _ _ _ (own_rd O1.out)).mono ?_
  rintro e w2 ⟨rfl, hb2⟩
  have B2 := Lib.hid (B1.out.trans (hb2.mono B1.out.size))
  clear hb2 O1
  simp only
  go_wp2_with fail
  refine (HD.out _ B2.out).mono ?_
  rintro e w3 ⟨A3, n3, c3, rfl, o3, hn3, hb3⟩
  have hl3 := own_len o3
  have B3 := Lib.hid (B2.out.trans (hb3.mono B2.out.size))
  have O3 := Lib.hid o3
  clear hb3 o3
  go_wp2_with fail
  refine (HS2.out _ _ _ _ (own_rd O3.out)).mono ?_
  rintro e w4 ⟨rfl, hb4⟩
  have B4 := Lib.hid (B3.out.trans (hb4.mono B3.out.size))
  have O34 := Lib.hid (own_below O3.out hb4)
  clear hb4 O3
  simp only
  go_wp2_with fail
  refine (HE.out _ B4.out).mono ?_
  rintro e w5 ⟨A5, n5, c5, A6, n6, c6, A7, n7, c7, rfl, o5, hc5, hn5, o6, o7, _, _, hb5⟩
  have B5 := Lib.hid (B4.out.trans (hb5.mono B4.out.size))
  have O35 := Lib.hid (own_below O34.out hb5)
  have O5 := Lib.hid (And.intro o5 (And.intro o6 o7))
  clear hb5 o5 o6 o7 O34
  go_wp2_with fail
  refine (HF1.out _ _ _ _ _ _ _ _ _ _ (own_rd O5.out.1) hc5 (own_rd O5.out.2.1) (own_rd O5.out.2.2)).mono ?_
  rintro e w6 ⟨A8, n8, c8, rfl, o8, hn8, hb6⟩
  simp only at o8
  simp only
  have hl8 := own_len o8
  have B6 := Lib.hid (B5.out.trans (hb6.mono B5.out.size))
  have O36 := Lib.hid (own_below O35.out hb6)
  have O8 := Lib.hid o8
  clear hb6 o8 O35 O5
  go_wp2_with fail
  refine (HE.out _ B6.out).mono ?_
  rintro e w7 ⟨A9, n9, c9, A10, n10, c10, A11, n11, c11, rfl, o9, hc9, hn9, o10, o11, _, _, hb7⟩
  have hl9 := own_len o9
  have B7 := Lib.hid (B6.out.trans (hb7.mono B6.out.size))
  have O37 := Lib.hid (own_below O36.out hb7)
  have O87 := Lib.hid (own_below O8.out hb7)
  have O9 := Lib.hid (And.intro o9 (And.intro o10 o11))
  clear hb7 o9 o10 o11 O36 O8
  go_wp2_with fail
  refine (HF2.out _ _ _ _ _ _ _ _ _ _ (own_rd O9.out.1) hc9 (own_rd O9.out.2.1) (own_rd O9.out.2.2)).mono ?_
  rintro e w8 ⟨A12, n12, c12, rfl, o12, hn12, hb8⟩
  simp only at o12
  simp only
  have B8 := Lib.hid (B7.out.trans (hb8.mono B7.out.size))
  have O38 := Lib.hid (own_below O37.out hb8)
  have O88 := Lib.hid (own_below O87.out hb8)
  have O12 := Lib.hid o12
  clear hb8 o12 O37 O87 O9
  go_wp2_with fail
  refine (likeInts_below _ _ _ _ _ _ _ _ _ (own_rd O88.out) (own_rd O12.out)).mono ?_
  rintro e w9 ⟨rfl, hb9⟩
  have hdt : decide (fl = fl) = true := by simp
  have B9 := Lib.hid (B8.out.trans (hb9.mono B8.out.size))
  have O39 := Lib.hid (own_below O38.out hb9)
  clear hb9 O38 O88 O12
  have hlen : one = 0 → n8 = n9 := fun h => by have := HFL.out h; omega
  have HLEN := Lib.hid hlen
  have HL3 := Lib.hid hl3
  clear hlen hl8 hl9 hl3
  by_cases hz : cd = 0
  · obtain ⟨be, wo, hr, hiff⟩ := HSF.out hz
    subst hz
    rw [hr] at HG
    rw [HL3.out] at hiff
    have HIFF := Lib.hid hiff
    clear hr hiff HSF
    by_cases ho : one = 0
    · obtain rfl := HLEN.out ho
      subst ho
      go_wp2_with fail
      refine (HG.out _ _ _ _ (own_rd O39.out)).mono ?_
      rintro e wa ⟨rfl, hba⟩
      have BA := Lib.hid (B9.out.trans (hba.mono B9.out.size))
      clear hba
      simp only
      have hbb : (p == (n3 : Int)) = decide (wo ≤ rk) := by
        rw [Bool.eq_iff_iff]
        simp only [beq_iff_eq, decide_eq_true_eq]
        exact HIFF.out
      go_wp2_with fail
      go_ret
      exact ⟨by simp, BA.out⟩
    · have hob : (one == 0) = false := by simpa using ho
      go_wp2_with fail
      refine (HG.out _ _ _ _ (own_rd O39.out)).mono ?_
      rintro e wa ⟨rfl, hba⟩
      have BA := Lib.hid (B9.out.trans (hba.mono B9.out.size))
      clear hba
      simp only
      have hbb : (p == (n3 : Int)) = decide (wo ≤ rk) := by
        rw [Bool.eq_iff_iff]
        simp only [beq_iff_eq, decide_eq_true_eq]
        exact HIFF.out
      go_wp2_with fail
      go_ret
      exact ⟨by simp, BA.out⟩
  · have hzb : (cd != 0) = true := by simpa using hz
    by_cases ho : one = 0
    · obtain rfl := HLEN.out ho
      subst ho
      go_wp2_with fail
      go_ret
      exact ⟨rfl, B9.out⟩
    · have hob : (one == 0) = false := by simpa using ho
      go_wp2_with fail
      go_ret
      exact ⟨rfl, B9.out⟩
end Go.Proofs.Ytfkllgnenbbccaa

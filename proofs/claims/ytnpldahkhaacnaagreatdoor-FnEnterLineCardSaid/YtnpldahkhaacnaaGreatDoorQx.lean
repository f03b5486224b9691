/- Walks: a time read by the program. -/
import Derived.Test.YtnpldahkhaacnaaGreatDoorZmd
import Derived.Test.YtnpldahkhaacnaaGreatDoorZma
namespace Go.Proofs.YtnpldahkhaacnaaGreatDoor
open Go.RowKit Go.Sort
set_option linter.unusedVariables false
set_option maxRecDepth 100000

theorem atoi_any (s : ByteArray) (hs : s.size ≤ 2097152) (w : World) (he : ErrV w) :
    Calls Tryz.prog 98 #[.string s] w fun e w' => ((∃ v, e = .returned (.tuple #[.int .i64 v, .nilIface]) ∧ Lib.atoiAll s.data.toList = .ok v) ∨ (∃ v N, e = .returned (.tuple #[.int .i64 v, .iface (Tryz.laysC172_ren.t 168) (.pointer (some ⟨N, 0, none⟩))]) ∧ ∀ u, Lib.atoiAll s.data.toList ≠ .ok u)) ∧ Below w.heap.size w w' := by
  obtain ⟨⟨te, pe, hE1⟩, te2, pe2, hE2⟩ := he
  rcases hq : Lib.atoiAll s.data.toList with v | _ | _
  · refine (Any.strconv_Atoi_ok Tryz.laysC172 s (by omega) v hq w).mono ?_
    rintro e w1 ⟨rfl, hw⟩
    exact ⟨.inl ⟨v, rfl, rfl⟩, bytes_below _ _ _ hw⟩
  · refine (Any.strconv_Atoi_syntax Tryz.laysC172 s (by omega) hq _ w hE1 (.inr ⟨te, pe, rfl⟩)).mono ?_
    rintro e w1 ⟨N, rfl, _, _, hb⟩
    exact ⟨.inr ⟨_, N, rfl, by intro u h; cases h⟩, hb⟩
  · refine (Any.strconv_Atoi_range Tryz.laysC172 s (by omega) hq _ w hE2 (.inr ⟨te2, pe2, rfl⟩)).mono ?_
    rintro e w1 ⟨N, rfl, _, _, hb⟩
    exact ⟨.inr ⟨_, N, rfl, by intro u h; cases h⟩, hb⟩
theorem imp_facts {L : List UInt8} (t0 : Nat) (h0 : t0 ≤ 1000000000) (e : L = timeL t0) :
    numF (Lib.cut L [58]).1 = (((t0 / 60000 : Nat) : Int), true) ∧ (Lib.cut L [58]).2.1.length = 6 ∧ Lib.atoiAll ((Lib.cut L [58]).2.1.take 2) = .ok ((t0 / 1000 % 60 : Nat) : Int) ∧ Lib.atoiAll ((Lib.cut L [58]).2.1.drop 3) = .ok ((t0 % 1000 : Nat) : Int) := by
  rw [e, cut_time]
  refine ⟨numF_dec (by omega), by simp [lastGo_len], ?_, ?_⟩
  · show Lib.atoiAll ((lastGo 2 (t0 / 1000 % 60) [] ++ 46 :: lastGo 3 t0 []).take 2) = _
    rw [take_app (by rw [lastGo_len]; rfl)]
    exact atoi_two _ (by omega)
  · show Lib.atoiAll ((lastGo 2 (t0 / 1000 % 60) [] ++ 46 :: lastGo 3 t0 []).drop 3) = _
    have e2 : lastGo 2 (t0 / 1000 % 60) [] ++ 46 :: lastGo 3 t0 [] = (lastGo 2 (t0 / 1000 % 60) [] ++ [46]) ++ lastGo 3 t0 [] := by simp
    rw [e2, drop_app (by simp [lastGo_len])]
    exact atoi_three t0
theorem cut_le (L : List UInt8) : (Lib.cut L [58]).1.length ≤ L.length ∧ (Lib.cut L [58]).2.1.length ≤ L.length := by
  unfold Lib.cut
  split
  · simp only [List.length_take, List.length_drop]
    omega
  · simp
set_option maxHeartbeats 4000000 in
theorem implReadTime_any (s : ByteArray) (hs : s.size ≤ 2097152) (w : World) (HL : ∀ w', Below w.heap.size w w' → Libs w') :
    Calls Tryz.prog 69 #[.string s] w (RetRT w s.data.toList) := by
  obtain ⟨mx, hmx⟩ := (HL w (Below.refl _ _)).max
  have hsz := Lib.size_eq s
  have HC := Tryz.strings_Cut s ⟨#[58]⟩ mx w (by omega) hmx
  have HF := fun t0 h0 e => imp_facts (L := s.data.toList) t0 h0 e
  have hle := cut_le s.data.toList
  have hC2 : Lib.cut s.data.toList (ByteArray.mk #[58]).data.toList = Lib.cut s.data.toList [58] := rfl
  rw [hC2] at HC
  obtain ⟨L, hLL⟩ : ∃ L, L = s.data.toList := ⟨_, rfl⟩
  rw [← hLL] at HC HF hle hsz
  generalize Lib.cut L [58] = C at *
  obtain ⟨M, R, fb⟩ := C
  simp only at HC HF hle
  replace HC := Lib.hid (show Calls Tryz.prog _ #[.string s, .string ⟨#[58]⟩] w (fun e w' => e = .returned (.tuple #[.string (str M), .string (str R), .bool fb]) ∧ ∃ n, w' = w.drewN n) from HC)
  have hM : (str M).size ≤ 2097152 := by rw [str_size]; omega
  have HN := Lib.hid (fun w' (hb : Below w.heap.size w w') => number_any' (str M) hM w' (HL w' hb).pow (HL w' hb).err (fun w2 h2 => (HL w2 (hb.trans (h2.mono hb.size))).pow))
  rw [str_list] at HN
  have HE := Lib.hid (fun (Z : ByteArray) (hZ : Z.size ≤ 2097152) w' (hb : Below w.heap.size w w') => atoi_any Z hZ w' (HL w' hb).err)
  have HT := Lib.hid (fun t w' (hb : Below w.heap.size w w') => implTimeT_any t w' (fun w2 h2 => (HL w2 (hb.trans (h2.mono hb.size))).pow))
  have HLE := Lib.hid hLL
  have HLS := Lib.hid (show str L = s from by rw [hLL, str_data])
  have HFF := Lib.hid HF
  obtain ⟨zr, hzr⟩ : ∃ zr, zr = R.length := ⟨_, rfl⟩
  have HRS := Lib.hid (show (str R).size = zr from by rw [str_size, hzr])
  have HZR := Lib.hid hzr
  have HLEN := Lib.hid (show R.length ≤ L.length from hle.2)
  have HRT := Lib.hid (show (str R).extract 0 2 = str (R.take 2) ∨ zr < 2 from by
    by_cases h : zr < 2
    · exact .inr h
    · exact .inl (by rw [extract_str _ _ _ (by rw [str_size]; omega), str_list]; rfl))
  have HRD := Lib.hid (show (str R).extract 3 zr = str (R.drop 3) from by rw [hzr, extract_str _ _ _ (by rw [str_size]; exact Nat.le_refl _), str_list, List.take_of_length_le (by rw [List.length_drop]; exact Nat.le_refl _)])
  have hzR : zr ≤ 2097152 := by omega
  clear HL hmx hsz hle hC2 hM hLL HF hzr
  generalize hnf : numF M = nf at *
  obtain ⟨m, ok⟩ := nf
  simp only at HN
  have HX := Lib.hid (within_any m 0 1000000000)
  cases ok with
  | false =>
    have HR := Lib.hid (show RTP L 0 false from rtp_none (by intro t0 h0 e; have := (HFF.out t0 h0 e).1; injection this with _ h2; cases h2))
    go_enter Tryz.func69, Tryz.ntmps69
    go_wp2_with fail
    refine HC.out.mono ?_
    rintro e w1 ⟨rfl, n, rfl⟩
    have HB1 := Lib.hid (below_drewN (Below.refl w.heap.size w) n)
    go_wp2_with fail
    refine (HN.out _ HB1.out).mono ?_
    rintro e w2 ⟨rfl, hb⟩
    have HB2 := Lib.hid (HB1.out.trans (hb.mono HB1.out.size))
    clear hb
    go_wp2_with fail
    go_ret2
    exact ⟨0, false, rfl, by rw [← HLE.out]; exact HR.out, HB2.out⟩
  | true =>
    cases hwi : withinB m 0 1000000000 with
    | false =>
      rw [hwi] at HX
      have HR := Lib.hid (show RTP L 0 false from rtp_none (by
        intro t0 h0 e
        have h1 := (HFF.out t0 h0 e).1
        injection h1 with h1 h2
        rw [h1] at hwi
        exact absurd hwi (by rw [withinB_iff.2 ⟨by omega, by omega⟩]; simp)))
      clear hwi
      go_enter Tryz.func69, Tryz.ntmps69
      go_wp2_with fail
      refine HC.out.mono ?_
      rintro e w1 ⟨rfl, n, rfl⟩
      have HB1 := Lib.hid (below_drewN (Below.refl w.heap.size w) n)
      go_wp2_with fail
      refine (HN.out _ HB1.out).mono ?_
      rintro e w2 ⟨rfl, hb⟩
      have HB2 := Lib.hid (HB1.out.trans (hb.mono HB1.out.size))
      clear hb
      go_wp2_with fail
      refine (HX.out _).mono ?_
      rintro e w3 ⟨rfl, rfl⟩
      go_wp2_with fail
      go_ret2
      exact ⟨0, false, rfl, by rw [← HLE.out]; exact HR.out, HB2.out⟩
    | true =>
      rw [hwi] at HX
      have hmb := withinB_iff.1 hwi
      clear hwi
      obtain ⟨mn, rfl⟩ := int_up m hmb.1
      have hmn : mn ≤ 1000000000 := by omega
      clear hmb
      by_cases h6 : zr = 6
      · subst h6
        have HLNE := Lib.hid (show L ≠ [] from by intro h; have h1 := HLEN.out; have h2 := HZR.out; rw [h, List.length_nil] at h1; omega)
        have hr2 : (str R).extract 0 2 = str (R.take 2) := by
          rcases HRT.out with h | h
          · exact h
          · omega
        have HR2 := Lib.hid hr2
        have HA1 := Lib.hid (HE.out (str (R.take 2)) (by rw [str_size, List.length_take]; omega))
        have HA2 := Lib.hid (HE.out (str (R.drop 3)) (by rw [str_size, List.length_drop, ← HZR.out]; omega))
        rw [str_list] at HA1 HA2
        have hSR : (str R).size = 6 := HRS.out
        clear hr2 HE HRT
        generalize str R = RS at *
        go_enter Tryz.func69, Tryz.ntmps69
        go_wp2_with fail
        refine HC.out.mono ?_
        rintro e w1 ⟨rfl, n, rfl⟩
        have HB1 := Lib.hid (below_drewN (Below.refl w.heap.size w) n)
        go_wp2_with fail
        refine (HN.out _ HB1.out).mono ?_
        rintro e w2 ⟨rfl, hb⟩
        have HB2 := Lib.hid (HB1.out.trans (hb.mono HB1.out.size))
        clear hb
        go_wp2_with fail
        refine (HX.out _).mono ?_
        rintro e w3 ⟨rfl, rfl⟩
        go_wp2_with fail
        rw [HR2.out]
        refine (HA1.out _ HB2.out).mono ?_
        rintro e w4 ⟨hor, hb⟩
        have HB4 := Lib.hid (HB2.out.trans (hb.mono HB2.out.size))
        clear hb HA1 HC HN HX
        rcases hor with ⟨v1, rfl, ha1⟩ | ⟨v1, N1, rfl, ha1⟩
        · have HQ1 := Lib.hid ha1
          clear ha1
          go_wp2_with fail
          rw [HRD.out]
          refine (HA2.out _ HB4.out).mono ?_
          rintro e w5 ⟨hor, hb⟩
          have HB5 := Lib.hid (HB4.out.trans (hb.mono HB4.out.size))
          clear hb HA2
          rcases hor with ⟨v2, rfl, ha2⟩ | ⟨v2, N2, rfl, ha2⟩
          · have HQ2 := Lib.hid ha2
            clear ha2
            go_wp2_with fail
            have HE := Lib.hid (show ∀ T, T = wrap64 (wrap64 ((mn : Int) * 60000 + wrap64 (v1 * 1000)) + v2) → ∀ b, b = decide (timeT T = L) → ∀ t', (b = true → t' = T) → RTP L t' b from by
              intro T hT b hb t' ht'
              refine ⟨?_, fun h => by rw [ht' h]; exact timeT_at HLNE.out (by rw [hb] at h; simpa using h)⟩
              intro t0 h0 e
              obtain ⟨q1, _, q3, q4⟩ := HFF.out t0 h0 e
              injection q1 with q1 _
              rw [HQ1.out] at q3
              rw [HQ2.out] at q4
              injection q3 with q3
              injection q4 with q4
              have e1 : wrap64 (v1 * 1000) = v1 * 1000 := IntWalk.wrap64_in _ (by omega)
              have e2 : wrap64 ((mn : Int) * 60000 + v1 * 1000) = (mn : Int) * 60000 + v1 * 1000 := IntWalk.wrap64_in _ (by omega)
              have hT0 : T = t0 := by
                rw [hT, e1, e2, IntWalk.wrap64_in _ (by omega)]
                omega
              have hTL : timeT T = L := by
                rw [hT0, e]
                unfold timeT
                rw [if_pos (withinB_iff.2 (by omega))]
                rfl
              have hbt : b = true := by rw [hb, hTL]; simp
              exact ⟨(ht' hbt).trans hT0, hbt⟩)
            have HE2 := Lib.hid (HE.out _ rfl)
            clear HE
            generalize wrap64 (wrap64 ((mn : Int) * 60000 + wrap64 (v1 * 1000)) + v2) = T at *
            refine (HT.out _ _ HB5.out).mono ?_
            rintro e w6 ⟨rfl, hb⟩
            have HB6 := Lib.hid (HB5.out.trans (hb.mono HB5.out.size))
            clear hb HT HFF HB5 HB4 HB2 HB1
            by_cases hq : timeT T = L
            · have HR := Lib.hid (HE2.out true (by rw [hq]; simp) T (fun _ => rfl))
              have hst : str (timeT T) = s := by rw [hq, HLS.out]
              rw [hst]
              clear hq hst HE2
              go_wp2_with fail
              go_ret2
              exact ⟨T, true, rfl, by rw [← HLE.out]; exact HR.out, HB6.out⟩
            · have HR := Lib.hid (HE2.out false (by simp [hq]) 0 (fun h => by cases h))
              have hst : str (timeT T) ≠ s := fun e => hq (str_inj (e.trans HLS.out.symm))
              have hnl := ne_list hst
              generalize str (timeT T) = Z at *
              clear hq hst HE2
              go_wp2_with fail
              go_ret2
              exact ⟨0, false, rfl, by rw [← HLE.out]; exact HR.out, HB6.out⟩
          · have HR := Lib.hid (show RTP L 0 false from rtp_none (by intro t0 h0 e; exact absurd (HFF.out t0 h0 e).2.2.2 (ha2 _)))
            clear ha2
            go_wp2_with fail
            go_ret2
            exact ⟨0, false, rfl, by rw [← HLE.out]; exact HR.out, HB5.out⟩
        · have HR := Lib.hid (show RTP L 0 false from rtp_none (by intro t0 h0 e; exact absurd (HFF.out t0 h0 e).2.2.1 (ha1 _)))
          clear ha1
          go_wp2_with fail
          rw [HRD.out]
          refine (HA2.out _ HB4.out).mono ?_
          rintro e w5 ⟨hor, hb⟩
          have HB5 := Lib.hid (HB4.out.trans (hb.mono HB4.out.size))
          clear hb HA2
          rcases hor with ⟨v2, rfl, ha2⟩ | ⟨v2, N2, rfl, ha2⟩
          · clear ha2
            go_wp2_with fail
            go_ret2
            exact ⟨0, false, rfl, by rw [← HLE.out]; exact HR.out, HB5.out⟩
          · clear ha2
            go_wp2_with fail
            go_ret2
            exact ⟨0, false, rfl, by rw [← HLE.out]; exact HR.out, HB5.out⟩
      · have HR := Lib.hid (show RTP L 0 false from rtp_none (by
          intro t0 h0 e
          have h1 := (HFF.out t0 h0 e).2.1
          have := HZR.out
          omega))
        have hne : ((zr : Int) != 6) = true := by simp; omega
        have hSR : (str R).size = zr := HRS.out
        clear HRT HRD
        generalize str R = RS at *
        go_enter Tryz.func69, Tryz.ntmps69
        go_wp2_with fail
        refine HC.out.mono ?_
        rintro e w1 ⟨rfl, n, rfl⟩
        have HB1 := Lib.hid (below_drewN (Below.refl w.heap.size w) n)
        go_wp2_with fail
        refine (HN.out _ HB1.out).mono ?_
        rintro e w2 ⟨rfl, hb⟩
        have HB2 := Lib.hid (HB1.out.trans (hb.mono HB1.out.size))
        clear hb
        go_wp2_with fail
        refine (HX.out _).mono ?_
        rintro e w3 ⟨rfl, rfl⟩
        go_wp2_with fail
        go_ret2
        exact ⟨0, false, rfl, by rw [← HLE.out]; exact HR.out, HB2.out⟩
end Go.Proofs.YtnpldahkhaacnaaGreatDoor

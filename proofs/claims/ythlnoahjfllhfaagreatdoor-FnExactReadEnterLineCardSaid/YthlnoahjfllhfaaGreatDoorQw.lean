/- Walks: the text of any time, both sides; a time read by the reference. -/
import Derived.Test.YthlnoahjfllhfaaGreatDoorQv
import Derived.Test.YthlnoahjfllhfaaGreatDoorQs
import Derived.BigRegion
import Derived.Lib.QuietBelow
namespace Go.Proofs.YthlnoahjfllhfaaGreatDoor
open Go.RowKit Go.Sort
set_option linter.unusedVariables false
set_option maxRecDepth 100000

def timeT (t : Int) : List UInt8 := if withinB t 0 1000000000 = true then timeL t.toNat else []
theorem specTimeT_any (t : Int) (w : World) :
    Calls Tryz.prog 30 #[.int .i64 t] w fun e w' => e = .returned (.string (str (timeT t))) ∧ Below w.heap.size w w' := by
  have HW := Lib.hid (l01In_any t 0 1000000000 w)
  cases h : withinB t 0 1000000000 with
  | false =>
    rw [h] at HW
    have HS := Lib.hid (show timeT t = [] from by unfold timeT; rw [h]; rfl)
    clear h
    go_enter Tryz.func30, Tryz.ntmps30
    go_wp2_with fail
    refine HW.out.mono ?_
    rintro e w' ⟨rfl, rfl⟩
    go_wp2_with fail
    go_ret
    exact ⟨by rw [HS.out]; rfl, Below.refl _ _⟩
  | true =>
    rw [h] at HW
    have hb := withinB_iff.1 h
    obtain ⟨n, rfl⟩ := int_up t hb.1
    have HS := Lib.hid (show timeT (n : Int) = timeL n from by unfold timeT; rw [h]; rfl)
    have HN := Lib.hid (fun w' => specTime_any n (by omega) w')
    clear h hb
    go_enter Tryz.func30, Tryz.ntmps30
    go_wp2_with fail
    refine HW.out.mono ?_
    rintro e w' ⟨rfl, rfl⟩
    go_wp2_with fail
    refine (HN.out _).mono ?_
    rintro e w1 ⟨rfl, hb⟩
    have HB1 := Lib.hid hb
    clear hb
    go_wp2_with fail
    go_ret
    exact ⟨by rw [HS.out]; rfl, HB1.out⟩
theorem implTimeT_any (t : Int) (w : World) (ht : ∀ w', Below w.heap.size w w' → Pow w') :
    Calls Tryz.prog 38 #[.int .i64 t] w fun e w' => e = .returned (.string (str (timeT t))) ∧ Below w.heap.size w w' := by
  cases h : withinB t 0 1000000000 with
  | false =>
    have HW := Lib.hid (isTime_any t w)
    rw [h] at HW
    have HS := Lib.hid (show timeT t = [] from by unfold timeT; rw [h]; rfl)
    clear h ht
    go_enter Tryz.func38, Tryz.ntmps38
    go_wp2_with fail
    refine HW.out.mono ?_
    rintro e w' ⟨rfl, rfl⟩
    go_wp2_with fail
    go_ret
    exact ⟨by rw [HS.out]; rfl, Below.refl _ _⟩
  | true =>
    have hb := withinB_iff.1 h
    obtain ⟨n, rfl⟩ := int_up t hb.1
    rw [show timeT (n : Int) = timeL n from by unfold timeT; rw [h]; rfl]
    exact implTime_any n (by omega) w ht
/-- A time read: something, which is the time where the text is one's. -/
def RetRT (w : World) (L : List UInt8) (e : Ending) (w' : World) : Prop :=
  ∃ t ok, e = .returned (.tuple #[.int .i64 t, .bool ok]) ∧ RTP L t ok ∧ Below w.heap.size w w'
theorem timeT_at {L : List UInt8} {t : Int} (hL : L ≠ []) (h : timeT t = L) : 0 ≤ t ∧ t ≤ 1000000000 ∧ L = timeL t.toNat := by
  unfold timeT at h
  split at h
  · rename_i hw
    have := withinB_iff.1 hw
    exact ⟨this.1, this.2, h.symm⟩
  · exact absurd h.symm hL
theorem rtp_end {L : List UInt8} (hL : L ≠ []) {D : List UInt8} {m t : Int} {ok : Bool} (hD : D = (L.drop (L.length - 6)).take 2 ++ L.drop (L.length - 3)) (hv : valF (L.take (L.length - 7)) = (m, ok)) (ht : t = wrap64 (wrap64 (60000 * m) + (valL 0 D : Int))) {b : Bool} (hb : b = (ok && decide (timeT t = L))) {t' : Int} (ht' : b = true → t' = t) : RTP L t' b := by
  refine ⟨?_, fun h => ?_⟩
  rotate_left
  · have h2 := h
    rw [hb] at h2
    simp only [Bool.and_eq_true, decide_eq_true_eq] at h2
    rw [ht' h]
    exact timeT_at hL h2.2
  intro t0 h0 e
  obtain ⟨q1, q2⟩ := rtp_value h0 e
  rw [← hD] at q2
  rw [hv] at q1
  injection q1 with q1 q3
  have hm : wrap64 (60000 * m) = 60000 * m := IntWalk.wrap64_in _ (by omega)
  have ht1 : t = t0 := by
    rw [ht, hm, IntWalk.wrap64_in _ (by omega)]
    omega
  have hT : timeT t = L := by
    rw [ht1, e]
    unfold timeT
    rw [if_pos (withinB_iff.2 (by omega))]
    rfl
  have hbt : b = true := by rw [hb, q3, hT]; simp
  exact ⟨(ht' hbt).trans ht1, hbt⟩
set_option maxHeartbeats 4000000 in
theorem specReadTime_any (s : ByteArray) (hs : s.size ≤ 2097152) (w : World) :
    Calls Tryz.prog 15 #[.string s] w (RetRT w s.data.toList) := by
  have hsz := Lib.size_eq s
  by_cases hn : s.size < 8 ∨ 12 < s.size
  · have HR := Lib.hid (rtp_short (L := s.data.toList) (by omega) 0)
    clear hsz
    rcases hn with h1 | h1
    · have e1 : decide ((s.size : Int) < 8) = true := by simp; omega
      clear h1
      go_enter Tryz.func15, Tryz.ntmps15
      go_wp2_with fail
      go_ret2
      exact ⟨0, false, rfl, HR.out, Below.refl _ _⟩
    · have e1 : decide ((s.size : Int) < 8) = false := by simp; omega
      have e2 : decide ((12 : Int) < (s.size : Int)) = true := by simp; omega
      clear h1
      go_enter Tryz.func15, Tryz.ntmps15
      go_wp2_with fail
      go_ret2
      exact ⟨0, false, rfl, HR.out, Below.refl _ _⟩
  · have e1 : decide ((s.size : Int) < 8) = false := by simp; omega
    have e2 : decide ((12 : Int) < (s.size : Int)) = false := by simp; omega
    have h8 : 8 ≤ s.size := by omega
    have h12 : s.size ≤ 12 := by omega
    have HSZ := Lib.hid hsz
    clear hn hsz
    go_enter Tryz.func15, Tryz.ntmps15
    go_wp2_with fail
    have q6 : IntKind.i64.wrap ((s.size : Int) - 6) = ((s.size - 6 : Nat) : Int) := by rw [IntWalk.i64_in _ (by omega)]; omega
    have q4 : IntKind.i64.wrap ((s.size : Int) - 4) = ((s.size - 4 : Nat) : Int) := by rw [IntWalk.i64_in _ (by omega)]; omega
    have q3 : IntKind.i64.wrap ((s.size : Int) - 3) = ((s.size - 3 : Nat) : Int) := by rw [IntWalk.i64_in _ (by omega)]; omega
    have hx : s.extract (s.size - 6) (s.size - 4) ++ s.extract (s.size - 3) s.size = str ((s.data.toList.drop (s.data.toList.length - 6)).take 2 ++ s.data.toList.drop (s.data.toList.length - 3)) := by
      rw [extract_str s _ _ (by omega), extract_str s _ _ (Nat.le_refl _), str_add, ← HSZ.out, show s.size - 4 - (s.size - 6) = 2 from by omega]
      rw [List.take_of_length_le (l := s.data.toList.drop (s.size - 3)) (by rw [List.length_drop, ← HSZ.out]; exact Nat.le_refl _)]
    have hLne : s.data.toList ≠ [] := by intro h; have h2 := HSZ.out; rw [h, List.length_nil] at h2; omega
    have hdl : ((s.data.toList.drop (s.data.toList.length - 6)).take 2 ++ s.data.toList.drop (s.data.toList.length - 3)).length = 5 := by
      rw [List.length_append, List.length_take, List.length_drop, List.length_drop, ← HSZ.out]
      omega
    have HRD := Lib.hid (fun t => rtp_digit (L := s.data.toList) (t := t) rfl)
    have HRE := Lib.hid (fun m t ok hv ht b hb t' ht' => rtp_end (L := s.data.toList) hLne (m := m) (t := t) (ok := ok) rfl hv ht (b := b) hb (t' := t') ht')
    obtain ⟨D, hD⟩ : ∃ D, D = (s.data.toList.drop (s.data.toList.length - 6)).take 2 ++ s.data.toList.drop (s.data.toList.length - 3) := ⟨_, rfl⟩
    rw [← hD] at hx hdl HRD HRE
    have HX := Lib.hid hx
    have HDL := Lib.hid hdl
    have hx7 : s.extract 0 (s.size - 7) = str (s.data.toList.take (s.data.toList.length - 7)) := by
      rw [extract_str s _ _ (by omega), List.drop_zero, ← HSZ.out]
      rfl
    have HX7 := Lib.hid hx7
    have HV := Lib.hid (fun w' => value_any (str (s.data.toList.take (s.data.toList.length - 7))) (by rw [str_size, List.length_take, ← HSZ.out]; omega) w')
    rw [str_list] at HV
    obtain ⟨L, hL⟩ : ∃ L, L = s.data.toList := ⟨_, rfl⟩
    rw [← hL] at HV HX7 HRD HRE ⊢
    have HLS := Lib.hid (show str L = s from by rw [hL, str_data])
    have HLE := Lib.hid hL
    clear hx hdl hD hx7 hL HSZ hLne
    go_region
    go_wp2_with fail
    rw [HX.out]
    have HDT := Lib.hid (str_list D)
    have hS5 : (str D).size = 5 := by rw [str_size, HDL.out]
    generalize str D = S at *
    have HS5 := Lib.hid hS5
    have HB0 := Lib.hid (below_drewN (Below.refl w.heap.size w) 1)
    clear q6 q4 q3 e1 e2 HX
    go_loop [6, 7] (fun n i => ∃ (k x : Nat), k ≤ 5 ∧ x < 100000 ∧ i = .int .i64 k ∧ n = .int .i64 x ∧ Hid (x = valL 0 (D.take k) ∧ ∀ c ∈ D.take k, dgB c = true)) (fun _ i => 5 - (intOf i).toNat)
    case atStart => exact ⟨0, 0, Nat.zero_le _, by omega, rfl, rfl, Lib.hid ⟨by rw [List.take_zero, valL_nil], by simp⟩⟩
    case round =>
      obtain ⟨k, x, hk, hx, rfl, rfl, HI⟩ := hrel
      by_cases hlt : k < 5
      · have hkd : decide ((k : Int) < 5) = true := by simp; omega
        have hkL : k < D.length := by have := HDL.out; omega
        have hkS : k < S.size := by omega
        have hgs : S[k] = D[k] := by
          have h1 := HDT.out
          subst h1
          rfl
        have htk : D.take (k + 1) = D.take k ++ [D[k]] := by rw [List.take_add_one, List.getElem?_eq_getElem hkL]; rfl
        obtain ⟨cm, hcm⟩ : ∃ cm, cm = (S[k]).toNat := ⟨_, rfl⟩
        by_cases hd : dgB D[k] = true
        · have hd0 := hd
          unfold dgB at hd0
          simp only [Bool.and_eq_true, decide_eq_true_eq] at hd0
          rw [← hgs, ← hcm] at hd0
          have hall : ∀ c ∈ D.take (k + 1), dgB c = true := by
            rw [htk]
            intro c hc
            rcases List.mem_append.1 hc with hc | hc
            · exact HI.out.2 c hc
            · rw [List.mem_singleton.1 hc]; exact hd
          have hval : valL 0 (D.take (k + 1)) = 10 * x + (cm - 48) := by
            rw [htk, valL_snoc1, ← HI.out.1, ← hgs]
            unfold stepV
            rw [← hcm]
          have hlt2 := valL_lt (D.take (k + 1)) 0 hall
          have hpow : 10 ^ (D.take (k + 1)).length ≤ 10 ^ 5 := Nat.pow_le_pow_right (by decide) (by rw [List.length_take]; omega)
          rw [hval] at hlt2
          have hx2 : 10 * x + (cm - 48) < 100000 := by
            have e : (10 : Nat) ^ 5 = 100000 := by decide
            rw [e] at hpow
            omega
          have HI2 := Lib.hid (show 10 * x + (cm - 48) = valL 0 (D.take (k + 1)) ∧ ∀ c ∈ D.take (k + 1), dgB c = true from ⟨hval.symm, hall⟩)
          obtain ⟨hd1, hd2⟩ := hd0
          have hcm2 : (S[k]).toNat = cm := hcm.symm
          have ht1 : decide ((cm : Int) < 48) = false := by simp; omega
          have ht2 : decide ((57 : Int) < (cm : Int)) = false := by simp; omega
          clear hd hall hval hlt2 hpow htk hgs HI hcm hS5
          go_wp2_with fail
          go_round
          case rel => exact ⟨k + 1, 10 * x + (cm - 48), by omega, hx2, by go_num, by go_num, HI2⟩
          case measure => simp [intOf] <;> omega
        · have HNQ := Lib.hid (HRD.out 0 (fun hall => hd (hall _ (List.getElem_mem hkL))))
          have hcm2 : (S[k]).toNat = cm := hcm.symm
          have hor : cm < 48 ∨ (¬ cm < 48 ∧ 57 < cm) := by
            unfold dgB at hd
            simp only [Bool.and_eq_true, decide_eq_true_eq] at hd
            rw [← hgs, ← hcm] at hd
            omega
          clear hd htk hgs HI hcm hS5
          rcases hor with h1 | ⟨h1, h2⟩
          · have ht1 : decide ((cm : Int) < 48) = true := by simp; omega
            clear h1
            go_wp2_with fail
            go_ret2
            exact ⟨0, false, rfl, by rw [← HLE.out]; exact HNQ.out, HB0.out⟩
          · have ht1 : decide ((cm : Int) < 48) = false := by simp; omega
            have ht2 : decide ((57 : Int) < (cm : Int)) = true := by simp; omega
            clear h1 h2
            go_wp2_with fail
            go_ret2
            exact ⟨0, false, rfl, by rw [← HLE.out]; exact HNQ.out, HB0.out⟩
      · obtain rfl : k = 5 := by omega
        have hi := HI.out
        rw [List.take_of_length_le (by have := HDL.out; omega)] at hi
        have hxv := hi.1
        generalize hvf : valF (L.take (L.length - 7)) = r at *
        obtain ⟨m, ok⟩ := r
        simp only at HV
        have HE := Lib.hid (HRE.out m _ ok rfl rfl)
        rw [← hxv] at HE
        clear hi hxv HI hS5 HRE HRD hvf
        have HT := Lib.hid (fun t w' => specTimeT_any t w')
        go_wp2_with fail
        rw [HX7.out]
        refine (HV.out _).mono ?_
        rintro e w1 ⟨rfl, hb⟩
        have HB1 := Lib.hid (HB0.out.trans (hb.mono HB0.out.size))
        clear hb HB0
        cases ok with
        | false =>
          go_wp2_with fail
          go_ret2
          exact ⟨0, false, rfl, by rw [← HLE.out]; exact HE.out false (by rw [Bool.false_and]) 0 (fun h => by cases h), HB1.out⟩
        | true =>
          go_wp2_with fail
          generalize wrap64 (wrap64 (60000 * m) + (x : Int)) = T at *
          refine (HT.out _ _).mono ?_
          rintro e w2 ⟨rfl, hb⟩
          have HB2 := Lib.hid (HB1.out.trans (hb.mono HB1.out.size))
          clear hb HB1 HX7 HV HT HDT HDL
          by_cases hq : timeT T = L
          · have HR := Lib.hid (HE.out true (by rw [Bool.true_and, hq]; simp) T (fun _ => rfl))
            have hst : str (timeT T) = s := by rw [hq, HLS.out]
            rw [hst]
            clear hq hst HE
            go_wp2_with fail
            go_ret2
            exact ⟨T, true, rfl, by rw [← HLE.out]; exact HR.out, HB2.out⟩
          · have HR := Lib.hid (HE.out false (by rw [Bool.true_and]; simp [hq]) 0 (fun h => by cases h))
            have hst : str (timeT T) ≠ s := fun e => hq (str_inj (e.trans HLS.out.symm))
            have hnl := ne_list hst
            generalize str (timeT T) = Z at *
            clear hq hst HE
            go_wp2_with fail
            go_ret2
            exact ⟨0, false, rfl, by rw [← HLE.out]; exact HR.out, HB2.out⟩
end Go.Proofs.YthlnoahjfllhfaaGreatDoor

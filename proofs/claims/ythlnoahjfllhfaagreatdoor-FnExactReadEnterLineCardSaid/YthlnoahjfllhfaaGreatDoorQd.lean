/- Walks: times and codes as texts, both sides. -/
import Derived.Test.YthlnoahjfllhfaaGreatDoorQc
namespace Go.Proofs.YthlnoahjfllhfaaGreatDoor
open Go.RowKit Go.Sort
set_option linter.unusedVariables false
set_option maxRecDepth 100000

theorem lastDigits_any (n k : Nat) (hn : n ≤ 1000000000000) (hk : k ≤ 10) (w : World) :
    Calls Tryz.prog 42 #[.int .i64 n, .int .i64 k] w fun e w' => e = .returned (.string (str (lastGo k n []))) ∧ Below w.heap.size w w' := by
  go_enter Tryz.func42, Tryz.ntmps42
  go_wp2_with fail
  go_loopw [0, 5, 6] (fun m s i wr => ∃ (q x : Nat) (l : List UInt8), q ≤ k ∧ x ≤ 1000000000000 ∧ l.length = q ∧ i = .int .i64 q ∧ m = .int .i64 x ∧ s = .string (str l) ∧ Hid (lastGo (k - q) x l = lastGo k n []) ∧ Hid (Below w.heap.size w wr)) (fun _ _ i _ => k - (intOf i).toNat)
  case atStart => exact ⟨0, n, [], Nat.zero_le _, hn, rfl, rfl, rfl, rfl, Lib.hid rfl, Lib.hid (Below.refl _ _)⟩
  case round =>
    obtain ⟨q, x, l, hq, hx, hl, rfl, rfl, rfl, HR, HB⟩ := hrel
    obtain ⟨wo, hwo⟩ : ∃ wo : World, wo = wr := ⟨_, rfl⟩
    subst hwo
    have HL := Lib.hid hl
    by_cases hlt : q < k
    · have hkd : decide ((q : Int) < (k : Int)) = true := by simpa using hlt
      have hcv := conv1_new wo (48 + (x : Int) % 10)
      have hz1 := str_size l
      rw [hl] at hz1
      have hsz1 : (str l).size ≤ 10 := by omega
      have hsz2 : (str [UInt8.ofNat (48 + (x : Int) % 10).toNat]).size ≤ 1 := by rw [str_size]; exact Nat.le_refl _
      rw [dgt_of] at hcv hsz2
      have hr := HR.out
      rw [show k - q = (k - (q + 1)) + 1 from by omega, lastGo] at hr
      have HR2 := Lib.hid hr
      clear hr HR hz1 hl
      go_wp2_with fail
      go_roundw
      case rel => exact ⟨q + 1, x / 10, dgt x :: l, by omega, by omega, by simp [HL.out], by go_num, by go_num, by rw [str_add]; rfl, HR2, Lib.hid (HB.out.alloc HB.out.size _)⟩
      case measure => simp [intOf] <;> omega
    · obtain rfl : q = k := by omega
      have hkd : decide ((q : Int) < (q : Int)) = false := by simp
      have hr := HR.out
      rw [Nat.sub_self, lastGo] at hr
      subst hr
      clear HR hl
      go_wp2_with fail
      go_ret
      exact ⟨rfl, HB.out⟩
theorem isTime_any (t : Int) (w : World) : Calls Tryz.prog 51 #[.int .i64 t] w fun e w' => e = .returned (.bool (withinB t 0 1000000000)) ∧ w = w' := by
  have H := Lib.hid (within_any t 0 1000000000 w)
  go_enter Tryz.func51, Tryz.ntmps51
  go_wp2_with fail
  refine H.out.mono ?_
  rintro e w' ⟨rfl, rfl⟩
  go_wp2_with fail
  go_ret
  exact ⟨rfl, rfl⟩
theorem isBoat_any (t : Int) (w : World) : Calls Tryz.prog 39 #[.int .i64 t] w fun e w' => e = .returned (.bool (withinB t 0 15)) ∧ w = w' := by
  have H := Lib.hid (within_any t 0 15 w)
  go_enter Tryz.func39, Tryz.ntmps39
  go_wp2_with fail
  refine H.out.mono ?_
  rintro e w' ⟨rfl, rfl⟩
  go_wp2_with fail
  go_ret
  exact ⟨rfl, rfl⟩
theorem times3 {a b c : List UInt8} : str a ++ str [58] ++ str b ++ str [46] ++ str c = str (a ++ [58] ++ b ++ [46] ++ c) := by rw [str_add, str_add, str_add, str_add]
theorem specTime_any (t : Nat) (h : t ≤ 1000000000) (w : World) :
    Calls Tryz.prog 31 #[.int .i64 t] w fun e w' => e = .returned (.string (str (timeL t))) ∧ Below w.heap.size w w' := by
  have H1 := Lib.hid (fun w' => number_any (t / 60000) (t / 60000) (Nat.le_refl _) (by omega) w')
  have H2 := Lib.hid (fun w' => lastDigits_any (t / 1000 % 60) 2 (by omega) (by omega) w')
  have H3 := Lib.hid (fun w' => lastDigits_any t 3 (by omega) (by omega) w')
  have HE := Lib.hid (show str (timeL t) = str (dec (t / 60000)) ++ str [58] ++ str (lastGo 2 (t / 1000 % 60) []) ++ str [46] ++ str (lastGo 3 t []) from by rw [times3]; rfl)
  have h1 := dec_len 9 (t / 60000) (by omega)
  have z1 : (str (dec (t / 60000))).size ≤ 10 := by rw [str_size]; exact h1
  have z2 : (str (lastGo 2 (t / 1000 % 60) [])).size ≤ 2 := by rw [str_size, lastGo_len]; exact Nat.le_refl _
  have z3 : (str (lastGo 3 t [])).size ≤ 3 := by rw [str_size, lastGo_len]; exact Nat.le_refl _
  generalize dec (t / 60000) = a at *
  generalize lastGo 2 (t / 1000 % 60) [] = b at *
  generalize lastGo 3 t [] = c at *
  clear h1
  go_enter Tryz.func31, Tryz.ntmps31
  go_wp2_with fail
  refine (H1.out _).mono ?_
  rintro e w1 ⟨rfl, hb⟩
  have HB1 := Lib.hid hb
  clear hb
  go_wp2_with fail
  refine (H2.out _).mono ?_
  rintro e w2 ⟨rfl, hb⟩
  have HB2 := Lib.hid (HB1.out.trans (hb.mono HB1.out.size))
  clear hb
  go_wp2_with fail
  refine (H3.out _).mono ?_
  rintro e w3 ⟨rfl, hb⟩
  have HB3 := Lib.hid (HB2.out.trans (hb.mono HB2.out.size))
  clear hb
  go_wp2_with fail
  go_ret
  exact ⟨by rw [HE.out]; rfl, HB3.out⟩
end Go.Proofs.YthlnoahjfllhfaaGreatDoor

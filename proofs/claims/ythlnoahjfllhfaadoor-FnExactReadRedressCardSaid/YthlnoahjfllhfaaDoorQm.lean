/- Walks: numbers as texts and texts as numbers (the reference's second pair). -/
import Derived.Test.YthlnoahjfllhfaaDoorQac
import Derived.Test.YthlnoahjfllhfaaDoorQi
namespace Go.Proofs.YthlnoahjfllhfaaDoor
open Go.RowKit Go.Sort
set_option linter.unusedVariables false
set_option maxRecDepth 100000

def lenS : Value → Nat
  | .slice _ n _ => n
  | _ => 0
set_option maxHeartbeats 2000000 in
theorem number26_any (n : Nat) (hn : n ≤ 1000000000000) (w : World) :
    Calls Tryd.prog 31 #[.int .i64 n] w fun e w' => e = .returned (.string (str (dec n))) ∧ Below w.heap.size w w' := by
  go_enter Tryd.func31, Tryd.ntmps31
  go_wp2_with fail
  have HO0 := Lib.hid (show (w.alloc (.cells #[] 5)).ownsRow w.heap.size 5 1 (.slice (some ⟨w.heap.size, 0, none⟩) 0 0) 0 (u8s (b8 [])) from own_emptyS w w.heap.size 5 1 (Nat.le_refl _))
  have HB0 := Lib.hid ((Below.refl w.heap.size w).alloc (Nat.le_refl _) (.cells #[] 5))
  go_loopw [3, 4] (fun d r wr => ∃ (m c x : Nat) (A : Option Addr) (B : List UInt8), x ≤ 1000000000000 ∧ m + 1 ≤ 20 ∧ d = .slice A m c ∧ r = .int .i64 x ∧ Hid ((x = 0 ∧ 0 < m ∧ B = dec n) ∨ ((0 < x ∨ m = 0) ∧ dec x ++ B = dec n ∧ (dec x).length + m ≤ 13)) ∧ Hid (wr.ownsRow w.heap.size 5 1 (.slice A m c) m (u8s (b8 B))) ∧ Hid (Below w.heap.size w wr)) (fun d r _ => 2 * (intOf r).toNat + (1 - lenS d))
  case atStart => exact ⟨0, 0, n, _, [], hn, by omega, rfl, rfl, Lib.hid (.inr ⟨.inr rfl, by simp, dec_len 12 n (by omega)⟩), HO0, HB0⟩
  case round =>
    clear HO0 HB0
    obtain ⟨m, c, x, A, B, hx, hm, rfl, rfl, HI, HO, HB⟩ := hrel
    obtain ⟨wo, hwo⟩ : ∃ wo : World, wo = wr := ⟨_, rfl⟩
    subst hwo
    by_cases hgo : 0 < x ∨ m = 0
    · obtain ⟨hi, hi13⟩ : dec x ++ B = dec n ∧ (dec x).length + m ≤ 13 := by
        rcases HI.out with h | h
        · omega
        · exact h.2
      have HI2 := Lib.hid (show (x / 10 = 0 ∧ 0 < m + 1 ∧ dgt x :: B = dec n) ∨ ((0 < x / 10 ∨ m + 1 = 0) ∧ dec (x / 10) ++ (dgt x :: B) = dec n ∧ (dec (x / 10)).length + (m + 1) ≤ 13) from by
        by_cases h10 : x < 10
        · rw [dec_small h10] at hi
          exact .inl ⟨by omega, by omega, hi⟩
        · rw [dec_big h10] at hi hi13
          simp at hi13
          exact .inr ⟨.inl (by omega), by rw [← hi]; simp, by omega⟩)
      have hbs := HB.out.size
      have HOW := Lib.hid (lit_one wo w.heap.size (48 + (x : Int) % 10) hbs)
      have HRD := Lib.hid ((own_rd HO.out).below ((Below.refl wo.heap.size wo).alloc (Nat.le_refl _) (.cells #[.int .u8 (48 + (x : Int) % 10)] 5)))
      have hm13 : m ≤ 13 := by omega
      clear hi hi13 HI
      by_cases h0 : 0 < x
      · have hxd : decide (0 < x) = true := by simpa using h0
        have hxd2 : decide ((0 : Int) < (x : Int)) = true := by simp; omega
        clear hgo
        go_wp2_with (at_builtin; refine wpl_code _ rfl _ _ rfl rfl HOW.out rfl HRD.out (by omega) ?cBa ?_; rotate_left; intro A9 c9 w9 hown9 hgr9)
        · have HB9 := Lib.hid ((HB.out.alloc hbs _).grown hgr9 (by simp; omega) (fun j hj => by injection hj with hj; omega))
          rw [show 1 + m = m + 1 from by omega, ← b8_dgt] at hown9
          have HO9 := Lib.hid hown9
          clear hown9 hgr9
          go_roundw
          case rel => exact ⟨m + 1, c9, x / 10, A9, dgt x :: B, by omega, by omega, by go_num, by go_num, HI2, HO9, HB9⟩
          case measure => simp [intOf, lenS] <;> omega
        · first | omega | (simp; omega)
      · obtain rfl : x = 0 := by omega
        obtain rfl : m = 0 := by omega
        clear hgo h0
        go_wp2_with (at_builtin; refine wpl_code _ rfl _ _ rfl rfl HOW.out rfl HRD.out (by omega) ?cBb ?_; rotate_left; intro A9 c9 w9 hown9 hgr9)
        · have HB9 := Lib.hid ((HB.out.alloc hbs _).grown hgr9 (by simp; omega) (fun j hj => by injection hj with hj; omega))
          rw [← b8_dgt] at hown9
          have HO9 := Lib.hid hown9
          clear hown9 hgr9
          go_roundw
          case rel => exact ⟨1, c9, 0, A9, dgt 0 :: B, by omega, by omega, by go_num, by go_num, HI2, HO9, HB9⟩
          case measure => simp [intOf, lenS] <;> omega
        · first | omega | (simp; omega)
    · have hx0 : x = 0 := by omega
      subst hx0
      have hm0 : 0 < m := by omega
      have hB : B = dec n := by rcases HI.out with h | h; exact h.2.2; omega
      have hmb : ((m : Int) == 0) = false := by simp; omega
      have hcv := convN HO.out hm0
      rw [hB] at hcv
      have HCV := Lib.hid hB
      clear hgo hB HI
      go_wp2_with fail
      go_ret
      exact ⟨rfl, HB.out⟩
end Go.Proofs.YthlnoahjfllhfaaDoor

/- Plain: both readings of a short number are one. -/
import Derived.Test.YthlnoahjfllhfaaGreatDoorQu
namespace Go.Proofs.YthlnoahjfllhfaaGreatDoor
open Go.RowKit Go.Sort
set_option linter.unusedVariables false
set_option maxRecDepth 100000

theorem itoa_parts (v : Int) : (∃ n : Nat, v = (n : Int) ∧ Lib.itoa v = dec n) ∨ (∃ n : Nat, 1 ≤ n ∧ v = -(n : Int) ∧ Lib.itoa v = 45 :: dec n) := by
  by_cases h : 0 ≤ v
  · obtain ⟨n, rfl⟩ := int_up v h
    exact .inl ⟨n, rfl, Lib.itoa_nonneg n⟩
  · obtain ⟨n, rfl⟩ : ∃ n : Nat, v = -(n : Int) := ⟨v.natAbs, by omega⟩
    exact .inr ⟨n, by omega, rfl, Lib.itoa_neg n (by omega)⟩
theorem dec_head (n : Nat) : ∃ c r, dec n = c :: r ∧ dgB c = true := by
  cases h : dec n with
  | nil => exact absurd h (dec_ne n)
  | cons c r => exact ⟨c, r, rfl, dec_digits n c (by rw [h]; exact List.mem_cons_self)⟩
theorem dgB_45 : dgB 45 = false := by decide
theorem dec_lt {n : Nat} (h : (dec n).length ≤ 15) : n < 10 ^ 15 := by
  have h1 := valL_lt (dec n) 0 (dec_digits n)
  rw [valL_dec] at h1
  have h2 : 10 ^ (dec n).length ≤ 10 ^ 15 := Nat.pow_le_pow_right (by decide) h
  omega
theorem numF_itoa {v : Int} (h : v.natAbs < 10 ^ 15) : numF (Lib.itoa v) = (v, true) := by
  rcases itoa_parts v with ⟨n, rfl, e⟩ | ⟨n, hn, rfl, e⟩
  · rw [e]
    exact numF_dec (by omega)
  · have hd := dec_digits n
    have hv := valL_dec n
    have hm := parse_digits (dec n) 0 hd (by rw [hv]; omega)
    rw [hv] at hm
    have hB : Lib.parseUintB 64 (dec n) = .ok n := by
      unfold Lib.parseUintB
      rw [if_neg (dec_ne n)]
      exact hm
    have hp : Lib.parseIntB 64 (45 :: dec n) = .ok (-(n : Int)) := by
      rw [Lib.parseIntB_minus, hB]
      unfold Lib.signedC
      first | (simp only []; rw [if_neg (by omega)]) | (simp; omega)
    have hl := dec_len 14 n (by omega)
    unfold numF
    rw [e, hp]
    simp only
    rw [if_pos ⟨by simp; omega, e⟩]
theorem valF_itoa {v : Int} (h : v.natAbs < 10 ^ 15) : valF (Lib.itoa v) = (v, true) := by
  rcases itoa_parts v with ⟨n, rfl, e⟩ | ⟨n, hn, rfl, e⟩
  · rw [e]
    exact valF_dec (by omega)
  · have hl := dec_len 14 n (by omega)
    have h1 : ¬ ((dec n).length < 1 ∨ 15 < (dec n).length) := by
      obtain ⟨c, r, hc, -⟩ := dec_head n
      rw [hc] at hl ⊢
      simp at hl ⊢
      omega
    rw [e]
    rw [show valF (45 :: dec n) = valG true (dec n) (45 :: dec n) from by
      show (if (45 : UInt8) = 45 then valG true (dec n) (45 :: dec n) else valG false (45 :: dec n) (45 :: dec n)) = _
      rw [if_pos rfl], valG_yes (neg := true) h1 (List.all_eq_true.2 (dec_digits n)) (by rw [if_pos rfl, valL_dec]; exact e), if_pos rfl, valL_dec]
theorem valG_out {neg : Bool} {D w : List UInt8} {v : Int} (h : valG neg D w = (v, true)) : Lib.itoa v = w ∧ v.natAbs < 10 ^ 15 := by
  by_cases h1 : D.length < 1 ∨ 15 < D.length
  · rw [valG_short h1] at h; cases h
  by_cases h2 : D.all dgB = true
  rotate_left
  · rw [valG_other h2] at h; cases h
  have h5 := valL_lt D 0 (List.all_eq_true.1 h2)
  have h6 : 10 ^ D.length ≤ 10 ^ 15 := Nat.pow_le_pow_right (by decide) (by omega)
  by_cases h3 : Lib.itoa (if neg = true then -(valL 0 D : Int) else (valL 0 D : Int)) = w
  · rw [valG_yes h1 h2 h3] at h
    injection h with h4 _
    rw [← h4]
    refine ⟨h3, ?_⟩
    cases neg <;> simp <;> omega
  · rw [valG_no h1 h2 h3] at h; cases h
theorem valF_out {w : List UInt8} {v : Int} (h : valF w = (v, true)) : Lib.itoa v = w ∧ v.natAbs < 10 ^ 15 := by
  unfold valF at h
  split at h
  · cases h
  · split at h
    · exact valG_out h
    · exact valG_out h
theorem numF_out {w : List UInt8} {v : Int} (h : numF w = (v, true)) : Lib.itoa v = w := by
  unfold numF at h
  split at h
  · split at h
    · rename_i h2
      injection h with h3 _
      rw [← h3]
      exact h2.2
    · cases h
  · cases h
theorem shortF_itoa {v : Int} (h : v.natAbs < 10 ^ 15) : shortF (Lib.itoa v) = (v, true) := by
  unfold shortF
  rw [numF_itoa h]
  have : (Lib.trimPrefix (Lib.itoa v) [45]).length ≤ 15 := by
    rcases itoa_parts v with ⟨n, rfl, e⟩ | ⟨n, hn, rfl, e⟩
    · have hl := dec_len 14 n (by omega)
      rw [e]
      have ht : (Lib.trimPrefix (dec n) [45]).length ≤ (dec n).length := by
        unfold Lib.trimPrefix
        split
        · rw [List.length_drop]; omega
        · exact Nat.le_refl _
      omega
    · have hl := dec_len 14 n (by omega)
      rw [e]
      have ht : Lib.trimPrefix (45 :: dec n) [45] = dec n := by
        unfold Lib.trimPrefix
        rw [if_pos (by rfl)]
        rfl
      rw [ht]
      exact hl
  show (v, (true && decide _)) = _
  rw [decide_eq_true this]
  rfl
theorem shortF_out {w : List UInt8} {v : Int} (h : shortF w = (v, true)) : Lib.itoa v = w ∧ v.natAbs < 10 ^ 15 := by
  unfold shortF at h
  injection h with h1 h2
  rw [Bool.and_eq_true, decide_eq_true_eq] at h2
  have h3 := numF_out (w := w) (v := v) (by rw [← h1, ← h2.1])
  refine ⟨h3, ?_⟩
  have h4 := h2.2
  rcases itoa_parts v with ⟨n, rfl, e⟩ | ⟨n, hn, rfl, e⟩
  · rw [← h3, e] at h4
    have ht : Lib.trimPrefix (dec n) [45] = dec n := by
      obtain ⟨c, r, hc, hd⟩ := dec_head n
      unfold Lib.trimPrefix
      rw [hc, if_neg]
      intro hp
      have : (45 : UInt8) = c := by
        have h9 : ((45 : UInt8) == c && true) = true := hp
        simpa using h9
      rw [← this, dgB_45] at hd
      cases hd
    rw [ht] at h4
    have := dec_lt h4
    omega
  · rw [← h3, e] at h4
    have ht : Lib.trimPrefix (45 :: dec n) [45] = dec n := by
      unfold Lib.trimPrefix
      rw [if_pos (by rfl)]
      rfl
    rw [ht] at h4
    have := dec_lt h4
    omega
theorem val_short {w : List UInt8} {v : Int} : valF w = (v, true) ↔ shortF w = (v, true) := by
  constructor
  · intro h
    obtain ⟨h1, h2⟩ := valF_out h
    rw [← h1]
    exact shortF_itoa h2
  · intro h
    obtain ⟨h1, h2⟩ := shortF_out h
    rw [← h1]
    exact valF_itoa h2
theorem val_short_ok (w : List UInt8) : (valF w).2 = (shortF w).2 := by
  cases h : (valF w).2 with
  | true =>
    have : valF w = ((valF w).1, true) := by rw [← h]
    rw [val_short.1 this]
  | false =>
    cases h2 : (shortF w).2 with
    | false => rfl
    | true =>
      have : shortF w = ((shortF w).1, true) := by rw [← h2]
      rw [val_short.2 this] at h
      cases h
theorem allVal_short (ws : List (List UInt8)) : allVal ws = allShort ws := by
  unfold allVal allShort
  congr 1
  funext w
  exact val_short_ok w
theorem vals_short {ws : List (List UInt8)} (h : allShort ws = true) : (ws.map fun w => (valF w).1) = ws.map fun w => (shortF w).1 := by
  refine List.map_congr_left (fun w hw => ?_)
  unfold allShort at h
  have h1 := List.all_eq_true.1 h w hw
  have : shortF w = ((shortF w).1, true) := by
    show ((shortF w).1, (shortF w).2) = _
    rw [h1]
  rw [val_short.2 this]
end Go.Proofs.YthlnoahjfllhfaaGreatDoor

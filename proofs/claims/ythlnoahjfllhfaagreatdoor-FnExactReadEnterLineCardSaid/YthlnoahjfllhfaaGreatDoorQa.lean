/- Plain: texts as lists of bytes: decimal numbers, times, finishes. No Go function in sight. -/
import Derived.Test.YthlnoahjfllhfaaGreatDoorMf
import Derived.Lib.ItoaMem
namespace Go.Proofs.YthlnoahjfllhfaaGreatDoor
set_option linter.unusedVariables false

/-- A string out of bytes. -/
def str (l : List UInt8) : ByteArray := ⟨l.toArray⟩
theorem str_size (l : List UInt8) : (str l).size = l.length := by simp [str, ByteArray.size]
theorem str_add (a b : List UInt8) : str a ++ str b = str (a ++ b) := by
  apply ByteArray.ext
  simp [str]
theorem str_list (l : List UInt8) : (str l).data.toList = l := by simp [str]
def dec (n : Nat) : List UInt8 := Lib.decDigits n
def dgt (n : Nat) : UInt8 := UInt8.ofNat (48 + n % 10)
theorem dec_small {n : Nat} (h : n < 10) : dec n = [dgt n] := by
  unfold dec dgt
  rw [Lib.decDigits_one h, Nat.mod_eq_of_lt h]
theorem dec_big {n : Nat} (h : ¬ n < 10) : dec n = dec (n / 10) ++ [dgt n] := by
  unfold dec dgt
  rw [Lib.decDigits, dif_neg h]
theorem dec_len : ∀ (k n : Nat), n < 10 ^ (k + 1) → (dec n).length ≤ k + 1 := by
  intro k
  induction k with
  | zero => intro n h; rw [dec_small (by simpa using h)]; simp
  | succ k ih =>
    intro n h
    by_cases h0 : n < 10
    · rw [dec_small h0]; simp
    · rw [dec_big h0]
      rw [Nat.pow_succ] at h
      have := ih (n / 10) (by omega)
      simp; omega
/-- At least k digits. -/
def pad (k n : Nat) : List UInt8 := List.replicate (k - (dec n).length) 48 ++ dec n
/-- The last digits ahead of s. -/
def lastGo : Nat → Nat → List UInt8 → List UInt8
  | 0, _, s => s
  | k + 1, n, s => lastGo k (n / 10) (dgt n :: s)
theorem lastGo_len : ∀ (k n : Nat) (s : List UInt8), (lastGo k n s).length = k + s.length := by
  intro k
  induction k with
  | zero => intro n s; simp [lastGo]
  | succ k ih => intro n s; rw [lastGo, ih]; simp; omega
theorem pad_two {n : Nat} (h : n < 100) : pad 2 n = lastGo 2 n [] := by
  unfold pad
  by_cases h0 : n < 10
  · rw [dec_small h0]
    simp only [lastGo, List.length_cons, List.length_nil]
    have e : n / 10 = 0 := by omega
    rw [e]
    rfl
  · rw [dec_big h0, dec_small (by omega : n / 10 < 10)]
    simp [lastGo]
theorem pad_three {n : Nat} (h : n < 1000) : pad 3 n = lastGo 3 n [] := by
  unfold pad
  by_cases h0 : n < 10
  · rw [dec_small h0]
    simp only [lastGo, List.length_cons, List.length_nil]
    have e : n / 10 = 0 := by omega
    rw [e]
    rfl
  · by_cases h1 : n / 10 < 10
    · rw [dec_big h0, dec_small h1]
      simp only [lastGo, List.length_append, List.length_cons, List.length_nil]
      have e : n / 10 / 10 = 0 := by omega
      rw [e]
      rfl
    · rw [dec_big h0, dec_big h1, dec_small (by omega : n / 10 / 10 < 10)]
      simp [lastGo]
theorem dgt_mod {n m : Nat} (h : n % 10 = m % 10) : dgt n = dgt m := by unfold dgt; rw [h]
theorem lastGo_mod (n : Nat) : lastGo 3 n [] = lastGo 3 (n % 1000) [] := by
  simp only [lastGo]
  rw [dgt_mod (show n % 10 = n % 1000 % 10 by omega), dgt_mod (show n / 10 % 10 = n % 1000 / 10 % 10 by omega), dgt_mod (show n / 10 / 10 % 10 = n % 1000 / 10 / 10 % 10 by omega)]
/-- The text of a time. -/
def timeL (t : Nat) : List UInt8 := dec (t / 60000) ++ [58] ++ lastGo 2 (t / 1000 % 60) [] ++ [46] ++ lastGo 3 t []
theorem timeL_pad (t : Nat) : dec (t / 60000) ++ [58] ++ pad 2 (t / 1000 % 60) ++ [46] ++ pad 3 (t % 1000) = timeL t := by
  unfold timeL
  rw [pad_two (by omega), pad_three (by omega), ← lastGo_mod]
theorem timeL_len {t : Nat} (h : t ≤ 1000000000) : (timeL t).length ≤ 20 := by
  unfold timeL
  have := dec_len 9 (t / 60000) (by omega)
  simp only [List.length_append, lastGo_len, List.length_cons, List.length_nil]
  omega
def codesL : List (List UInt8) := [[70, 73, 78], [68, 78, 67], [68, 78, 83], [79, 67, 83], [68, 78, 70], [82, 69, 84], [68, 83, 81], [68, 78, 69], [66, 70, 68], [82, 68, 71]]
def codeL (c : Int) : List UInt8 := if 0 ≤ c ∧ c ≤ 9 then codesL.getD c.toNat [] else []
def finB (b c t : Int) : Bool := withinB b 0 15 && withinB c 0 9 && (if c = 0 then withinB t 1 1000000000 else (t == 0))
theorem finB_ok {b c t : Int} (h : finB b c t = true) : (0 ≤ b ∧ b ≤ 15) ∧ (0 ≤ c ∧ c ≤ 9) ∧ 0 ≤ t ∧ t ≤ 1000000000 := by
  unfold finB at h
  simp only [Bool.and_eq_true] at h
  have h1 := withinB_iff.1 h.1.1
  have h2 := withinB_iff.1 h.1.2
  have h3 := h.2
  split at h3
  · have := withinB_iff.1 h3; omega
  · simp at h3; omega
/-- The text of a valid finish. -/
def finL (b c t : Int) : List UInt8 := dec b.toNat ++ [32] ++ codeL c ++ (if c = 0 then [32] ++ timeL t.toNat else [])
def finS (b c t : Int) : List UInt8 := if finB b c t = true then finL b c t else []
def enterS (r b c t : Int) : List UInt8 := if withinB r 0 11 = true ∧ finB b c t = true then [101, 110, 116, 101, 114, 32] ++ dec r.toNat ++ [32] ++ finL b c t else []
theorem codeL_len (c : Int) : (codeL c).length ≤ 3 := by
  unfold codeL
  split
  · rename_i h
    have : c = 0 ∨ c = 1 ∨ c = 2 ∨ c = 3 ∨ c = 4 ∨ c = 5 ∨ c = 6 ∨ c = 7 ∨ c = 8 ∨ c = 9 := by omega
    rcases this with rfl | rfl | rfl | rfl | rfl | rfl | rfl | rfl | rfl | rfl <;> decide
  · decide
theorem finL_len {b c t : Int} (h : finB b c t = true) : (finL b c t).length ≤ 40 := by
  obtain ⟨h1, h2, h3⟩ := finB_ok h
  unfold finL
  have a := dec_len 1 b.toNat (by omega)
  have b := codeL_len c
  have d := timeL_len (t := t.toNat) (by omega)
  split
  · simp only [List.length_append, List.length_cons, List.length_nil]; omega
  · simp only [List.length_append, List.length_cons, List.length_nil]; omega
end Go.Proofs.YthlnoahjfllhfaaGreatDoor

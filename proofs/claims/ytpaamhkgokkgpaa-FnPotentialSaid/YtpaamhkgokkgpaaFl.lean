/- Plain: the square root of a small whole number, in floating point, is a whole number's neighbour: it is neither negative nor great. No Go function in sight. -/
import Derived.Test.YtpaamhkgokkgpaaLib
import Derived.Laws.FloatArith
namespace Go.Proofs.Ytpaamhkgokkgpaa
open Go.RowKit
set_option linter.unusedVariables false

theorem rootFrom_le (n : Nat) : ∀ (todo root : Nat), Ieee.Datum.rootFrom n todo root + 1 ≤ root + 2 ^ todo := by
  intro todo
  induction todo with
  | zero => intro root; simp [Ieee.Datum.rootFrom]
  | succ t ih =>
    intro root
    rw [Ieee.Datum.rootFrom]
    simp only [Nat.one_shiftLeft]
    have h1 := ih (root + 2 ^ t)
    have h2 := ih root
    have h3 : 2 ^ (t + 1) = 2 ^ t + 2 ^ t := by rw [Nat.pow_succ]; omega
    have h4 := Nat.two_pow_pos t
    by_cases hc : (root + 2 ^ t) * (root + 2 ^ t) ≤ n
    · rw [if_pos hc]; omega
    · rw [if_neg hc]; omega
theorem cut_le {mag L : Nat} (hm : mag ≠ 0) (hL : L = mag.log2) (way : Ieee.Toward) : way.cut false (mag <<< (52 - L)) (L - 52) ≤ 2 ^ 53 := by
  have hlt : mag < 2 ^ (L + 1) := by rw [hL]; exact Nat.lt_log2_self
  have key : (mag <<< (52 - L)) / (1 <<< min (L - 52) ((mag <<< (52 - L)).log2 + 2)) < 2 ^ 53 := by
    rw [Nat.one_shiftLeft]
    by_cases h : L ≤ 52
    · rw [show L - 52 = 0 from by omega, Nat.zero_min, Nat.pow_zero, Nat.div_one, Nat.shiftLeft_eq]
      calc mag * 2 ^ (52 - L) < 2 ^ (L + 1) * 2 ^ (52 - L) := Nat.mul_lt_mul_of_pos_right hlt (Nat.two_pow_pos _)
        _ = 2 ^ 53 := by rw [← Nat.pow_add]; congr 1; omega
    · rw [show 52 - L = 0 from by omega, Nat.shiftLeft_zero, ← hL, Nat.min_eq_left (by omega)]
      refine Nat.div_lt_of_lt_mul ?_
      rw [← Nat.pow_add]
      exact Nat.lt_of_lt_of_eq hlt (by congr 1; omega)
  have hb : ∀ b : Bool, b.toNat ≤ 1 := fun b => by cases b <;> simp
  unfold Ieee.Toward.cut
  exact Nat.le_trans (Nat.add_le_add_left (hb _) _) key
theorem nearest_le {mag : Nat} {place t : Int} (hm : mag ≠ 0) (ht : t = place + mag.log2 - 52) (h0 : -1074 ≤ t) : ((Ieee.double.nearest false mag place : Nat) : Int) ≤ (t + 1074) * 4503599627370496 + 9007199254740992 := by
  unfold Ieee.Format.nearest
  rw [if_neg hm]
  have hp : Ieee.double.leastPlace = -1074 := by decide
  have hf : (Ieee.double.fractionBits : Int) = 52 := rfl
  have hbin : Ieee.double.binade = 4503599627370496 := by decide
  generalize Ieee.double.infRung = inf
  simp only [hp, hf, hbin]
  rw [show place + (mag.log2 : Int) - 52 = t from ht.symm, Int.max_eq_left h0]
  have e1 : (place - t).toNat = 52 - mag.log2 := by omega
  have e2 : (t - place).toNat = mag.log2 - 52 := by omega
  rw [e1, e2]
  have hk : Ieee.Toward.even.cut false (mag <<< (52 - mag.log2)) (mag.log2 - 52) ≤ 9007199254740992 := cut_le hm rfl Ieee.Toward.even
  generalize Ieee.Toward.even.cut false (mag <<< (52 - mag.log2)) (mag.log2 - 52) = kept at *
  have h5 : ((t - -1074).toNat : Int) = t + 1074 := by omega
  generalize (t - -1074).toNat = z at *
  obtain ⟨T, hT⟩ : ∃ T, T = z * 4503599627370496 + kept := ⟨_, rfl⟩
  rw [← hT]
  have h4 : Ieee.double.word false (min T inf) ≤ T := by
    unfold Ieee.Format.word
    rw [if_neg (by decide)]
    exact Nat.min_le_left _ _
  generalize Ieee.double.word false (min T inf) = r at *
  omega
theorem read_of {x B : Nat} (hB : B ≤ 1900) (hx : x ≤ B * 4503599627370496) : ∃ m i, Ieee.double.read x = .number false m i ∧ m < 9007199254740992 ∧ -1074 ≤ i ∧ i ≤ -1074 + B := by
  unfold Ieee.Format.read
  have hs : Ieee.double.signWeight = 9223372036854775808 := by decide
  have hbin : Ieee.double.binade = 4503599627370496 := by decide
  have hi : Ieee.double.infRung = 2047 * 4503599627370496 := by decide
  have hp : Ieee.double.leastPlace = -1074 := by decide
  simp only [hs, hbin, hi, hp]
  have hlt : x < 9223372036854775808 := by omega
  rw [Nat.mod_eq_of_lt hlt, Nat.div_eq_of_lt hlt]
  simp only [Nat.zero_mod, show (0 == 1) = false from rfl]
  by_cases h1 : x < 4503599627370496
  · rw [if_pos h1]
    exact ⟨x, -1074, rfl, by omega, by omega, by omega⟩
  · rw [if_neg h1, if_pos (by omega)]
    exact ⟨_, _, rfl, by omega, by omega, by omega⟩
theorem sqrt_small (n : Int) (h0 : 0 ≤ n) (h1 : n ≤ 2000000) : ∃ b r, FloatKind.f64.format.sqrt (floatOfInt .f64 n) = some b ∧ floatToIntVal .f64 b .i64 = some r ∧ 0 ≤ r ∧ r < 9007199254740992 := by
  -- the number in floating point
  have hin : ∃ m i, Ieee.double.read (floatOfInt .f64 n) = .number false m i ∧ m < 9007199254740992 ∧ -1074 ≤ i ∧ i ≤ -30 := by
    unfold floatOfInt FloatKind.nearest FloatKind.encode FloatKind.format Ieee.Format.write
    rw [show decide (n < 0) = false from by simp; omega]
    by_cases hz : n.natAbs = 0
    · rw [hz]
      refine ⟨0, -1074, by decide, by decide, by decide, by decide⟩
    · have hl : n.natAbs.log2 ≤ 20 := by
        have : n.natAbs < 2 ^ 21 := by omega
        have := (Nat.log2_lt hz).2 this
        omega
      have hle := nearest_le (place := 0) (t := 0 + n.natAbs.log2 - 52) hz rfl (by omega)
      obtain ⟨m, i, e1, e2, e3, e4⟩ := read_of (x := Ieee.double.nearest false n.natAbs 0) (B := 1044) (by decide) (by omega)
      exact ⟨m, i, e1, e2, e3, by omega⟩
  obtain ⟨m, i, hr, hm, hi0, hi1⟩ := hin
  -- what is written, is read as a small number
  have hout : ∀ x : Nat, x ≤ 1035 * 4503599627370496 → ∃ r, floatToIntVal .f64 x .i64 = some r ∧ 0 ≤ r ∧ r < 9007199254740992 := by
    intro x hx
    obtain ⟨m2, i2, e1, e2, e3, e4⟩ := read_of (B := 1035) (by decide) hx
    have hv : (FloatKind.f64.decode x).toInt .zero = some ((m2 / (1 <<< min (-i2).toNat (m2.log2 + 2)) : Nat) : Int) := by
      unfold FloatKind.decode FloatKind.format
      rw [e1]
      have e5 : i2.toNat = 0 := by omega
      simp [Ieee.Datum.toInt, Ieee.Datum.integral, Ieee.Toward.cut, Ieee.signed, e5]
    have hd := Nat.div_le_self m2 (1 <<< min (-i2).toNat (m2.log2 + 2))
    generalize m2 / (1 <<< min (-i2).toNat (m2.log2 + 2)) = z at *
    refine ⟨(z : Int), ?_, by omega, by omega⟩
    unfold floatToIntVal
    rw [hv]
    simp only
    have g1 : IntKind.i64.min = -9223372036854775808 := by decide
    have g2 : IntKind.i64.max = 9223372036854775807 := by decide
    rw [g1, g2]
    simp; omega
  dsimp only [FloatKind.format, Ieee.Format.sqrt]
  rw [hr]
  unfold Ieee.Datum.root
  by_cases hm0 : m = 0
  · subst hm0
    refine ⟨0, 0, by simp [Ieee.Format.write, Ieee.Format.nearest, Ieee.Format.word], by decide, by omega, by omega⟩
  · have hl : m.log2 ≤ 52 := by
      have : m < 2 ^ 53 := by omega
      have := (Nat.log2_lt hm0).2 this
      omega
    have hf : Ieee.double.fractionBits + 2 = 54 := rfl
    simp only [if_neg hm0, hf, Bool.false_eq_true, if_false, Option.map_some]
    generalize hpar : ((i - ((2 * 54 - m.log2 : Nat) : Int)) % 2).toNat = par
    have hpar1 : par ≤ 1 := by omega
    obtain ⟨more, hmore⟩ : ∃ more, more = 2 * 54 - m.log2 + par := ⟨_, rfl⟩
    rw [← hmore]
    have hn0 : m <<< more ≠ 0 := by
      rw [Nat.shiftLeft_eq]
      exact Nat.mul_ne_zero hm0 (Nat.ne_of_gt (Nat.two_pow_pos _))
    have hlog : (m <<< more).log2 ≤ 109 := by
      have h2 : m <<< more < 2 ^ 110 := by
        rw [Nat.shiftLeft_eq]
        calc m * 2 ^ more < 2 ^ (m.log2 + 1) * 2 ^ more := Nat.mul_lt_mul_of_pos_right Nat.lt_log2_self (Nat.two_pow_pos _)
          _ = 2 ^ (m.log2 + 1 + more) := (Nat.pow_add _ _ _).symm
          _ ≤ 2 ^ 110 := Nat.pow_le_pow_right (by decide) (by omega)
      have := (Nat.log2_lt hn0).2 h2
      omega
    have hw := rootFrom_le (m <<< more) ((m <<< more).log2 / 2 + 1) 0
    have hpw : 2 ^ ((m <<< more).log2 / 2 + 1) ≤ 2 ^ 55 := Nat.pow_le_pow_right (by decide) (by omega)
    generalize Ieee.Datum.rootFrom (m <<< more) ((m <<< more).log2 / 2 + 1) 0 = whole at *
    generalize (m <<< more) = n' at *
    have hbb : ∀ b : Bool, b.toNat ≤ 1 := fun b => by cases b <;> simp
    have hb1 := hbb (whole * whole != n')
    obtain ⟨M, hM⟩ : ∃ M, M = 2 * whole + (whole * whole != n').toNat := ⟨_, rfl⟩
    rw [← hM]
    have hMlt : M < 2 ^ 56 := by omega
    have hfin : Ieee.double.write (.number false M ((i - more) / 2 - 1)) ≤ 1035 * 4503599627370496 → ∃ b r, some (Ieee.double.write (.number false M ((i - more) / 2 - 1))) = some b ∧ floatToIntVal .f64 b .i64 = some r ∧ 0 ≤ r ∧ r < 9007199254740992 := by
      intro h
      obtain ⟨r, h3⟩ := hout _ h
      exact ⟨_, r, rfl, h3⟩
    refine hfin ?_
    unfold Ieee.Format.write
    simp only
    by_cases hM0 : M = 0
    · rw [hM0]
      simp [Ieee.Format.nearest, Ieee.Format.word]
    · have hlM : M.log2 ≤ 55 := by
        have := (Nat.log2_lt hM0).2 hMlt
        omega
      have hle := nearest_le (place := (i - more) / 2 - 1) (t := (i - more) / 2 - 1 + M.log2 - 52) hM0 rfl (by omega)
      omega
end Go.Proofs.Ytpaamhkgokkgpaa

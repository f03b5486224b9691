/- Walks: square roots (chapter 1). -/
import Derived.Test.YtpaamhkgokkgpaaFl
import Derived.Laws.Externs
namespace Go.Proofs.Ytpaamhkgokkgpaa
open Go.RowKit
set_option linter.unusedVariables false
set_option maxRecDepth 100000

def isqG : Nat → Nat
  | 0 => 0
  | n + 1 => if (isqG n + 1) * (isqG n + 1) ≤ n + 1 then isqG n + 1 else isqG n
theorem isqG_spec (n : Nat) : isqG n * isqG n ≤ n ∧ n < (isqG n + 1) * (isqG n + 1) := by
  induction n with
  | zero => decide
  | succ n ih =>
    obtain ⟨h1, h2⟩ := ih
    unfold isqG
    generalize isqG n = r at *
    have h3 : (r + 1 + 1) * (r + 1 + 1) = (r + 1) * (r + 1) + (r + 1) + (r + 1) + 1 := by rw [Nat.add_mul (r + 1) 1, Nat.mul_add (r + 1)]; omega
    split
    · exact ⟨by assumption, by omega⟩
    · exact ⟨by omega, by omega⟩
/-- The root, rounded down. -/
def isq (n : Int) : Int := isqG n.toNat
theorem isq_spec {n : Int} (h : 0 ≤ n) : 0 ≤ isq n ∧ isq n * isq n ≤ n ∧ n < (isq n + 1) * (isq n + 1) := by
  obtain ⟨h1, h2⟩ := isqG_spec n.toNat
  unfold isq
  generalize isqG n.toNat = r at *
  refine ⟨by omega, ?_, ?_⟩
  · have : ((r * r : Nat) : Int) ≤ n := by omega
    rwa [Int.natCast_mul] at this
  · have : n < (((r + 1) * (r + 1) : Nat) : Int) := by omega
    rwa [Int.natCast_mul, Int.natCast_add] at this
theorem sq_mono {a b : Int} (h0 : 0 ≤ a) (h : a ≤ b) : a * a ≤ b * b := Int.mul_le_mul h h h0 (by omega)
theorem isq_uniq {n r : Int} (h0 : 0 ≤ r) (h1 : r * r ≤ n) (h2 : n < (r + 1) * (r + 1)) : r = isq n := by
  have hn : 0 ≤ n := by have := Int.mul_nonneg h0 h0; omega
  obtain ⟨k0, k1, k2⟩ := isq_spec hn
  generalize isq n = s at *
  rcases Int.lt_trichotomy r s with h | h | h
  · have := sq_mono (show 0 ≤ r + 1 by omega) (show r + 1 ≤ s by omega); omega
  · exact h
  · have := sq_mono (show 0 ≤ s + 1 by omega) (show s + 1 ≤ r by omega); omega
theorem mathSqrt_any (x b : Nat) (h : FloatKind.f64.format.sqrt x = some b) (w : World) :
    Calls Try.prog 98 #[.float .f64 x] w fun e w' => e = .returned (.float .f64 b) ∧ w = w' := by
  have hd : ∀ w, (callFunc 101 #[.float .f64 x]).run Try.prog w = .ok (.value (.float .f64 b)) w := by
    intro w
    rw [run_callFunc_extern (e := Extern.MathSqrt.sqrt) Try.func101 (by kernel_rfl) (by kernel_rfl) (by kernel_rfl) (by kernel_rfl)]
    have e : Extern.MathSqrt.sqrt #[.float .f64 x] = (match FloatKind.f64.format.sqrt x with
      | some r => pure (.float .f64 r)
      | none => do pure (.float .f64 (← choose (.nanBits .f64 x x)))) := rfl
    rw [e, h]
    rfl
  go_enter Try.func98, Try.ntmps98
  go_wp2
  go_ret
  exact ⟨rfl, rfl⟩
theorem implRoot_any (n : Int) (h0 : 0 ≤ n) (h1 : n ≤ 2000000) (w : World) :
    Calls Try.prog 96 #[.int .i64 n] w fun e w' => e = .returned (.int .i64 (isq n)) ∧ w = w' := by
  obtain ⟨b, r0, hs, hc, hr0, hr1⟩ := sqrt_small n h0 h1
  have hconv : ∀ w, (convert 108 2 (.float .f64 b)).run Try.prog w = .ok (.int .i64 r0) w := fun w => run_convert_float_int w 108 2 .f64 .i64 b r0 (by rw [Try.underlying108]; rfl) Try.underlying2 hc
  have HU := Lib.hid (fun r a b c => isq_uniq (n := n) (r := r) a b c)
  clear hc
  go_enter Try.func96, Try.ntmps96
  go_wp2_with fail
  refine (mathSqrt_any _ _ hs _).mono ?_
  rintro e w' ⟨rfl, rfl⟩
  go_wp2_with fail
  clear hconv hs
  go_loop [3] (fun s => ∃ r : Int, 0 ≤ r ∧ r < 9007199254740992 ∧ s = .int .i64 r) (fun s => (intOf s).toNat)
  case atStart => exact ⟨r0, hr0, hr1, rfl⟩
  case round =>
    clear hr0 hr1
    obtain ⟨r, hr0, hr1, rfl⟩ := hrel
    by_cases ha : 3037000499 < r
    · go_wp2_with fail
      go_round
      case rel => exact ⟨r - 1, by omega, by omega, rfl⟩
      case measure => simp [intOf] <;> omega
    · have hb := sq_mono hr0 (show r ≤ 3037000499 by omega)
      have hb0 := Int.mul_nonneg hr0 hr0
      have hb1 : r * r ≤ 9223372030926249001 := by omega
      clear hb
      by_cases hc : n < r * r
      · have hr2 : 1 ≤ r := by
          by_cases h : 0 < r
          · omega
          · obtain rfl : r = 0 := by omega
            simp at hc; omega
        go_wp2_with fail
        go_round
        case rel => exact ⟨r - 1, by omega, by omega, rfl⟩
        case measure => simp [intOf] <;> omega
      · go_wp2_with fail
        clear ha hr1 hb1 hb0
        go_loop [3] (fun s => ∃ q : Int, 0 ≤ q ∧ q * q ≤ n ∧ s = .int .i64 q) (fun s => 2000 - (intOf s).toNat)
        case atStart => exact ⟨r, hr0, by omega, rfl⟩
        case round =>
          clear hc hr0
          obtain ⟨q, hq0, hq1, rfl⟩ := hrel
          have hq2 : q ≤ 1500 := by
            by_cases h : 1500 < q
            · have := sq_mono (show (0 : Int) ≤ 1501 by decide) (show 1501 ≤ q by omega); omega
            · omega
          have hb := sq_mono (show 0 ≤ q + 1 by omega) (show q + 1 ≤ 1501 by omega)
          have hb0 := Int.mul_nonneg (show 0 ≤ q + 1 by omega) (show 0 ≤ q + 1 by omega)
          have hb1 : (q + 1) * (q + 1) ≤ 2253001 := by omega
          clear hb
          have HQ1 := Lib.hid hq1
          clear hq1
          by_cases hd : (q + 1) * (q + 1) ≤ n
          · go_wp2_with fail
            go_round
            case rel => exact ⟨q + 1, by omega, hd, rfl⟩
            case measure => simp [intOf] <;> omega
          · have hd' : n < (q + 1) * (q + 1) := by omega
            go_wp2_with fail
            go_ret
            exact ⟨ret_int (HU.out q hq0 HQ1.out hd'), rfl⟩
theorem specRoot_any (n : Int) (h0 : 0 ≤ n) (h1 : n ≤ 2000000) (w : World) :
    Calls Try.prog 81 #[.int .i64 n] w fun e w' => e = .returned (.int .i64 (isq n)) ∧ w = w' := by
  have HU := Lib.hid (fun r a b c => isq_uniq (n := n) (r := r) a b c)
  go_enter Try.func81, Try.ntmps81
  go_wp2_with fail
  go_loop [3, 4, 5] (fun s t _ => ∃ a b : Int, 0 ≤ a ∧ a < b ∧ b ≤ 1000000001 ∧ Hid (a * a ≤ n ∧ n < b * b) ∧ s = .int .i64 a ∧ t = .int .i64 b) (fun s t _ => (intOf t - intOf s).toNat)
  case atStart => exact ⟨0, 1000000001, by omega, by omega, by omega, ⟨by omega, by omega⟩, rfl, rfl⟩
  case round =>
    obtain ⟨a, b, ha, hab, hb, hh, rfl, rfl⟩ := hrel
    by_cases hlt : a + 1 < b
    · have m1 : a < (a + b) / 2 := by omega
      have m2 : (a + b) / 2 < b := by omega
      obtain ⟨m, hm⟩ : ∃ m, m = (a + b) / 2 := ⟨_, rfl⟩
      have hm' : (a + b) / 2 = m := hm.symm
      rw [← hm] at m1 m2
      have hb1 := sq_mono (show 0 ≤ m by omega) (show m ≤ 1000000001 by omega)
      have hb0 := Int.mul_nonneg (show 0 ≤ m by omega) (show 0 ≤ m by omega)
      have hb2 : m * m ≤ 1000000002000000001 := by omega
      clear hb1 hm
      by_cases hc : m * m ≤ n
      · go_wp2_with fail
        go_round
        case rel => exact ⟨m, b, by omega, by omega, hb, ⟨hc, hh.out.2⟩, congrArg (Value.int .i64) hm', rfl⟩
        case measure => simp [intOf] <;> omega
      · go_wp2_with fail
        go_round
        case rel => exact ⟨a, m, by omega, by omega, by omega, ⟨hh.out.1, by omega⟩, rfl, congrArg (Value.int .i64) hm'⟩
        case measure => simp [intOf] <;> omega
    · go_wp2_with fail
      go_ret
      obtain rfl : b = a + 1 := by omega
      exact ⟨ret_int (HU.out a ha hh.out.1 hh.out.2), rfl⟩
end Go.Proofs.Ytpaamhkgokkgpaa

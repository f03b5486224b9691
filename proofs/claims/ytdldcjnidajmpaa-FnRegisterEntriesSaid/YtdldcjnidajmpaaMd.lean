/- Plain functions: the source of numbers of the drawn laws: no Go in sight. -/
import Derived.Test.YtdldcjnidajmpaaLib
namespace Go.Proofs.Ytdldcjnidajmpaa
open Go.RowKit
set_option linter.unusedVariables false

/-- The state of a source: how many bytes are used up, the seed. -/
abbrev St := Nat × Int
def fromGo : List Int → Int → Int
  | [], h => h
  | c :: r, h => fromGo r ((h * 53 + c) % 2147483647)
def fromF (code : List Int) : St := (0, fromGo (code.take 64) 61657)
theorem fromGo_bd (code : List Int) (h : Int) (h0 : 0 ≤ h) (h1 : h < 2147483647) : 0 ≤ fromGo code h ∧ fromGo code h < 2147483647 := by
  induction code generalizing h with
  | nil => exact ⟨h0, h1⟩
  | cons c r ih => exact ih _ (by omega) (by omega)
def stepH (h : Int) : Int := (h * 48271 + 23) % 2147483647
def nextF (code : List Int) (s : St) (n : Int) : Int × St :=
  if n ≤ 1 then (0, s)
  else if s.1 < code.length then
    ((if n ≤ 256 ∧ (s.1 + 1) % 2 = 0 then code.getD s.1 0 else stepH s.2 / 17 + code.getD s.1 0) % n, (s.1 + 1, stepH s.2))
  else (stepH s.2 / 17 % n, (s.1, stepH s.2))
theorem stepH_bd (h : Int) : 0 ≤ stepH h ∧ stepH h < 2147483647 := by unfold stepH; omega
theorem nextF_bd (code : List Int) (s : St) (n : Int) (hn : 1 ≤ n) : 0 ≤ (nextF code s n).1 ∧ (nextF code s n).1 < n := by
  unfold nextF
  split
  · exact ⟨Int.le_refl _, by omega⟩
  · split
    · exact ⟨Int.emod_nonneg _ (by omega), Int.emod_lt_of_pos _ (by omega)⟩
    · exact ⟨Int.emod_nonneg _ (by omega), Int.emod_lt_of_pos _ (by omega)⟩
theorem nextF_nonneg (code : List Int) (s : St) (n : Int) : 0 ≤ (nextF code s n).1 := by
  by_cases h : 1 ≤ n
  · exact (nextF_bd code s n h).1
  · unfold nextF; rw [if_pos (by omega)]; exact Int.le_refl _

/-- A valid state. -/
def StOk (code : List Int) (s : St) : Prop := s.1 ≤ code.length ∧ 0 ≤ s.2 ∧ s.2 < 2147483647
theorem nextF_ok (code : List Int) (s : St) (n : Int) (h : StOk code s) : StOk code (nextF code s n).2 := by
  have hb := stepH_bd s.2
  unfold nextF
  split
  · exact h
  · split
    · exact ⟨by simp; omega, hb.1, hb.2⟩
    · exact ⟨h.1, hb.1, hb.2⟩
theorem fromF_ok (code : List Int) : StOk code (fromF code) := ⟨Nat.zero_le _, fromGo_bd _ _ (by omega) (by omega)⟩
end Go.Proofs.Ytdldcjnidajmpaa

/- Sizes that the laws ask first, of slices of structs. -/
import Derived.Test.YtgkflaeaiijhjaaZma
namespace Go.Proofs.Ytgkflaeaiijhjaa
set_option linter.unusedVariables false

def szIf (left : Int) (n : Nat) : Int := if left < n then -1 else left - n
theorem szIf_le {left : Int} {n : Nat} (h : 0 ≤ szIf left n) (h1 : left ≤ 1048576) : n ≤ 1048576 := by
  unfold szIf at h
  split at h <;> omega
theorem szIf_top {left : Int} {n : Nat} (h : 0 ≤ szIf left n) (h0 : 0 ≤ left) (h1 : left ≤ 1048576) : szIf left n ≤ 1048576 := by
  unfold szIf at h ⊢
  split at h
  · omega
  · rw [if_neg (by assumption)]; omega
end Go.Proofs.Ytgkflaeaiijhjaa

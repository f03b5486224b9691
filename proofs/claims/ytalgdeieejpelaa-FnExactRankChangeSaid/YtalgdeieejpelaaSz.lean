/- Sizes that the laws ask first: what a size that is not negative tells. -/
import Derived.Test.YtalgdeieejpelaaTa
namespace Go.Proofs.Ytalgdeieejpelaa
open Go.RowKit
set_option linter.unusedVariables false

def szIf (left : Int) (n : Nat) : Int := if left < n then -1 else left - n
theorem szIf_le {left : Int} {n : Nat} (h : 0 ≤ szIf left n) (h1 : left ≤ 1048576) : n ≤ 1048576 := by
  unfold szIf at h
  split at h <;> omega
theorem szIf_top {left : Int} {n : Nat} (h : 0 ≤ szIf left n) (h0 : 0 ≤ left) (h1 : left ≤ 1048576) : szIf left n ≤ 1048576 := by
  unfold szIf at h ⊢
  split at h
  · omega
  · rw [if_neg (by assumption)]; omega
theorem szF_le {left : Int} {n : Nat} (h : 0 ≤ szF left n) (h1 : left ≤ 1048576) : n ≤ 1048576 := by
  unfold szF at h
  split at h <;> omega
theorem szF_top {left : Int} {n : Nat} (h : 0 ≤ szF left n) (h0 : 0 ≤ left) (h1 : left ≤ 1048576) : szF left n ≤ 1048576 := by
  unfold szF at h ⊢
  split at h
  · omega
  · rw [if_neg (by assumption)]; omega
theorem szRowsF_top {left : Int} {rows : List (List Int)} (h : 0 ≤ szRowsF left rows) (h0 : 0 ≤ left) (h1 : left ≤ 1048576) : szRowsF left rows ≤ 1048576 := by
  have := szRowsF_mono h; omega
theorem szTabF_top {left : Int} {t : Tb} (h : 0 ≤ szTabF left t) (h0 : 0 ≤ left) (h1 : left ≤ 1048576) : szTabF left t ≤ 1048576 := (szTabF_le h h0 h1).2.2
theorem szTabF_tab {left : Int} {w : World} {P C : Option Addr} {n m : Nat} {t : Tb} (h : 0 ≤ szTabF left t) (h0 : 0 ≤ left) (h1 : left ≤ 1048576) (hr : RdT w P n C m t) :
    (n ≤ 1048576 ∧ m ≤ 1048576) ∧ Hid (∀ x ∈ t.pts, x.length ≤ 1048576) ∧ Hid (∀ x ∈ t.cds, x.length ≤ 1048576) := by
  obtain ⟨⟨a, b⟩, ⟨c, d⟩, _⟩ := szTabF_le h h0 h1
  rw [hr.pts.len] at a
  rw [hr.cds.len] at c
  exact ⟨⟨a, c⟩, Lib.hid b, Lib.hid d⟩
end Go.Proofs.Ytalgdeieejpelaa

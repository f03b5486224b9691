/- Walks: what the points of fleets need of the fleets (chapter 30). -/
import Derived.Test.YtgkflaeaiijhjaaZma
namespace Go.Proofs.Ytgkflaeaiijhjaa
open Go.RowKit
set_option linter.unusedVariables false
set_option maxRecDepth 100000

theorem fleetsB_len {xs : List Int} {k : Int} (h : fleetsB xs k = true) : 1 ≤ xs.length ∧ xs.length ≤ 16 := by
  unfold fleetsB at h
  simp only [Bool.and_eq_true, withinB_iff] at h
  omega
theorem fleetsB_mem {xs : List Int} {k : Int} (h : fleetsB xs k = true) {i : Nat} {x : Int} (hx : xs[i]? = some x) : ∃ j : Nat, x = j ∧ (j : Int) < k := by
  unfold fleetsB at h
  simp only [Bool.and_eq_true, List.all_eq_true] at h
  have := withinB_iff.1 (h.2 x (List.mem_of_getElem? hx))
  exact ⟨x.toNat, by omega, by omega⟩
theorem fleetsCode_ok {xs : List Int} {k : Int} (h : fleetsCodeF xs k = 0) : 1 ≤ k ∧ k ≤ 4 ∧ fleetsB xs k = true := by
  unfold fleetsCodeF at h
  split at h
  · rename_i h1
    split at h
    · rename_i h2
      exact ⟨(withinB_iff.1 h1).1, (withinB_iff.1 h1).2, h2⟩
    · cases h
  · cases h

end Go.Proofs.Ytgkflaeaiijhjaa

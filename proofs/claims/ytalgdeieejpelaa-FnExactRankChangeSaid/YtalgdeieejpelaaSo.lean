/- What a law is told of a slice of slices of integers that came in. -/
import Derived.Test.YtalgdeieejpelaaSs
import Derived.Deep.Matrix
namespace Go.Proofs.Ytalgdeieejpelaa
open Go.RowKit
set_option linter.unusedVariables false

theorem rdRows_of {w : World} {base : Nat} {a : Addr} {len cap : Nat} {A : Nat → Option Addr} {L C : Nat → Nat} {Z : Nat → List Int} (hl : len ≤ cap) (hm : cap ≤ maxLen)
    (h : ∀ r, r < cap → w.cell? (a.add r) = some (.slice (A r) (L r) (C r)) ∧ L r ≤ C r ∧ C r ≤ maxLen ∧ (Z r).length = C r ∧ (∀ n ∈ Z r, (Lit.int .i64 n).wf = true) ∧ (A r = none → C r = 0) ∧ ∀ a', A r = some a' → base ≤ a'.block ∧ ∀ c, c < C r → w.cell? (a'.add c) = some (.int .i64 ((Z r).getD c 0))) :
    RdRows w (some a) len ((List.range len).map fun r => (Z r).take (L r)) := by
  unfold maxLen at hm
  refine ⟨by simp, by omega, fun k hk => ?_⟩
  obtain ⟨h1, h2, h3, h4, h5, h6, h7⟩ := h k (by omega)
  have h0 := (h 0 (by omega)).1
  have hadd0 : a.add 0 = a := by simp [Addr.add]
  rw [hadd0] at h0
  obtain ⟨b, o, sp⟩ := a
  obtain rfl : sp = none := spot_none h0
  have hadd : (⟨b, o, none⟩ : Addr).add k = ⟨b, o + k, none⟩ := by unfold Addr.add; split <;> simp_all
  rw [hadd] at h1
  have hlen : ((Z k).take (L k)).length = L k := by simp; omega
  have hrow : IsRow .i64 w (A k) (L k) (C k) (Z k) := by
    rcases hA : A k with _ | a'
    · have hc := h6 hA
      exact .inl ⟨rfl, by omega, hc, List.eq_nil_of_length_eq_zero (by omega)⟩
    · exact .inr ⟨a', rfl, h2, h3, h4, fun i hi => (h7 a' hA).2 i (by omega), h5⟩
  refine ⟨b, o, A k, C k, (Z k).take (L k), rfl, by simp [hk], by rw [hlen]; exact h1, by rw [hlen]; exact hrow.rd⟩
theorem rdRows_none (w : World) : RdRows w none 0 [] := ⟨rfl, by omega, fun k hk => by omega⟩
end Go.Proofs.Ytalgdeieejpelaa

/- Plain: all places, the range of ranks (chapter 31): no Go in sight. -/
import Derived.Test.YtfkllgnenbbccaaMt
namespace Go.Proofs.Ytfkllgnenbbccaa
open Go.RowKit
set_option linter.unusedVariables false

/-- The places that are tried, in their order: next, next + 1, .. are put where 0 stands. -/
def placeL (n : Nat) : Nat → Nat → List Int → List (List Int)
  | 0, _, p => [p]
  | m + 1, next, p => (List.range n).flatMap fun i => if p.getD i 0 = 0 then placeL n m (next + 1) (p.set i (next : Int)) else []
def placesL (n : Nat) : List (List Int) := placeL n n 1 (List.replicate n 0)
/-- All permutations, as the laws list them. -/
def insL (k : Int) (p : List Int) : List (List Int) := (List.range (p.length + 1)).map fun at_ => p.take at_ ++ [k] ++ p.drop at_
def allGo : Nat → Nat → List (List Int) → List (List Int)
  | 0, _, out => out
  | m + 1, k, out => allGo m (k + 1) (out.flatMap (insL (k : Int)))
def allL (n : Nat) : List (List Int) := allGo n 1 [[]]
def goodB (n : Nat) (p : List Int) : Bool := p.length == n && isPermB 1 p
theorem lists_same : ∀ n : Fin 6, (placesL n.val).all (fun p => goodB n.val p && (allL n.val).contains p) = true ∧ (allL n.val).all (fun p => (placesL n.val).contains p) = true := by decide +kernel
theorem mem_same {n : Nat} (h : n ≤ 5) (p : List Int) : p ∈ placesL n ↔ p ∈ allL n := by
  obtain ⟨h1, h2⟩ := lists_same ⟨n, by omega⟩
  simp only [List.all_eq_true, Bool.and_eq_true, List.contains_iff_mem] at h1 h2
  exact ⟨fun hp => (h1 p hp).2, fun hp => h2 p hp⟩
theorem mem_good {n : Nat} (h : n ≤ 5) {p : List Int} (hp : p ∈ placesL n) : p.length = n ∧ isPermB 1 p = true := by
  obtain ⟨h1, _⟩ := lists_same ⟨n, by omega⟩
  simp only [List.all_eq_true, Bool.and_eq_true] at h1
  have := (h1 p hp).1
  unfold goodB at this
  simpa using this
/-- Each place is had by each boat somewhere. -/
theorem mem_at : ∀ n : Fin 6, ∀ b : Fin 5, ∀ k : Fin 5, b.val < n.val → k.val < n.val → (placesL n.val).any (fun p => p.getD b.val 0 == (k.val + 1 : Nat)) = true := by decide +kernel
/-- One places' share in the range of ranks. -/
def useF (net : List Int) (factor boat most : Int) (s : Int × Int) (p : List Int) : Int × Int :=
  if p.getD boat.toNat 0 ≤ most then (min s.1 (rankF factor net p boat), max s.2 (rankF factor net p boat)) else s
end Go.Proofs.Ytfkllgnenbbccaa

/- Plain: the full order (chapter 31): no Go in sight. -/
import Derived.Test.YtfkllgnenbbccaaMt
namespace Go.Proofs.Ytfkllgnenbbccaa
open Go.RowKit
set_option linter.unusedVariables false

theorem indexF_bd (v : Int) (i : Nat) (xs : List Int) : -1 ≤ indexF v i xs := by
  induction xs generalizing i with
  | nil => exact Int.le_refl _
  | cons x r ih =>
    unfold indexF
    split
    · omega
    · exact ih _
theorem indexF_mem (v : Int) (i : Nat) (xs : List Int) : 0 ≤ indexF v i xs ↔ v ∈ xs := by
  induction xs generalizing i with
  | nil => simp [indexF]
  | cons x r ih =>
    unfold indexF
    split
    · rename_i h; subst h; simp
    · rename_i h
      rw [ih, List.mem_cons]
      exact ⟨.inr, fun h' => h'.resolve_left h⟩
/-- Is each element from place k on another than those before it? -/
def distF (xs : List Int) : Nat → Nat → Bool
  | 0, _ => true
  | m + 1, k => if xs.getD k 0 ∈ xs.take k then false else distF xs m (k + 1)
def distinctB (xs : List Int) : Bool := distF xs xs.length 0
def fullF (st net : List Int) (factor : Int) (places : List Int) : List Int × Int :=
  if placesCodeF net factor places 0 = 0 then
    (if st.length < net.length ∨ 16 < st.length then ([], 5)
     else if distinctB st then ((orderF factor net places).map (fun k => st.getD k.toNat 0) ++ st.drop net.length, 0) else ([], 5))
  else ([], placesCodeF net factor places 0)
end Go.Proofs.Ytfkllgnenbbccaa

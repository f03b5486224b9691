/- Plain functions and facts of the medals chapter: no Go in sight. -/
import Derived.Test.YtfkllgnenbbccaaMf
namespace Go.Proofs.Ytfkllgnenbbccaa
open Go.RowKit
set_option linter.unusedVariables false

def sortedB : List Int → Bool
  | x :: y :: r => decide (x ≤ y) && sortedB (y :: r)
  | _ => true
theorem sortedB_iff {xs : List Int} : sortedB xs = true ↔ ∀ (i : Nat) (x y : Int), xs[i]? = some x → xs[i + 1]? = some y → x ≤ y := by
  induction xs with
  | nil => simp [sortedB]
  | cons a r ih =>
    cases r with
    | nil => simp [sortedB]
    | cons b q =>
      simp only [sortedB, Bool.and_eq_true, decide_eq_true_eq]
      constructor
      · rintro ⟨h1, h2⟩ i x y hx hy
        cases i with
        | zero => simp at hx hy; omega
        | succ i => exact ih.1 h2 i x y (by simpa using hx) (by simpa using hy)
      · intro h
        refine ⟨h 0 a b rfl rfl, ih.2 fun i x y hx hy => h (i + 1) x y (by simpa using hx) (by simpa using hy)⟩
theorem sortedB_not {xs : List Int} {i : Nat} {x y : Int} (hx : xs[i]? = some x) (hy : xs[i + 1]? = some y) (h : y < x) : sortedB xs = false := by
  cases hs : sortedB xs with
  | false => rfl
  | true => have := sortedB_iff.1 hs i x y hx hy; omega

def medalB (xs : List Int) : Bool := withinB (xs.length : Int) 1 5 && (xs.all (fun x => withinB x 0 200000) && sortedB xs)
theorem medalB_len {xs : List Int} (h : medalB xs = true) : 1 ≤ xs.length ∧ xs.length ≤ 5 := by
  unfold medalB at h
  simp only [Bool.and_eq_true, withinB_iff] at h
  omega
theorem medalB_mem {xs : List Int} (h : medalB xs = true) {i : Nat} {x : Int} (hx : xs[i]? = some x) : 0 ≤ x ∧ x ≤ 200000 := by
  unfold medalB at h
  simp only [Bool.and_eq_true, List.all_eq_true] at h
  exact withinB_iff.1 (h.2.1 x (List.mem_of_getElem? hx))

def medalCodeF (net : List Int) (factor boat : Int) : Int :=
  if medalB net then (if withinB factor 1 3 && withinB boat 0 (net.length - 1) then 0 else 2) else 1
def placesB (places : List Int) (m : Nat) : Bool := places.length == m && isPermB 1 places
def placesCodeF (net : List Int) (factor : Int) (places : List Int) (boat : Int) : Int :=
  if medalCodeF net factor boat = 0 then (if placesB places net.length then 0 else 5) else medalCodeF net factor boat
theorem medalCode_ok {net : List Int} {factor boat : Int} (h : medalCodeF net factor boat = 0) :
    medalB net = true ∧ 1 ≤ factor ∧ factor ≤ 3 ∧ 0 ≤ boat ∧ boat < net.length := by
  unfold medalCodeF at h
  split at h
  · rename_i h1
    split at h
    · rename_i h2
      simp only [Bool.and_eq_true, withinB_iff] at h2
      exact ⟨h1, by omega, by omega, by omega, by omega⟩
    · cases h
  · cases h
theorem placesCode_ok {net places : List Int} {factor boat : Int} (h : placesCodeF net factor places boat = 0) :
    medalCodeF net factor boat = 0 ∧ places.length = net.length ∧ isPermB 1 places = true := by
  unfold placesCodeF at h
  split at h
  · rename_i h1
    split at h
    · rename_i h2
      simp only [placesB, Bool.and_eq_true, beq_iff_eq] at h2
      exact ⟨h1, h2.1, h2.2⟩
    · cases h
  · rename_i h1; exact absurd h h1
theorem isPermB_mem {low : Int} {xs : List Int} (h : isPermB low xs = true) {i : Nat} {x : Int} (hx : xs[i]? = some x) : low ≤ x ∧ x ≤ low + xs.length - 1 :=
  permF_mem h x (List.mem_of_getElem? hx)

/-- The final points. -/
def ptsF (factor : Int) : List Int → List Int → List Int
  | x :: xs, p :: ps => (x + 10 * factor * p) :: ptsF factor xs ps
  | _, _ => []
theorem ptsF_get {factor : Int} {xs ps : List Int} {i : Nat} {x p : Int} (hx : xs[i]? = some x) (hp : ps[i]? = some p) : (ptsF factor xs ps)[i]? = some (x + 10 * factor * p) := by
  induction xs generalizing ps i with
  | nil => simp at hx
  | cons a r ih =>
    cases ps with
    | nil => simp at hp
    | cons b q =>
      cases i with
      | zero => simp at hx hp; subst hx hp; rfl
      | succ i => simp only [ptsF, List.getElem?_cons_succ]; exact ih (by simpa using hx) (by simpa using hp)
theorem ptsF_len {factor : Int} {xs ps : List Int} (h : xs.length = ps.length) : (ptsF factor xs ps).length = xs.length := by
  induction xs generalizing ps with
  | nil => rfl
  | cons a r ih =>
    cases ps with
    | nil => simp at h
    | cons b q => simp only [ptsF, List.length_cons]; rw [ih (by simpa using h)]
def finalPointsF (net : List Int) (factor : Int) (places : List Int) : List Int × Int :=
  if placesCodeF net factor places 0 = 0 then (ptsF factor net places, 0) else ([], placesCodeF net factor places 0)
end Go.Proofs.Ytfkllgnenbbccaa

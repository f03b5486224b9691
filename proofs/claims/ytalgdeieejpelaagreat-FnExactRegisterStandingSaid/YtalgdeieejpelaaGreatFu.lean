/- Plain: the points of a race in fleets, boat by boat. -/
import Derived.Test.YtalgdeieejpelaaGreatZmb
namespace Go.Proofs.YtalgdeieejpelaaGreat
open Go.RowKit
set_option linter.unusedVariables false

def ptF (L : Int) (fs : List FinishT) (list : List Int) (i : Nat) : Int := pointF L (ofFleet (list.getD i 0) fs list) (fs.getD i (0, 0, 0))
def pointsL (L : Int) (fs : List FinishT) (list : List Int) : List Int := (List.range list.length).map (ptF L fs list)
/-- The points of the fleets below fl and of the boats in S. -/
def partG (L : Int) (fs : List FinishT) (list : List Int) (fl : Int) (S : List Int) : List Int :=
  (List.range list.length).map fun i => if list.getD i 0 < fl ∨ (i : Int) ∈ S then ptF L fs list i else 0
def fleetPointsL (fs : List FinishT) (list : List Int) (k : Int) : List Int × Int :=
  if fleetsCodeF list k = 0 then (if raceB (list.length : Int) fs = true then (pointsL (largestF (countF list (List.replicate k.toNat 0))) fs list, 0) else ([], 5)) else ([], fleetsCodeF list k)
theorem partG_len (L : Int) (fs : List FinishT) (list : List Int) (fl : Int) (S : List Int) : (partG L fs list fl S).length = list.length := by unfold partG; simp
theorem getD_mem {α : Type} {xs : List α} {i : Nat} {d : α} (h : i < xs.length) : xs.getD i d ∈ xs := by
  rw [List.getD_eq_getElem?_getD, List.getElem?_eq_getElem h]; exact List.getElem_mem _
theorem partG_zero (L : Int) (fs : List FinishT) {list : List Int} (h : ∀ x ∈ list, 0 ≤ x) : partG L fs list 0 [] = List.replicate list.length 0 := by
  apply List.ext_getElem
  · simp [partG]
  · intro i h1 h2
    simp only [partG, List.length_map, List.length_range] at h1
    have := h _ (getD_mem (d := 0) h1)
    simp only [partG, List.getElem_map, List.getElem_range, List.getElem_replicate, List.not_mem_nil, or_false]
    rw [if_neg (by omega)]
theorem partG_end (L : Int) (fs : List FinishT) {list : List Int} {k : Int} (h : ∀ x ∈ list, x < k) : partG L fs list k [] = pointsL L fs list := by
  apply List.ext_getElem
  · simp [partG, pointsL]
  · intro i h1 h2
    simp only [partG, List.length_map, List.length_range] at h1
    have := h _ (getD_mem (d := 0) h1)
    simp only [partG, pointsL, List.getElem_map, List.getElem_range]
    rw [if_pos (.inl this)]
theorem partG_set (L : Int) (fs : List FinishT) (list : List Int) (fl : Int) (S : List Int) (b : Nat) : (partG L fs list fl S).set b (ptF L fs list b) = partG L fs list fl (S ++ [(b : Int)]) := by
  apply List.ext_getElem
  · simp [partG]
  · intro i h1 h2
    rw [List.getElem_set]
    simp only [partG, List.getElem_map, List.getElem_range, List.mem_append, List.mem_singleton]
    by_cases hb : b = i
    · subst hb
      rw [if_pos rfl, if_pos (.inr (.inr rfl))]
    · rw [if_neg hb]
      have : ¬ (i : Int) = (b : Int) := by omega
      simp [this]
theorem boatsF_mem {fl : Int} : ∀ {xs : List Int} {i : Nat} {y : Int}, y ∈ boatsF fl i xs ↔ ∃ j : Nat, y = ((i + j : Nat) : Int) ∧ xs[j]? = some fl := by
  intro xs
  induction xs with
  | nil => intro i y; simp [boatsF]
  | cons x r ih =>
    intro i y
    unfold boatsF
    constructor
    · intro h
      split at h
      · rename_i hx
        rcases List.mem_cons.1 h with h | h
        · exact ⟨0, by simpa using h, by simp [hx]⟩
        · obtain ⟨j, h1, h2⟩ := ih.1 h
          exact ⟨j + 1, by rw [h1]; congr 1; omega, by simpa using h2⟩
      · obtain ⟨j, h1, h2⟩ := ih.1 h
        exact ⟨j + 1, by rw [h1]; congr 1; omega, by simpa using h2⟩
    · rintro ⟨j, h1, h2⟩
      cases j with
      | zero => simp at h2; rw [if_pos h2]; exact List.mem_cons.2 (.inl (by simpa using h1))
      | succ j =>
        have hm : y ∈ boatsF fl (i + 1) r := ih.2 ⟨j, by rw [h1]; congr 1; omega, by simpa using h2⟩
        split
        · exact List.mem_cons_of_mem _ hm
        · exact hm
theorem boatsF_at {fl : Int} {xs : List Int} {t : Nat} {y : Int} (h : (boatsF fl 0 xs)[t]? = some y) : ∃ j : Nat, y = (j : Int) ∧ j < xs.length ∧ xs[j]? = some fl := by
  obtain ⟨j, h1, h2⟩ := boatsF_mem.1 (List.mem_of_getElem? h)
  exact ⟨j, by simpa using h1, (List.getElem?_eq_some_iff.1 h2).1, h2⟩
theorem boatsF_len (fl : Int) : ∀ (xs : List Int) (i : Nat), (boatsF fl i xs).length ≤ xs.length := by
  intro xs
  induction xs with
  | nil => intro i; simp [boatsF]
  | cons x r ih => intro i; have := ih (i + 1); unfold boatsF; split <;> simp <;> omega
theorem partG_next (L : Int) (fs : List FinishT) (list : List Int) (fl : Int) : partG L fs list fl (boatsF fl 0 list) = partG L fs list (fl + 1) [] := by
  apply List.ext_getElem
  · simp [partG]
  · intro i h1 h2
    simp only [partG, List.length_map, List.length_range] at h1
    simp only [partG, List.getElem_map, List.getElem_range, List.not_mem_nil, or_false]
    have e : (i : Int) ∈ boatsF fl 0 list ↔ list.getD i 0 = fl := by
      rw [boatsF_mem, List.getD_eq_getElem?_getD, List.getElem?_eq_getElem h1]
      constructor
      · rintro ⟨j, e1, e2⟩
        obtain rfl : i = j := by omega
        rw [List.getElem?_eq_getElem h1] at e2; injection e2
      · intro e1
        exact ⟨i, by simp, by rw [List.getElem?_eq_getElem h1]; simpa using e1⟩
    by_cases hc : list.getD i 0 < fl + 1
    · rw [if_pos hc, if_pos (by rw [e]; omega)]
    · rw [if_neg hc, if_neg (by rw [e]; omega)]
theorem boats_fins_go (fl : Int) (all : List FinishT) : ∀ (xs : List Int) (fs : List FinishT) (i : Nat), all.drop i = fs → fs.length = xs.length →
    (boatsF fl i xs).map (fun y => all.getD y.toNat (0, 0, 0)) = ofFleet fl fs xs := by
  intro xs
  induction xs with
  | nil => intro fs i h hl; cases fs with
    | nil => rfl
    | cons f r => simp at hl
  | cons x r ih =>
    intro fs i h hl
    cases fs with
    | nil => simp at hl
    | cons f q =>
      have h2 : all.drop (i + 1) = q := by rw [← List.drop_drop, h]; rfl
      have hg : all.getD i (0, 0, 0) = f := by
        have : (all.drop i)[0]? = some f := by rw [h]; rfl
        rw [List.getElem?_drop] at this
        rw [List.getD_eq_getElem?_getD]
        simp at this
        rw [this]; rfl
      have := ih q (i + 1) h2 (by simpa using hl)
      unfold boatsF ofFleet
      split
      · rw [List.map_cons, this]; congr 1
      · exact this
theorem boats_fins (fl : Int) {xs : List Int} {fs : List FinishT} (h : fs.length = xs.length) : (boatsF fl 0 xs).map (fun y => fs.getD y.toNat (0, 0, 0)) = ofFleet fl fs xs :=
  boats_fins_go fl fs xs fs 0 rfl h
theorem ofFleet_at {fl : Int} {xs : List Int} {fs : List FinishT} (h : fs.length = xs.length) {t : Nat} {y : Nat} (hy : (boatsF fl 0 xs)[t]? = some (y : Int)) : (ofFleet fl fs xs)[t]? = some (fs.getD y (0, 0, 0)) := by
  rw [← boats_fins fl h, List.getElem?_map, hy]; rfl
/-- What a boat of the fleet gets. -/
theorem ptF_at {L fl : Int} {xs : List Int} {fs : List FinishT} {y : Nat} (hy : xs[y]? = some fl) : ptF L fs xs y = pointF L (ofFleet fl fs xs) (fs.getD y (0, 0, 0)) := by
  unfold ptF
  rw [List.getD_eq_getElem?_getD, hy]; rfl
theorem partG_skip {L : Int} {fs : List FinishT} {list : List Int} {fl : Int} {S : List Int} {b : Nat} (hz : ptF L fs list b = 0) : partG L fs list fl S = partG L fs list fl (S ++ [(b : Int)]) := by
  rw [← partG_set]
  apply List.ext_getElem
  · simp
  · intro i h1 h2
    rw [List.getElem_set]
    split
    · rename_i hb
      subst hb
      simp only [partG, List.getElem_map, List.getElem_range]
      rw [hz]
      split <;> rfl
    · rfl
theorem largest_snoc (xs : List Int) (x : Int) : largestF (xs ++ [x]) = max (largestF xs) x := by unfold largestF; rw [List.foldl_append]; rfl
theorem largest_le {xs : List Int} (h : ∀ x ∈ xs, x ≤ 16) : 0 ≤ largestF xs ∧ largestF xs ≤ 16 := by
  unfold largestF
  have : ∀ (ys : List Int) (a : Int), 0 ≤ a → a ≤ 16 → (∀ x ∈ ys, x ≤ 16) → 0 ≤ ys.foldl max a ∧ ys.foldl max a ≤ 16 := by
    intro ys
    induction ys with
    | nil => intro a h0 h1 _; exact ⟨h0, h1⟩
    | cons y r ih => intro a h0 h1 h2; exact ih _ (by omega) (by have := h2 y (by simp); omega) (fun x hx => h2 x (by simp [hx]))
  exact this xs 0 (by omega) (by omega) h
theorem filter_of_fleet (fl t : Int) (p : FinishT → Bool) : ∀ (fs : List FinishT) (l : List Int), fs.length = l.length →
    ((ofFleet fl fs l).filter p).length = (((fs.zip l).filter fun q => p q.1 && (q.2 == fl)).length) := by
  intro fs
  induction fs with
  | nil => intro l h; simp [ofFleet]
  | cons f r ih =>
    intro l h
    cases l with
    | nil => simp at h
    | cons x l =>
      have := ih l (by simpa using h)
      unfold ofFleet
      rw [List.zip_cons_cons, List.filter_cons]
      by_cases hx : x = fl
      · subst hx
        rw [if_pos rfl, List.filter_cons]
        by_cases hp : p f = true
        · rw [if_pos hp, if_pos (by simp [hp])]; simp [this]
        · rw [if_neg hp, if_neg (by simp [hp])]; exact this
      · rw [if_neg hx, if_neg (by simp [hx])]; exact this
end Go.Proofs.YtalgdeieejpelaaGreat

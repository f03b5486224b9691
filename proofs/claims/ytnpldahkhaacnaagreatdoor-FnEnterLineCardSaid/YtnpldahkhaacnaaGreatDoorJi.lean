/- Plain: a correction's revision. -/
import Derived.Test.YtnpldahkhaacnaaGreatDoorJh
namespace Go.Proofs.YtnpldahkhaacnaaGreatDoor
open Go.RowKit
set_option linter.unusedVariables false

def topR (m : Int) (l : List EntryT) : Int := l.foldl (fun m e => max m (E.rev e)) m
theorem topR_ge (l : List EntryT) : ∀ m, m ≤ topR m l := by
  induction l with
  | nil => intro m; exact Int.le_refl _
  | cons y r ih => intro m; exact Int.le_trans (by omega) (ih (max m (E.rev y)))
theorem topR_mem {l : List EntryT} : ∀ {m : Int} {y : EntryT}, y ∈ l → E.rev y ≤ topR m l := by
  induction l with
  | nil => intro m y h; cases h
  | cons z r ih =>
    intro m y h
    rcases List.mem_cons.1 h with rfl | h
    · exact Int.le_trans (by omega) (topR_ge r (max m (E.rev y)))
    · exact ih h
theorem topR_le {l : List EntryT} {B : Int} : ∀ {m : Int}, m ≤ B → (∀ y ∈ l, E.rev y ≤ B) → topR m l ≤ B := by
  induction l with
  | nil => intro m h _; exact h
  | cons z r ih => intro m h hl; exact ih (m := max m (E.rev z)) (by have := hl z (.head _); omega) (fun y hy => hl y (.tail _ hy))
def maxR (xs : List EntryT) (race boat : Int) : Int := topR 0 (ofKey race boat xs)
theorem maxR_snoc (xs : List EntryT) (y : EntryT) (race boat : Int) : maxR (xs ++ [y]) race boat = if (E.race y == race && E.boat y == boat) = true then max (maxR xs race boat) (E.rev y) else maxR xs race boat := by
  unfold maxR topR
  rw [ofKey_snoc]
  split
  · rw [List.foldl_append]; rfl
  · rw [List.append_nil]
theorem maxR_nn (xs : List EntryT) (race boat : Int) : 0 ≤ maxR xs race boat := topR_ge _ _
theorem maxR_le {xs : List EntryT} (h : ∀ x ∈ xs, okE x) (race boat : Int) : maxR xs race boat ≤ 1000 :=
  topR_le (by omega) (fun y hy => (h y (ofKey_mem.1 hy).1).2.2.2.2.2)
theorem maxR_hist (xs : List EntryT) (race boat : Int) : maxR xs race boat = topR 0 (histF xs race boat) := by
  have hp := hist_perm xs race boat
  refine Int.le_antisymm ?_ ?_
  · exact topR_le (topR_ge _ _) (fun y hy => topR_mem (hp.mem_iff.2 hy))
  · exact topR_le (topR_ge _ _) (fun y hy => topR_mem (hp.mem_iff.1 hy))
theorem topR_last {l : List EntryT} {y : EntryT} (hs : l.Pairwise fun x y => E.rev x < E.rev y) (h0 : 0 ≤ E.rev y) (hy : l[l.length - 1]? = some y) : topR 0 l = E.rev y := by
  have hm : y ∈ l := List.mem_of_getElem? hy
  refine Int.le_antisymm (topR_le h0 (fun z hz => ?_)) (topR_mem hm)
  obtain ⟨i, hi, rfl⟩ := List.getElem_of_mem hz
  obtain ⟨hj, rfl⟩ := List.getElem?_eq_some_iff.1 hy
  by_cases h : i = l.length - 1
  · subst h; exact Int.le_refl _
  · exact Int.le_of_lt (List.pairwise_iff_getElem.1 hs i (l.length - 1) hi hj (by omega))
theorem maxR_none {xs : List EntryT} {race boat : Int} (h : histF xs race boat = []) : maxR xs race boat = 0 := by rw [maxR_hist, h]; rfl
theorem maxR_last {xs : List EntryT} {race boat : Int} {y : EntryT} (hkey : xs.Pairwise fun x y => sameB x y = false) (hok : ∀ x ∈ xs, okE x) (hy : (histF xs race boat)[(histF xs race boat).length - 1]? = some y) : maxR xs race boat = E.rev y := by
  rw [maxR_hist]
  have hm : y ∈ histF xs race boat := List.mem_of_getElem? hy
  exact topR_last (hist_sorted hkey race boat) (by have := (hok y (hist_mem.1 hm).1).2.2.2.2.1; omega) hy
/-- The entry with the revision behind the last one. -/
def bump (xs : List EntryT) (x : EntryT) : EntryT := (E.race x, E.boat x, maxR xs (E.race x) (E.boat x) + 1, E.code x, E.time x, E.kind x, E.points x)
def corC (b s : Int) (xs : List EntryT) (x : EntryT) : Int := if regB b s xs = true then (if E.rev x = 0 then addC b s xs (bump xs x) else 2) else 1
def corB (b s : Int) (xs : List EntryT) (x : EntryT) : Int := if corC b s xs x = 0 then b else 0
def corS (b s : Int) (xs : List EntryT) (x : EntryT) : Int := if corC b s xs x = 0 then s else 0
def corL (b s : Int) (xs : List EntryT) (x : EntryT) : List EntryT := if corC b s xs x = 0 then xs ++ [bump xs x] else []
theorem cor_add {b s : Int} {xs : List EntryT} {x : EntryT} (h1 : regB b s xs = true) (h2 : E.rev x = 0) : corC b s xs x = addC b s xs (bump xs x) ∧ corB b s xs x = addB b s xs (bump xs x) ∧ corS b s xs x = addS b s xs (bump xs x) ∧ corL b s xs x = addL b s xs (bump xs x) := by
  have h : corC b s xs x = addC b s xs (bump xs x) := by unfold corC; rw [if_pos h1, if_pos h2]
  unfold corB corS corL addB addS addL
  rw [h]
  exact ⟨rfl, rfl, rfl, rfl⟩
end Go.Proofs.YtnpldahkhaacnaaGreatDoor

/- Plain: two registers are merged. -/
import Derived.Test.YtdldcjnidajmpaaJi
namespace Go.Proofs.Ytdldcjnidajmpaa
open Go.RowKit
set_option linter.unusedVariables false

/-- The entries of the second list that the first one lacks. -/
def newE (xs ys : List EntryT) : List EntryT := ys.filter fun y => !hasB xs y
/-- An entry of the second list has the key of another one of the first. -/
def clashB (xs ys : List EntryT) : Bool := ys.any fun y => hasB xs y && !decide (y ∈ xs)
theorem newE_snoc (xs ys : List EntryT) (y : EntryT) : newE xs (ys ++ [y]) = if hasB xs y = true then newE xs ys else newE xs ys ++ [y] := by
  unfold newE
  rw [List.filter_append]
  cases h : hasB xs y <;> simp [h]
theorem newE_len (xs ys : List EntryT) : (newE xs ys).length ≤ ys.length := List.length_filter_le _ _
theorem clashB_at {xs ys : List EntryT} {k : Nat} {y : EntryT} (hy : ys[k]? = some y) (h1 : hasB xs y = true) (h2 : ¬ y ∈ xs) : clashB xs ys = true := by
  unfold clashB
  rw [List.any_eq_true]
  exact ⟨y, List.mem_of_getElem? hy, by rw [h1, decide_eq_false h2]; rfl⟩
theorem clashB_none {xs ys : List EntryT} (h : ∀ y ∈ ys, hasB xs y = true → y ∈ xs) : clashB xs ys = false := by
  unfold clashB
  rw [List.any_eq_false]
  intro y hy
  cases h1 : hasB xs y with
  | false => simp
  | true => simp [h y hy h1]
theorem sameB_eq {xs : List EntryT} (hkey : xs.Pairwise fun x y => sameB x y = false) {e y : EntryT} (he : e ∈ xs) (hy : y ∈ xs) (h : sameB e y = true) : e = y := by
  obtain ⟨i, hi, rfl⟩ := List.getElem_of_mem he
  obtain ⟨j, hj, rfl⟩ := List.getElem_of_mem hy
  rcases Nat.lt_trichotomy i j with hl | hl | hl
  · rw [List.pairwise_iff_getElem.1 hkey i j hi hj hl] at h; cases h
  · subst hl; rfl
  · have := List.pairwise_iff_getElem.1 hkey j i hj hi hl
    have h' : sameB xs[j] xs[i] = true := by
      obtain ⟨a, b, c⟩ := sameB_iff.1 h
      exact sameB_iff.2 ⟨a.symm, b.symm, c.symm⟩
    rw [this] at h'; cases h'
theorem sameB_self (y : EntryT) : sameB y y = true := sameB_iff.2 ⟨rfl, rfl, rfl⟩
theorem hasB_mem {xs : List EntryT} {y : EntryT} (h : y ∈ xs) : hasB xs y = true := by
  unfold hasB; rw [List.any_eq_true]; exact ⟨y, h, sameB_self y⟩
/-- What the index of an entry's key tells. -/
theorem findEF_neg {p : EntryT → Bool} : ∀ {xs : List EntryT} {i : Nat}, xs.any p = false → findEF p i xs = -1 := by
  intro xs
  induction xs with
  | nil => intro i _; rfl
  | cons x r ih =>
    intro i h
    rw [List.any_cons, Bool.or_eq_false_iff] at h
    unfold findEF
    rw [if_neg (by rw [h.1]; decide)]
    exact ih h.2
theorem findEF_pos {p : EntryT → Bool} : ∀ {xs : List EntryT} {i : Nat}, xs.any p = true → ∃ k e, findEF p i xs = ((i + k : Nat) : Int) ∧ xs[k]? = some e ∧ p e = true := by
  intro xs
  induction xs with
  | nil => intro i h; cases h
  | cons x r ih =>
    intro i h
    unfold findEF
    by_cases hx : p x = true
    · rw [if_pos hx]; exact ⟨0, x, rfl, rfl, hx⟩
    · rw [if_neg hx]
      rw [List.any_cons, Bool.or_eq_true] at h
      obtain ⟨k, e, h1, h2, h3⟩ := ih (i := i + 1) (h.resolve_left hx)
      exact ⟨k + 1, e, by rw [h1]; congr 1; omega, by simpa using h2, h3⟩
theorem key_at {xs : List EntryT} (hkey : xs.Pairwise fun x y => sameB x y = false) {y : EntryT} (h : hasB xs y = true) :
    ∃ (k : Nat) (e : EntryT), findEF (fun e => sameB e y) 0 xs = (k : Int) ∧ k < xs.length ∧ xs[k]? = some e ∧ (e = y ↔ y ∈ xs) := by
  obtain ⟨k, e, h1, h2, h3⟩ := findEF_pos (p := fun e => sameB e y) (i := 0) h
  refine ⟨k, e, by rw [h1, Nat.zero_add], (List.getElem?_eq_some_iff.1 h2).1, h2, fun he => ?_, fun hy => ?_⟩
  · subst he; exact List.mem_of_getElem? h2
  · exact sameB_eq hkey (List.mem_of_getElem? h2) hy h3
/-- What MergeRegisters answers. -/
def mrgC (a s : Int) (xs : List EntryT) (b t : Int) (ys : List EntryT) : Int :=
  if (regB a s xs && regB b t ys) = true then (if a = b ∧ s = t then (if clashB xs ys = true then 5 else if 400 < xs.length + (newE xs ys).length then 3 else 0) else 5) else 1
def mrgB (a s : Int) (xs : List EntryT) (b t : Int) (ys : List EntryT) : Int := if mrgC a s xs b t ys = 0 then a else 0
def mrgS (a s : Int) (xs : List EntryT) (b t : Int) (ys : List EntryT) : Int := if mrgC a s xs b t ys = 0 then s else 0
def mrgL (a s : Int) (xs : List EntryT) (b t : Int) (ys : List EntryT) : List EntryT := if mrgC a s xs b t ys = 0 then xs ++ newE xs ys else []
theorem mrg_bad {a s : Int} {xs : List EntryT} {b t : Int} {ys : List EntryT} {k : Int} (h : mrgC a s xs b t ys = k) (hk : k ≠ 0) : mrgB a s xs b t ys = 0 ∧ mrgS a s xs b t ys = 0 ∧ mrgL a s xs b t ys = [] := by
  subst h
  unfold mrgB mrgS mrgL
  exact ⟨if_neg hk, if_neg hk, if_neg hk⟩
theorem mrg_good {a s : Int} {xs : List EntryT} {b t : Int} {ys : List EntryT} (h : mrgC a s xs b t ys = 0) : mrgB a s xs b t ys = a ∧ mrgS a s xs b t ys = s ∧ mrgL a s xs b t ys = xs ++ newE xs ys := by
  unfold mrgB mrgS mrgL
  exact ⟨if_pos h, if_pos h, if_pos h⟩
end Go.Proofs.Ytdldcjnidajmpaa

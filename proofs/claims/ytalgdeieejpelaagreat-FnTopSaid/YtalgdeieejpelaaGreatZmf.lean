/- General and plain lemmas, and light walks (merged): Ji Jl Jo. -/
import Derived.Test.YtalgdeieejpelaaGreatJh
import Derived.Test.YtalgdeieejpelaaGreatZmb
/- Plain: a correction's revision. -/
namespace Go.Proofs.YtalgdeieejpelaaGreat
open Go.RowKit
set_option linter.unusedVariables false

def topR (m : Int) (l : List EntryT) : Int := l.foldl (fun m e => max m (E.rev e)) m
theorem topR_ge (l : List EntryT) : ∀ m, m ≤ topR m l := by
  induction l with
  | nil => intro m; exact Int.le_refl _
  | cons y r ih => intro m; exact Int.le_trans (by omega) (ih (max m (E.rev y)))
theorem topR_mem {l : List EntryT} : ∀ {m : Int} {y : EntryT}, y ∈ l → E.rev y ≤ topR m l := by
  induction l with
  | nil => intro m y h; cases h
  | cons z r ih =>
    intro m y h
    rcases List.mem_cons.1 h with rfl | h
    · exact Int.le_trans (by omega) (topR_ge r (max m (E.rev y)))
    · exact ih h
theorem topR_le {l : List EntryT} {B : Int} : ∀ {m : Int}, m ≤ B → (∀ y ∈ l, E.rev y ≤ B) → topR m l ≤ B := by
  induction l with
  | nil => intro m h _; exact h
  | cons z r ih => intro m h hl; exact ih (m := max m (E.rev z)) (by have := hl z (.head _); omega) (fun y hy => hl y (.tail _ hy))
def maxR (xs : List EntryT) (race boat : Int) : Int := topR 0 (ofKey race boat xs)
theorem maxR_snoc (xs : List EntryT) (y : EntryT) (race boat : Int) : maxR (xs ++ [y]) race boat = if (E.race y == race && E.boat y == boat) = true then max (maxR xs race boat) (E.rev y) else maxR xs race boat := by
  unfold maxR topR
  rw [ofKey_snoc]
  split
  · rw [List.foldl_append]; rfl
  · rw [List.append_nil]
theorem maxR_nn (xs : List EntryT) (race boat : Int) : 0 ≤ maxR xs race boat := topR_ge _ _
theorem maxR_le {xs : List EntryT} (h : ∀ x ∈ xs, okE x) (race boat : Int) : maxR xs race boat ≤ 1000 :=
  topR_le (by omega) (fun y hy => (h y (ofKey_mem.1 hy).1).2.2.2.2.2)
theorem maxR_hist (xs : List EntryT) (race boat : Int) : maxR xs race boat = topR 0 (histF xs race boat) := by
  have hp := hist_perm xs race boat
  refine Int.le_antisymm ?_ ?_
  · exact topR_le (topR_ge _ _) (fun y hy => topR_mem (hp.mem_iff.2 hy))
  · exact topR_le (topR_ge _ _) (fun y hy => topR_mem (hp.mem_iff.1 hy))
theorem topR_last {l : List EntryT} {y : EntryT} (hs : l.Pairwise fun x y => E.rev x < E.rev y) (h0 : 0 ≤ E.rev y) (hy : l[l.length - 1]? = some y) : topR 0 l = E.rev y := by
  have hm : y ∈ l := List.mem_of_getElem? hy
  refine Int.le_antisymm (topR_le h0 (fun z hz => ?_)) (topR_mem hm)
  obtain ⟨i, hi, rfl⟩ := List.getElem_of_mem hz
  obtain ⟨hj, rfl⟩ := List.getElem?_eq_some_iff.1 hy
  by_cases h : i = l.length - 1
  · subst h; exact Int.le_refl _
  · exact Int.le_of_lt (List.pairwise_iff_getElem.1 hs i (l.length - 1) hi hj (by omega))
theorem maxR_none {xs : List EntryT} {race boat : Int} (h : histF xs race boat = []) : maxR xs race boat = 0 := by rw [maxR_hist, h]; rfl
theorem maxR_last {xs : List EntryT} {race boat : Int} {y : EntryT} (hkey : xs.Pairwise fun x y => sameB x y = false) (hok : ∀ x ∈ xs, okE x) (hy : (histF xs race boat)[(histF xs race boat).length - 1]? = some y) : maxR xs race boat = E.rev y := by
  rw [maxR_hist]
  have hm : y ∈ histF xs race boat := List.mem_of_getElem? hy
  exact topR_last (hist_sorted hkey race boat) (by have := (hok y (hist_mem.1 hm).1).2.2.2.2.1; omega) hy
/-- The entry with the revision behind the last one. -/
def bump (xs : List EntryT) (x : EntryT) : EntryT := (E.race x, E.boat x, maxR xs (E.race x) (E.boat x) + 1, E.code x, E.time x, E.kind x, E.points x)
def corC (b s : Int) (xs : List EntryT) (x : EntryT) : Int := if regB b s xs = true then (if E.rev x = 0 then addC b s xs (bump xs x) else 2) else 1
def corB (b s : Int) (xs : List EntryT) (x : EntryT) : Int := if corC b s xs x = 0 then b else 0
def corS (b s : Int) (xs : List EntryT) (x : EntryT) : Int := if corC b s xs x = 0 then s else 0
def corL (b s : Int) (xs : List EntryT) (x : EntryT) : List EntryT := if corC b s xs x = 0 then xs ++ [bump xs x] else []
theorem cor_add {b s : Int} {xs : List EntryT} {x : EntryT} (h1 : regB b s xs = true) (h2 : E.rev x = 0) : corC b s xs x = addC b s xs (bump xs x) ∧ corB b s xs x = addB b s xs (bump xs x) ∧ corS b s xs x = addS b s xs (bump xs x) ∧ corL b s xs x = addL b s xs (bump xs x) := by
  have h : corC b s xs x = addC b s xs (bump xs x) := by unfold corC; rw [if_pos h1, if_pos h2]
  unfold corB corS corL addB addS addL
  rw [h]
  exact ⟨rfl, rfl, rfl, rfl⟩
end Go.Proofs.YtalgdeieejpelaaGreat

/- Plain: two registers are merged. -/
namespace Go.Proofs.YtalgdeieejpelaaGreat
open Go.RowKit
set_option linter.unusedVariables false

/-- The entries of the second list that the first one lacks. -/
def newE (xs ys : List EntryT) : List EntryT := ys.filter fun y => !hasB xs y
/-- An entry of the second list has the key of another one of the first. -/
def clashB (xs ys : List EntryT) : Bool := ys.any fun y => hasB xs y && !decide (y ∈ xs)
theorem newE_snoc (xs ys : List EntryT) (y : EntryT) : newE xs (ys ++ [y]) = if hasB xs y = true then newE xs ys else newE xs ys ++ [y] := by
  unfold newE
  rw [List.filter_append]
  cases h : hasB xs y <;> simp [h]
theorem newE_len (xs ys : List EntryT) : (newE xs ys).length ≤ ys.length := List.length_filter_le _ _
theorem clashB_at {xs ys : List EntryT} {k : Nat} {y : EntryT} (hy : ys[k]? = some y) (h1 : hasB xs y = true) (h2 : ¬ y ∈ xs) : clashB xs ys = true := by
  unfold clashB
  rw [List.any_eq_true]
  exact ⟨y, List.mem_of_getElem? hy, by rw [h1, decide_eq_false h2]; rfl⟩
theorem clashB_none {xs ys : List EntryT} (h : ∀ y ∈ ys, hasB xs y = true → y ∈ xs) : clashB xs ys = false := by
  unfold clashB
  rw [List.any_eq_false]
  intro y hy
  cases h1 : hasB xs y with
  | false => simp
  | true => simp [h y hy h1]
theorem sameB_eq {xs : List EntryT} (hkey : xs.Pairwise fun x y => sameB x y = false) {e y : EntryT} (he : e ∈ xs) (hy : y ∈ xs) (h : sameB e y = true) : e = y := by
  obtain ⟨i, hi, rfl⟩ := List.getElem_of_mem he
  obtain ⟨j, hj, rfl⟩ := List.getElem_of_mem hy
  rcases Nat.lt_trichotomy i j with hl | hl | hl
  · rw [List.pairwise_iff_getElem.1 hkey i j hi hj hl] at h; cases h
  · subst hl; rfl
  · have := List.pairwise_iff_getElem.1 hkey j i hj hi hl
    have h' : sameB xs[j] xs[i] = true := by
      obtain ⟨a, b, c⟩ := sameB_iff.1 h
      exact sameB_iff.2 ⟨a.symm, b.symm, c.symm⟩
    rw [this] at h'; cases h'
theorem sameB_self (y : EntryT) : sameB y y = true := sameB_iff.2 ⟨rfl, rfl, rfl⟩
theorem hasB_mem {xs : List EntryT} {y : EntryT} (h : y ∈ xs) : hasB xs y = true := by
  unfold hasB; rw [List.any_eq_true]; exact ⟨y, h, sameB_self y⟩
/-- What the index of an entry's key tells. -/
theorem findEF_neg {p : EntryT → Bool} : ∀ {xs : List EntryT} {i : Nat}, xs.any p = false → findEF p i xs = -1 := by
  intro xs
  induction xs with
  | nil => intro i _; rfl
  | cons x r ih =>
    intro i h
    rw [List.any_cons, Bool.or_eq_false_iff] at h
    unfold findEF
    rw [if_neg (by rw [h.1]; decide)]
    exact ih h.2
theorem findEF_pos {p : EntryT → Bool} : ∀ {xs : List EntryT} {i : Nat}, xs.any p = true → ∃ k e, findEF p i xs = ((i + k : Nat) : Int) ∧ xs[k]? = some e ∧ p e = true := by
  intro xs
  induction xs with
  | nil => intro i h; cases h
  | cons x r ih =>
    intro i h
    unfold findEF
    by_cases hx : p x = true
    · rw [if_pos hx]; exact ⟨0, x, rfl, rfl, hx⟩
    · rw [if_neg hx]
      rw [List.any_cons, Bool.or_eq_true] at h
      obtain ⟨k, e, h1, h2, h3⟩ := ih (i := i + 1) (h.resolve_left hx)
      exact ⟨k + 1, e, by rw [h1]; congr 1; omega, by simpa using h2, h3⟩
theorem key_at {xs : List EntryT} (hkey : xs.Pairwise fun x y => sameB x y = false) {y : EntryT} (h : hasB xs y = true) :
    ∃ (k : Nat) (e : EntryT), findEF (fun e => sameB e y) 0 xs = (k : Int) ∧ k < xs.length ∧ xs[k]? = some e ∧ (e = y ↔ y ∈ xs) := by
  obtain ⟨k, e, h1, h2, h3⟩ := findEF_pos (p := fun e => sameB e y) (i := 0) h
  refine ⟨k, e, by rw [h1, Nat.zero_add], (List.getElem?_eq_some_iff.1 h2).1, h2, fun he => ?_, fun hy => ?_⟩
  · subst he; exact List.mem_of_getElem? h2
  · exact sameB_eq hkey (List.mem_of_getElem? h2) hy h3
/-- What MergeRegisters answers. -/
def mrgC (a s : Int) (xs : List EntryT) (b t : Int) (ys : List EntryT) : Int :=
  if (regB a s xs && regB b t ys) = true then (if a = b ∧ s = t then (if clashB xs ys = true then 5 else if 400 < xs.length + (newE xs ys).length then 3 else 0) else 5) else 1
def mrgB (a s : Int) (xs : List EntryT) (b t : Int) (ys : List EntryT) : Int := if mrgC a s xs b t ys = 0 then a else 0
def mrgS (a s : Int) (xs : List EntryT) (b t : Int) (ys : List EntryT) : Int := if mrgC a s xs b t ys = 0 then s else 0
def mrgL (a s : Int) (xs : List EntryT) (b t : Int) (ys : List EntryT) : List EntryT := if mrgC a s xs b t ys = 0 then xs ++ newE xs ys else []
theorem mrg_bad {a s : Int} {xs : List EntryT} {b t : Int} {ys : List EntryT} {k : Int} (h : mrgC a s xs b t ys = k) (hk : k ≠ 0) : mrgB a s xs b t ys = 0 ∧ mrgS a s xs b t ys = 0 ∧ mrgL a s xs b t ys = [] := by
  subst h
  unfold mrgB mrgS mrgL
  exact ⟨if_neg hk, if_neg hk, if_neg hk⟩
theorem mrg_good {a s : Int} {xs : List EntryT} {b t : Int} {ys : List EntryT} (h : mrgC a s xs b t ys = 0) : mrgB a s xs b t ys = a ∧ mrgS a s xs b t ys = s ∧ mrgL a s xs b t ys = xs ++ newE xs ys := by
  unfold mrgB mrgS mrgL
  exact ⟨if_pos h, if_pos h, if_pos h⟩
end Go.Proofs.YtalgdeieejpelaaGreat

/- Plain: the series of a register. -/
namespace Go.Proofs.YtalgdeieejpelaaGreat
open Go.RowKit
set_option linter.unusedVariables false

/-- A race in which nobody came. -/
def dncRow (b : Nat) : List FinishT := (List.range b).map fun (i : Nat) => ((i : Int), (1 : Int), (0 : Int))
theorem dncRow_len (b : Nat) : (dncRow b).length = b := by simp [dncRow]
theorem dncRow_snoc (b : Nat) : dncRow (b + 1) = dncRow b ++ [((b : Int), (1 : Int), (0 : Int))] := by simp [dncRow, List.range_succ]
/-- Races are added until there are m. -/
def padR (b : Nat) (rows : List (List FinishT)) (m : Nat) : List (List FinishT) := rows ++ List.replicate (m - rows.length) (dncRow b)
def putR (b : Nat) (rows : List (List FinishT)) (x : EntryT) : List (List FinishT) :=
  (padR b rows ((E.race x).toNat + 1)).set (E.race x).toNat (((padR b rows ((E.race x).toNat + 1)).getD (E.race x).toNat []).set (E.boat x).toNat (E.boat x, E.code x, E.time x))
def serGo (b : Nat) : List (List FinishT) → List EntryT → List (List FinishT)
  | rows, [] => rows
  | rows, x :: r => serGo b (putR b rows x) r
def serL (b : Int) (l : List EntryT) : List (List FinishT) := serGo b.toNat [] l
/-- At most twelve races, each of b boats. -/
def GoodR (b : Nat) (rows : List (List FinishT)) : Prop := rows.length ≤ 12 ∧ ∀ r ∈ rows, r.length = b
theorem GoodR.nil (b : Nat) : GoodR b [] := ⟨by simp, fun r h => by cases h⟩
theorem padR_len (b : Nat) (rows : List (List FinishT)) (m : Nat) : (padR b rows m).length = rows.length + (m - rows.length) := by simp [padR]
theorem GoodR.pad {b : Nat} {rows : List (List FinishT)} (h : GoodR b rows) {m : Nat} (hm : m ≤ 12) : GoodR b (padR b rows m) := by
  refine ⟨by rw [padR_len]; have := h.1; omega, fun r hr => ?_⟩
  unfold padR at hr
  rcases List.mem_append.1 hr with hr | hr
  · exact h.2 r hr
  · rw [List.eq_of_mem_replicate hr, dncRow_len]
theorem padR_id {b : Nat} {rows : List (List FinishT)} {m : Nat} (h : m ≤ rows.length) : padR b rows m = rows := by
  unfold padR; rw [show m - rows.length = 0 by omega]; simp
theorem padR_step {b : Nat} {rows : List (List FinishT)} {m : Nat} (h : rows.length < m) : padR b (rows ++ [dncRow b]) m = padR b rows m := by
  unfold padR
  rw [List.append_assoc]
  congr 1
  rw [List.length_append, show m - rows.length = (m - (rows.length + [dncRow b].length)) + 1 by simp; omega, List.replicate_succ]
  rfl
theorem GoodR.snoc {b : Nat} {rows : List (List FinishT)} (h : GoodR b rows) (hm : rows.length < 12) : GoodR b (rows ++ [dncRow b]) := by
  refine ⟨by simp; omega, fun r hr => ?_⟩
  rcases List.mem_append.1 hr with hr | hr
  · exact h.2 r hr
  · rw [List.mem_singleton.1 hr, dncRow_len]
theorem GoodR.set {b : Nat} {rows : List (List FinishT)} (h : GoodR b rows) (k : Nat) {r : List FinishT} (hr : r.length = b) : GoodR b (rows.set k r) := by
  refine ⟨by simpa using h.1, fun z hz => ?_⟩
  rcases List.mem_or_eq_of_mem_set hz with hz | rfl
  · exact h.2 z hz
  · exact hr
theorem GoodR.put {b : Nat} {rows : List (List FinishT)} (h : GoodR b rows) {x : EntryT} (h0 : 0 ≤ E.race x) (h1 : E.race x ≤ 11) : GoodR b (putR b rows x) := by
  have hp := h.pad (m := (E.race x).toNat + 1) (by omega)
  have hlt : (E.race x).toNat < (padR b rows ((E.race x).toNat + 1)).length := by rw [padR_len]; omega
  refine hp.set _ ?_
  rw [List.length_set, List.getD_eq_getElem?_getD, List.getElem?_eq_getElem hlt]
  exact hp.2 _ (List.getElem_mem hlt)
theorem GoodR.go {b : Nat} {l : List EntryT} : ∀ {rows : List (List FinishT)}, GoodR b rows → (∀ x ∈ l, 0 ≤ E.race x ∧ E.race x ≤ 11) → GoodR b (serGo b rows l) := by
  induction l with
  | nil => intro rows h _; exact h
  | cons x r ih => intro rows h hx; exact ih (h.put (hx x (.head _)).1 (hx x (.head _)).2) (fun y hy => hx y (.tail _ hy))
theorem rows_sum {b : Nat} {rows : List (List FinishT)} (h : ∀ r ∈ rows, r.length = b) : raceSum rows = 3 * b * rows.length := by
  induction rows with
  | nil => rfl
  | cons y r ih =>
    unfold raceSum
    rw [ih (fun z hz => h z (.tail _ hz)), h y (.head _), List.length_cons, Nat.mul_add]
    omega
theorem serGo_take (b : Nat) (l : List EntryT) {k : Nat} {x : EntryT} (hx : l[k]? = some x) (rows : List (List FinishT)) : serGo b rows (l.take (k + 1)) = putR b (serGo b rows (l.take k)) x := by
  rw [take_snoc hx]
  generalize l.take k = p
  induction p generalizing rows with
  | nil => rfl
  | cons y r ih => exact ih (putR b rows y)
theorem GoodR.sum {b : Nat} {rows : List (List FinishT)} (h : GoodR b rows) (hb : b ≤ 16) : raceSum rows ≤ 1048576 := by
  rw [rows_sum h.2]
  have h1 := Nat.mul_le_mul (show 3 * b ≤ 48 by omega) h.1
  omega
/-! ### Where current entries lie -/
theorem currC_mem {xs : List EntryT} {b r : Nat} {x : EntryT} (h : x ∈ currC xs b r) : x ∈ xs ∧ 0 ≤ E.race x ∧ E.race x < r ∧ 0 ≤ E.boat x ∧ E.boat x < b := by
  unfold currC rowC at h
  simp only [List.mem_flatMap, List.mem_range] at h
  obtain ⟨race, hr, boat, hb, h⟩ := h
  have hm : x ∈ histF xs race boat := by
    unfold lastL at h
    exact List.mem_of_getLast? (Option.mem_toList.1 h)
  obtain ⟨h1, h2, h3⟩ := hist_mem.1 hm
  exact ⟨h1, by omega, by omega, by omega, by omega⟩
theorem currF_mem {xs : List EntryT} {b : Int} {x : EntryT} (h : x ∈ currF b xs) : x ∈ xs ∧ 0 ≤ E.race x ∧ E.race x ≤ 11 ∧ 0 ≤ E.boat x ∧ E.boat x < b := by
  obtain ⟨h1, h2, h3, h4, h5⟩ := currC_mem h
  exact ⟨h1, h2, by omega, h4, by omega⟩
def serF (b : Int) (xs : List EntryT) : List (List FinishT) := serL b (currF b xs)
theorem serF_good (b : Int) (xs : List EntryT) : GoodR b.toNat (serF b xs) := (GoodR.nil _).go (fun x hx => ⟨(currF_mem hx).2.1, (currF_mem hx).2.2.1⟩)
def serC (b s : Int) (xs : List EntryT) : Int := if regB b s xs = true then 0 else 1
end Go.Proofs.YtalgdeieejpelaaGreat

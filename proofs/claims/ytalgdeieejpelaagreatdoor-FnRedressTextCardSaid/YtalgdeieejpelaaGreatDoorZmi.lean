/- General and plain lemmas, and light walks (merged): Ji Jl Jo Ya Ym Yn Zp. -/
import Derived.Test.YtalgdeieejpelaaGreatDoorJh
import Derived.Test.YtalgdeieejpelaaGreatDoorZmf
import Derived.Test.YtalgdeieejpelaaGreatDoorZmb
import Derived.Test.YtalgdeieejpelaaGreatDoorZme
import Derived.Test.YtalgdeieejpelaaGreatDoorZmg
import Derived.IntWalk
/- Plain: a correction's revision. -/
namespace Go.Proofs.YtalgdeieejpelaaGreatDoor
open Go.RowKit
set_option linter.unusedVariables false

def topR (m : Int) (l : List EntryT) : Int := l.foldl (fun m e => max m (E.rev e)) m
theorem topR_ge (l : List EntryT) : ∀ m, m ≤ topR m l := by
  induction l with
  | nil => intro m; exact Int.le_refl _
  | cons y r ih => intro m; exact Int.le_trans (by omega) (ih (max m (E.rev y)))
theorem topR_mem {l : List EntryT} : ∀ {m : Int} {y : EntryT}, y ∈ l → E.rev y ≤ topR m l := by
  induction l with
  | nil => intro m y h; cases h
  | cons z r ih =>
    intro m y h
    rcases List.mem_cons.1 h with rfl | h
    · exact Int.le_trans (by omega) (topR_ge r (max m (E.rev y)))
    · exact ih h
theorem topR_le {l : List EntryT} {B : Int} : ∀ {m : Int}, m ≤ B → (∀ y ∈ l, E.rev y ≤ B) → topR m l ≤ B := by
  induction l with
  | nil => intro m h _; exact h
  | cons z r ih => intro m h hl; exact ih (m := max m (E.rev z)) (by have := hl z (.head _); omega) (fun y hy => hl y (.tail _ hy))
def maxR (xs : List EntryT) (race boat : Int) : Int := topR 0 (ofKey race boat xs)
theorem maxR_snoc (xs : List EntryT) (y : EntryT) (race boat : Int) : maxR (xs ++ [y]) race boat = if (E.race y == race && E.boat y == boat) = true then max (maxR xs race boat) (E.rev y) else maxR xs race boat := by
  unfold maxR topR
  rw [ofKey_snoc]
  split
  · rw [List.foldl_append]; rfl
  · rw [List.append_nil]
theorem maxR_nn (xs : List EntryT) (race boat : Int) : 0 ≤ maxR xs race boat := topR_ge _ _
theorem maxR_le {xs : List EntryT} (h : ∀ x ∈ xs, okE x) (race boat : Int) : maxR xs race boat ≤ 1000 :=
  topR_le (by omega) (fun y hy => (h y (ofKey_mem.1 hy).1).2.2.2.2.2)
theorem maxR_hist (xs : List EntryT) (race boat : Int) : maxR xs race boat = topR 0 (histF xs race boat) := by
  have hp := hist_perm xs race boat
  refine Int.le_antisymm ?_ ?_
  · exact topR_le (topR_ge _ _) (fun y hy => topR_mem (hp.mem_iff.2 hy))
  · exact topR_le (topR_ge _ _) (fun y hy => topR_mem (hp.mem_iff.1 hy))
theorem topR_last {l : List EntryT} {y : EntryT} (hs : l.Pairwise fun x y => E.rev x < E.rev y) (h0 : 0 ≤ E.rev y) (hy : l[l.length - 1]? = some y) : topR 0 l = E.rev y := by
  have hm : y ∈ l := List.mem_of_getElem? hy
  refine Int.le_antisymm (topR_le h0 (fun z hz => ?_)) (topR_mem hm)
  obtain ⟨i, hi, rfl⟩ := List.getElem_of_mem hz
  obtain ⟨hj, rfl⟩ := List.getElem?_eq_some_iff.1 hy
  by_cases h : i = l.length - 1
  · subst h; exact Int.le_refl _
  · exact Int.le_of_lt (List.pairwise_iff_getElem.1 hs i (l.length - 1) hi hj (by omega))
theorem maxR_none {xs : List EntryT} {race boat : Int} (h : histF xs race boat = []) : maxR xs race boat = 0 := by rw [maxR_hist, h]; rfl
theorem maxR_last {xs : List EntryT} {race boat : Int} {y : EntryT} (hkey : xs.Pairwise fun x y => sameB x y = false) (hok : ∀ x ∈ xs, okE x) (hy : (histF xs race boat)[(histF xs race boat).length - 1]? = some y) : maxR xs race boat = E.rev y := by
  rw [maxR_hist]
  have hm : y ∈ histF xs race boat := List.mem_of_getElem? hy
  exact topR_last (hist_sorted hkey race boat) (by have := (hok y (hist_mem.1 hm).1).2.2.2.2.1; omega) hy
/-- The entry with the revision behind the last one. -/
def bump (xs : List EntryT) (x : EntryT) : EntryT := (E.race x, E.boat x, maxR xs (E.race x) (E.boat x) + 1, E.code x, E.time x, E.kind x, E.points x)
def corC (b s : Int) (xs : List EntryT) (x : EntryT) : Int := if regB b s xs = true then (if E.rev x = 0 then addC b s xs (bump xs x) else 2) else 1
def corB (b s : Int) (xs : List EntryT) (x : EntryT) : Int := if corC b s xs x = 0 then b else 0
def corS (b s : Int) (xs : List EntryT) (x : EntryT) : Int := if corC b s xs x = 0 then s else 0
def corL (b s : Int) (xs : List EntryT) (x : EntryT) : List EntryT := if corC b s xs x = 0 then xs ++ [bump xs x] else []
theorem cor_add {b s : Int} {xs : List EntryT} {x : EntryT} (h1 : regB b s xs = true) (h2 : E.rev x = 0) : corC b s xs x = addC b s xs (bump xs x) ∧ corB b s xs x = addB b s xs (bump xs x) ∧ corS b s xs x = addS b s xs (bump xs x) ∧ corL b s xs x = addL b s xs (bump xs x) := by
  have h : corC b s xs x = addC b s xs (bump xs x) := by unfold corC; rw [if_pos h1, if_pos h2]
  unfold corB corS corL addB addS addL
  rw [h]
  exact ⟨rfl, rfl, rfl, rfl⟩
end Go.Proofs.YtalgdeieejpelaaGreatDoor

/- Plain: two registers are merged. -/
namespace Go.Proofs.YtalgdeieejpelaaGreatDoor
open Go.RowKit
set_option linter.unusedVariables false

/-- The entries of the second list that the first one lacks. -/
def newE (xs ys : List EntryT) : List EntryT := ys.filter fun y => !hasB xs y
/-- An entry of the second list has the key of another one of the first. -/
def clashB (xs ys : List EntryT) : Bool := ys.any fun y => hasB xs y && !decide (y ∈ xs)
theorem newE_snoc (xs ys : List EntryT) (y : EntryT) : newE xs (ys ++ [y]) = if hasB xs y = true then newE xs ys else newE xs ys ++ [y] := by
  unfold newE
  rw [List.filter_append]
  cases h : hasB xs y <;> simp [h]
theorem newE_len (xs ys : List EntryT) : (newE xs ys).length ≤ ys.length := List.length_filter_le _ _
theorem clashB_at {xs ys : List EntryT} {k : Nat} {y : EntryT} (hy : ys[k]? = some y) (h1 : hasB xs y = true) (h2 : ¬ y ∈ xs) : clashB xs ys = true := by
  unfold clashB
  rw [List.any_eq_true]
  exact ⟨y, List.mem_of_getElem? hy, by rw [h1, decide_eq_false h2]; rfl⟩
theorem clashB_none {xs ys : List EntryT} (h : ∀ y ∈ ys, hasB xs y = true → y ∈ xs) : clashB xs ys = false := by
  unfold clashB
  rw [List.any_eq_false]
  intro y hy
  cases h1 : hasB xs y with
  | false => simp
  | true => simp [h y hy h1]
theorem sameB_eq {xs : List EntryT} (hkey : xs.Pairwise fun x y => sameB x y = false) {e y : EntryT} (he : e ∈ xs) (hy : y ∈ xs) (h : sameB e y = true) : e = y := by
  obtain ⟨i, hi, rfl⟩ := List.getElem_of_mem he
  obtain ⟨j, hj, rfl⟩ := List.getElem_of_mem hy
  rcases Nat.lt_trichotomy i j with hl | hl | hl
  · rw [List.pairwise_iff_getElem.1 hkey i j hi hj hl] at h; cases h
  · subst hl; rfl
  · have := List.pairwise_iff_getElem.1 hkey j i hj hi hl
    have h' : sameB xs[j] xs[i] = true := by
      obtain ⟨a, b, c⟩ := sameB_iff.1 h
      exact sameB_iff.2 ⟨a.symm, b.symm, c.symm⟩
    rw [this] at h'; cases h'
theorem sameB_self (y : EntryT) : sameB y y = true := sameB_iff.2 ⟨rfl, rfl, rfl⟩
theorem hasB_mem {xs : List EntryT} {y : EntryT} (h : y ∈ xs) : hasB xs y = true := by
  unfold hasB; rw [List.any_eq_true]; exact ⟨y, h, sameB_self y⟩
/-- What the index of an entry's key tells. -/
theorem findEF_neg {p : EntryT → Bool} : ∀ {xs : List EntryT} {i : Nat}, xs.any p = false → findEF p i xs = -1 := by
  intro xs
  induction xs with
  | nil => intro i _; rfl
  | cons x r ih =>
    intro i h
    rw [List.any_cons, Bool.or_eq_false_iff] at h
    unfold findEF
    rw [if_neg (by rw [h.1]; decide)]
    exact ih h.2
theorem findEF_pos {p : EntryT → Bool} : ∀ {xs : List EntryT} {i : Nat}, xs.any p = true → ∃ k e, findEF p i xs = ((i + k : Nat) : Int) ∧ xs[k]? = some e ∧ p e = true := by
  intro xs
  induction xs with
  | nil => intro i h; cases h
  | cons x r ih =>
    intro i h
    unfold findEF
    by_cases hx : p x = true
    · rw [if_pos hx]; exact ⟨0, x, rfl, rfl, hx⟩
    · rw [if_neg hx]
      rw [List.any_cons, Bool.or_eq_true] at h
      obtain ⟨k, e, h1, h2, h3⟩ := ih (i := i + 1) (h.resolve_left hx)
      exact ⟨k + 1, e, by rw [h1]; congr 1; omega, by simpa using h2, h3⟩
theorem key_at {xs : List EntryT} (hkey : xs.Pairwise fun x y => sameB x y = false) {y : EntryT} (h : hasB xs y = true) :
    ∃ (k : Nat) (e : EntryT), findEF (fun e => sameB e y) 0 xs = (k : Int) ∧ k < xs.length ∧ xs[k]? = some e ∧ (e = y ↔ y ∈ xs) := by
  obtain ⟨k, e, h1, h2, h3⟩ := findEF_pos (p := fun e => sameB e y) (i := 0) h
  refine ⟨k, e, by rw [h1, Nat.zero_add], (List.getElem?_eq_some_iff.1 h2).1, h2, fun he => ?_, fun hy => ?_⟩
  · subst he; exact List.mem_of_getElem? h2
  · exact sameB_eq hkey (List.mem_of_getElem? h2) hy h3
/-- What MergeRegisters answers. -/
def mrgC (a s : Int) (xs : List EntryT) (b t : Int) (ys : List EntryT) : Int :=
  if (regB a s xs && regB b t ys) = true then (if a = b ∧ s = t then (if clashB xs ys = true then 5 else if 400 < xs.length + (newE xs ys).length then 3 else 0) else 5) else 1
def mrgB (a s : Int) (xs : List EntryT) (b t : Int) (ys : List EntryT) : Int := if mrgC a s xs b t ys = 0 then a else 0
def mrgS (a s : Int) (xs : List EntryT) (b t : Int) (ys : List EntryT) : Int := if mrgC a s xs b t ys = 0 then s else 0
def mrgL (a s : Int) (xs : List EntryT) (b t : Int) (ys : List EntryT) : List EntryT := if mrgC a s xs b t ys = 0 then xs ++ newE xs ys else []
theorem mrg_bad {a s : Int} {xs : List EntryT} {b t : Int} {ys : List EntryT} {k : Int} (h : mrgC a s xs b t ys = k) (hk : k ≠ 0) : mrgB a s xs b t ys = 0 ∧ mrgS a s xs b t ys = 0 ∧ mrgL a s xs b t ys = [] := by
  subst h
  unfold mrgB mrgS mrgL
  exact ⟨if_neg hk, if_neg hk, if_neg hk⟩
theorem mrg_good {a s : Int} {xs : List EntryT} {b t : Int} {ys : List EntryT} (h : mrgC a s xs b t ys = 0) : mrgB a s xs b t ys = a ∧ mrgS a s xs b t ys = s ∧ mrgL a s xs b t ys = xs ++ newE xs ys := by
  unfold mrgB mrgS mrgL
  exact ⟨if_pos h, if_pos h, if_pos h⟩
end Go.Proofs.YtalgdeieejpelaaGreatDoor

/- Plain: the series of a register. -/
namespace Go.Proofs.YtalgdeieejpelaaGreatDoor
open Go.RowKit
set_option linter.unusedVariables false

/-- A race in which nobody came. -/
def dncRow (b : Nat) : List FinishT := (List.range b).map fun (i : Nat) => ((i : Int), (1 : Int), (0 : Int))
theorem dncRow_len (b : Nat) : (dncRow b).length = b := by simp [dncRow]
theorem dncRow_snoc (b : Nat) : dncRow (b + 1) = dncRow b ++ [((b : Int), (1 : Int), (0 : Int))] := by simp [dncRow, List.range_succ]
/-- Races are added until there are m. -/
def padR (b : Nat) (rows : List (List FinishT)) (m : Nat) : List (List FinishT) := rows ++ List.replicate (m - rows.length) (dncRow b)
def putR (b : Nat) (rows : List (List FinishT)) (x : EntryT) : List (List FinishT) :=
  (padR b rows ((E.race x).toNat + 1)).set (E.race x).toNat (((padR b rows ((E.race x).toNat + 1)).getD (E.race x).toNat []).set (E.boat x).toNat (E.boat x, E.code x, E.time x))
def serGo (b : Nat) : List (List FinishT) → List EntryT → List (List FinishT)
  | rows, [] => rows
  | rows, x :: r => serGo b (putR b rows x) r
def serL (b : Int) (l : List EntryT) : List (List FinishT) := serGo b.toNat [] l
/-- At most twelve races, each of b boats. -/
def GoodR (b : Nat) (rows : List (List FinishT)) : Prop := rows.length ≤ 12 ∧ ∀ r ∈ rows, r.length = b
theorem GoodR.nil (b : Nat) : GoodR b [] := ⟨by simp, fun r h => by cases h⟩
theorem padR_len (b : Nat) (rows : List (List FinishT)) (m : Nat) : (padR b rows m).length = rows.length + (m - rows.length) := by simp [padR]
theorem GoodR.pad {b : Nat} {rows : List (List FinishT)} (h : GoodR b rows) {m : Nat} (hm : m ≤ 12) : GoodR b (padR b rows m) := by
  refine ⟨by rw [padR_len]; have := h.1; omega, fun r hr => ?_⟩
  unfold padR at hr
  rcases List.mem_append.1 hr with hr | hr
  · exact h.2 r hr
  · rw [List.eq_of_mem_replicate hr, dncRow_len]
theorem padR_id {b : Nat} {rows : List (List FinishT)} {m : Nat} (h : m ≤ rows.length) : padR b rows m = rows := by
  unfold padR; rw [show m - rows.length = 0 by omega]; simp
theorem padR_step {b : Nat} {rows : List (List FinishT)} {m : Nat} (h : rows.length < m) : padR b (rows ++ [dncRow b]) m = padR b rows m := by
  unfold padR
  rw [List.append_assoc]
  congr 1
  rw [List.length_append, show m - rows.length = (m - (rows.length + [dncRow b].length)) + 1 by simp; omega, List.replicate_succ]
  rfl
theorem GoodR.snoc {b : Nat} {rows : List (List FinishT)} (h : GoodR b rows) (hm : rows.length < 12) : GoodR b (rows ++ [dncRow b]) := by
  refine ⟨by simp; omega, fun r hr => ?_⟩
  rcases List.mem_append.1 hr with hr | hr
  · exact h.2 r hr
  · rw [List.mem_singleton.1 hr, dncRow_len]
theorem GoodR.set {b : Nat} {rows : List (List FinishT)} (h : GoodR b rows) (k : Nat) {r : List FinishT} (hr : r.length = b) : GoodR b (rows.set k r) := by
  refine ⟨by simpa using h.1, fun z hz => ?_⟩
  rcases List.mem_or_eq_of_mem_set hz with hz | rfl
  · exact h.2 z hz
  · exact hr
theorem GoodR.put {b : Nat} {rows : List (List FinishT)} (h : GoodR b rows) {x : EntryT} (h0 : 0 ≤ E.race x) (h1 : E.race x ≤ 11) : GoodR b (putR b rows x) := by
  have hp := h.pad (m := (E.race x).toNat + 1) (by omega)
  have hlt : (E.race x).toNat < (padR b rows ((E.race x).toNat + 1)).length := by rw [padR_len]; omega
  refine hp.set _ ?_
  rw [List.length_set, List.getD_eq_getElem?_getD, List.getElem?_eq_getElem hlt]
  exact hp.2 _ (List.getElem_mem hlt)
theorem GoodR.go {b : Nat} {l : List EntryT} : ∀ {rows : List (List FinishT)}, GoodR b rows → (∀ x ∈ l, 0 ≤ E.race x ∧ E.race x ≤ 11) → GoodR b (serGo b rows l) := by
  induction l with
  | nil => intro rows h _; exact h
  | cons x r ih => intro rows h hx; exact ih (h.put (hx x (.head _)).1 (hx x (.head _)).2) (fun y hy => hx y (.tail _ hy))
theorem rows_sum {b : Nat} {rows : List (List FinishT)} (h : ∀ r ∈ rows, r.length = b) : raceSum rows = 3 * b * rows.length := by
  induction rows with
  | nil => rfl
  | cons y r ih =>
    unfold raceSum
    rw [ih (fun z hz => h z (.tail _ hz)), h y (.head _), List.length_cons, Nat.mul_add]
    omega
theorem serGo_take (b : Nat) (l : List EntryT) {k : Nat} {x : EntryT} (hx : l[k]? = some x) (rows : List (List FinishT)) : serGo b rows (l.take (k + 1)) = putR b (serGo b rows (l.take k)) x := by
  rw [take_snoc hx]
  generalize l.take k = p
  induction p generalizing rows with
  | nil => rfl
  | cons y r ih => exact ih (putR b rows y)
theorem GoodR.sum {b : Nat} {rows : List (List FinishT)} (h : GoodR b rows) (hb : b ≤ 16) : raceSum rows ≤ 1048576 := by
  rw [rows_sum h.2]
  have h1 := Nat.mul_le_mul (show 3 * b ≤ 48 by omega) h.1
  omega
/-! ### Where current entries lie -/
theorem currC_mem {xs : List EntryT} {b r : Nat} {x : EntryT} (h : x ∈ currC xs b r) : x ∈ xs ∧ 0 ≤ E.race x ∧ E.race x < r ∧ 0 ≤ E.boat x ∧ E.boat x < b := by
  unfold currC rowC at h
  simp only [List.mem_flatMap, List.mem_range] at h
  obtain ⟨race, hr, boat, hb, h⟩ := h
  have hm : x ∈ histF xs race boat := by
    unfold lastL at h
    exact List.mem_of_getLast? (Option.mem_toList.1 h)
  obtain ⟨h1, h2, h3⟩ := hist_mem.1 hm
  exact ⟨h1, by omega, by omega, by omega, by omega⟩
theorem currF_mem {xs : List EntryT} {b : Int} {x : EntryT} (h : x ∈ currF b xs) : x ∈ xs ∧ 0 ≤ E.race x ∧ E.race x ≤ 11 ∧ 0 ≤ E.boat x ∧ E.boat x < b := by
  obtain ⟨h1, h2, h3, h4, h5⟩ := currC_mem h
  exact ⟨h1, h2, by omega, h4, by omega⟩
def serF (b : Int) (xs : List EntryT) : List (List FinishT) := serL b (currF b xs)
theorem serF_good (b : Int) (xs : List EntryT) : GoodR b.toNat (serF b xs) := (GoodR.nil _).go (fun x hx => ⟨(currF_mem hx).2.1, (currF_mem hx).2.2.1⟩)
def serC (b s : Int) (xs : List EntryT) : Int := if regB b s xs = true then 0 else 1
end Go.Proofs.YtalgdeieejpelaaGreatDoor

/- Plain: the table of a register's series and its redress. -/
namespace Go.Proofs.YtalgdeieejpelaaGreatDoor
open Go.RowKit
set_option linter.unusedVariables false

/-! ### Points of a race -/
/-- How many came. -/
def cameN (fs : List FinishT) : Nat := (fs.filter fun g => !(g.2.1 == 1)).length
def ptS (s : Int) (fs : List FinishT) (f : FinishT) : Int :=
  if f.2.1 = 0 then 5 * (2 * (placeF fs f).1 + (placeF fs f).2 - 1)
  else if f.2.1 = 9 then 0
  else if f.2.1 = 1 ∨ s = 0 then 10 * ((fs.length : Int) + 1)
  else 10 * ((cameN fs : Int) + 1)
def rowP (s : Int) (fs : List FinishT) : List Int := fs.map (ptS s fs)
def rowK (fs : List FinishT) : List Int := fs.map fun f => f.2.1
def tabS (b s : Int) (rows : List (List FinishT)) : Tb := ⟨b, rows.map (rowP s), rows.map rowK⟩
theorem cameN_le (fs : List FinishT) : cameN fs ≤ fs.length := List.length_filter_le _ _
theorem ptS_bd (s : Int) (fs : List FinishT) (f : FinishT) (h : fs.length ≤ 16) : 0 ≤ ptS s fs f ∧ ptS s fs f ≤ 10000 := by
  have h1 := cameN_le fs
  have h2 := ltN_le f.2.2 fs
  have h3 := eqN_le f.2.2 fs
  unfold ptS
  split
  · rename_i h0
    unfold placeF
    rw [if_pos h0]
    simp only
    omega
  · split
    · omega
    · split <;> omega
/-- All finishes of all races fit. -/
def FinsOk (rows : List (List FinishT)) : Prop := ∀ r ∈ rows, ∀ (k : Nat) (f : FinishT), r[k]? = some f → f.1 = (k : Int) ∧ finB f = true
theorem tabS_ok {b s : Int} {rows : List (List FinishT)} (h1 : 1 ≤ b) (h2 : b ≤ 16) (hg : GoodR b.toNat rows) (hf : FinsOk rows) : TabOk (tabS b s rows) := by
  refine ⟨h1, h2, by simp [tabS]; exact hg.1, by simp [tabS], fun k p c hp hc => ?_⟩
  simp only [tabS, List.getElem?_map] at hp hc
  cases hr : rows[k]? with
  | none => rw [hr] at hp; cases hp
  | some fs =>
    rw [hr] at hp hc
    simp only [Option.map_some, Option.some.injEq] at hp hc
    subst hp; subst hc
    have hm := List.mem_of_getElem? hr
    have hl := hg.2 fs hm
    refine ⟨⟨by simp only [rowP, List.length_map, tabS]; omega, fun x hx => ?_⟩, by simp only [rowK, List.length_map, tabS]; omega, fun x hx => ?_⟩
    · obtain ⟨f, _, rfl⟩ := List.mem_map.1 hx
      exact ptS_bd s fs f (by omega)
    · obtain ⟨f, hfm, rfl⟩ := List.mem_map.1 hx
      obtain ⟨q, hq⟩ := List.mem_iff_getElem?.1 hfm
      have := finB_ok (hf fs hm q f hq).2
      exact ⟨this.1, this.2.1⟩
theorem dncRow_at {b k : Nat} {f : FinishT} (h : (dncRow b)[k]? = some f) : f = ((k : Int), (1 : Int), (0 : Int)) := by
  unfold dncRow at h
  rw [List.getElem?_map] at h
  cases hr : (List.range b)[k]? with
  | none => rw [hr] at h; cases h
  | some q =>
    rw [hr] at h
    have : q = k := by
      have := List.getElem?_eq_some_iff.1 hr
      obtain ⟨h1, h2⟩ := this
      simpa using h2.symm
    subst this
    simpa using h.symm
theorem FinsOk.pad {b : Nat} {rows : List (List FinishT)} (h : FinsOk rows) (m : Nat) : FinsOk (padR b rows m) := by
  intro r hr k f hf
  unfold padR at hr
  rcases List.mem_append.1 hr with hr | hr
  · exact h r hr k f hf
  · rw [List.eq_of_mem_replicate hr] at hf
    rw [dncRow_at hf]
    exact ⟨rfl, by simp [finB, withinB]⟩
theorem FinsOk.put {b : Nat} {rows : List (List FinishT)} (h : FinsOk rows) {x : EntryT} (h0 : 0 ≤ E.boat x) (hx : finB (E.boat x, E.code x, E.time x) = true) : FinsOk (putR b rows x) := by
  intro r hr k f hf
  unfold putR at hr
  have hp := h.pad (b := b) ((E.race x).toNat + 1)
  have hold : ∀ q ∈ padR b rows ((E.race x).toNat + 1), ∀ (k : Nat) (f : FinishT), q[k]? = some f → f.1 = (k : Int) ∧ finB f = true := hp
  generalize padR b rows ((E.race x).toNat + 1) = pr at *
  rcases List.mem_or_eq_of_mem_set hr with hr | rfl
  · exact hold r hr k f hf
  · by_cases hk : (E.boat x).toNat = k
    · rw [List.getElem?_set] at hf
      rw [if_pos hk] at hf
      split at hf
      · injection hf with hf; subst hf; exact ⟨by show E.boat x = (k : Int); omega, hx⟩
      · cases hf
    · rw [List.getElem?_set_ne hk] at hf
      by_cases hl : (E.race x).toNat < pr.length
      · rw [List.getD_eq_getElem?_getD, List.getElem?_eq_getElem hl] at hf
        exact hold _ (List.getElem_mem hl) k f hf
      · rw [List.getD_eq_getElem?_getD, List.getElem?_eq_none (Nat.le_of_not_lt hl)] at hf
        simp at hf
/-! ### Where an entry lies in the series -/
def cellR (rows : List (List FinishT)) (r k : Nat) : Option FinishT := (rows.getD r [])[k]?
theorem cellR_lt {rows : List (List FinishT)} {r k : Nat} {f : FinishT} (h : cellR rows r k = some f) : r < rows.length := by
  false_or_by_contra
  rename_i hn
  unfold cellR at h
  rw [List.getD_eq_getElem?_getD, List.getElem?_eq_none (Nat.le_of_not_lt hn)] at h
  simp at h
theorem padR_getD {b : Nat} {rows : List (List FinishT)} {m r : Nat} (h : r < rows.length) : (padR b rows m).getD r [] = rows.getD r [] := by
  unfold padR
  rw [List.getD_eq_getElem?_getD, List.getD_eq_getElem?_getD, List.getElem?_append_left h]
theorem put_same {b : Nat} {rows : List (List FinishT)} (hg : GoodR b rows) {x : EntryT} (h0 : 0 ≤ E.race x) (h1 : E.race x ≤ 11) (h2 : 0 ≤ E.boat x) (h3 : E.boat x < b) :
    cellR (putR b rows x) (E.race x).toNat (E.boat x).toNat = some (E.boat x, E.code x, E.time x) := by
  have hp := hg.pad (m := (E.race x).toNat + 1) (by omega)
  have hlt : (E.race x).toNat < (padR b rows ((E.race x).toNat + 1)).length := by rw [padR_len]; omega
  unfold putR
  generalize padR b rows ((E.race x).toNat + 1) = pr at *
  have hl : (pr.getD (E.race x).toNat []).length = b := by
    rw [List.getD_eq_getElem?_getD, List.getElem?_eq_getElem hlt]; exact hp.2 _ (List.getElem_mem hlt)
  unfold cellR
  generalize pr.getD (E.race x).toNat [] = q at hl
  rw [List.getD_eq_getElem?_getD, List.getElem?_set_self hlt, Option.getD_some, List.getElem?_set_self (by omega)]
theorem put_other {b : Nat} {rows : List (List FinishT)} {x : EntryT} {r k : Nat} {f : FinishT} (h : cellR rows r k = some f) (hne : ¬ ((E.race x).toNat = r ∧ (E.boat x).toNat = k)) : cellR (putR b rows x) r k = some f := by
  have hr := cellR_lt h
  have hpr := padR_getD (b := b) (m := (E.race x).toNat + 1) hr
  have hlt : r < (padR b rows ((E.race x).toNat + 1)).length := by rw [padR_len]; omega
  unfold cellR at h
  rw [← hpr] at h
  unfold putR cellR
  generalize padR b rows ((E.race x).toNat + 1) = pr at *
  by_cases e : (E.race x).toNat = r
  · subst e
    have hk : (E.boat x).toNat ≠ k := fun e => hne ⟨rfl, e⟩
    generalize hq : pr.getD (E.race x).toNat [] = q at h
    rw [List.getD_eq_getElem?_getD, List.getElem?_set_self hlt, Option.getD_some, List.getElem?_set_ne hk]
    exact h
  · rw [List.getD_eq_getElem?_getD, List.getElem?_set_ne e, ← List.getD_eq_getElem?_getD]
    exact h
/-- Entries by race, then by boat. -/
def ltK (x y : EntryT) : Prop := E.race x < E.race y ∨ (E.race x = E.race y ∧ E.boat x < E.boat y)
/-- An entry lies within b boats and 12 races. -/
def InK (b : Nat) (x : EntryT) : Prop := 0 ≤ E.race x ∧ E.race x ≤ 11 ∧ 0 ≤ E.boat x ∧ E.boat x < b
theorem serGo_keep {b : Nat} : ∀ {l : List EntryT} {rows : List (List FinishT)} {r k : Nat} {f : FinishT}, cellR rows r k = some f → (∀ x ∈ l, ¬ ((E.race x).toNat = r ∧ (E.boat x).toNat = k)) → cellR (serGo b rows l) r k = some f := by
  intro l
  induction l with
  | nil => intro rows r k f h _; exact h
  | cons x q ih => intro rows r k f h hn; exact ih (put_other h (hn x (.head _))) (fun y hy => hn y (.tail _ hy))
theorem serGo_at {b : Nat} : ∀ {l : List EntryT} {rows : List (List FinishT)}, GoodR b rows → (∀ x ∈ l, InK b x) → l.Pairwise ltK → ∀ x ∈ l, cellR (serGo b rows l) (E.race x).toNat (E.boat x).toNat = some (E.boat x, E.code x, E.time x) := by
  intro l
  induction l with
  | nil => intro rows _ _ _ x hx; cases hx
  | cons y q ih =>
    intro rows hg hin hp x hx
    obtain ⟨hy, hp'⟩ := List.pairwise_cons.1 hp
    obtain ⟨i0, i1, i2, i3⟩ := hin y (.head _)
    show cellR (serGo b (putR b rows y) q) (E.race x).toNat (E.boat x).toNat = _
    rcases List.mem_cons.1 hx with rfl | hx
    · refine serGo_keep (put_same hg i0 i1 i2 i3) (fun z hz e => ?_)
      have hl := hy z hz
      obtain ⟨j0, j1, j2, j3⟩ := hin z (.tail _ hz)
      unfold ltK at hl
      omega
    · exact ih (hg.put i0 i1) (fun z hz => hin z (.tail _ hz)) hp' x hx
theorem serGo_fins {b : Nat} : ∀ {l : List EntryT} {rows : List (List FinishT)}, FinsOk rows → (∀ x ∈ l, 0 ≤ E.boat x ∧ finB (E.boat x, E.code x, E.time x) = true) → FinsOk (serGo b rows l) := by
  intro l
  induction l with
  | nil => intro rows h _; exact h
  | cons x q ih => intro rows h hx; exact ih (h.put (hx x (.head _)).1 (hx x (.head _)).2) (fun y hy => hx y (.tail _ hy))
/-! ### Current entries are sorted -/
theorem lastL_mem {xs : List EntryT} {race boat : Int} {x : EntryT} (h : x ∈ lastL (histF xs race boat)) : x ∈ xs ∧ E.race x = race ∧ E.boat x = boat := by
  unfold lastL at h
  exact hist_mem.1 (List.mem_of_getLast? (Option.mem_toList.1 h))
theorem rowC_mem {xs : List EntryT} {race : Int} {k : Nat} {x : EntryT} (h : x ∈ rowC xs race k) : x ∈ xs ∧ E.race x = race ∧ 0 ≤ E.boat x ∧ E.boat x < k := by
  unfold rowC at h
  simp only [List.mem_flatMap, List.mem_range] at h
  obtain ⟨b, hb, hx⟩ := h
  obtain ⟨h1, h2, h3⟩ := lastL_mem hx
  exact ⟨h1, h2, by omega, by omega⟩
theorem lastL_pair (l : List EntryT) : (lastL l).Pairwise ltK := by
  unfold lastL
  cases l.getLast? <;> simp
theorem rowC_sorted (xs : List EntryT) (race : Int) (k : Nat) : (rowC xs race k).Pairwise ltK := by
  induction k with
  | zero => simp [rowC]
  | succ k ih =>
    rw [rowC_succ, List.pairwise_append]
    refine ⟨ih, lastL_pair _, fun a ha c hc => ?_⟩
    have h1 := rowC_mem ha
    have h2 := lastL_mem hc
    right
    omega
theorem currC_sorted (xs : List EntryT) (b r : Nat) : (currC xs b r).Pairwise ltK := by
  induction r with
  | zero => simp [currC]
  | succ r ih =>
    rw [currC_succ, List.pairwise_append]
    refine ⟨ih, rowC_sorted _ _ _, fun a ha c hc => ?_⟩
    have h1 := currC_mem ha
    have h2 := rowC_mem hc
    left
    omega
theorem currF_inK {b : Int} {xs : List EntryT} {x : EntryT} (h : x ∈ currF b xs) : InK b.toNat x := by
  obtain ⟨_, h1, h2, h3, h4⟩ := currF_mem h
  exact ⟨h1, h2, h3, by omega⟩
theorem entB_fin {b : Int} {x : EntryT} (h : entB b x = true) : finB (E.boat x, E.code x, E.time x) = true := by
  unfold entB at h
  simp only [Bool.and_eq_true] at h
  exact h.1.2
theorem serF_fins {b s : Int} {xs : List EntryT} (h : RegOk b s xs) : FinsOk (serF b xs) := by
  refine serGo_fins (fun r hr => by cases hr) (fun x hx => ?_)
  obtain ⟨hm, _, _, h3, _⟩ := currF_mem hx
  exact ⟨h3, entB_fin (h.ent x hm).1⟩
theorem serF_at {b : Int} {xs : List EntryT} {x : EntryT} (h : x ∈ currF b xs) : cellR (serF b xs) (E.race x).toNat (E.boat x).toNat = some (E.boat x, E.code x, E.time x) :=
  serGo_at (GoodR.nil _) (fun y hy => currF_inK hy) (currC_sorted _ _ _) x h
/-- The series of a valid register is valid, race by race. -/
theorem serF_race {b s : Int} {xs : List EntryT} (h : RegOk b s xs) : ∀ r ∈ serF b xs, raceB b r = true := by
  intro r hr
  have hg := serF_good b xs
  have hl := hg.2 r hr
  have hf := serF_fins h r hr
  have hb := h.b1
  unfold raceB
  rw [withinB_iff.2 ⟨h.b1, h.b2⟩]
  have hgo : ∀ (fs : List FinishT) (i : Nat), (∀ (k : Nat) (f : FinishT), fs[k]? = some f → f.1 = ((i + k : Nat) : Int) ∧ finB f = true) → finsGo i fs = true := by
    intro fs
    induction fs with
    | nil => intro i _; rfl
    | cons f q ih =>
      intro i hq
      have h0 := hq 0 f rfl
      unfold finsGo
      rw [h0.2, ih (i + 1) (fun k g hg => by have := hq (k + 1) g (by simpa using hg); rw [show i + 1 + k = i + (k + 1) by omega]; exact this)]
      simp [h0.1]
  rw [hgo r 0 (fun k f hk => by simpa using hf k f hk)]
  have : ((r.length : Int) == b) = true := by rw [beq_iff_eq]; omega
  rw [this]; rfl
/-! ### Redress of a register -/
def redE (x : EntryT) : RedT := (E.race x, E.boat x, E.kind x, E.points x)
def keepB (t : Tb) (x : EntryT) : Bool := !(E.kind x == 0) && (E.kind x == 3 || (avgF t (E.race x) (E.boat x) (E.kind x)).2)
def redsOf (t : Tb) (l : List EntryT) : List RedT := (l.filter (keepB t)).map redE
theorem redsOf_snoc (t : Tb) (l : List EntryT) (x : EntryT) : redsOf t (l ++ [x]) = if keepB t x = true then redsOf t l ++ [redE x] else redsOf t l := by
  unfold redsOf
  rw [List.filter_append, List.map_append]
  cases h : keepB t x <;> simp [h]
theorem redsOf_len (t : Tb) (l : List EntryT) : (redsOf t l).length ≤ l.length := by
  unfold redsOf
  rw [List.length_map]
  exact List.length_filter_le _ _
/-- The table of a valid register before redress. -/
def tab0 (b s : Int) (xs : List EntryT) : Tb := tabS b s (serF b xs)
def tabR (b s : Int) (xs : List EntryT) : Tb := applyF (tab0 b s xs) (redsOf (tab0 b s xs) (currF b xs))
theorem tab0_ok {b s : Int} {xs : List EntryT} (h : RegOk b s xs) : TabOk (tab0 b s xs) := tabS_ok h.b1 h.b2 (serF_good b xs) (serF_fins h)
theorem tab0_code {b s : Int} {xs : List EntryT} {x : EntryT} (h : x ∈ currF b xs) : codeAt (tab0 b s xs) (E.race x) (E.boat x) = E.code x ∧ E.race x ≤ ((tab0 b s xs).pts.length : Int) - 1 := by
  have hc := serF_at h
  have hlt := cellR_lt hc
  have hin := currF_inK h
  refine ⟨?_, by simp only [tab0, tabS, List.length_map]; unfold InK at hin; omega⟩
  unfold codeAt tab0 tabS
  simp only
  unfold cellR at hc
  generalize serF b xs = rows at *
  rw [List.getD_eq_getElem?_getD, List.getElem?_eq_getElem hlt, Option.getD_some] at hc
  rw [List.getD_eq_getElem?_getD, List.getD_eq_getElem?_getD, List.getElem?_map, List.getElem?_eq_getElem hlt, Option.map_some, Option.getD_some]
  unfold rowK
  rw [List.getElem?_map, hc]
  rfl
theorem keep_red {b s : Int} {xs : List EntryT} (h : RegOk b s xs) {x : EntryT} (hx : x ∈ currF b xs) (hk : keepB (tab0 b s xs) x = true) : redB (tab0 b s xs) (redE x) = true := by
  obtain ⟨hc, hr⟩ := tab0_code (s := s) hx
  obtain ⟨hm, i0, i1, i2, i3⟩ := currF_mem hx
  have he := (h.ent x hm).1
  unfold keepB at hk
  rw [Bool.and_eq_true] at hk
  have hk0 : ¬ E.kind x = 0 := by have := hk.1; simpa using this
  unfold entB at he
  simp only [Bool.and_eq_true] at he
  have he2 := he.2
  rw [if_neg hk0, Bool.and_eq_true] at he2
  have h9 : E.code x = 9 := by have := he2.1; simpa using this
  unfold redB redE
  simp only
  rw [withinB_iff.2 ⟨i0, hr⟩, withinB_iff.2 ⟨i2, (by show E.boat x ≤ b - 1; omega)⟩, hc, h9, hk.2]
  have : isRedBT (E.kind x) (E.points x) = true := he2.2
  rw [this]
  rfl
theorem redsGo_of (t : Tb) : ∀ (xs : List RedT) (p : Option RedT), (∀ x ∈ xs, redB t x = true) → (∀ y, p = some y → ∀ x ∈ xs, ltRB y x = true) → xs.Pairwise (fun y x => ltRB y x = true) → redsGo t p xs = true := by
  intro xs
  induction xs with
  | nil => intro p _ _ _; cases p <;> rfl
  | cons x r ih =>
    intro p h1 h2 h3
    obtain ⟨h4, h5⟩ := List.pairwise_cons.1 h3
    have hr := ih (some x) (fun y hy => h1 y (.tail _ hy)) (fun y e z hz => by injection e with e; subst e; exact h4 z hz) h5
    cases p with
    | none => unfold redsGo; rw [h1 x (.head _), hr]; rfl
    | some y => unfold redsGo; rw [h1 x (.head _), h2 y rfl x (.head _), hr]; rfl
theorem reds_ok {b s : Int} {xs : List EntryT} (h : RegOk b s xs) : redsB (tab0 b s xs) (redsOf (tab0 b s xs) (currF b xs)) = true := by
  refine redsGo_of _ _ none (fun x hx => ?_) (fun y e => by cases e) ?_
  · unfold redsOf at hx
    obtain ⟨e, he, rfl⟩ := List.mem_map.1 hx
    obtain ⟨h1, h2⟩ := List.mem_filter.1 he
    exact keep_red h h1 h2
  · unfold redsOf
    rw [List.pairwise_map]
    refine ((currC_sorted xs b.toNat 12).filter _).imp (fun {x y} hl => ?_)
    unfold ltK at hl
    unfold ltRB redE
    simp only [Bool.or_eq_true, Bool.and_eq_true, decide_eq_true_eq, beq_iff_eq]
    exact hl
def regTabC (b s : Int) (xs : List EntryT) : Tb × Int := if regB b s xs = true then (tabR b s xs, 0) else (noT, 1)
end Go.Proofs.YtalgdeieejpelaaGreatDoor

/- Plain functions: drawn series and tables: no Go in sight. -/
namespace Go.Proofs.YtalgdeieejpelaaGreatDoor
open Go.RowKit
set_option linter.unusedVariables false

/-- Races are drawn behind those that are there. -/
def racesGo (code : List Int) (N : Nat) : Nat → List (List FinishT) → St → List (List FinishT) × St
  | 0, out, s => (out, s)
  | m + 1, out, s => racesGo code N m (out ++ [(raceD code N s).1]) (raceD code N s).2
theorem racesGo_len (code : List Int) (N : Nat) : ∀ (m : Nat) (out : List (List FinishT)) (s : St), (racesGo code N m out s).1.length = out.length + m := by
  intro m
  induction m with
  | zero => intro out s; rfl
  | succ m ih => intro out s; unfold racesGo; rw [ih]; simp; omega
theorem racesGo_row (code : List Int) (N : Nat) : ∀ (m : Nat) (out : List (List FinishT)) (s : St), (∀ r ∈ out, r.length ≤ 17) → N ≤ 17 → ∀ r ∈ (racesGo code N m out s).1, r.length ≤ 17 := by
  intro m
  induction m with
  | zero => intro out s h _; exact h
  | succ m ih =>
    intro out s h hN
    refine ih _ _ (fun r hr => ?_) hN
    rcases List.mem_append.1 hr with hr | hr
    · exact h r hr
    · rw [List.mem_singleton.1 hr, raceD_len]; exact hN
/-- A series: boats, scheme, races. -/
abbrev SerT := Int × Int × List (List FinishT)
def serX (code : List Int) (s : St) : SerT × St :=
  let n := boatsD code s
  let sc := nextF code n.2 2
  let k := nextF code sc.2 7
  let r := racesGo code n.1.toNat k.1.toNat [] k.2
  let w := nextF code r.2 30
  if w.1 = 0 then ((n.1, 2, r.1), w.2)
  else if w.1 = 1 then ((n.1, sc.1, r.1 ++ [(raceD code (n.1.toNat + 1) w.2).1]), (raceD code (n.1.toNat + 1) w.2).2)
  else if w.1 = 2 then
    ((n.1, sc.1, (racesGo code n.1.toNat (13 - r.1.length) r.1 w.2).1.take (12 + (nextF code (racesGo code n.1.toNat (13 - r.1.length) r.1 w.2).2 2).1).toNat), (nextF code (racesGo code n.1.toNat (13 - r.1.length) r.1 w.2).2 2).2)
  else ((n.1, sc.1, r.1), w.2)
theorem serX_parts (code : List Int) (s : St) : ∃ n sc k r w, n = boatsD code s ∧ sc = nextF code n.2 2 ∧ k = nextF code sc.2 7 ∧ r = racesGo code n.1.toNat k.1.toNat [] k.2 ∧ w = nextF code r.2 30 ∧ serX code s =
    (if w.1 = 0 then ((n.1, 2, r.1), w.2)
    else if w.1 = 1 then ((n.1, sc.1, r.1 ++ [(raceD code (n.1.toNat + 1) w.2).1]), (raceD code (n.1.toNat + 1) w.2).2)
    else if w.1 = 2 then
      ((n.1, sc.1, (racesGo code n.1.toNat (13 - r.1.length) r.1 w.2).1.take (12 + (nextF code (racesGo code n.1.toNat (13 - r.1.length) r.1 w.2).2 2).1).toNat), (nextF code (racesGo code n.1.toNat (13 - r.1.length) r.1 w.2).2 2).2)
    else ((n.1, sc.1, r.1), w.2)) := ⟨_, _, _, _, _, rfl, rfl, rfl, rfl, rfl, rfl⟩
theorem serX_bd (code : List Int) (s : St) : (serX code s).1.2.2.length ≤ 13 ∧ ∀ r ∈ (serX code s).1.2.2, r.length ≤ 17 := by
  obtain ⟨n, sc, k, r, w, hn, hsc, hk, hr, hw, ex⟩ := serX_parts code s
  have hb := boatsD_bd code s
  rw [← hn] at hb
  have hkb := nextF_bd code sc.2 7 (by omega)
  rw [← hk] at hkb
  have hrl : r.1.length ≤ 6 := by rw [hr, racesGo_len]; simp; omega
  have hrr : ∀ q ∈ r.1, q.length ≤ 17 := by rw [hr]; exact racesGo_row _ _ _ _ _ (fun q h => by cases h) (by omega)
  rw [ex]
  split
  · exact ⟨by simp only; omega, hrr⟩
  · split
    · refine ⟨by simp only [List.length_append, List.length_cons, List.length_nil]; omega, fun q hq => ?_⟩
      simp only at hq
      rcases List.mem_append.1 hq with hq | hq
      · exact hrr q hq
      · rw [List.mem_singleton.1 hq, raceD_len]; omega
    · split
      · have hl := racesGo_len code n.1.toNat (13 - r.1.length) r.1 w.2
        refine ⟨?_, fun q hq => ?_⟩
        · simp only [List.length_take]; omega
        · simp only at hq
          exact racesGo_row code n.1.toNat (13 - r.1.length) r.1 w.2 hrr (by omega) q (List.mem_of_mem_take hq)
      · exact ⟨by simp only; omega, hrr⟩
/-! ### Some finishes lose their redress -/
def rdgX (code : List Int) (x : FinishT) (s : St) : FinishT × St :=
  if x.2.1 = 9 then (if (nextF code s 2).1 = 0 then ((x.1, 4, 0), (nextF code s 2).2) else (x, (nextF code s 2).2)) else (x, s)
def rdgRow (code : List Int) : Nat → Nat → List FinishT → St → List FinishT × St
  | 0, _, row, s => (row, s)
  | m + 1, k, row, s => rdgRow code m (k + 1) (row.set k (rdgX code (row.getD k (0, 0, 0)) s).1) (rdgX code (row.getD k (0, 0, 0)) s).2
def rdgGo (code : List Int) : Nat → Nat → List (List FinishT) → St → List (List FinishT) × St
  | 0, _, rows, s => (rows, s)
  | m + 1, i, rows, s => rdgGo code m (i + 1) (rows.set i (rdgRow code (rows.getD i []).length 0 (rows.getD i []) s).1) (rdgRow code (rows.getD i []).length 0 (rows.getD i []) s).2
def seriesB (b s : Int) (rows : List (List FinishT)) : Bool := withinB b 1 16 && withinB s 0 1 && decide (rows.length ≤ 12) && rows.all fun r => ((r.length : Int) == b) && finsGo 0 r

/-- The table of a series, none of one that is not valid. -/
def tabV (v : SerT) : Tb := if seriesB v.1 v.2.1 v.2.2 = true then tabS v.1 v.2.1 v.2.2 else noT
/-- One place of the table is spoiled now and then. -/
def spoilT (code : List Int) (t : Tb) (i k : Nat) (w : Int × St) : Tb × St :=
  if w.1 = 0 then (⟨t.boats, setRC t.pts i k (10000 + (nextF code w.2 2).1), t.cds⟩, (nextF code w.2 2).2)
  else if w.1 = 1 then (⟨t.boats, t.pts, setRC t.cds i k (10 - (nextF code w.2 2).1)⟩, (nextF code w.2 2).2)
  else if w.1 = 2 then (⟨t.boats, t.pts.set i ((t.pts.getD i []).drop 1), t.cds⟩, w.2)
  else if w.1 = 3 then (⟨t.boats, t.pts, t.cds.drop 1⟩, w.2)
  else if w.1 = 4 ∨ w.1 = 5 ∨ w.1 = 6 then (⟨t.boats, setRC t.pts i k (10 * (nextF code w.2 8).1), t.cds⟩, (nextF code w.2 8).2)
  else (t, w.2)
def tabX (code : List Int) (s : St) : Tb × St :=
  let v := serX code s
  let r := rdgGo code v.1.2.2.length 0 v.1.2.2 v.2
  let t := tabV (v.1.1, v.1.2.1, r.1)
  if t.pts.length = 0 ∨ t.boats = 0 then (t, r.2)
  else
    let i := nextF code r.2 (t.pts.length : Int)
    let k := nextF code i.2 t.boats
    spoilT code t i.1.toNat k.1.toNat (nextF code k.2 20)
/-- Some codes become RDG. -/
def redTX (code : List Int) : Nat → Tb → St → Tb × St
  | 0, t, s => (t, s)
  | m + 1, t, s =>
    if tableB t = true ∧ 0 < t.pts.length then
      redTX code m ⟨t.boats, setRC t.pts (nextF code s (t.pts.length : Int)).1.toNat (nextF code (nextF code s (t.pts.length : Int)).2 t.boats).1.toNat 0, setRC t.cds (nextF code s (t.pts.length : Int)).1.toNat (nextF code (nextF code s (t.pts.length : Int)).2 t.boats).1.toNat 9⟩ (nextF code (nextF code s (t.pts.length : Int)).2 t.boats).2
    else (t, s)
def tab29 (code : List Int) (s : St) : Tb × St := redTX code (nextF code (tabX code s).2 4).1.toNat (tabX code s).1 (nextF code (tabX code s).2 4).2
end Go.Proofs.YtalgdeieejpelaaGreatDoor

/- Walks: drawn series. -/
namespace Go.Proofs.YtalgdeieejpelaaGreatDoor
open Go.RowKit Go.Sort
set_option linter.unusedVariables false
set_option maxRecDepth 100000

def lenOf (v : Value) : Nat := match v with | .slice _ k _ => k | _ => 0
theorem own_cap {w : World} {base e s n c : Nat} {A : Option Addr} {xs : List Value} (h : w.ownsRow base e s (.slice A n c) n xs) : n ≤ c := by
  rcases h.2 with ⟨e1, _⟩ | ⟨g, cap, cur, e1, h1, h2, h3, h4, h5, h6⟩
  · injection e1 with e1 e2 e3
    omega
  · injection e1 with e1 e2 e3
    omega
theorem OwnRaces.take {w : World} {base eo ei n c k : Nat} {A : Option Addr} {vs : List Value} {rows : List (List FinishT)} (h : OwnRaces w base eo ei A n c vs rows) (hk : k ≤ n) : OwnRaces w base eo ei A k c (vs.take k) (rows.take k) :=
  ⟨by simpa using own_take h.outer hk, by rw [List.length_take, h.len]; exact Nat.min_eq_left hk,
   fun i v xs h1 h2 => h.row i v xs (by rw [List.getElem?_take] at h1; split at h1; exact h1; cases h1) (by rw [List.getElem?_take] at h2; split at h2; exact h2; cases h2),
   fun i j u v hij h1 h2 b hb hb' => h.apart i j u v hij (by rw [List.getElem?_take] at h1; split at h1; exact h1; cases h1) (by rw [List.getElem?_take] at h2; split at h2; exact h2; cases h2) b hb hb'⟩
theorem OwnRaces.grown1 {w w' : World} {base eo ei n c : Nat} {A : Option Addr} {vs : List Value} {rows : List (List FinishT)} {r : Option Nat} (h : OwnRaces w base eo ei A n c vs rows) (hg : w.grownBy w' r)
    (h1 : ∀ b, (Value.slice A n c).ownBlock = some b → r ≠ some b) (h2 : ∀ v ∈ vs, ∀ b, v.ownBlock = some b → r ≠ some b) : OwnRaces w' base eo ei A n c vs rows := by
  have key : ∀ (u : Value) (e sz m : Nat) (zs : List Value), w.ownsRow base e sz u m zs → (∀ b, u.ownBlock = some b → r ≠ some b) → w'.ownsRow base e sz u m zs := by
    intro u e sz m zs hu hr
    refine hu.kept hg ?_
    rcases hb : u.ownBlock with _ | b
    · exact .inl rfl
    · exact .inr (fun he => hr b hb he.symm)
  exact ⟨key _ _ _ _ _ h.outer h1, h.len, fun i v xs e1 e2 => by
    obtain ⟨A', c', e, ho⟩ := h.row i v xs e1 e2
    exact ⟨A', c', e, key _ _ _ _ _ ho (h2 v (List.mem_of_getElem? e1))⟩, h.apart⟩
theorem OwnRaces.row_ty1 {w : World} {base eo ei n c : Nat} {A : Option Addr} {vs : List Value} {rows : List (List FinishT)} (h : OwnRaces w base eo ei A n c vs rows) {v : Value} (hv : v ∈ vs) : ∃ m zs, w.ownsRow base ei 3 v m zs := by
  obtain ⟨k, hk⟩ := List.mem_iff_getElem?.1 hv
  have hkn : k < n := by have := (List.getElem?_eq_some_iff.1 hk).1; rw [h.vlen] at this; exact this
  obtain ⟨u, A2, c2, xs, h1, h2, _, e, ho⟩ := h.get hkn
  obtain rfl : v = u := by rw [hk] at h1; injection h1
  exact ⟨_, _, by rw [e]; exact ho⟩
/-- A series is drawn. -/
def RetSD (w0 w : World) (A : Option Addr) (n cap : Nat) (code : List Int) (g : Nat) (r : SerT × St) (e : Ending) (w' : World) : Prop :=
  ∃ A' m c vs, e = .returned (.agg #[.int .i64 r.1.1, .int .i64 r.1.2.1, .slice A' m c]) ∧ OwnRaces w' w.heap.size 107 109 A' m c vs r.1.2.2 ∧ Src w0 w' A n cap code g r.2 ∧ Chg g (g + 1) w w'
theorem own_box_ne1 {w : World} {base e s n b : Nat} {v : Value} {xs : List Value} {vs : Array Value} {t : TypeId} (h : w.ownsRow base e s v n xs) (hb : Box w b vs t) (hne : e ≠ t) : v.ownBlock ≠ some b := by
  intro hv
  rcases h.2 with ⟨rfl, _⟩ | ⟨g1, cap, cur, rfl, _, hh, _⟩
  · simp [Value.ownBlock] at hv
  · simp [Value.ownBlock] at hv
    subst hv
    unfold Box at hb
    rw [hb] at hh
    injection hh with hh
    injection hh with _ hh _
    exact hne hh.symm
/-- What stands while a series is drawn: b0 the result's box, ob the box of boats and scheme. -/
structure SS (w0 w W : World) (A : Option Addr) (n cap : Nat) (code : List Int) (g : Nat) (ob : Nat) (b sc : Int) (q : Value) (A' : Option Addr) (m c : Nat) (vs : List Value) (s : St) (rows : List (List FinishT)) : Prop where
  d : DS w0 w W A n cap code g s
  bx : Box W w.heap.size #[.int .i64 0, .int .i64 0, .slice none 0 0] 103
  ox : Box W ob #[.int .i64 b, .int .i64 sc, q] 103
  ol : w.heap.size < ob
  ow : OwnRaces W (w.heap.size + 1) 107 109 A' m c vs rows
section
variable {w0 w W W' : World} {A A' : Option Addr} {n cap g m c ob : Nat} {code : List Int} {s s' : St} {rows : List (List FinishT)} {b sc : Int} {q : Value} {vs : List Value}
theorem races_ne_chg {w w' : World} {base n c g : Nat} {A : Option Addr} {vs : List Value} {rows : List (List FinishT)} (h : OwnRaces w base 107 109 A n c vs rows) (k : Chg g (g + 1) w w') (hb : g < base) : OwnRaces w' base 107 109 A n c vs rows :=
  h.chg k h.in_ (.inr (by omega))
theorem SS.turn (h : SS w0 w W A n cap code g ob b sc q A' m c vs s rows) (hs : Src w0 W' A n cap code g s') (hc : Chg g (g + 1) W W') : SS w0 w W' A n cap code g ob b sc q A' m c vs s' rows :=
  ⟨h.d.turn hs hc, h.bx.chg hc (.inr h.d.gl), h.ox.chg hc (.inr (by have := h.d.gl; have := h.ol; omega)), h.ol, races_ne_chg h.ow hc (by have := h.d.gl; omega)⟩
theorem SS.below (h : SS w0 w W A n cap code g ob b sc q A' m c vs s rows) (k : Below W.heap.size W W') : SS w0 w W' A n cap code g ob b sc q A' m c vs s rows := ⟨h.d.below k, h.bx.below k, h.ox.below k, h.ol, h.ow.below k⟩
/-- A new race is appended. -/
theorem SS.app {A1 B : Option Addr} {c1 d : Nat} {ys : List FinishT} {base2 : Nat} {w1 : World} (h : SS w0 w W A n cap code g ob b sc q A' m c vs s rows) (hw : W.heap.size ≤ base2) (hs : Src w0 w1 A n cap code g s') (hc : Chg g (g + 1) W w1)
    (hy : w1.ownsRow base2 109 3 (.slice B ys.length d) ys.length (fins ys)) (o : Obj) (hg : (w1.alloc o).grownBy W' (Value.slice A' m c).ownBlock) (ho : W'.ownsRow (w.heap.size + 1) 107 1 (.slice A1 (m + 1) c1) (m + 1) (vs ++ [.slice B ys.length d])) :
    SS w0 w W' A n cap code g ob b sc q A1 (m + 1) c1 (vs ++ [.slice B ys.length d]) s' (rows ++ [ys]) := by
  have h1 := (h.turn hs hc).below ((Below.refl _ _).alloc (Nat.le_refl _) o)
  have hsz := h.bx.lt
  refine ⟨h1.d.grown h1.ow.outer (by omega) hg, h1.bx.grown hg (own_box_ne1 h1.ow.outer h1.bx (by decide)), h1.ox.grown hg (own_box_ne1 h1.ow.outer h1.ox (by decide)), h.ol, ?_⟩
  refine OwnRaces.append (h.turn hs hc).ow (by decide) (own_base hy (by omega)) (fun u hu k hk e => ?_) o hg ho
  have h2 := (h.ow.in_.2 u hu k e).2
  have h3 := (hy.lt k hk).1
  omega
theorem SS.take {k : Nat} (h : SS w0 w W A n cap code g ob b sc q A' m c vs s rows) (hk : k ≤ m) : SS w0 w W A n cap code g ob b sc q A' k c (vs.take k) s (rows.take k) := ⟨h.d, h.bx, h.ox, h.ol, h.ow.take hk⟩
theorem SS.done (h : SS w0 w W A n cap code g ob b sc q A' m c vs s rows) : RetSD w0 w A n cap code g ((b, sc, rows), s) (.returned (.agg #[.int .i64 b, .int .i64 sc, .slice A' m c])) (putW W w.heap.size 0 [.int .i64 b, .int .i64 sc, .slice A' m c]) := by
  have hxl := h.bx.lt
  have hput := put_chg (g := w.heap.size) [.int .i64 b, .int .i64 sc, .slice A' m c] 0 (Chg.refl w.heap.size (w.heap.size + 1) W) (Nat.le_refl _) (by omega)
  have hd := h.d.puts [.int .i64 b, .int .i64 sc, .slice A' m c] (b := w.heap.size) (Nat.le_refl _) 0
  exact ⟨_, _, _, _, rfl, (h.ow.chg hput h.ow.in_ (.inr (by omega))).base' (by omega), hd.src, hd.ch⟩
end
set_option maxHeartbeats 4000000 in
theorem serX_any (w0 : World) (A : Option Addr) (n cap : Nat) (code : List Int) (hcode : Code0 w0 A n code) (g : Nat) (s : St) (w : World) (h : Src w0 w A n cap code g s) :
    Calls Tryz.prog 78 #[.pointer (some ⟨g, 0, none⟩)] w (RetSD w0 w A n cap code g (serX code s)) := by
  have hgl := h.lt
  have HNX := Lib.hid (fun s k hk w' h => next_any w0 A n cap code hcode g s k hk w' h)
  have HBT := Lib.hid (fun w' h => boatsD_any w0 A n cap code hcode g s w' h)
  have hbd := boatsD_bd code s
  obtain ⟨nb, sc, k, r, w9, hn, hsc, hk, hr, hw9, ex⟩ := serX_parts code s
  rw [← hn] at hbd HBT
  obtain ⟨N, hN⟩ := int_up nb.1 hbd.1
  have hN16 : N ≤ 16 := by omega
  have HRC := Lib.hid (fun s w' h => raceD_any w0 A n cap code hcode g s N (by omega) w' h)
  have HRC1 := Lib.hid (fun s w' h => raceD_any w0 A n cap code hcode g s (N + 1) (by omega) w' h)
  rw [show ((N + 1 : Nat) : Int) = (N : Int) + 1 from by push_cast; rfl] at HRC1
  have hkb := nextF_bd code sc.2 7 (by omega)
  rw [← hk] at hkb
  have H2 := Lib.hid (HNX.out nb.2 2 (by omega))
  have H3 := Lib.hid (HNX.out sc.2 7 (by omega))
  have H9 := Lib.hid (HNX.out r.2 30 (by omega))
  rw [← hsc] at H2
  rw [← hk] at H3
  rw [← hw9] at H9
  obtain ⟨K, hK⟩ := int_up k.1 hkb.1
  have hrl := racesGo_len code nb.1.toNat k.1.toNat [] k.2
  rw [← hr] at hrl
  have hr' := hr.symm
  rw [hN, hK, Int.toNat_natCast, Int.toNat_natCast] at hr'
  rw [hK, Int.toNat_natCast] at hrl
  rw [hN, Int.toNat_natCast] at ex
  obtain ⟨_, s1⟩ := nb
  obtain ⟨_, s3⟩ := k
  obtain ⟨v2, s2⟩ := sc
  obtain ⟨v9, s9⟩ := w9
  simp only at hN hK
  subst hN
  subst hK
  simp only [List.length_nil, Nat.zero_add] at hrl
  have hrl6 : r.1.length ≤ 6 := by omega
  have hK6 : K ≤ 6 := by omega
  simp only at ex hr' H2 H3 H9
  generalize serX code s = X at *
  have HR := Lib.hid hr'
  have HEX := Lib.hid ex
  have HRL := Lib.hid hrl
  clear hn hsc hk hr hw9 hr' ex hkb hbd hrl
  obtain ⟨wa, hwa, XR, hba, hsa⟩ := one_box w #[.int .i64 0, .int .i64 0, .slice none 0 0] 103
  have HD0 := Lib.hid (DS.below (w := w) ⟨h, Chg.refl _ _ _, hgl⟩ hba)
  have HX0 := Lib.hid XR
  clear h hba XR hsa
  go_enter Tryz.func78, Tryz.ntmps78
  go_wp2_with fail
  rw [← hwa]
  clear hwa
  go_wp2_with fail
  refine (HBT.out _ HD0.out.src).mono ?_
  rintro e w1 ⟨rfl, hs, hc⟩
  have HD1 := Lib.hid (HD0.out.turn hs hc)
  have HX1 := Lib.hid (HX0.out.chg hc (.inr (by omega)))
  clear hs hc HBT HD0 HX0
  simp only
  go_wp2_with fail
  refine (H2.out _ HD1.out.src).mono ?_
  rintro e w2 ⟨rfl, hs, hc⟩
  have HD2 := Lib.hid (HD1.out.turn hs hc)
  have HX2 := Lib.hid (HX1.out.chg hc (.inr (by omega)))
  clear hs hc H2 HD1 HX1
  simp only
  have hz2 := HX2.out.lt
  obtain ⟨wx, hwx, hbx, hsx⟩ : ∃ wx, wx = w2.alloc (.cells #[] 107) ∧ Below w2.heap.size w2 wx ∧ wx.heap.size = w2.heap.size + 1 := ⟨_, rfl, (Below.refl _ _).alloc (Nat.le_refl _) _, by simp⟩
  obtain ⟨wy, hwy, XO, hby, hsy⟩ := one_box wx #[.int .i64 (N : Int), .int .i64 v2, .slice (some ⟨w2.heap.size, 0, none⟩) 0 0] 103
  have hoe := OwnRaces.empty wy (w.heap.size + 1) 107 109 (by omega)
  have hbz : Below wy.heap.size wy (wy.alloc (.cells #[] 107)) := (Below.refl _ _).alloc (Nat.le_refl _) _
  have hzz : ((wy.alloc (.cells #[] 107))).heap.size = wy.heap.size + 1 := by simp
  have HSS := Lib.hid (show SS w0 w (wy.alloc (.cells #[] 107)) A n cap code g wx.heap.size (N : Int) v2 (.slice (some ⟨w2.heap.size, 0, none⟩) 0 0) (some ⟨wy.heap.size, 0, none⟩) 0 0 [] s2 [] from ⟨((HD2.out.below hbx).below hby).below hbz, ((HX2.out.below hbx).below hby).below hbz, XO.below hbz, by omega, hoe⟩)
  obtain ⟨wz, hwz⟩ : ∃ wz : World, wz = wy.alloc (.cells #[] 107) := ⟨_, rfl⟩
  rw [← hwz] at HSS
  have hsx' := hsx
  obtain ⟨ob, hob⟩ : ∃ ob, ob = wx.heap.size := ⟨_, rfl⟩
  obtain ⟨gy, hgy⟩ : ∃ gy, gy = wy.heap.size := ⟨_, rfl⟩
  rw [← hob, ← hgy] at HSS
  have e1 : w2.heap.size + 1 = ob := by omega
  have e2 : w2.heap.size + 1 + 1 = gy := by omega
  have HW1 := Lib.hid hwx; have HW2 := Lib.hid hwy; have HW3 := Lib.hid hwz; have HE1 := Lib.hid e1; have HE2 := Lib.hid e2
  clear hoe hbz hzz XO hby hbx HD2 HX2 hwx hwy hwz e1 e2 hob hgy hsx hsx' hsy
  go_wp2_with fail
  rw [← HW1.out, ← HW2.out, ← HW3.out]
  (try rw [HE2.out])
  (try rw [HE1.out])
  clear HW1 HW2 HW3
  refine (H3.out _ HSS.out.d.src).mono ?_
  rintro e w3 ⟨rfl, hs, hc⟩
  have HS3 := Lib.hid (HSS.out.turn hs hc)
  clear hs hc H3 HSS HE1 HE2
  simp only
  go_wp2_with fail
  go_loopw [5, 6] (fun v u wr => ∃ (j m' c' : Nat) (A' : Option Addr) (vs : List Value) (out : List (List FinishT)) (s' : St), j ≤ K ∧ m' + j = K ∧ u = .int .i64 j ∧ v = .slice A' m' c' ∧ Hid (racesGo code N j out s' = r) ∧ Hid (SS w0 w wr A n cap code g ob (N : Int) v2 (.slice (some ⟨w2.heap.size, 0, none⟩) 0 0) A' m' c' vs s' out)) (fun _ u _ => (intOf u).toNat)
  case atStart => exact ⟨K, 0, _, _, _, [], s3, Nat.le_refl _, by omega, rfl, rfl, HR, HS3⟩
  case round =>
    clear HR HS3
    obtain ⟨j, m', c', A', vs, out, s', hj, hmj, rfl, rfl, HR, HS⟩ := hrel
    obtain ⟨wo, hwo⟩ : ∃ wo : World, wo = wr := ⟨_, rfl⟩
    subst hwo
    rcases j with _ | j
    rotate_left
    · have hki : decide (((j + 1 : Nat) : Int) > 0) = true := by first | (simp; done) | (simp; omega)
      have hr := HR.out
      unfold racesGo at hr
      have H5 := Lib.hid (HRC.out s')
      generalize raceD code N s' = r5 at *
      obtain ⟨ys, s5⟩ := r5
      simp only at hr
      have HR2 := Lib.hid hr
      clear hr HR
      go_wp2_with fail
      refine (H5.out _ HS.out.d.src).mono ?_
      rintro e w5 ⟨B, m5, d5, rfl, ho5, hs5, hc5⟩
      have hl5 := own_len_flat finC_len (by decide) ho5
      simp only at hl5 ho5 hs5
      subst hl5
      have hsc := HS.out.bx.lt
      have hcz := hc5.size
      go_wp2_with (at_builtin; refine app_race _ rfl _ _ rfl rfl ((HS.out.turn hs5 hc5).ow.outer.alloc _) rfl (cell_new1 _ _ _) (by omega) ?cBa ?_; rotate_left; intro A9 c9 w9 hown9 hgr9)
      · have HS9 := Lib.hid (HS.out.app (Nat.le_refl _) hs5 hc5 ho5 _ hgr9 hown9)
        clear hown9 hgr9
        go_roundw
        case rel => exact ⟨j, m' + 1, _, _, _, _, s5, by omega, by omega, by go_num, rfl, HR2, HS9⟩
        case measure => simp [intOf] <;> omega
      · simp; omega
    · have hki : decide (((0 : Nat) : Int) > 0) = false := by simp
      have hr := HR.out
      unfold racesGo at hr
      subst hr
      clear HR
      simp only at HEX H9 HRL hrl6
      obtain rfl : m' = K := by omega
      have hm6 : m' ≤ 6 := by omega
      have HSx := HS
      go_wp2_with fail
      refine (H9.out _ HS.out.d.src).mono ?_
      rintro e w6 ⟨rfl, hs, hc⟩
      have HS6 := Lib.hid (HS.out.turn hs hc)
      clear hs hc HS HSx H9
      simp only
      by_cases t0 : v9 = 0
      · subst t0
        have ex := HEX.out
        clear HEX
        rw [if_pos rfl] at ex
        subst ex
        have F1 := HS6.out.ox.f3
        have F0 := HS6.out.bx.f3
        have hol := HS6.out.ol
        have hne : (w.heap.size = ob) = False := by simp; omega
        have hne2 : (ob = w.heap.size) = False := by simp; omega
        have HS7 := Lib.hid (show SS w0 w (w6.setCell ⟨ob, 1, none⟩ (.int .i64 2)) A n cap code g ob (N : Int) 2 (.slice (some ⟨w2.heap.size, 0, none⟩) 0 0) A' m' c' vs s9 out from ⟨HS6.out.d.put (by omega) _ _, HS6.out.bx.other (by omega) _, by have := HS6.out.ox.set 1 (.int .i64 2); simpa using this, hol, HS6.out.ow.grown1 (grown_set (World.grownBy.refl w6 (some ob)) 1 _) (fun g hg e => own_box_ne1 HS6.out.ow.outer HS6.out.ox (by decide) (by rw [hg, e])) (fun u hu g hg e => by
          obtain ⟨m9, zs9, ho9⟩ := HS6.out.ow.row_ty1 hu
          exact own_box_ne1 ho9 HS6.out.ox (by decide) (by rw [hg, e]))⟩)
        go_wp2_with fail
        refine bodyPost_ret (v := .agg #[.int .i64 (N : Int), .int .i64 2, .slice A' m' c']) (by simp [results, Tryz.results78, go_sem, F0]) rfl ?_
        exact HS7.out.done
      have t0b : (v9 == 0) = false := by simp [t0]
      by_cases t1 : v9 = 1
      · subst t1
        have ex := HEX.out
        clear HEX
        rw [if_neg (by decide), if_pos rfl] at ex
        have H5 := Lib.hid (HRC1.out s9)
        generalize raceD code (N + 1) s9 = r5 at *
        obtain ⟨ys, s5⟩ := r5
        simp only at ex
        subst ex
        go_wp2_with fail
        refine (H5.out _ HS6.out.d.src).mono ?_
        rintro e w5 ⟨B, m5, d5, rfl, ho5, hs5, hc5⟩
        have hl5 := own_len_flat finC_len (by decide) ho5
        simp only at hl5 ho5 hs5
        subst hl5
        have hsc := HS6.out.bx.lt
        have hcz := hc5.size
        go_wp2_with (at_builtin; refine app_race _ rfl _ _ rfl rfl ((HS6.out.turn hs5 hc5).ow.outer.alloc _) rfl (cell_new1 _ _ _) (by omega) ?cBb ?_; rotate_left; intro A9 c9 w9 hown9 hgr9; have HS9 := Lib.hid (HS6.out.app (Nat.le_refl _) hs5 hc5 ho5 _ hgr9 hown9); have F1 := HS9.out.ox.f3; have F0 := HS9.out.bx.f3; clear hown9 hgr9)
        · skip
          (try go_wp2_with fail)
          refine bodyPost_ret (v := .agg #[.int .i64 (N : Int), .int .i64 v2, .slice A9 (m' + 1) c9]) (by simp [results, Tryz.results78, go_sem, F0]) rfl ?_
          exact HS9.out.done
        · simp; omega
      have t1b : (v9 == 1) = false := by simp [t1]
      by_cases t2 : v9 = 2
      rotate_left
      · have t2b : (v9 == 2) = false := by simp [t2]
        have ex := HEX.out
        clear HEX
        rw [if_neg t0, if_neg t1, if_neg t2] at ex
        subst ex
        have F1 := HS6.out.ox.f3
        have F0 := HS6.out.bx.f3
        go_wp2_with fail
        refine bodyPost_ret (v := .agg #[.int .i64 (N : Int), .int .i64 v2, .slice A' m' c']) (by simp [results, Tryz.results78, go_sem, F0]) rfl ?_
        exact HS6.out.done
      subst t2
      have ex := HEX.out
      clear HEX
      rw [if_neg (by decide), if_neg (by decide), if_pos rfl] at ex
      have hlo : out.length = m' := by have := HRL.out; simpa using this
      rw [hlo] at ex
      obtain ⟨R, hR⟩ : ∃ R, racesGo code N (13 - m') out s9 = R := ⟨_, rfl⟩
      rw [hR] at ex
      have HR := Lib.hid hR
      have HEX := Lib.hid ex
      clear ex hR hlo
      go_wp2_with fail
      go_loopw [5] (fun v wr => ∃ (m2 c2 : Nat) (A2 : Option Addr) (vs : List Value) (out : List (List FinishT)) (s' : St), m2 ≤ 13 ∧ v = .slice A2 m2 c2 ∧ Hid (racesGo code N (13 - m2) out s' = R) ∧ Hid (SS w0 w wr A n cap code g ob (N : Int) v2 (.slice (some ⟨w2.heap.size, 0, none⟩) 0 0) A2 m2 c2 vs s' out)) (fun v _ => 13 - lenOf v)
      case atStart => exact ⟨m', _, _, _, out, s9, by omega, rfl, HR, HS6⟩
      case round =>
        clear HR HS6
        obtain ⟨m2, c2, A2, vs, out, s', hm2, rfl, HR, HS⟩ := hrel
        obtain ⟨wp, hwp⟩ : ∃ wp : World, wp = wr := ⟨_, rfl⟩
        subst hwp
        by_cases hlt : m2 < 13
        · have hr := HR.out
          rw [show 13 - m2 = (13 - (m2 + 1)) + 1 from by omega] at hr
          unfold racesGo at hr
          have H5 := Lib.hid (HRC.out s')
          generalize raceD code N s' = r5 at *
          obtain ⟨ys, s5⟩ := r5
          simp only at hr
          have HR2 := Lib.hid hr
          clear hr HR
          have hli : decide ((m2 : Int) < 13) = true := by simp; omega
          go_wp2_with fail
          refine (H5.out _ HS.out.d.src).mono ?_
          rintro e w5 ⟨B, m5, d5, rfl, ho5, hs5, hc5⟩
          have hl5 := own_len_flat finC_len (by decide) ho5
          simp only at hl5 ho5 hs5
          subst hl5
          have hsc := HS.out.bx.lt
          have hcz := hc5.size
          go_wp2_with (at_builtin; refine app_race _ rfl _ _ rfl rfl ((HS.out.turn hs5 hc5).ow.outer.alloc _) rfl (cell_new1 _ _ _) (by omega) ?cBc ?_; rotate_left; intro A9 c9 w9 hown9 hgr9)
          · have HS9 := Lib.hid (HS.out.app (Nat.le_refl _) hs5 hc5 ho5 _ hgr9 hown9)
            clear hown9 hgr9
            go_roundw
            case rel => exact ⟨m2 + 1, _, _, _, _, s5, by omega, rfl, HR2, HS9⟩
            case measure => simp [lenOf] <;> omega
          · simp; omega
        · obtain rfl : m2 = 13 := by omega
          have hr := HR.out
          rw [show racesGo code N (13 - 13) out s' = (out, s') from rfl] at hr
          subst hr
          clear HR
          have ex := HEX.out
          clear HEX
          simp only at ex
          have H7 := Lib.hid (HNX.out s' 2 (by omega))
          have q7 := nextF_bd code s' 2 (by omega)
          generalize nextF code s' 2 = r7 at *
          obtain ⟨v7, s7⟩ := r7
          simp only at ex q7
          have hcap := own_cap HS.out.ow.outer
          have hli : decide (((13 : Nat) : Int) < 13) = false := by simp
          have h01 : v7 = 0 ∨ v7 = 1 := by omega
          go_wp2_with fail
          refine (H7.out _ HS.out.d.src).mono ?_
          rintro e w7 ⟨rfl, hs, hc⟩
          have HS7 := Lib.hid (HS.out.turn hs hc)
          clear hs hc HS H7
          simp only
          have F1 := HS7.out.ox.f3
          have F0 := HS7.out.bx.f3
          obtain ⟨g2, _, rfl, _, _, _, _, _⟩ := own_at HS7.out.ow.outer (k := 0) (by omega)
          rcases h01 with rfl | rfl
          · subst ex
            have HT := Lib.hid (HS7.out.take (k := 12) (by omega))
            have hc12 : (12 : Nat) ≤ c2 := by omega
            go_wp2_with fail
            refine bodyPost_ret (v := .agg #[.int .i64 (N : Int), .int .i64 v2, .slice (some ⟨g2, 0, none⟩) 12 c2]) (by simp [results, Tryz.results78, go_sem, F0]) rfl ?_
            exact HT.out.done
          · subst ex
            have HT := Lib.hid (HS7.out.take (k := 13) (by omega))
            go_wp2_with fail
            refine bodyPost_ret (v := .agg #[.int .i64 (N : Int), .int .i64 v2, .slice (some ⟨g2, 0, none⟩) 13 c2]) (by simp [results, Tryz.results78, go_sem, F0]) rfl ?_
            exact HT.out.done
end Go.Proofs.YtalgdeieejpelaaGreatDoor

/- Walks: a discard rule is drawn (chapter 27). -/
namespace Go.Proofs.YtalgdeieejpelaaGreatDoor
open Go.RowKit Go.Sort
set_option linter.unusedVariables false
set_option maxRecDepth 100000

def rlGo (code : List Int) : Nat → Int → List Int → St → (List Int × Int) × St
  | 0, a, out, s => ((out, a), s)
  | k + 1, a, out, s => rlGo code k (a + 1 + (nextF code s 4).1) (out ++ [a + 1 + (nextF code s 4).1]) (nextF code s 4).2
def ruleX (code : List Int) (q : (List Int × Int) × St) : List Int × St :=
  if (nextF code q.2 30).1 = 0 then (q.1.1 ++ [q.1.2], (nextF code q.2 30).2)
  else if (nextF code q.2 30).1 = 1 then ([13 * (nextF code (nextF code q.2 30).2 2).1], (nextF code (nextF code q.2 30).2 2).2)
  else if (nextF code q.2 30).1 = 2 then ([1, 2, 3, 4], (nextF code q.2 30).2)
  else (q.1.1, (nextF code q.2 30).2)
def ruleD (code : List Int) (s : St) : List Int × St := ruleX code (rlGo code (nextF code s 4).1.toNat 0 [] (nextF code s 4).2)
theorem own_lits (w : World) (base : Nat) (xs : List Int) (hb : base ≤ w.heap.size) (hn : xs.length ≤ 100) :
    (w.alloc (.cells (ints xs).toArray 2)).ownsRow base 2 1 (.slice (some ⟨w.heap.size, 0, none⟩) xs.length xs.length) xs.length (ints xs) := by
  have := World.ownsRow_lit (base := base) (e := 2) (size := 1) w (ints xs).toArray xs.length hb (by unfold maxLen; omega) (by simp [ints_length])
  simpa using this
set_option maxHeartbeats 4000000 in
theorem ruleD_any (w0 : World) (A : Option Addr) (n cap : Nat) (code : List Int) (hcode : Code0 w0 A n code) (g : Nat) (s : St) (w : World) (h : Src w0 w A n cap code g s) :
    Calls Tryz.prog 28 #[.pointer (some ⟨g, 0, none⟩)] w (RetO w0 w A n cap code g (ruleD code s)) := by
  have hgl := h.lt
  have HNX := Lib.hid (fun s k hk w' h => next_any w0 A n cap code hcode g s k hk w' h)
  have hex : ruleX code (rlGo code (nextF code s 4).1.toNat 0 [] (nextF code s 4).2) = ruleD code s := rfl
  generalize ruleD code s = X at *
  have q0 := nextF_bd code s 4 (by omega)
  have H0 := Lib.hid (HNX.out s 4 (by omega))
  generalize nextF code s 4 = r0 at *
  obtain ⟨v0, s0⟩ := r0
  simp only at hex q0
  obtain ⟨K, rfl⟩ := int_up v0 q0.1
  rw [Int.toNat_natCast] at hex
  have hK : K ≤ 3 := by omega
  generalize hq : rlGo code K 0 [] s0 = q at *
  have HQ := Lib.hid hq
  have HEX := Lib.hid hex
  have HS := Lib.hid h
  obtain ⟨wb, hwb⟩ : ∃ wb, wb = w.alloc (.cells #[] 2) := ⟨_, rfl⟩
  have HSB := Lib.hid (show Src w0 wb A n cap code g s from by rw [hwb]; exact h.alloc _)
  have HOB := Lib.hid (show wb.ownsRow w.heap.size 2 1 (.slice (some ⟨w.heap.size, 0, none⟩) 0 0) 0 (ints []) from by rw [hwb]; exact own_empty _ _ _ (Nat.le_refl _))
  have HCB := Lib.hid (show Chg g (g + 1) w wb from by rw [hwb]; exact chg_alloc (Chg.refl _ _ _) _)
  have HWB := Lib.hid hwb
  clear hq hex h hwb q0
  go_enter Tryz.func28, Tryz.ntmps28
  go_wp2_with fail
  rw [← HWB.out]
  clear HWB
  go_wp2_with fail
  refine (H0.out _ HSB.out).mono ?_
  rintro e w1 ⟨rfl, hs1, hc1⟩
  have HO1 := Lib.hid (own_ne_chg HOB.out hc1 (by omega))
  have HS1 := Lib.hid hs1
  have HC1 := Lib.hid (HCB.out.trans hc1)
  clear hs1 hc1 HOB HCB HSB H0
  go_wp2_with fail
  go_loopw [3, 4, 5] (fun v a i wr => ∃ (k m c' : Nat) (A' : Option Addr) (out : List Int) (z : Int) (s' : St), k + m = K ∧ i = .int .i64 k ∧ a = .int .i64 z ∧ v = .slice A' m c' ∧ 0 ≤ z ∧ z ≤ 4 * (m : Int) ∧ Hid (wr.ownsRow w.heap.size 2 1 (.slice A' m c') m (ints out)) ∧ Hid (rlGo code k z out s' = q) ∧ Hid (Src w0 wr A n cap code g s') ∧ Hid (Chg g (g + 1) w wr)) (fun _ _ i _ => (intOf i).toNat)
  case atStart => exact ⟨K, 0, _, _, [], 0, s0, rfl, rfl, rfl, rfl, by omega, by omega, HO1, HQ, HS1, HC1⟩
  case round =>
    clear HO1 HQ HS1 HC1
    obtain ⟨k, m, c', A', out, z, s', hkm, rfl, rfl, rfl, hz0, hz1, O, HR, HSS, C⟩ := hrel
    have hsz := C.out.size
    by_cases hk : k = 0
    · subst hk
      obtain rfl : m = K := by omega
      have hqe := HR.out
      rw [rlGo] at hqe
      subst hqe
      have ex := HEX.out
      have hkd : decide ((0 : Int) > ((0 : Nat) : Int)) = false := by simp
      have hkd2 : decide (((0 : Nat) : Int) > 0) = false := by simp
      have H30 := Lib.hid (HNX.out s' 30 (by omega) wr HSS.out)
      unfold ruleX at ex
      simp only at ex
      generalize nextF code s' 30 = r30 at *
      obtain ⟨e30, s30⟩ := r30
      simp only at ex
      have HEX2 := Lib.hid ex
      clear ex HEX HR
      by_cases h0 : e30 = 0
      · have d0 : (e30 == 0) = true := by simp [h0]
        have ex := HEX2.out
        rw [if_pos h0] at ex
        have HEX3 := Lib.hid ex
        clear ex HEX2 h0
        go_wp2_with fail
        refine H30.out.mono ?_
        rintro e w4 ⟨rfl, hs4, hc4⟩
        have O4 := Lib.hid (own_ne_chg O.out hc4 (by omega))
        have HS4 := Lib.hid hs4
        have HC4 := Lib.hid (C.out.trans hc4)
        have hsz4 := hc4.size
        clear hs4 hc4 O C HSS H30
        have tok1 : True := trivial
        go_wp2_with (first | (at_builtin; have _t := tok1; refine app_i64 _ rfl _ _ rfl rfl (O4.out.alloc _) rfl (cell_new1 _ _ _) (by omega) (by simp; omega) ?_; intro A5 c5 w5 ho5 hgr5; clear tok1))
        have hrow : ∀ q, (Value.slice A' m c').ownBlock = some q → w.heap.size ≤ q := fun q e => (O4.out.lt q e).1
        have S5 := Lib.hid ((HS4.out.alloc (.cells #[.int .i64 z] 2)).grown hgr5 (fun q e => by have := hrow q e; omega))
        have T5 := Lib.hid (chg_grown (chg_alloc HC4.out (.cells #[.int .i64 z] 2)) hgr5 (fun q e => by have := hrow q e; omega))
        have O5 := Lib.hid ho5
        clear ho5 hgr5 hrow
        go_wp2_with fail
        go_ret
        rw [← HEX3.out]
        exact ⟨_, _, _, rfl, O5.out, S5.out, T5.out⟩
      · have d0 : (e30 == 0) = false := by simp [h0]
        by_cases h1 : e30 = 1
        · have d1 : (e30 == 1) = true := by simp [h1]
          have ex := HEX2.out
          rw [if_neg h0, if_pos h1] at ex
          have H2 := Lib.hid (HNX.out s30 2 (by omega))
          have hb2 := nextF_bd code s30 2 (by omega)
          generalize nextF code s30 2 = r2 at *
          obtain ⟨e2, s2⟩ := r2
          simp only at ex hb2
          have HEX3 := Lib.hid ex
          have hw1 : IntKind.i64.wrap (13 * e2) = 13 * e2 := IntWalk.i64_in _ (by omega)
          clear ex HEX2 h0 h1
          go_wp2_with fail
          refine H30.out.mono ?_
          rintro e w4 ⟨rfl, hs4, hc4⟩
          have HS4 := Lib.hid hs4
          have HC4 := Lib.hid (C.out.trans hc4)
          clear hs4 hc4 O C HSS H30
          go_wp2_with fail
          refine (H2.out _ HS4.out).mono ?_
          rintro e w5 ⟨rfl, hs5, hc5⟩
          have HS5 := Lib.hid hs5
          have HC5 := Lib.hid (HC4.out.trans hc5)
          clear hs5 hc5 HS4 HC4 H2
          go_wp2_with fail
          go_ret
          rw [← HEX3.out]
          have := HC5.out.size
          exact ⟨_, 1, 1, rfl, own_lits w5 w.heap.size [13 * e2] (by omega) (by simp), HS5.out.alloc _, chg_alloc HC5.out _⟩
        · have d1 : (e30 == 1) = false := by simp [h1]
          by_cases h2 : e30 = 2
          · have d2 : (e30 == 2) = true := by simp [h2]
            have ex := HEX2.out
            rw [if_neg h0, if_neg h1, if_pos h2] at ex
            have HEX3 := Lib.hid ex
            clear ex HEX2 h0 h1 h2
            go_wp2_with fail
            refine H30.out.mono ?_
            rintro e w4 ⟨rfl, hs4, hc4⟩
            have HS4 := Lib.hid hs4
            have HC4 := Lib.hid (C.out.trans hc4)
            clear hs4 hc4 O C HSS H30
            go_wp2_with fail
            go_ret
            rw [← HEX3.out]
            have := HC4.out.size
            exact ⟨_, 4, 4, rfl, own_lits w4 w.heap.size [1, 2, 3, 4] (by omega) (by simp), HS4.out.alloc _, chg_alloc HC4.out _⟩
          · have d2 : (e30 == 2) = false := by simp [h2]
            have ex := HEX2.out
            rw [if_neg h0, if_neg h1, if_neg h2] at ex
            have HEX3 := Lib.hid ex
            clear ex HEX2 h0 h1 h2
            go_wp2_with fail
            refine H30.out.mono ?_
            rintro e w4 ⟨rfl, hs4, hc4⟩
            have O4 := Lib.hid (own_ne_chg O.out hc4 (by omega))
            have HS4 := Lib.hid hs4
            have HC4 := Lib.hid (C.out.trans hc4)
            clear hs4 hc4 O C HSS H30
            go_wp2_with fail
            go_ret
            rw [← HEX3.out]
            exact ⟨_, _, _, rfl, O4.out, HS4.out, HC4.out⟩
    · obtain ⟨k', rfl⟩ : ∃ k', k = k' + 1 := ⟨k - 1, by omega⟩
      have hr := HR.out
      rw [rlGo] at hr
      have hkd : decide ((((k' + 1 : Nat) : Int)) > 0) = true := decide_eq_true (by omega)
      have hkd2 : decide ((0 : Int) < ((k' + 1 : Nat) : Int)) = true := decide_eq_true (by omega)
      have hkd3 : decide ((0 : Int) < (k' : Int) + 1) = true := decide_eq_true (by omega)
      have H4 := Lib.hid (HNX.out s' 4 (by omega) wr HSS.out)
      have hb4 := nextF_bd code s' 4 (by omega)
      generalize nextF code s' 4 = r4 at *
      obtain ⟨e4, s4⟩ := r4
      simp only at hr hb4
      have HR2 := Lib.hid hr
      have hw1 : IntKind.i64.wrap (z + 1) = z + 1 := IntWalk.i64_in _ (by omega)
      have hw2 : IntKind.i64.wrap (z + 1 + e4) = z + 1 + e4 := IntWalk.i64_in _ (by omega)
      clear hr HR hk HEX
      go_wp2_with fail
      refine H4.out.mono ?_
      rintro e w4 ⟨rfl, hs4, hc4⟩
      have O4 := Lib.hid (own_ne_chg O.out hc4 (by omega))
      have HS4 := Lib.hid hs4
      have HC4 := Lib.hid (C.out.trans hc4)
      have hsz4 := hc4.size
      clear hs4 hc4 O C HSS H4
      have tok1 : True := trivial
      go_wp2_with (first | (at_builtin; have _t := tok1; refine app_i64 _ rfl _ _ rfl rfl (O4.out.alloc _) rfl (cell_new1 _ _ _) (by omega) (by simp; omega) ?_; intro A5 c5 w5 ho5 hgr5; clear tok1))
      have hrow : ∀ q, (Value.slice A' m c').ownBlock = some q → w.heap.size ≤ q := fun q e => (O4.out.lt q e).1
      have S5 := Lib.hid ((HS4.out.alloc (.cells #[.int .i64 (z + 1 + e4)] 2)).grown hgr5 (fun q e => by have := hrow q e; omega))
      have T5 := Lib.hid (chg_grown (chg_alloc HC4.out (.cells #[.int .i64 (z + 1 + e4)] 2)) hgr5 (fun q e => by have := hrow q e; omega))
      have O5 := Lib.hid ho5
      clear ho5 hgr5 hrow
      go_wp2_with fail
      go_roundw
      case rel => exact ⟨k', m + 1, c5, A5, _, z + 1 + e4, s4, by omega, by go_num, rfl, rfl, by omega, by omega, O5, HR2, S5, T5⟩
      case measure => simp [intOf] <;> omega
end Go.Proofs.YtalgdeieejpelaaGreatDoor

/- Plain: the series of a register. -/
import Derived.Test.YtdldcjnidajmpaaJl
import Derived.Test.YtdldcjnidajmpaaSq
namespace Go.Proofs.Ytdldcjnidajmpaa
open Go.RowKit
set_option linter.unusedVariables false

/-- A race in which nobody came. -/
def dncRow (b : Nat) : List FinishT := (List.range b).map fun (i : Nat) => ((i : Int), (1 : Int), (0 : Int))
theorem dncRow_len (b : Nat) : (dncRow b).length = b := by simp [dncRow]
theorem dncRow_snoc (b : Nat) : dncRow (b + 1) = dncRow b ++ [((b : Int), (1 : Int), (0 : Int))] := by simp [dncRow, List.range_succ]
/-- Races are added until there are m. -/
def padR (b : Nat) (rows : List (List FinishT)) (m : Nat) : List (List FinishT) := rows ++ List.replicate (m - rows.length) (dncRow b)
def putR (b : Nat) (rows : List (List FinishT)) (x : EntryT) : List (List FinishT) :=
  (padR b rows ((E.race x).toNat + 1)).set (E.race x).toNat (((padR b rows ((E.race x).toNat + 1)).getD (E.race x).toNat []).set (E.boat x).toNat (E.boat x, E.code x, E.time x))
def serGo (b : Nat) : List (List FinishT) → List EntryT → List (List FinishT)
  | rows, [] => rows
  | rows, x :: r => serGo b (putR b rows x) r
def serL (b : Int) (l : List EntryT) : List (List FinishT) := serGo b.toNat [] l
/-- At most twelve races, each of b boats. -/
def GoodR (b : Nat) (rows : List (List FinishT)) : Prop := rows.length ≤ 12 ∧ ∀ r ∈ rows, r.length = b
theorem GoodR.nil (b : Nat) : GoodR b [] := ⟨by simp, fun r h => by cases h⟩
theorem padR_len (b : Nat) (rows : List (List FinishT)) (m : Nat) : (padR b rows m).length = rows.length + (m - rows.length) := by simp [padR]
theorem GoodR.pad {b : Nat} {rows : List (List FinishT)} (h : GoodR b rows) {m : Nat} (hm : m ≤ 12) : GoodR b (padR b rows m) := by
  refine ⟨by rw [padR_len]; have := h.1; omega, fun r hr => ?_⟩
  unfold padR at hr
  rcases List.mem_append.1 hr with hr | hr
  · exact h.2 r hr
  · rw [List.eq_of_mem_replicate hr, dncRow_len]
theorem padR_id {b : Nat} {rows : List (List FinishT)} {m : Nat} (h : m ≤ rows.length) : padR b rows m = rows := by
  unfold padR; rw [show m - rows.length = 0 by omega]; simp
theorem padR_step {b : Nat} {rows : List (List FinishT)} {m : Nat} (h : rows.length < m) : padR b (rows ++ [dncRow b]) m = padR b rows m := by
  unfold padR
  rw [List.append_assoc]
  congr 1
  rw [List.length_append, show m - rows.length = (m - (rows.length + [dncRow b].length)) + 1 by simp; omega, List.replicate_succ]
  rfl
theorem GoodR.snoc {b : Nat} {rows : List (List FinishT)} (h : GoodR b rows) (hm : rows.length < 12) : GoodR b (rows ++ [dncRow b]) := by
  refine ⟨by simp; omega, fun r hr => ?_⟩
  rcases List.mem_append.1 hr with hr | hr
  · exact h.2 r hr
  · rw [List.mem_singleton.1 hr, dncRow_len]
theorem GoodR.set {b : Nat} {rows : List (List FinishT)} (h : GoodR b rows) (k : Nat) {r : List FinishT} (hr : r.length = b) : GoodR b (rows.set k r) := by
  refine ⟨by simpa using h.1, fun z hz => ?_⟩
  rcases List.mem_or_eq_of_mem_set hz with hz | rfl
  · exact h.2 z hz
  · exact hr
theorem GoodR.put {b : Nat} {rows : List (List FinishT)} (h : GoodR b rows) {x : EntryT} (h0 : 0 ≤ E.race x) (h1 : E.race x ≤ 11) : GoodR b (putR b rows x) := by
  have hp := h.pad (m := (E.race x).toNat + 1) (by omega)
  have hlt : (E.race x).toNat < (padR b rows ((E.race x).toNat + 1)).length := by rw [padR_len]; omega
  refine hp.set _ ?_
  rw [List.length_set, List.getD_eq_getElem?_getD, List.getElem?_eq_getElem hlt]
  exact hp.2 _ (List.getElem_mem hlt)
theorem GoodR.go {b : Nat} {l : List EntryT} : ∀ {rows : List (List FinishT)}, GoodR b rows → (∀ x ∈ l, 0 ≤ E.race x ∧ E.race x ≤ 11) → GoodR b (serGo b rows l) := by
  induction l with
  | nil => intro rows h _; exact h
  | cons x r ih => intro rows h hx; exact ih (h.put (hx x (.head _)).1 (hx x (.head _)).2) (fun y hy => hx y (.tail _ hy))
theorem rows_sum {b : Nat} {rows : List (List FinishT)} (h : ∀ r ∈ rows, r.length = b) : raceSum rows = 3 * b * rows.length := by
  induction rows with
  | nil => rfl
  | cons y r ih =>
    unfold raceSum
    rw [ih (fun z hz => h z (.tail _ hz)), h y (.head _), List.length_cons, Nat.mul_add]
    omega
theorem serGo_take (b : Nat) (l : List EntryT) {k : Nat} {x : EntryT} (hx : l[k]? = some x) (rows : List (List FinishT)) : serGo b rows (l.take (k + 1)) = putR b (serGo b rows (l.take k)) x := by
  rw [take_snoc hx]
  generalize l.take k = p
  induction p generalizing rows with
  | nil => rfl
  | cons y r ih => exact ih (putR b rows y)
theorem GoodR.sum {b : Nat} {rows : List (List FinishT)} (h : GoodR b rows) (hb : b ≤ 16) : raceSum rows ≤ 1048576 := by
  rw [rows_sum h.2]
  have h1 := Nat.mul_le_mul (show 3 * b ≤ 48 by omega) h.1
  omega
/-! ### Where current entries lie -/
theorem currC_mem {xs : List EntryT} {b r : Nat} {x : EntryT} (h : x ∈ currC xs b r) : x ∈ xs ∧ 0 ≤ E.race x ∧ E.race x < r ∧ 0 ≤ E.boat x ∧ E.boat x < b := by
  unfold currC rowC at h
  simp only [List.mem_flatMap, List.mem_range] at h
  obtain ⟨race, hr, boat, hb, h⟩ := h
  have hm : x ∈ histF xs race boat := by
    unfold lastL at h
    exact List.mem_of_getLast? (Option.mem_toList.1 h)
  obtain ⟨h1, h2, h3⟩ := hist_mem.1 hm
  exact ⟨h1, by omega, by omega, by omega, by omega⟩
theorem currF_mem {xs : List EntryT} {b : Int} {x : EntryT} (h : x ∈ currF b xs) : x ∈ xs ∧ 0 ≤ E.race x ∧ E.race x ≤ 11 ∧ 0 ≤ E.boat x ∧ E.boat x < b := by
  obtain ⟨h1, h2, h3, h4, h5⟩ := currC_mem h
  exact ⟨h1, h2, by omega, h4, by omega⟩
def serF (b : Int) (xs : List EntryT) : List (List FinishT) := serL b (currF b xs)
theorem serF_good (b : Int) (xs : List EntryT) : GoodR b.toNat (serF b xs) := (GoodR.nil _).go (fun x hx => ⟨(currF_mem hx).2.1, (currF_mem hx).2.2.1⟩)
def serC (b s : Int) (xs : List EntryT) : Int := if regB b s xs = true then 0 else 1
end Go.Proofs.Ytdldcjnidajmpaa

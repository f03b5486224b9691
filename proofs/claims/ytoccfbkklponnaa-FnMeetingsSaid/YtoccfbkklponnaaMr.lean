/- Plain functions and facts on rounds (chapter 30): no Go in sight. -/
import Derived.Test.YtoccfbkklponnaaMf
namespace Go.Proofs.Ytoccfbkklponnaa
open Go.RowKit
set_option linter.unusedVariables false

def lensB (rows : List (List Int)) : Bool := rows.all fun r => r.length == (rows.getD 0 []).length
def roundsCodeF (rows : List (List Int)) (k : Int) : Int :=
  if withinB k 1 4 then (if rows.all (fun r => fleetsB r k) then (if withinB (rows.length : Int) 1 12 then (if lensB rows then 0 else 5) else 5) else 1) else 2

/-- What valid rounds are. -/
structure Rounds (rows : List (List Int)) (n : Nat) : Prop where
  m1 : 1 ≤ rows.length
  m12 : rows.length ≤ 12
  n1 : 1 ≤ n
  n16 : n ≤ 16
  all_ : ∀ r ∈ rows, r.length = n
theorem rounds_of {rows : List (List Int)} {k : Int} (h : roundsCodeF rows k = 0) : Rounds rows (rows.getD 0 []).length := by
  unfold roundsCodeF at h
  split at h
  · split at h
    · rename_i h1
      split at h
      · rename_i h2
        split at h
        · rename_i h3
          have h2' := withinB_iff.1 h2
          have hl : ∀ r ∈ rows, r.length = (rows.getD 0 []).length := by
            intro r hr
            unfold lensB at h3
            rw [List.all_eq_true] at h3
            simpa using h3 r hr
          have h0 : rows.getD 0 [] ∈ rows := by
            cases rows with
            | nil => simp at h2'
            | cons x r => simp
          rw [List.all_eq_true] at h1
          have hf := h1 _ h0
          unfold fleetsB at hf
          simp only [Bool.and_eq_true, withinB_iff] at hf
          exact ⟨by omega, by omega, by omega, by omega, hl⟩
        · cases h
      · cases h
    · cases h
  · cases h

/-- Have i and j met? -/
def sameAt (i j : Nat) (r : List Int) : Bool := r[i]? == r[j]?
def meetN (rows : List (List Int)) (i j : Nat) : Nat := if i = j then 0 else rows.countP (sameAt i j)
theorem meetN_le (rows : List (List Int)) (i j : Nat) : meetN rows i j ≤ rows.length := by
  unfold meetN
  split
  · omega
  · exact List.countP_le_length
/-- How often they have met in the first m rounds. -/
theorem countP_snoc {rows : List (List Int)} {m : Nat} {r : List Int} (p : List Int → Bool) (h : rows[m]? = some r) : (rows.take (m + 1)).countP p = (rows.take m).countP p + if p r then 1 else 0 := by
  rw [take_snoc_get h, List.countP_append]
  simp [List.countP_cons]

def mrow (f : Nat → Nat → Nat) (n i : Nat) : List Int := (List.range n).map fun j => (f i j : Int)
def mat (f : Nat → Nat → Nat) (n : Nat) : List (List Int) := (List.range n).map fun i => mrow f n i
theorem mrow_length (f : Nat → Nat → Nat) (n i : Nat) : (mrow f n i).length = n := by simp [mrow]
theorem mat_length (f : Nat → Nat → Nat) (n : Nat) : (mat f n).length = n := by simp [mat]
theorem mrow_get (f : Nat → Nat → Nat) {n i j : Nat} (h : j < n) : (mrow f n i)[j]? = some (f i j : Int) := by simp [mrow, h]
theorem mat_get (f : Nat → Nat → Nat) {n i : Nat} (h : i < n) : (mat f n)[i]? = some (mrow f n i) := by simp [mat, h]
def meetCountsF (rows : List (List Int)) (k : Int) : List (List Int) × Int :=
  if roundsCodeF rows k = 0 then (mat (meetN rows) (rows.getD 0 []).length, 0) else ([], roundsCodeF rows k)

/-- Lists that are filled from the left. -/
theorem fill_set {α : Type} (ys : List α) (j : Nat) (x y : α) (r : List α) (h : j ≤ ys.length) : (ys.take j ++ x :: r).set j y = ys.take j ++ y :: r := by
  rw [List.set_append, if_neg (by simp; omega)]
  have e : j - (ys.take j).length = 0 := by simp; omega
  rw [e]; rfl
theorem fill_get {α : Type} (ys : List α) (j : Nat) (x : α) (r : List α) (h : j ≤ ys.length) : (ys.take j ++ x :: r)[j]? = some x := by
  rw [List.getElem?_append_right (by simp; omega)]
  have e : j - (ys.take j).length = 0 := by simp; omega
  rw [e]; rfl
theorem fill_open {α : Type} (ys : List α) (j n : Nat) (d : α) (h : j < n) : ys.take j ++ List.replicate (n - j) d = ys.take j ++ d :: List.replicate (n - (j + 1)) d := by
  have e : n - j = (n - (j + 1)) + 1 := by omega
  rw [e, List.replicate_succ]
theorem fill_step {α : Type} (ys : List α) (j n : Nat) (d x : α) (hx : ys[j]? = some x) : ys.take j ++ x :: List.replicate (n - (j + 1)) d = ys.take (j + 1) ++ List.replicate (n - (j + 1)) d := by
  rw [take_snoc_get hx, List.append_assoc]; rfl

/-- The pair that has met least often. -/
def leastJ (f : Nat → Nat → Nat) (i : Nat) : List Nat → Nat × Nat → Nat × Nat
  | [], s => s
  | j :: r, s => leastJ f i r (if f i j < f s.1 s.2 then (i, j) else s)
def leastI (f : Nat → Nat → Nat) (n : Nat) : List Nat → Nat × Nat → Nat × Nat
  | [], s => s
  | i :: r, s => leastI f n r (leastJ f i (List.range' (i + 1) (n - (i + 1))) s)
def least (f : Nat → Nat → Nat) (n : Nat) : Nat × Nat := leastI f n (List.range' 0 n) (0, 1)
def leastMetF (rows : List (List Int)) (k : Int) : Int × Int × Int × Int :=
  if roundsCodeF rows k = 0 then
    (if (rows.getD 0 []).length < 2 then (0, 0, 0, 4)
     else (((least (meetN rows) (rows.getD 0 []).length).1 : Int), ((least (meetN rows) (rows.getD 0 []).length).2 : Int), (meetN rows (least (meetN rows) (rows.getD 0 []).length).1 (least (meetN rows) (rows.getD 0 []).length).2 : Int), 0))
  else (0, 0, 0, roundsCodeF rows k)
theorem range'_step (i n : Nat) (h : i < n) : List.range' i (n - i) = i :: List.range' (i + 1) (n - (i + 1)) := by
  have e : n - i = (n - (i + 1)) + 1 := by omega
  rw [e, List.range'_succ]
end Go.Proofs.Ytoccfbkklponnaa

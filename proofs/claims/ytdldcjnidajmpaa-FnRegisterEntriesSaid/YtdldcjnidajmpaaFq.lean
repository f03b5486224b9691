/- Plain: finishes, races, places, points of fleets. -/
import Derived.Test.YtdldcjnidajmpaaFs
import Derived.Test.YtdldcjnidajmpaaMf
namespace Go.Proofs.Ytdldcjnidajmpaa
open Go.RowKit
set_option linter.unusedVariables false

/-- Code and time of a finish fit. -/
def finB (f : FinishT) : Bool := if f.2.1 = 0 then withinB f.2.2 1 1000000000 else withinB f.2.1 1 9 && (f.2.2 == 0)
def isFinB (f : FinishT) : Bool := withinB f.1 0 15 && finB f
def finsGo : Nat → List FinishT → Bool
  | _, [] => true
  | i, f :: r => (f.1 == (i : Int)) && finB f && finsGo (i + 1) r
def raceB (b : Int) (fs : List FinishT) : Bool := withinB b 1 16 && ((fs.length : Int) == b) && finsGo 0 fs
theorem finsGo_at : ∀ {fs : List FinishT} {i : Nat}, finsGo i fs = true → ∀ (k : Nat) (f : FinishT), fs[k]? = some f → f.1 = ((i + k : Nat) : Int) ∧ finB f = true := by
  intro fs
  induction fs with
  | nil => intro i h k f hf; simp at hf
  | cons g r ih =>
    intro i h k f hf
    simp only [finsGo, Bool.and_eq_true, beq_iff_eq] at h
    cases k with
    | zero => simp at hf; subst hf; exact ⟨by simpa using h.1.1, h.1.2⟩
    | succ k =>
      have := ih h.2 k f (by simpa using hf)
      exact ⟨by rw [this.1]; congr 1; omega, this.2⟩
theorem finB_ok {f : FinishT} (h : finB f = true) : 0 ≤ f.2.1 ∧ f.2.1 ≤ 9 ∧ 0 ≤ f.2.2 ∧ f.2.2 ≤ 1000000000 := by
  unfold finB at h
  split at h
  · have := withinB_iff.1 h; omega
  · simp only [Bool.and_eq_true, beq_iff_eq] at h
    have := withinB_iff.1 h.1; omega
/-- What a valid race is. -/
structure RaceOk (b : Int) (fs : List FinishT) : Prop where
  b1 : 1 ≤ b
  b2 : b ≤ 16
  len : (fs.length : Int) = b
  fin : ∀ (k : Nat) (f : FinishT), fs[k]? = some f → f.1 = (k : Int) ∧ finB f = true
theorem raceB_ok {b : Int} {fs : List FinishT} (h : raceB b fs = true) : RaceOk b fs := by
  unfold raceB at h
  simp only [Bool.and_eq_true, beq_iff_eq] at h
  have h1 := withinB_iff.1 h.1.1
  exact ⟨h1.1, h1.2, h.1.2, fun k f hf => by have := finsGo_at h.2 k f hf; simpa using this⟩

/-! ### Places -/
def ltN (t : Int) (fs : List FinishT) : Nat := (fs.filter fun g => g.2.1 == 0 && decide (g.2.2 < t)).length
def eqN (t : Int) (fs : List FinishT) : Nat := (fs.filter fun g => g.2.1 == 0 && (g.2.2 == t)).length
/-- Place and how many share it; 0 and 0 for a boat that has not finished. -/
def placeF (fs : List FinishT) (f : FinishT) : Int × Int := if f.2.1 = 0 then (1 + ltN f.2.2 fs, eqN f.2.2 fs) else (0, 0)
/-- The finishes of a fleet. -/
def ofFleet (fl : Int) : List FinishT → List Int → List FinishT
  | f :: r, x :: l => if x = fl then f :: ofFleet fl r l else ofFleet fl r l
  | _, _ => []
def pointF (largest : Int) (fs : List FinishT) (f : FinishT) : Int :=
  if f.2.1 = 0 then 5 * (2 * (1 + (ltN f.2.2 fs : Int)) + eqN f.2.2 fs - 1) else if f.2.1 = 9 then 0 else 10 * (largest + 1)
def pointsGo (largest : Int) (all : List FinishT) (lst : List Int) : List FinishT → List Int → List Int
  | f :: r, x :: l => pointF largest (ofFleet x all lst) f :: pointsGo largest all lst r l
  | _, _ => []
def largestF (xs : List Int) : Int := xs.foldl max 0
def fleetPointsF (fs : List FinishT) (list : List Int) (k : Int) : List Int × Int :=
  if fleetsCodeF list k = 0 then (if raceB (list.length : Int) fs = true then (pointsGo (largestF (countF list (List.replicate k.toNat 0))) fs list fs list, 0) else ([], 5)) else ([], fleetsCodeF list k)
theorem ofFleet_len (fl : Int) : ∀ (fs : List FinishT) (l : List Int), (ofFleet fl fs l).length ≤ fs.length := by
  intro fs
  induction fs with
  | nil => intro l; simp [ofFleet]
  | cons f r ih =>
    intro l
    cases l with
    | nil => simp [ofFleet]
    | cons x l =>
      have := ih l
      unfold ofFleet
      split
      · simp; omega
      · simp; omega
theorem ltN_le (t : Int) (fs : List FinishT) : ltN t fs ≤ fs.length := List.length_filter_le _ _
theorem eqN_le (t : Int) (fs : List FinishT) : eqN t fs ≤ fs.length := List.length_filter_le _ _
end Go.Proofs.Ytdldcjnidajmpaa

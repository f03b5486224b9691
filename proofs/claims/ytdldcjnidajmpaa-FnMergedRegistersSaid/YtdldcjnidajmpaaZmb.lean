/- General and plain lemmas, and light walks (merged): Fq Rp Mq Web Ra Ec It Se Iu Rh Mr2 Sr Sq Ac Co. -/
import Derived.Test.YtdldcjnidajmpaaFs
import Derived.Test.YtdldcjnidajmpaaZma
import Derived.Test.YtdldcjnidajmpaaEs
import Derived.Test.YtdldcjnidajmpaaWd
import Derived.Sort.Grow
import Derived.RangeFuncNested
import Derived.RangeFuncBound
import Derived.RangeFuncCalls
import Derived.RangeFuncLeaves
import Derived.Shelf.Abstract
import Derived.OwnWalkIn
import Derived.TacticsInMore
import Derived.LoopNIn
import Derived.LoopIn
import Derived.Maps.AppendAt
import Derived.Shelf.SlSortCmp.WholeK
import Derived.Shelf.SlSortCmp.NoneTotal
import Derived.Ground.SlsfProg
import Derived.StillTailTactics
import Derived.Lib.AppendZeros
/- Plain: finishes, races, places, points of fleets. -/
namespace Go.Proofs.Ytdldcjnidajmpaa
open Go.RowKit
set_option linter.unusedVariables false

/-- Code and time of a finish fit. -/
def finB (f : FinishT) : Bool := if f.2.1 = 0 then withinB f.2.2 1 1000000000 else withinB f.2.1 1 9 && (f.2.2 == 0)
def isFinB (f : FinishT) : Bool := withinB f.1 0 15 && finB f
def finsGo : Nat → List FinishT → Bool
  | _, [] => true
  | i, f :: r => (f.1 == (i : Int)) && finB f && finsGo (i + 1) r
def raceB (b : Int) (fs : List FinishT) : Bool := withinB b 1 16 && ((fs.length : Int) == b) && finsGo 0 fs
theorem finsGo_at : ∀ {fs : List FinishT} {i : Nat}, finsGo i fs = true → ∀ (k : Nat) (f : FinishT), fs[k]? = some f → f.1 = ((i + k : Nat) : Int) ∧ finB f = true := by
  intro fs
  induction fs with
  | nil => intro i h k f hf; simp at hf
  | cons g r ih =>
    intro i h k f hf
    simp only [finsGo, Bool.and_eq_true, beq_iff_eq] at h
    cases k with
    | zero => simp at hf; subst hf; exact ⟨by simpa using h.1.1, h.1.2⟩
    | succ k =>
      have := ih h.2 k f (by simpa using hf)
      exact ⟨by rw [this.1]; congr 1; omega, this.2⟩
theorem finB_ok {f : FinishT} (h : finB f = true) : 0 ≤ f.2.1 ∧ f.2.1 ≤ 9 ∧ 0 ≤ f.2.2 ∧ f.2.2 ≤ 1000000000 := by
  unfold finB at h
  split at h
  · have := withinB_iff.1 h; omega
  · simp only [Bool.and_eq_true, beq_iff_eq] at h
    have := withinB_iff.1 h.1; omega
/-- What a valid race is. -/
structure RaceOk (b : Int) (fs : List FinishT) : Prop where
  b1 : 1 ≤ b
  b2 : b ≤ 16
  len : (fs.length : Int) = b
  fin : ∀ (k : Nat) (f : FinishT), fs[k]? = some f → f.1 = (k : Int) ∧ finB f = true
theorem raceB_ok {b : Int} {fs : List FinishT} (h : raceB b fs = true) : RaceOk b fs := by
  unfold raceB at h
  simp only [Bool.and_eq_true, beq_iff_eq] at h
  have h1 := withinB_iff.1 h.1.1
  exact ⟨h1.1, h1.2, h.1.2, fun k f hf => by have := finsGo_at h.2 k f hf; simpa using this⟩

/-! ### Places -/
def ltN (t : Int) (fs : List FinishT) : Nat := (fs.filter fun g => g.2.1 == 0 && decide (g.2.2 < t)).length
def eqN (t : Int) (fs : List FinishT) : Nat := (fs.filter fun g => g.2.1 == 0 && (g.2.2 == t)).length
/-- Place and how many share it; 0 and 0 for a boat that has not finished. -/
def placeF (fs : List FinishT) (f : FinishT) : Int × Int := if f.2.1 = 0 then (1 + ltN f.2.2 fs, eqN f.2.2 fs) else (0, 0)
/-- The finishes of a fleet. -/
def ofFleet (fl : Int) : List FinishT → List Int → List FinishT
  | f :: r, x :: l => if x = fl then f :: ofFleet fl r l else ofFleet fl r l
  | _, _ => []
def pointF (largest : Int) (fs : List FinishT) (f : FinishT) : Int :=
  if f.2.1 = 0 then 5 * (2 * (1 + (ltN f.2.2 fs : Int)) + eqN f.2.2 fs - 1) else if f.2.1 = 9 then 0 else 10 * (largest + 1)
def pointsGo (largest : Int) (all : List FinishT) (lst : List Int) : List FinishT → List Int → List Int
  | f :: r, x :: l => pointF largest (ofFleet x all lst) f :: pointsGo largest all lst r l
  | _, _ => []
def largestF (xs : List Int) : Int := xs.foldl max 0
def fleetPointsF (fs : List FinishT) (list : List Int) (k : Int) : List Int × Int :=
  if fleetsCodeF list k = 0 then (if raceB (list.length : Int) fs = true then (pointsGo (largestF (countF list (List.replicate k.toNat 0))) fs list fs list, 0) else ([], 5)) else ([], fleetsCodeF list k)
theorem ofFleet_len (fl : Int) : ∀ (fs : List FinishT) (l : List Int), (ofFleet fl fs l).length ≤ fs.length := by
  intro fs
  induction fs with
  | nil => intro l; simp [ofFleet]
  | cons f r ih =>
    intro l
    cases l with
    | nil => simp [ofFleet]
    | cons x l =>
      have := ih l
      unfold ofFleet
      split
      · simp; omega
      · simp; omega
theorem ltN_le (t : Int) (fs : List FinishT) : ltN t fs ≤ fs.length := List.length_filter_le _ _
theorem eqN_le (t : Int) (fs : List FinishT) : eqN t fs ≤ fs.length := List.length_filter_le _ _
end Go.Proofs.Ytdldcjnidajmpaa

/- Plain: entries, registers, histories. -/
namespace Go.Proofs.Ytdldcjnidajmpaa
open Go.RowKit
set_option linter.unusedVariables false

def isRedB (kind points : Int) : Bool := if kind = 3 then withinB points 0 10000 else withinB kind 1 2 && (points == 0)
namespace E
abbrev race (x : EntryT) : Int := x.1
abbrev boat (x : EntryT) : Int := x.2.1
abbrev rev (x : EntryT) : Int := x.2.2.1
abbrev code (x : EntryT) : Int := x.2.2.2.1
abbrev time (x : EntryT) : Int := x.2.2.2.2.1
abbrev kind (x : EntryT) : Int := x.2.2.2.2.2.1
abbrev points (x : EntryT) : Int := x.2.2.2.2.2.2
end E
/-- An entry is valid but for its revision. -/
def entB (b : Int) (x : EntryT) : Bool := withinB (E.race x) 0 11 && withinB (E.boat x) 0 (b - 1) && finB (E.boat x, E.code x, E.time x) && (if E.kind x = 0 then (E.points x == 0) else (E.code x == 9) && isRedB (E.kind x) (E.points x))
def revB (n : Int) : Bool := withinB n 1 1000
def sameB (x y : EntryT) : Bool := E.race x == E.race y && E.boat x == E.boat y && E.rev x == E.rev y
def hasB (xs : List EntryT) (x : EntryT) : Bool := xs.any fun y => sameB y x
/-- All valid, none with the key of an earlier one. -/
def entsGo (b : Int) : List EntryT → List EntryT → Bool
  | _, [] => true
  | seen, x :: r => entB b x && revB (E.rev x) && !hasB seen x && entsGo b (seen ++ [x]) r
def regB (b s : Int) (xs : List EntryT) : Bool := withinB b 1 16 && withinB s 0 1 && decide (xs.length ≤ 400) && entsGo b [] xs
/-- What a valid register is. -/
structure RegOk (b s : Int) (xs : List EntryT) : Prop where
  b1 : 1 ≤ b
  b2 : b ≤ 16
  s0 : 0 ≤ s
  s1 : s ≤ 1
  len : xs.length ≤ 400
  ent : ∀ x ∈ xs, entB b x = true ∧ 1 ≤ E.rev x ∧ E.rev x ≤ 1000
  key : xs.Pairwise fun x y => sameB x y = false
theorem sameB_iff {x y : EntryT} : sameB x y = true ↔ E.race x = E.race y ∧ E.boat x = E.boat y ∧ E.rev x = E.rev y := by
  unfold sameB
  simp [and_assoc]
theorem entsGo_iff (b : Int) : ∀ (xs seen : List EntryT), entsGo b seen xs = true ↔ (∀ x ∈ xs, entB b x = true ∧ revB (E.rev x) = true) ∧ (∀ x ∈ xs, ∀ y ∈ seen, sameB y x = false) ∧ xs.Pairwise fun x y => sameB x y = false := by
  intro xs
  induction xs with
  | nil => intro seen; simp [entsGo]
  | cons x r ih =>
    intro seen
    rw [entsGo, Bool.and_eq_true, ih, List.pairwise_cons]
    have hh : (!hasB seen x) = true ↔ ∀ y ∈ seen, sameB y x = false := by
      unfold hasB
      simp [List.any_eq_false]
    simp only [Bool.and_eq_true, hh, List.mem_append, List.mem_cons, List.not_mem_nil, or_false]
    constructor
    · rintro ⟨⟨⟨h1, h2⟩, h3⟩, h4, h5, h6⟩
      refine ⟨fun y hy => ?_, fun y hy z hz => ?_, fun y hy => h5 y hy x (.inr rfl), h6⟩
      · rcases hy with rfl | hy
        · exact ⟨h1, h2⟩
        · exact h4 y hy
      · rcases hy with rfl | hy
        · exact h3 z hz
        · exact h5 y hy z (.inl hz)
    · rintro ⟨h1, h2, h3, h4⟩
      refine ⟨⟨h1 x (.inl rfl), h2 x (.inl rfl)⟩, fun y hy => h1 y (.inr hy), fun y hy z hz => ?_, h4⟩
      rcases hz with hz | rfl
      · exact h2 y (.inr hy) z hz
      · exact h3 y hy
theorem regB_ok {b s : Int} {xs : List EntryT} (h : regB b s xs = true) : RegOk b s xs := by
  unfold regB at h
  simp only [Bool.and_eq_true, decide_eq_true_eq] at h
  obtain ⟨⟨⟨h1, h2⟩, h3⟩, h4⟩ := h
  have hb := withinB_iff.1 h1
  have hs := withinB_iff.1 h2
  obtain ⟨a, _, c⟩ := (entsGo_iff b xs []).1 h4
  exact ⟨hb.1, hb.2, hs.1, hs.2, h3, fun x hx => ⟨(a x hx).1, withinB_iff.1 (a x hx).2⟩, c⟩
theorem RegOk.regB {b s : Int} {xs : List EntryT} (h : RegOk b s xs) : regB b s xs = true := by
  unfold Go.Proofs.Ytdldcjnidajmpaa.regB
  rw [withinB_iff.2 ⟨h.b1, h.b2⟩, withinB_iff.2 ⟨h.s0, h.s1⟩, decide_eq_true h.len, (entsGo_iff b xs []).2 ⟨fun x hx => ⟨(h.ent x hx).1, withinB_iff.2 (h.ent x hx).2⟩, fun x hx y hy => (by cases hy), h.key⟩]
  rfl

/-! ### Histories -/
/-- x is put behind the last entry with a revision that is not greater. -/
def putE (x : EntryT) : List EntryT → List EntryT
  | [] => [x]
  | y :: r => if (y :: r).all (fun z => decide (E.rev x < E.rev z)) = true then x :: y :: r else y :: putE x r
def ofKey (race boat : Int) (xs : List EntryT) : List EntryT := xs.filter fun x => E.race x == race && E.boat x == boat
/-- The sorted list with the same entries. -/
def histF (xs : List EntryT) (race boat : Int) : List EntryT := (ofKey race boat xs).mergeSort fun x y => decide (E.rev x ≤ E.rev y)
/-- Two sorted lists with the same elements are one, if no two elements have one revision. -/
theorem sorted_uniq {xs ys : List EntryT} (hp : xs.Perm ys) (h1 : xs.Pairwise fun x y => E.rev x < E.rev y) (h2 : ys.Pairwise fun x y => E.rev x < E.rev y) : xs = ys :=
  hp.eq_of_pairwise (fun a b _ _ h h' => by omega) h1 h2
end Go.Proofs.Ytdldcjnidajmpaa

/- Plain functions: drawn entries and registers: no Go in sight. -/
namespace Go.Proofs.Ytdldcjnidajmpaa
open Go.RowKit
set_option linter.unusedVariables false

/-- One entry is drawn. -/
def entX (code : List Int) (b : Int) (s : St) : EntryT × St :=
  if (nextF code (nextF code (nextF code (nextF code (nextF code s 4).2 (max 1 b)).2 3).2 12).2 5).1 = 0 then (((nextF code s 4).1, (nextF code (nextF code s 4).2 (max 1 b)).1, 1 + (nextF code (nextF code (nextF code s 4).2 (max 1 b)).2 3).1, 1 + (nextF code (nextF code (nextF code (nextF code (nextF code (nextF code s 4).2 (max 1 b)).2 3).2 12).2 5).2 8).1, 0, 0, 0), (nextF code (nextF code (nextF code (nextF code (nextF code (nextF code s 4).2 (max 1 b)).2 3).2 12).2 5).2 8).2) else if (nextF code (nextF code (nextF code (nextF code (nextF code s 4).2 (max 1 b)).2 3).2 12).2 5).1 = 1 then (if (nextF code (nextF code (nextF code (nextF code (nextF code (nextF code s 4).2 (max 1 b)).2 3).2 12).2 5).2 4).1 = 3 then (((nextF code s 4).1, (nextF code (nextF code s 4).2 (max 1 b)).1, 1 + (nextF code (nextF code (nextF code s 4).2 (max 1 b)).2 3).1, 9, 0, (nextF code (nextF code (nextF code (nextF code (nextF code (nextF code s 4).2 (max 1 b)).2 3).2 12).2 5).2 4).1, 5 * (nextF code (nextF code (nextF code (nextF code (nextF code (nextF code (nextF code s 4).2 (max 1 b)).2 3).2 12).2 5).2 4).2 20).1), (nextF code (nextF code (nextF code (nextF code (nextF code (nextF code (nextF code s 4).2 (max 1 b)).2 3).2 12).2 5).2 4).2 20).2) else (((nextF code s 4).1, (nextF code (nextF code s 4).2 (max 1 b)).1, 1 + (nextF code (nextF code (nextF code s 4).2 (max 1 b)).2 3).1, 9, 0, (nextF code (nextF code (nextF code (nextF code (nextF code (nextF code s 4).2 (max 1 b)).2 3).2 12).2 5).2 4).1, 0), (nextF code (nextF code (nextF code (nextF code (nextF code (nextF code s 4).2 (max 1 b)).2 3).2 12).2 5).2 4).2)) else (((nextF code s 4).1, (nextF code (nextF code s 4).2 (max 1 b)).1, 1 + (nextF code (nextF code (nextF code s 4).2 (max 1 b)).2 3).1, 0, 1 + (nextF code (nextF code (nextF code (nextF code s 4).2 (max 1 b)).2 3).2 12).1, 0, 0), (nextF code (nextF code (nextF code (nextF code (nextF code s 4).2 (max 1 b)).2 3).2 12).2 5).2)
theorem entX_bd (code : List Int) (b : Int) (s : St) : StOk code s → StOk code (entX code b s).2 := by
  intro h
  unfold entX
  split
  · exact nextF_ok _ _ _ (nextF_ok _ _ _ (nextF_ok _ _ _ (nextF_ok _ _ _ (nextF_ok _ _ _ (nextF_ok _ _ _ h)))))
  · split
    · split
      · exact nextF_ok _ _ _ (nextF_ok _ _ _ (nextF_ok _ _ _ (nextF_ok _ _ _ (nextF_ok _ _ _ (nextF_ok _ _ _ (nextF_ok _ _ _ h))))))
      · exact nextF_ok _ _ _ (nextF_ok _ _ _ (nextF_ok _ _ _ (nextF_ok _ _ _ (nextF_ok _ _ _ (nextF_ok _ _ _ h)))))
    · exact nextF_ok _ _ _ (nextF_ok _ _ _ (nextF_ok _ _ _ (nextF_ok _ _ _ (nextF_ok _ _ _ h))))
/-- Entries are drawn; one whose key is there already is rarely kept. -/
def entsD (code : List Int) (b : Int) : Nat → List EntryT → St → List EntryT × St
  | 0, out, s => (out, s)
  | m + 1, out, s =>
    if hasB out (entX code b s).1 = true then
      entsD code b m (if (nextF code (entX code b s).2 60).1 = 0 then out ++ [(entX code b s).1] else out) (nextF code (entX code b s).2 60).2
    else entsD code b m (out ++ [(entX code b s).1]) (entX code b s).2
theorem entsD_len (code : List Int) (b : Int) : ∀ (m : Nat) (out : List EntryT) (s : St), (entsD code b m out s).1.length ≤ out.length + m := by
  intro m
  induction m with
  | zero => intro out s; exact Nat.le_refl _
  | succ m ih =>
    intro out s
    unfold entsD
    split
    · split
      · have := ih (out ++ [(entX code b s).1]) (nextF code (entX code b s).2 60).2; simp at this ⊢; omega
      · have := ih out (nextF code (entX code b s).2 60).2; omega
    · have := ih (out ++ [(entX code b s).1]) (entX code b s).2; simp at this ⊢; omega
/-- A register: boats, scheme, entries. -/
abbrev RegT := Int × Int × List EntryT
def spoilE (t v b : Int) (x : EntryT) : EntryT :=
  if t = 0 then (E.race x, b, E.rev x, E.code x, E.time x, E.kind x, E.points x)
  else if t = 1 then (E.race x, E.boat x, E.rev x, E.code x, -1, E.kind x, E.points x)
  else if t = 2 then (E.race x, E.boat x, E.rev x, E.code x, E.time x, 4, E.points x)
  else (E.race x, E.boat x, 1001 * v, E.code x, E.time x, E.kind x, E.points x)
/-- One entry of a register is rarely spoiled. -/
def spoilR (code : List Int) (b : Int) (r : List EntryT × St) : List EntryT × St :=
  if r.1.length = 0 then r
  else if (nextF code r.2 16).1 = 0 then (r.1.set (nextF code (nextF code r.2 16).2 (r.1.length : Int)).1.toNat (spoilE (nextF code (nextF code (nextF code r.2 16).2 (r.1.length : Int)).2 4).1 (nextF code (nextF code (nextF code (nextF code r.2 16).2 (r.1.length : Int)).2 4).2 2).1 b (r.1.getD (nextF code (nextF code r.2 16).2 (r.1.length : Int)).1.toNat (0, 0, 0, 0, 0, 0, 0))), if (nextF code (nextF code (nextF code r.2 16).2 (r.1.length : Int)).2 4).1 = 3 then (nextF code (nextF code (nextF code (nextF code r.2 16).2 (r.1.length : Int)).2 4).2 2).2 else (nextF code (nextF code (nextF code r.2 16).2 (r.1.length : Int)).2 4).2) else (r.1, (nextF code r.2 16).2)
def regD (code : List Int) (s : St) : RegT × St :=
  (((boatsD code s).1, (nextF code (boatsD code s).2 2).1, (spoilR code (boatsD code s).1 (entsD code (boatsD code s).1 (nextF code (nextF code (boatsD code s).2 2).2 20).1.toNat [] (nextF code (nextF code (boatsD code s).2 2).2 20).2)).1), (spoilR code (boatsD code s).1 (entsD code (boatsD code s).1 (nextF code (nextF code (boatsD code s).2 2).2 20).1.toNat [] (nextF code (nextF code (boatsD code s).2 2).2 20).2)).2)
theorem entX_eq (code : List Int) (b : Int) (s : St) : entX code b s = if (nextF code (nextF code (nextF code (nextF code (nextF code s 4).2 (max 1 b)).2 3).2 12).2 5).1 = 0 then (((nextF code s 4).1, (nextF code (nextF code s 4).2 (max 1 b)).1, 1 + (nextF code (nextF code (nextF code s 4).2 (max 1 b)).2 3).1, 1 + (nextF code (nextF code (nextF code (nextF code (nextF code (nextF code s 4).2 (max 1 b)).2 3).2 12).2 5).2 8).1, 0, 0, 0), (nextF code (nextF code (nextF code (nextF code (nextF code (nextF code s 4).2 (max 1 b)).2 3).2 12).2 5).2 8).2) else if (nextF code (nextF code (nextF code (nextF code (nextF code s 4).2 (max 1 b)).2 3).2 12).2 5).1 = 1 then (if (nextF code (nextF code (nextF code (nextF code (nextF code (nextF code s 4).2 (max 1 b)).2 3).2 12).2 5).2 4).1 = 3 then (((nextF code s 4).1, (nextF code (nextF code s 4).2 (max 1 b)).1, 1 + (nextF code (nextF code (nextF code s 4).2 (max 1 b)).2 3).1, 9, 0, (nextF code (nextF code (nextF code (nextF code (nextF code (nextF code s 4).2 (max 1 b)).2 3).2 12).2 5).2 4).1, 5 * (nextF code (nextF code (nextF code (nextF code (nextF code (nextF code (nextF code s 4).2 (max 1 b)).2 3).2 12).2 5).2 4).2 20).1), (nextF code (nextF code (nextF code (nextF code (nextF code (nextF code (nextF code s 4).2 (max 1 b)).2 3).2 12).2 5).2 4).2 20).2) else (((nextF code s 4).1, (nextF code (nextF code s 4).2 (max 1 b)).1, 1 + (nextF code (nextF code (nextF code s 4).2 (max 1 b)).2 3).1, 9, 0, (nextF code (nextF code (nextF code (nextF code (nextF code (nextF code s 4).2 (max 1 b)).2 3).2 12).2 5).2 4).1, 0), (nextF code (nextF code (nextF code (nextF code (nextF code (nextF code s 4).2 (max 1 b)).2 3).2 12).2 5).2 4).2)) else (((nextF code s 4).1, (nextF code (nextF code s 4).2 (max 1 b)).1, 1 + (nextF code (nextF code (nextF code s 4).2 (max 1 b)).2 3).1, 0, 1 + (nextF code (nextF code (nextF code (nextF code s 4).2 (max 1 b)).2 3).2 12).1, 0, 0), (nextF code (nextF code (nextF code (nextF code (nextF code s 4).2 (max 1 b)).2 3).2 12).2 5).2) := rfl
theorem spoilR_eq (code : List Int) (b : Int) (r : List EntryT × St) (h : ¬ r.1.length = 0) : spoilR code b r = if (nextF code r.2 16).1 = 0 then (r.1.set (nextF code (nextF code r.2 16).2 (r.1.length : Int)).1.toNat (spoilE (nextF code (nextF code (nextF code r.2 16).2 (r.1.length : Int)).2 4).1 (nextF code (nextF code (nextF code (nextF code r.2 16).2 (r.1.length : Int)).2 4).2 2).1 b (r.1.getD (nextF code (nextF code r.2 16).2 (r.1.length : Int)).1.toNat (0, 0, 0, 0, 0, 0, 0))), if (nextF code (nextF code (nextF code r.2 16).2 (r.1.length : Int)).2 4).1 = 3 then (nextF code (nextF code (nextF code (nextF code r.2 16).2 (r.1.length : Int)).2 4).2 2).2 else (nextF code (nextF code (nextF code r.2 16).2 (r.1.length : Int)).2 4).2) else (r.1, (nextF code r.2 16).2) := by
  unfold spoilR; rw [if_neg h]
theorem regD_eq (code : List Int) (s : St) : regD code s = (((boatsD code s).1, (nextF code (boatsD code s).2 2).1, (spoilR code (boatsD code s).1 (entsD code (boatsD code s).1 (nextF code (nextF code (boatsD code s).2 2).2 20).1.toNat [] (nextF code (nextF code (boatsD code s).2 2).2 20).2)).1), (spoilR code (boatsD code s).1 (entsD code (boatsD code s).1 (nextF code (nextF code (boatsD code s).2 2).2 20).1.toNat [] (nextF code (nextF code (boatsD code s).2 2).2 20).2)).2) := rfl
theorem spoilR_len (code : List Int) (b : Int) (r : List EntryT × St) : (spoilR code b r).1.length = r.1.length := by
  unfold spoilR
  split
  · rfl
  · split
    · split <;> simp
    · rfl
theorem regD_len (code : List Int) (s : St) : (regD code s).1.2.2.length ≤ 20 := by
  rw [regD_eq]
  simp only
  rw [spoilR_len]
  have h := nextF_bd code (nextF code (boatsD code s).2 2).2 20 (by omega)
  have h2 := entsD_len code (boatsD code s).1 (nextF code (nextF code (boatsD code s).2 2).2 20).1.toNat [] (nextF code (nextF code (boatsD code s).2 2).2 20).2
  simp only [List.length_nil] at h2
  omega
end Go.Proofs.Ytdldcjnidajmpaa

/- Walks: the source of numbers beside other memory; the drawn number of boats. -/
namespace Go.Proofs.Ytdldcjnidajmpaa
open Go.RowKit
set_option linter.unusedVariables false
set_option maxRecDepth 100000

theorem chg_grown {lo hi : Nat} {a w w' : World} {row : Option Nat} (h : Chg lo hi a w) (hg : w.grownBy w' row) (hr : ∀ k, row = some k → a.heap.size ≤ k) : Chg lo hi a w' :=
  ⟨hg.os.trans h.os, hg.tape.trans h.tape, hg.output.trans h.output, Nat.le_trans h.size hg.size, fun k hk hn => (hg.block k (Nat.lt_of_lt_of_le hk h.size) (fun e => by have := hr k e.symm; omega)).trans (h.block k hk hn)⟩
theorem chg_alloc {lo hi : Nat} {a w : World} (h : Chg lo hi a w) (o : Obj) : Chg lo hi a (w.alloc o) := chg_grown h (World.grownBy_alloc w o none) (fun k e => by cases e)
theorem chg_below {lo hi : Nat} {a w w' : World} (h : Chg lo hi a w) (k : Below w.heap.size w w') : Chg lo hi a w' := h.trans (Chg.of_below k)
theorem Src.grown {w0 w w' : World} {A : Option Addr} {n cap : Nat} {code : List Int} {g : Nat} {s : St} {row : Option Nat} (h : Src w0 w A n cap code g s) (hg : w.grownBy w' row) (hr : ∀ k, row = some k → g < k) : Src w0 w' A n cap code g s :=
  ⟨(hg.block g h.lt (fun e => by have := hr g e.symm; omega)).trans h.blk, h.old, h.bel.grown hg h.bel.size (fun k e => by have := hr k e; have := h.old; omega), h.ok⟩
theorem Src.alloc {w0 w : World} {A : Option Addr} {n cap : Nat} {code : List Int} {g : Nat} {s : St} (h : Src w0 w A n cap code g s) (o : Obj) : Src w0 (w.alloc o) A n cap code g s := h.grown (World.grownBy_alloc w o none) (fun k e => by cases e)
theorem own_ne_chg {g : Nat} {w w' : World} {base e s n : Nat} {v : Value} {xs : List Value} (h : w.ownsRow base e s v n xs) (k : Chg g (g + 1) w w') (hb : g < base) : w'.ownsRow base e s v n xs :=
  own_chg h k (fun b hv => by have := (h.lt b hv).1; omega)

theorem boatsD_any (w0 : World) (A : Option Addr) (n cap : Nat) (code : List Int) (hcode : Code0 w0 A n code) (g : Nat) (s : St) (w : World) (h : Src w0 w A n cap code g s) :
    Calls Try.prog 78 #[.pointer (some ⟨g, 0, none⟩)] w (RetN w0 w A n cap code g (boatsD code s)) := by
  have e1 : boatsD code s = if (nextF code s 24).1 = 0 then (16 * (nextF code (nextF code s 24).2 2).1, (nextF code (nextF code s 24).2 2).2) else (1 + (nextF code (nextF code s 24).2 6).1, (nextF code (nextF code s 24).2 6).2) := rfl
  rw [e1]; clear e1
  have hn := next_any w0 A n cap code hcode g s 24 (by omega) w h
  generalize nextF code s 24 = r at *
  obtain ⟨v, s1⟩ := r
  have HN := Lib.hid hn; clear hn
  simp only
  by_cases hv : v = 0
  · subst hv
    rw [if_pos rfl]
    have hb := nextF_bd code s1 2 (by omega)
    obtain ⟨hb0, hb1⟩ := hb
    go_enter Try.func78, Try.ntmps78
    go_wp2_with fail
    refine HN.out.mono ?_
    rintro e w1 ⟨rfl, hs1, hc1⟩
    go_wp2_with fail
    refine (next_any w0 A n cap code hcode g s1 2 (by omega) _ hs1).mono ?_
    rintro e w2 ⟨rfl, hs2, hc2⟩
    go_wp2_with fail
    go_ret
    exact ⟨rfl, hs2, hc1.trans hc2⟩
  · rw [if_neg hv]
    have hne : (v == 0) = false := by simpa using hv
    have hb := nextF_bd code s1 6 (by omega)
    obtain ⟨hb0, hb1⟩ := hb
    clear hv
    go_enter Try.func78, Try.ntmps78
    go_wp2_with fail
    refine HN.out.mono ?_
    rintro e w1 ⟨rfl, hs1, hc1⟩
    go_wp2_with fail
    refine (next_any w0 A n cap code hcode g s1 6 (by omega) _ hs1).mono ?_
    rintro e w2 ⟨rfl, hs2, hc2⟩
    go_wp2_with fail
    go_ret
    exact ⟨rfl, hs2, hc1.trans hc2⟩
end Go.Proofs.Ytdldcjnidajmpaa

/- Walks: the laws' helpers on races: size, copy, compare, mark. -/
namespace Go.Proofs.Ytdldcjnidajmpaa
open Go.RowKit
set_option linter.unusedVariables false
set_option maxRecDepth 100000

theorem Box.l1 {w : World} {b : Nat} {x : Value} {t : TypeId} (h : Box w b #[x] t) : w.cell? ⟨b, 0, none⟩ = some x ∧ w.frozen? ⟨b, 0, none⟩ = false ∧ b < w.heap.size := ⟨h.cell rfl, h.fz, h.lt⟩
/-- The copy of a race. -/
def RetRace (w : World) (fs : List FinishT) (e : Ending) (w' : World) : Prop :=
  ∃ A n c, e = .returned (.agg #[.slice A n c]) ∧ w'.ownsRow w.heap.size 88 3 (.slice A n c) n (fins fs) ∧ n ≤ 1048576 ∧ Below w.heap.size w w'
theorem szRace_any (A : Option Addr) (n c : Nat) (fs : List FinishT) (left : Int) (h0 : 0 ≤ left) (h1 : left ≤ 1048576) (w : World) (hr : Rd w 3 A n (fins fs)) :
    Calls Try.prog 15 #[.agg #[.slice A n c], .int .i64 left] w fun e w' => e = .returned (.int .i64 (if left < (n : Int) then -1 else left - n)) ∧ Below w.heap.size w w' := by
  have hn := hr.le
  have HB := Lib.hid (show ∀ o, Below w.heap.size w (w.alloc o) from fun o => (Below.refl _ _).alloc (Nat.le_refl _) o)
  have HS := Lib.hid (fun w => szFinishS_any A n c left w h0 h1 hn)
  clear hr
  by_cases h : left < n
  · rw [if_pos h] at HS ⊢
    go_enter Try.func15, Try.ntmps15
    go_wp2_with fail
    refine (HS.out _).mono ?_
    rintro e w2 ⟨rfl, rfl⟩
    go_wp2_with fail
    go_ret
    exact ⟨rfl, HB.out _⟩
  · rw [if_neg h] at HS ⊢
    go_enter Try.func15, Try.ntmps15
    go_wp2_with fail
    refine (HS.out _).mono ?_
    rintro e w2 ⟨rfl, rfl⟩
    go_wp2_with fail
    go_ret
    exact ⟨rfl, HB.out _⟩
theorem toRace_any (A : Option Addr) (n c : Nat) (fs : List FinishT) (w : World) (h : Rd w 3 A n (fins fs)) (hn : n ≤ 1048576) :
    Calls Try.prog 17 #[.agg #[.slice A n c]] w (RetRace w fs) := by
  have HC := Lib.hid (fun w' (hb : Below w.heap.size w w') => toFinishS_any A n c fs w' (h.below hb) hn)
  clear h
  obtain ⟨w1, hw1, X0, X1, X2, hb1, hs1⟩ := three_boxes w #[.slice A n c] #[.slice none 0 0] #[.slice none 0 0] 24 31 31
  go_enter Try.func17, Try.ntmps17
  go_wp2_with fail
  rw [← hw1]
  clear hw1
  refine (HC.out _ hb1).mono ?_
  rintro e w2 ⟨A2, n2, c2, rfl, ho, hn2, hb2⟩
  have F1 := (X1.below hb2).l1
  have F2 := (X2.below hb2).l1
  have HO := Lib.hid ho
  have HB2 := Lib.hid (hb1.trans (hb2.mono hb1.size))
  have hsz := hb2.size
  clear ho hb2 HC X0 X1 X2
  go_wp2_with fail
  refine bodyPost_ret (v := .agg #[.slice A2 n2 c2]) (by simp [results, Try.results17, go_sem, F1]) rfl ?_
  have hch := put_chg (g := w.heap.size + 1) [.slice A2 n2 c2] 0 (put_chg (g := w.heap.size + 1 + 1) [.slice A2 n2 c2] 0 (Chg.refl (w.heap.size + 1) (w.heap.size + 1 + 1 + 1) w2) (by omega) (by omega)) (by omega) (by omega)
  exact ⟨A2, n2, c2, rfl, own_base (own_chg HO.out hch (fun b hb => .inr (by have := (HO.out.lt b hb).1; omega))) (by omega), hn2, below_chg HB2.out hch (by omega) (by omega)⟩
theorem eqRace_any (A : Option Addr) (n c : Nat) (A' : Option Addr) (n' c' : Nat) (xs : List FinishT) (w : World) (h : Rd w 3 A n (fins xs)) (h' : Rd w 3 A' n' (fins xs)) :
    Calls Try.prog 21 #[.agg #[.slice A n c], .agg #[.slice A' n' c']] w fun e w' => e = .returned (.bool true) ∧ Below w.heap.size w w' := by
  have HC := Lib.hid (fun w' (hb : Below w.heap.size w w') => eqFinishS_same A A' n c n' c' xs w' (h.below hb) (h'.below hb))
  clear h h'
  obtain ⟨w1, hw1, X0, X1, hb1, hs1⟩ := two_boxes w #[.slice A n c] #[.slice A' n' c'] 31 31
  go_enter Try.func21, Try.ntmps21
  go_wp2_with fail
  rw [← hw1]
  clear hw1
  refine (HC.out _ hb1).mono ?_
  rintro e w2 ⟨rfl, hb2⟩
  have HB2 := Lib.hid (hb1.trans (hb2.mono hb1.size))
  clear hb2 X0 X1
  go_wp2_with fail
  go_ret
  exact ⟨rfl, HB2.out⟩
theorem markRace_any (base lo hi e : Nat) (A : Option Addr) (n c : Nat) (xs : List FinishT) (k : Int) (w : World) (h : w.ownsRow base e 3 (.slice A n c) n (fins xs)) (hv : ∀ b, (Value.slice A n c).ownBlock = some b → lo ≤ b ∧ b < hi)
    (hk0 : 0 ≤ k) (hk1 : k ≤ 1152921504606846976) (hn : n ≤ 1048576) :
    Calls Try.prog 22 #[.agg #[.slice A n c], .int .i64 k] w fun e' w' => e' = .returned (.int .i64 (k + 3 * n)) ∧ Chg lo hi w w' := by
  obtain ⟨w1, hw1, X0, hb1, hs1⟩ := one_box w #[.slice A n c] 31
  have HC := Lib.hid (markFinishS_any base lo hi e A n c xs k w1 (own_below h hb1) hv hk0 hk1 hn)
  clear h hv
  go_enter Try.func22, Try.ntmps22
  go_wp2_with fail
  rw [← hw1]
  clear hw1
  refine HC.out.mono ?_
  rintro e w2 ⟨rfl, hc2⟩
  have HC2 := Lib.hid ((Chg.of_below (lo := lo) (hi := hi) hb1).trans hc2)
  clear hc2
  go_wp2_with fail
  go_ret
  exact ⟨rfl, HC2.out⟩
end Go.Proofs.Ytdldcjnidajmpaa

/- Walks: entries compared, the program: their keys, their order. -/
namespace Go.Proofs.Ytdldcjnidajmpaa
open Go.RowKit Go.Sort
set_option linter.unusedVariables false
set_option maxRecDepth 100000

def sgn (n : Int) : Int := if n < 0 then -1 else if n = 0 then 0 else 1
theorem sign_any (n : Int) (w : World) : Calls Try.prog 132 #[.int .i64 n] w fun e w' => e = .returned (.int .i64 (sgn n)) ∧ w = w' := by
  unfold sgn
  rcases (by omega : n < 0 ∨ n = 0 ∨ 0 < n) with h | h | h
  · rw [if_pos h]
    go_enter Try.func132, Try.ntmps132
    go_wp2_with fail
    go_ret
    refine ⟨ret_int ?_, rfl⟩
    first | omega | rfl | (simp <;> omega)
  · subst h
    go_enter Try.func132, Try.ntmps132
    go_wp2_with fail
    go_ret
    exact ⟨rfl, rfl⟩
  · rw [if_neg (by omega), if_neg (by omega)]
    go_enter Try.func132, Try.ntmps132
    go_wp2_with fail
    go_ret
    refine ⟨ret_int ?_, rfl⟩
    first | omega | rfl | (simp <;> omega)

/-- Race, boat and revision of a valid entry. -/
def okE (x : EntryT) : Prop := 0 ≤ E.race x ∧ E.race x ≤ 11 ∧ 0 ≤ E.boat x ∧ E.boat x ≤ 15 ∧ 1 ≤ E.rev x ∧ E.rev x ≤ 1000
def keyE (x : EntryT) : Int := 1000000 * E.race x + 10000 * E.boat x + E.rev x
theorem key_same {x y : EntryT} (hx : okE x) (hy : okE y) : keyE x = keyE y ↔ sameB x y = true := by
  obtain ⟨a1, a2, a3, a4, a5, a6⟩ := hx
  obtain ⟨b1, b2, b3, b4, b5, b6⟩ := hy
  unfold keyE
  rw [sameB_iff]
  constructor
  · intro h; omega
  · rintro ⟨h1, h2, h3⟩; omega
theorem entB_okE {b : Int} {x : EntryT} (hb : b ≤ 16) (h : entB b x = true) (h1 : 1 ≤ E.rev x) (h2 : E.rev x ≤ 1000) : okE x := by
  unfold entB at h
  simp only [Bool.and_eq_true] at h
  have r := withinB_iff.1 h.1.1.1
  have q := withinB_iff.1 h.1.1.2
  exact ⟨r.1, r.2, q.1, by omega, h1, h2⟩
set_option maxHeartbeats 1000000 in
theorem compareEntries_grow (x0 x1 x2 x3 x4 x5 x6 y0 y1 y2 y3 y4 y5 y6 : Int) (hx : okE (x0, x1, x2, x3, x4, x5, x6)) (hy : okE (y0, y1, y2, y3, y4, y5, y6)) (W : World) :
    Calls Try.prog 94 #[.agg #[.int .i64 x0, .int .i64 x1, .int .i64 x2, .int .i64 x3, .int .i64 x4, .int .i64 x5, .int .i64 x6], .agg #[.int .i64 y0, .int .i64 y1, .int .i64 y2, .int .i64 y3, .int .i64 y4, .int .i64 y5, .int .i64 y6]] W
      fun e w' => e = .returned (.int .i64 (sgn (keyE (x0, x1, x2, x3, x4, x5, x6) - keyE (y0, y1, y2, y3, y4, y5, y6)))) ∧ ∃ q os', w' = grow (W.drewN q) os' := by
  obtain ⟨a1, a2, a3, a4, a5, a6⟩ := hx
  obtain ⟨b1, b2, b3, b4, b5, b6⟩ := hy
  simp only [E.race, E.boat, E.rev] at a1 a2 a3 a4 a5 a6 b1 b2 b3 b4 b5 b6
  have HK := Lib.hid (show keyE (x0, x1, x2, x3, x4, x5, x6) - keyE (y0, y1, y2, y3, y4, y5, y6) = 1000000 * (x0 - y0) + 10000 * (x1 - y1) + x2 - y2 from by unfold keyE; simp only [E.race, E.boat, E.rev]; omega)
  rw [HK.out]
  generalize hr : sgn (1000000 * (x0 - y0) + 10000 * (x1 - y1) + x2 - y2) = r
  have HS := Lib.hid (fun w => sign_any (1000000 * (x0 - y0) + 10000 * (x1 - y1) + x2 - y2) w)
  rw [hr] at HS
  clear hr HK
  go_enter Try.func94, Try.ntmps94
  go_wp2_with (go_at_call 132; refine (HS.out _).mono ?_; rintro e w' ⟨rfl, rfl⟩)
  go_ret
  exact ⟨rfl, 0, _, by rw [alloc_eq_grow, alloc_eq_grow, grow_grow]; rfl⟩
theorem sameKey_any (x0 x1 x2 x3 x4 x5 x6 y0 y1 y2 y3 y4 y5 y6 : Int) (w : World) :
    Calls Try.prog 96 #[.agg #[.int .i64 x0, .int .i64 x1, .int .i64 x2, .int .i64 x3, .int .i64 x4, .int .i64 x5, .int .i64 x6], .agg #[.int .i64 y0, .int .i64 y1, .int .i64 y2, .int .i64 y3, .int .i64 y4, .int .i64 y5, .int .i64 y6]] w
      fun e w' => e = .returned (.bool (sameB (x0, x1, x2, x3, x4, x5, x6) (y0, y1, y2, y3, y4, y5, y6))) ∧ Below w.heap.size w w' := by
  have HB := Lib.hid (show ∀ o1 o2, Below w.heap.size w ((w.alloc o1).alloc o2) from fun o1 o2 => ((Below.refl _ _).alloc (Nat.le_refl _) _).alloc (by simp) _)
  have e1 : sameB (x0, x1, x2, x3, x4, x5, x6) (y0, y1, y2, y3, y4, y5, y6) = (x0 == y0 && x1 == y1 && x2 == y2) := rfl
  rw [e1]
  clear e1
  go_enter Try.func96, Try.ntmps96
  go_wp2_with fail
  all_goals
    go_ret
    refine ⟨ret_bool ?_, HB.out _ _⟩
    simp_all
end Go.Proofs.Ytdldcjnidajmpaa

/- Walks: the library's iterator over entries, and what collects it. -/
namespace Go.Proofs.Ytdldcjnidajmpaa
open Go.RowKit Go.Shelf
set_option linter.unusedVariables false
set_option maxRecDepth 100000
attribute [local go_sem] Oper.semAt_some

def aggE (x : EntryT) : Array Value := #[.agg (entC x).toArray]
set_option maxHeartbeats 2000000 in
/-- The closure of slices.Values: each element is handed on, for every loop body that keeps what lay below n₀. -/
theorem values1_in (F : Fence) (n : Nat) (hF : F.fn 131) (hro : F.round = none) (hn : 1 ≤ n) (l Bs n₀ : Nat) (A : Option Addr) (len cap : Nat) (xs : List EntryT) (J Jx : List EntryT → World → Prop) (W : World) (hJ : AbidesFrom W.heap.size J)
    (hY : ∀ pre x W, J pre W → pre.length < len → YieldAt F (n - 1) Try.prog l (aggE x) W fun e W' =>
      (e = .returned (.bool true) ∧ J (pre ++ [x]) W' ∧ Below n₀ W W') ∨ (e = .returned (.bool false) ∧ Jx (pre ++ [x]) W'))
    (hn₀ : n₀ ≤ W.heap.size) (hBs : W.cell? ⟨Bs, 0, none⟩ = some (.slice A len cap)) (hr : Rd W 7 A len (ents xs)) (hb : 0 < len → ∀ b o, A = some ⟨b, o, none⟩ → b < n₀) (h0 : J [] W) :
    CallsIn F n Try.prog 131 #[.func (.yield l) #[] #[], .pointer (some ⟨Bs, 0, none⟩)] W fun e W' => (∃ v, e = .returned v) ∧
      ((∃ ys, ys = xs ∧ J ys W') ∨ (∃ pre, pre <+: xs ∧ Jx pre W')) := by
  have hl := hr.len_ent
  have hle := hr.le
  refine callsIn_of_wp Try.func131 rfl hF ?_ hro
  simp only [Try.ntmps131, List.size_toArray, List.length_cons, List.length_nil, Nat.reduceAdd, Nat.reduceSub, Array.replicate_succ, Array.replicate_zero, List.push_toArray, List.append_toArray, List.nil_append, List.cons_append]
  gi_wp2
  gi_loopw [7] (fun i wr => ∃ k : Nat, k ≤ len ∧ i = .int .i64 k ∧ J (xs.take k) wr ∧ Below n₀ W wr) (fun i _ => len - (intOf i).toNat)
  case atStart => exact ⟨0, Nat.zero_le _, rfl, h0, Below.refl _ _⟩
  case round =>
    obtain ⟨k, hk, rfl, hJs, hnx⟩ := hrel
    have HL := Lib.hid hl
    clear hl
    by_cases hlt : k < len
    · obtain ⟨b, o, x0, x1, x2, x3, x4, x5, x6, rfl, hx, hd, hc0, hc1, hc2, hc3, hc4, hc5, hc6⟩ := hr.ent hlt
      have hbn := hb (by omega) b o rfl
      have hsn := take_snoc_get hx
      have HSN := Lib.hid hsn
      have e0 := (hnx.cell (p := ⟨b, o + k * 7, none⟩) hbn).trans hc0
      have e1 := (hnx.cell (p := ⟨b, o + k * 7 + 1, none⟩) hbn).trans hc1
      have e2 := (hnx.cell (p := ⟨b, o + k * 7 + 2, none⟩) hbn).trans hc2
      have e3 := (hnx.cell (p := ⟨b, o + k * 7 + 3, none⟩) hbn).trans hc3
      have e4 := (hnx.cell (p := ⟨b, o + k * 7 + 4, none⟩) hbn).trans hc4
      have e5 := (hnx.cell (p := ⟨b, o + k * 7 + 5, none⟩) hbn).trans hc5
      have e6 := (hnx.cell (p := ⟨b, o + k * 7 + 6, none⟩) hbn).trans hc6
      have hJa := hJ _ _ (wr.alloc (.cells #[.int .i64 x0, .int .i64 x1, .int .i64 x2, .int .i64 x3, .int .i64 x4, .int .i64 x5, .int .i64 x6] 66)) none hJs (World.grownBy_alloc _ _ _) (fun r e => by cases e)
      obtain ⟨fn, tmps, assign, body, hy, hR⟩ := hY _ (x0, x1, x2, x3, x4, x5, x6) _ hJa (by rw [List.length_take, HL.out]; omega)
      simp only [aggE, entC] at hy
      have hwn : n₀ ≤ wr.heap.size := Nat.le_trans hn₀ hnx.size
      have HNX := Lib.hid hnx
      clear hx hd hc0 hc1 hc2 hc3 hc4 hc5 hc6 hsn hnx hJs hJa
      gi_wp2
      refine hR.mono ?_
      rintro e W3 (⟨rfl, hJ3, hk3⟩ | ⟨rfl, hJx3⟩)
      · gi_wp2
        go_roundw
        case rel => exact ⟨k + 1, by omega, by go_num, by rw [HSN.out]; exact hJ3, HNX.out.trans (((Below.refl n₀ wr).alloc hwn _).trans hk3)⟩
        case measure => simp [intOf] <;> omega
      · gi_wp2
        refine bodyPost_ret (results_none rfl _ _ _) rfl ?_
        exact ⟨⟨_, rfl⟩, .inr ⟨_, by rw [← HSN.out]; exact List.take_prefix _ _, hJx3⟩⟩
    · obtain rfl : k = len := by omega
      have ht : xs.take k = xs := List.take_of_length_le (by rw [HL.out]; exact Nat.le_refl _)
      rw [ht] at hJs
      clear ht
      gi_wp2
      go_end0
      exact ⟨⟨_, rfl⟩, .inl ⟨_, rfl, hJs⟩⟩

set_option maxHeartbeats 1000000 in
/-- slices.Values: the slice value is boxed; the function value captures the box. -/
theorem values_in (F : Fence) (n : Nat) (hF : F.fn 93) (hro : F.round = none) (A : Option Addr) (len cap : Nat) (w : World) :
    CallsIn F n Try.prog 93 #[.slice A len cap] w fun e w' => e = .returned (.func (.func 131) #[] #[.pointer (some ⟨w.heap.size, 0, none⟩)]) ∧ w' = w.alloc (.cells #[.slice A len cap] 49) := by
  refine callsIn_of_wp Try.func93 rfl hF ?_ hro
  simp only [Try.ntmps93, List.size_toArray, List.length_cons, List.length_nil, Nat.reduceAdd, Nat.reduceSub, Array.replicate_succ, Array.replicate_zero, List.push_toArray, List.append_toArray, List.nil_append, List.cons_append]
  gi_wp2
  go_ret
  exact ⟨rfl, rfl⟩

/-- What slices.Values hands back goes through all elements. -/
theorem values_stops (F : Fence) (n : Nat) (hF : F.fn 131) (hro : F.round = none) (hn : 1 ≤ n) (Bs n₀ : Nat) (A : Option Addr) (len cap : Nat) (xs : List EntryT) (w : World) (hBs : Bs < w.heap.size) (hn₀ : n₀ ≤ w.heap.size)
    (hc : w.cell? ⟨Bs, 0, none⟩ = some (.slice A len cap)) (hr : Rd w 7 A len (ents xs)) (hb : 0 < len → ∀ b o, A = some ⟨b, o, none⟩ → b < n₀) :
    SeqStopsK F n Try.prog 131 #[.pointer (some ⟨Bs, 0, none⟩)] aggE (Below n₀) (fun ys => ys = xs) (fun pre => pre <+: xs) len w := fun l J Jx W hW hJ _ hY h0 =>
  values1_in F n hF hro hn l Bs n₀ A len cap xs J Jx W hJ hY (Nat.le_trans hn₀ hW.size) ((hW.cell (p := ⟨Bs, 0, none⟩) hBs).trans hc) (hr.below hW) hb h0
end Go.Proofs.Ytdldcjnidajmpaa

/- Walks: the library's sort at entries. -/
namespace Go.Proofs.Ytdldcjnidajmpaa
open Go.RowKit Go.Sort Go.Shelf
set_option linter.unusedVariables false
set_option maxRecDepth 100000

/-! ### An own row of k cells an element, sorted -/
section
variable {α : Type} [Inhabited α] {f : α → List Value} {k : Nat}
theorem flatK_list (hk : ∀ x, (f x).length = k) (d : Array α) : (flatK f k d).toList = d.toList.flatMap f := by
  apply List.ext_getElem?
  intro t
  by_cases ht : t < d.size * k
  · have k0 : 0 < k := by rcases Nat.eq_zero_or_pos k with h | h; · subst h; simp at ht
                          · exact h
    have hq : t / k < d.size := Nat.div_lt_of_lt_mul (by rw [Nat.mul_comm]; exact ht)
    have e : t = t / k * k + t % k := by have := Nat.div_add_mod t k; rw [Nat.mul_comm] at this; exact this.symm
    have hx : d.toList[t / k]? = some d[t / k] := by simp [hq]
    have h2 := flat_get hk hx (j := t % k) (Nat.mod_lt t k0)
    rw [← e] at h2
    rw [h2, Array.getElem?_toList]
    have hF : (flatK f k d)[t]? = some ((flatK f k d)[t]!) := by
      rw [getElem!_pos _ t (by simpa using ht), Array.getElem?_eq_getElem]
    rw [hF, get_flatK _ _ _ _ ht, getElem!_pos d (t / k) hq]
    have hm : t % k < (f d[t / k]).length := by rw [hk]; exact Nat.mod_lt t k0
    rw [List.getElem?_eq_getElem hm, getElem!_pos (f d[t / k]) (t % k) hm]
  · rw [List.getElem?_eq_none (by simp; omega), List.getElem?_eq_none (by rw [flat_len hk]; simp; omega)]
theorem holdsK_own (hk : ∀ x, (f x).length = k) {w : World} {base e g n c : Nat} {xs : List α} (h : w.ownsRow base e k (.slice (some ⟨g, 0, none⟩) n c) n (xs.flatMap f)) : HoldsK f k w g 0 xs.toArray := by
  intro j hj
  rw [size_flatK] at hj
  have hF : (flatK f k xs.toArray).toList[j]? = some ((flatK f k xs.toArray)[j]!) := by
    rw [Array.getElem?_toList, getElem!_pos _ j (by simpa using hj), Array.getElem?_eq_getElem]
  rw [flatK_list hk] at hF
  have hc := h.cells (g := g) rfl j _ hF
  have hadd : (⟨g, 0, none⟩ : Addr).add j = ⟨g, 0 + j, none⟩ := by unfold Addr.add; split <;> simp_all
  rw [hadd] at hc
  exact ⟨hc, by rw [Nat.zero_add]; exact h.frozenAt j⟩
theorem grownBy_sortedK {w : World} {g n : Nat} {os : Array Obj} (d : Array α) : w.grownBy (sortWorldK f k w g 0 n d os) (some g) := by
  refine ⟨rfl, rfl, rfl, by simp [sortWorldK, putRowK, putRow, mapBlock, Sort.ahead], fun j hj hne => ?_⟩
  unfold sortWorldK
  rw [heap_grow_old _ _ (by simpa [putRowK, putRow, mapBlock, Sort.ahead] using hj)]
  have : g ≠ j := fun e => hne (by rw [e])
  simp [putRowK, putRow, mapBlock, Sort.ahead, Array.getElem?_modify, this]
theorem own_sortedK (hk : ∀ x, (f x).length = k) {w : World} {base e g m c n : Nat} {os : Array Obj} {xs ys : List α} (h : w.ownsRow base e k (.slice (some ⟨g, 0, none⟩) m c) m (xs.flatMap f)) (hl : ys.length = xs.length) :
    (sortWorldK f k w g 0 n ys.toArray os).ownsRow base e k (.slice (some ⟨g, 0, none⟩) m c) m (ys.flatMap f) := by
  have h1 := h.1
  rw [flat_len hk] at h1
  refine ⟨by rw [flat_len hk, hl]; exact h1, ?_⟩
  rcases h.2 with ⟨hv, _⟩ | ⟨g', cap, cur, hv, hb, hg, hnc, hcm, hcs, htake⟩
  · cases hv
  injection hv with hA _ hc
  injection hA with hA
  injection hA with hA
  subst hA hc
  have hgl : g < w.heap.size := (Array.getElem?_eq_some_iff.1 hg).1
  refine .inr ⟨g, c, putCells id 0 (flatK f k ys.toArray) cur, rfl, hb, ?_, hnc, hcm, by simp [putCells, hcs], ?_⟩
  · unfold sortWorldK
    rw [heap_grow_old _ _ (by simpa [putRowK, putRow, mapBlock, Sort.ahead] using hgl)]
    simp [putRowK, putRow, mapBlock, Sort.ahead, Array.getElem?_modify, hg, onCells]
  · have hsz : (flatK f k ys.toArray).size = m * k := by rw [size_flatK]; simp only [List.size_toArray]; rw [hl, h1]
    have hcz : m * k ≤ cur.size := by rw [hcs]; exact Nat.mul_le_mul_right k hnc
    rw [← flatK_list hk ys.toArray]
    apply List.ext_getElem?
    intro j
    by_cases hj : j < m * k
    · rw [List.getElem?_take_of_lt hj, Array.getElem?_toList, Array.getElem?_toList]
      simp only [putCells, Array.getElem?_mapIdx]
      rw [Array.getElem?_eq_getElem (show j < cur.size by omega)]
      simp only [Option.map_some, Nat.zero_add, Nat.zero_le, true_and, Nat.sub_zero, hsz, hj, if_true, id]
      rw [getElem!_pos _ j (by rw [hsz]; exact hj), Array.getElem?_eq_getElem]
    · rw [List.getElem?_take_eq_none (by omega), List.getElem?_eq_none (by simp only [Array.length_toList]; rw [hsz]; omega)]
end
theorem permIn_all {α : Type} [Inhabited α] {d d' : Array α} (h : PermIn 0 d.size d d') : d'.toList.Perm d.toList := by
  obtain ⟨h1, _, h3⟩ := h
  have e1 : d.extract 0 d.size = d := by simp
  have e2 : d'.extract 0 d.size = d' := by rw [← h1]; simp
  rwa [e1, e2] at h3
theorem sortedIn_all {α : Type} [Inhabited α] {lt : α → α → Bool} {d : Array α} {n : Nat} (hn : n = d.size) (h : SortedIn lt 0 n d) : d.toList.Pairwise fun x y => lt y x = false := by
  subst hn
  rw [List.pairwise_iff_getElem]
  intro i j hi hj hij
  have hi' : i < d.size := by simpa using hi
  have hj' : j < d.size := by simpa using hj
  have := h i j (Nat.zero_le _) hij hj'
  rw [getElem!_pos d i hi', getElem!_pos d j hj'] at this
  simpa using this

/-! ### Entries that may be compared -/
abbrev EV : Type := { x : EntryT // okE x }
instance : Inhabited EV := ⟨⟨(0, 0, 1, 0, 0, 0, 0), by unfold okE; simp [E.race, E.boat, E.rev]⟩⟩
def encE (x : EV) : List Value := entC x.1
def cmpE (x y : EV) : Int := sgn (keyE x.1 - keyE y.1)
theorem encE_len (x : EV) : (encE x).length = 7 := rfl
theorem encE_one (x : EV) : ∀ v ∈ encE x, v.oneCell' = true := by
  intro v hv
  obtain ⟨⟨x0, x1, x2, x3, x4, x5, x6⟩, hx⟩ := x
  simp [encE, entC] at hv
  rcases hv with rfl | rfl | rfl | rfl | rfl | rfl | rfl <;> rfl
theorem ltE (x y : EV) : ltOf cmpE x y = decide (keyE x.1 < keyE y.1) := by
  unfold ltOf cmpE sgn
  by_cases h1 : keyE x.1 < keyE y.1
  · rw [if_pos (by omega)]; simp [h1]
  · rw [if_neg (by omega)]
    by_cases h2 : keyE x.1 - keyE y.1 = 0
    · rw [if_pos h2]; simp [h1]
    · rw [if_neg h2]; simp [h1]
theorem swoE : SWO (ltOf cmpE) where
  irrefl x := by rw [ltE]; simp
  trans x y z h1 h2 := by rw [ltE] at *; simp at *; omega
  ntrans x y z h1 h2 := by rw [ltE] at *; simp at *; omega
theorem vals_of : ∀ (xs : List EntryT), (∀ x ∈ xs, okE x) → ∃ L : List EV, L.map (·.1) = xs := by
  intro xs
  induction xs with
  | nil => intro _; exact ⟨[], rfl⟩
  | cons x r ih =>
    intro h
    obtain ⟨L, hL⟩ := ih fun y hy => h y (List.mem_cons_of_mem _ hy)
    exact ⟨⟨x, h x (List.mem_cons_self ..)⟩ :: L, by rw [List.map_cons, hL]⟩
theorem ents_vals (L : List EV) : ents (L.map (·.1)) = L.flatMap encE := by
  unfold ents
  rw [List.flatMap_map]; rfl
def Try.sortEnt_ren : Go.Shelf.Ren := ⟨fun | 6 => 130 | 15 => 139 | 14 => 138 | 28 => 149 | 29 => 150 | 20 => 141 | 21 => 142 | 22 => 143 | 23 => 144 | 24 => 145 | 25 => 146 | 26 => 147 | 27 => 148 | 46 => 151 | 47 => 152 | 48 => 153 | 49 => 154 | 50 => 155 | 57 => 156 | n => n, fun | 22 => 49 | 24 => 66 | 25 => 115 | 3 => 3 | 39 => 149 | 0 => 0 | 53 => 161 | 55 => 163 | 4 => 4 | 46 => 154 | 45 => 153 | 50 => 158 | 5 => 5 | 9 => 9 | 66 => 164 | 70 => 168 | 76 => 170 | 77 => 171 | n => n, fun | n => n⟩
theorem Try.sortEnt : Go.Proofs.SlLaysF0.n6 Try.prog Try.sortEnt_ren := {
  mixed := by kernel_rfl,
  f6 := ⟨Try.f130.name, by decide, Try.func130.trans (congrArg some (by kernel_rfl))⟩,
  f14 := ⟨Try.f138.name, by decide, Try.func138.trans (congrArg some (by kernel_rfl))⟩,
  f15 := Try.func139.trans (congrArg some (by kernel_rfl)),
  f20 := ⟨Try.f141.name, by decide, Try.func141.trans (congrArg some (by kernel_rfl))⟩,
  f21 := ⟨Try.f142.name, by decide, Try.func142.trans (congrArg some (by kernel_rfl))⟩,
  f22 := ⟨Try.f143.name, by decide, Try.func143.trans (congrArg some (by kernel_rfl))⟩,
  f23 := ⟨Try.f144.name, by decide, Try.func144.trans (congrArg some (by kernel_rfl))⟩,
  f24 := ⟨Try.f145.name, by decide, Try.func145.trans (congrArg some (by kernel_rfl))⟩,
  f25 := ⟨Try.f146.name, by decide, Try.func146.trans (congrArg some (by kernel_rfl))⟩,
  f26 := ⟨Try.f147.name, by decide, Try.func147.trans (congrArg some (by kernel_rfl))⟩,
  f27 := ⟨Try.f148.name, by decide, Try.func148.trans (congrArg some (by kernel_rfl))⟩,
  f28 := Try.func149.trans (congrArg some (by kernel_rfl)),
  f29 := Try.func150.trans (congrArg some (by kernel_rfl)),
  f46 := ⟨Try.f151.name, by decide, Try.func151.trans (congrArg some (by kernel_rfl))⟩,
  f47 := Try.func152.trans (congrArg some (by kernel_rfl)),
  f48 := Try.func153.trans (congrArg some (by kernel_rfl)),
  f49 := ⟨Try.f154.name, by decide, Try.func154.trans (congrArg some (by kernel_rfl))⟩,
  f50 := ⟨Try.f155.name, by decide, Try.func155.trans (congrArg some (by kernel_rfl))⟩,
  f57 := ⟨Try.f156.name, by decide, Try.func156.trans (congrArg some (by kernel_rfl))⟩,
  t0 := Try.underlying0,
  a0 := Try.isAgg0,
  z0 := Try.sizeOf0,
  v0 := Try.zeroValue0,
  t3 := Try.underlying3,
  a3 := Try.isAgg3,
  z3 := Try.sizeOf3,
  v3 := Try.zeroValue3,
  t4 := Try.underlying4,
  a4 := Try.isAgg4,
  z4 := Try.sizeOf4,
  v4 := Try.zeroValue4,
  t5 := Try.underlying5,
  a5 := Try.isAgg5,
  z5 := Try.sizeOf5,
  v5 := Try.zeroValue5,
  t9 := Try.underlying9,
  a9 := Try.isAgg9,
  z9 := Try.sizeOf9,
  v9 := Try.zeroValue9,
  t22 := Try.underlying49,
  a22 := Try.isAgg49,
  z22 := Try.sizeOf49,
  v22 := Try.zeroValue49,
  t25 := Try.underlying115,
  a25 := Try.isAgg115,
  z25 := Try.sizeOf115,
  v25 := Try.zeroValue115,
  t39 := Try.underlying149,
  a39 := Try.isAgg149,
  z39 := Try.sizeOf149,
  v39 := Try.zeroValue149,
  t45 := Try.underlying153,
  a45 := Try.isAgg153,
  z45 := Try.sizeOf153,
  v45 := Try.zeroValue153,
  t46 := Try.underlying154,
  a46 := Try.isAgg154,
  z46 := Try.sizeOf154,
  v46 := Try.zeroValue154,
  t50 := Try.underlying158,
  a50 := Try.isAgg158,
  z50 := Try.sizeOf158,
  v50 := Try.zeroValue158,
  t53 := Try.underlying161,
  a53 := Try.isAgg161,
  z53 := Try.sizeOf161,
  v53 := Try.zeroValue161,
  t55 := Try.underlying163,
  a55 := Try.isAgg163,
  z55 := Try.sizeOf163,
  v55 := Try.zeroValue163,
  t66 := Try.underlying164,
  a66 := Try.isAgg164,
  z66 := Try.sizeOf164,
  v66 := Try.zeroValue164,
  t70 := Try.underlying168,
  a70 := Try.isAgg168,
  z70 := Try.sizeOf168,
  v70 := Try.zeroValue168,
  t76 := Try.underlying170,
  a76 := Try.isAgg170,
  z76 := Try.sizeOf170,
  v76 := Try.zeroValue170,
  t77 := Try.underlying171,
  a77 := Try.isAgg171,
  z77 := Try.sizeOf171,
  v77 := Try.zeroValue171 }
theorem cmpLaysE (blk off size : Nat) (w : World) : CmpLays Try.prog 94 #[] encE 7 cmpE blk off size w :=
  fun _ _ _ _ x y => by
    obtain ⟨⟨x0, x1, x2, x3, x4, x5, x6⟩, hx⟩ := x
    obtain ⟨⟨y0, y1, y2, y3, y4, y5, y6⟩, hy⟩ := y
    exact compareEntries_grow x0 x1 x2 x3 x4 x5 x6 y0 y1 y2 y3 y4 y5 y6 hx hy _
/-- What the sort leaves: the same row holds a sorted permutation. -/
def RetSort (w : World) (base : Nat) (A : Option Addr) (n c : Nat) (xs : List EntryT) (e : Ending) (w' : World) : Prop :=
  e = .returned (.tuple #[]) ∧ ∃ ys : List EntryT, ys.Perm xs ∧ (ys.Pairwise fun x y => keyE x ≤ keyE y) ∧ w'.ownsRow base 66 7 (.slice A n c) n (ents ys) ∧ w.grownBy w' (Value.slice A n c).ownBlock
set_option maxHeartbeats 1000000 in
theorem sortEnts_any (base : Nat) (A : Option Addr) (n c : Nat) (xs : List EntryT) (hok : ∀ x ∈ xs, okE x) (hn : n ≤ 1048576) (w : World) (h : w.ownsRow base 66 7 (.slice A n c) n (ents xs)) :
    Calls Try.prog 130 #[.slice A n c, .func (.func 94) #[] #[]] w (RetSort w base A n c xs) := by
  have hl : xs.length = n := own_len_flat entC_len (by decide) h
  rcases Nat.eq_zero_or_pos n with h0 | h0
  · subst h0
    obtain rfl : xs = [] := List.eq_nil_of_length_eq_zero hl
    have h1 := AnyF.slices_SortFunc_none { Try.sortEnt with } A c (.func (.func 94) #[] #[]) w
    change Calls Try.prog 130 _ _ _ at h1
    refine h1.mono ?_
    rintro e w' ⟨rfl, rfl⟩
    exact ⟨rfl, [], .nil, .nil, h, World.grownBy.refl _ _⟩
  · obtain ⟨L, rfl⟩ := vals_of xs hok
    rw [ents_vals] at h
    rw [List.length_map] at hl
    obtain ⟨g, rfl, hgw⟩ : ∃ g, A = some ⟨g, 0, none⟩ ∧ g < w.heap.size := by
      rcases h.2 with ⟨hv, hz⟩ | ⟨g, cap, cur, hv, hb, hg, _⟩
      · omega
      · injection hv with hA
        exact ⟨g, hA, (Array.getElem?_eq_some_iff.1 hg).1⟩
    have hH := holdsK_own encE_len h
    have eg : ∀ args w, (callFunc 94 args).run Try.prog w = .ok (.enter 94 args) w := enters_of Try.func94 (by kernel_rfl) rfl
    have hcon := AnyQ.slices_SortFunc Try.sortEnt 7 Try.isAgg66 Try.sizeOf66 encE encE_len encE_one cmpE swoE 94 #[] g 0 c L.toArray w eg (cmpLaysE g 0 L.toArray.size w) hH hgw (by simp only [List.size_toArray]; omega)
    change Calls Try.prog 130 _ _ _ at hcon
    simp only [List.size_toArray, hl] at hcon
    refine hcon.mono ?_
    rintro e w' ⟨rfl, d', q, os, hp, hs, rfl⟩
    have hp' := permIn_all (d := L.toArray) (d' := d') (by simp only [List.size_toArray, hl]; exact hp)
    have hdl : d'.toList.length = L.length := by have := hp'.length_eq; simpa using this
    have hs' := sortedIn_all (n := n) (by have : d'.size = L.length := by simpa using hdl
                                          omega) hs
    refine ⟨rfl, d'.toList.map (·.1), hp'.map _, ?_, ?_, grownBy_sortedK d'⟩
    · rw [List.pairwise_map]
      refine hs'.imp ?_
      intro x y hxy
      rw [ltE] at hxy
      simp at hxy
      exact hxy
    · rw [ents_vals]
      have := own_sortedK (n := q) (os := os) encE_len h (ys := d'.toList) hdl
      simpa using this
end Go.Proofs.Ytdldcjnidajmpaa

/- Walks: the library's Collect and SortedFunc over the entries of a slice. -/
namespace Go.Proofs.Ytdldcjnidajmpaa
open Go.RowKit Go.Shelf Go.Sort
set_option linter.unusedVariables false
set_option maxRecDepth 100000
attribute [local go_sem] Oper.semAt_some

theorem box_boxed {W : World} {B : Nat} {t : TypeId} {v : Value} (h : Boxed W B t v) : Box W B #[v] t := h
/-- What a round finds of its variable. -/
def AxE (s0 : Nat) (fv : Value) (x : EntryT) (a' : Act) (W : World) : Prop :=
  ∃ Bx, s0 < Bx ∧ Box W Bx (entC x).toArray 66 ∧ a' = { tmps := #[.slice none 0 0, fv, .pointer (some ⟨s0, 0, none⟩), undef, .slice none 0 0, .pointer (some ⟨Bx, 0, none⟩), fv, .agg (entC x).toArray, undef, undef, undef, undef, undef], defers := [] }
set_option maxHeartbeats 4000000 in
theorem appendSeq_in (F : Fence) (n : Nat) (hF : F.fn 137) (hro : F.round = none) (hn : 3 ≤ n) (g : Nat) (lb : Array Value) (hFg : F.fn g) (eg : ∀ args w, (callFunc g args).run Try.prog w = .ok (.enter g args) w)
    (Sp : List EntryT → Prop) (N : Nat) (hN : N ≤ 1048576) (xs : List EntryT) (w : World) (hseq : SeqStopsK F (n - 1) Try.prog g lb aggE (Below w.heap.size) (fun ys => ys = xs) Sp N w) :
    CallsIn F n Try.prog 137 #[.slice none 0 0, .func (.func g) #[] lb] w fun e W' => ∃ v, e = .returned v ∧ W'.ownsRow w.heap.size 66 7 v xs.length (ents xs) ∧ Below w.heap.size w W' := by
  have h1 : 1 ≤ n := by omega
  obtain ⟨i0, hi, hz0, hz1, hz2⟩ := info_parts Try.info_ent
  refine callsIn_of_wp_marks Try.func137 rfl hF ?_ hro
  simp only [Try.ntmps137, List.size_toArray, List.length_cons, List.length_nil, Nat.reduceAdd, Nat.reduceSub, Array.replicate_succ, Array.replicate_zero, List.push_toArray, List.append_toArray, List.nil_append, List.cons_append]
  gi_wp2
  have bO := Boxed.new w 49 (.slice none 0 0)
  have hB0 : Below w.heap.size w (w.alloc (.cells #[.slice none 0 0] 49)) := (Below.refl _ w).alloc (Nat.le_refl _) _
  refine wpIn_rangeFunc_ownH hro h1 (gf := g) (lb := lb) rfl hFg eg hseq belowK_t (belowK_b (by simp)) hB0 (fun _ => rfl)
    (fun pre W => (∃ v, Boxed W w.heap.size 49 v ∧ W.ownsRow w.heap.size 66 7 v pre.length (ents pre) ∧ True) ∧ Below w.heap.size w W)
    (fun _ _ _ => False)
    (OwnFrom.and (Own.from (holdsRow_own w.heap.size w.heap.size 49 66 7 (fun pre => pre.length) (fun pre => ents pre) (fun _ _ => True)) _) (ownFrom_below (Nat.le_refl _) (by simp)))
    (fun _ _ _ _ _ hs _ _ => hs)
    ⟨⟨_, bO, World.ownsRow_nil _ _ _ _, trivial⟩, hB0⟩
    (fun x a' W => AxE w.heap.size (.func (.func g) #[] lb) x a' W)
    (by
      rintro x a' s X Y row ⟨Bx, h1, hb, ha⟩ hg hr
      exact ⟨Bx, h1, (hg.block Bx hb.lt (fun e => by obtain ⟨_, o, ho, hc⟩ := hr Bx e.symm; rw [show X.heap[Bx]? = _ from hb] at ho; cases ho; cases hc)).trans hb, ha⟩) ?assign ?body ?done ?stop
  case assign =>
    rintro l pre ⟨x0, x1, x2, x3, x4, x5, x6⟩ W K ⟨⟨v, hv, hrow, _⟩, hB⟩ hK
    simp only [aggE, entC]
    gi_wp2
    exact hK _ _ ((KeepsOthers.alloc _ _).from _) ((Below.refl _ W).alloc hB.size _) ⟨⟨v, hv.alloc _, hrow.alloc _, trivial⟩, hB.alloc hB.size _⟩ ⟨W.heap.size, hv.lt, Box.new _ _ _, rfl⟩
  case body =>
    rintro l pre ⟨x0, x1, x2, x3, x4, x5, x6⟩ a' W hl hr ⟨⟨v, hv, hrow, _⟩, hB⟩ ⟨Bx, hBx, hbx, rfl⟩ hlt
    have hc := hv.cell
    have hbx' : Box W Bx #[.int .i64 x0, .int .i64 x1, .int .i64 x2, .int .i64 x3, .int .i64 x4, .int .i64 x5, .int .i64 x6] 66 := hbx
    obtain ⟨e0, e1, e2, e3, e4, e5, e6, _⟩ := hbx'.f7
    simp only [entC]
    gi_wp2_with (gi_at_builtin; refine wpListIn_append_own _ rfl _ _ 49 rfl w.heap.size 66 i0 (.agg #[.int .i64 0, .int .i64 0, .int .i64 0, .int .i64 0, .int .i64 0, .int .i64 0, .int .i64 0]) 7 56 Try.underlying49 hi hz0 hz1 hz2 rfl (by decide) _ _ _ rfl (hrow.alloc _) ⟨W.heap.size, 0, none⟩ 1 1 [.int .i64 x0, .int .i64 x1, .int .i64 x2, .int .i64 x3, .int .i64 x4, .int .i64 x5, .int .i64 x6] rfl rfl (World.news_of_block (cs := #[.int .i64 x0, .int .i64 x1, .int .i64 x2, .int .i64 x3, .int .i64 x4, .int .i64 x5, .int .i64 x6]) (heap_alloc_new _ _)) (by intro u hu; simp at hu; rcases hu with rfl | rfl | rfl | rfl | rfl | rfl | rfl <;> rfl) (by unfold maxLen; omega) (by omega) (by have := hB.size; simp; omega) ?_; intro v' w1 hown' hgrow _; obtain ⟨g', cap', rfl⟩ := ownsRow_succ hown'; obtain ⟨hv1, hv2, hr2, hk2, hb2⟩ := hv.appended (by decide) hrow hB.size (Nat.le_refl _) hown' hgrow; have hc1 := hv1.cell; have hf1 := hv1.frozen)
    have ee : ents (pre ++ [(x0, x1, x2, x3, x4, x5, x6)]) = ents pre ++ [.int .i64 x0, .int .i64 x1, .int .i64 x2, .int .i64 x3, .int .i64 x4, .int .i64 x5, .int .i64 x6] := by unfold ents; rw [List.flatMap_append]; rfl
    exact ⟨hk2.from _, hb2, ⟨_, hv2, by rw [ee, List.length_append]; exact hr2, trivial⟩, hB.trans hb2⟩
  case done =>
    rintro D ys W hD rfl ⟨⟨v, hv, hrow, _⟩, hB⟩ hK
    have hc := hv.cell
    gi_wp2
    refine ⟨by simp, .inl ⟨_, _, rfl, run_takeDeferred hK, ?_⟩⟩
    exact ⟨_, results_tmp rfl _ _ _, v, rfl, ownsRow_putObj hrow _ hK rfl, hB.trans (belowK_b (w := w) (Nat.le_refl _) W D _ _ (by simp at hD; omega) hK rfl rfl)⟩
  case stop =>
    rintro D c pre W _ _ h _
    exact h.elim
set_option maxHeartbeats 1000000 in
theorem collect_in (F : Fence) (n : Nat) (hC : F.fn 129) (hF : F.fn 137) (hro : F.round = none) (hn : 4 ≤ n) (g : Nat) (lb : Array Value) (hFg : F.fn g) (eg : ∀ args w, (callFunc g args).run Try.prog w = .ok (.enter g args) w)
    (Sp : List EntryT → Prop) (N : Nat) (hN : N ≤ 1048576) (xs : List EntryT) (w : World) (hseq : SeqStopsK F (n - 1 - 1) Try.prog g lb aggE (Below w.heap.size) (fun ys => ys = xs) Sp N w) :
    CallsIn F n Try.prog 129 #[.func (.func g) #[] lb] w fun e W' => ∃ v, e = .returned v ∧ W'.ownsRow w.heap.size 66 7 v xs.length (ents xs) ∧ Below w.heap.size w W' := by
  have h1 : 1 ≤ n := by omega
  refine callsIn_of_wp Try.func129 rfl hC ?_ hro
  simp only [Try.ntmps129, List.size_toArray, List.length_cons, List.length_nil, Nat.reduceAdd, Nat.reduceSub, Array.replicate_succ, Array.replicate_zero, List.push_toArray, List.append_toArray, List.nil_append, List.cons_append]
  gi_wp2_with (gi_at_call 137; refine (appendSeq_in F (n - 1) hF hro (by omega) g lb hFg eg Sp N hN xs _ hseq).mono ?_; rintro e w' ⟨v, rfl, hrow, hb⟩)
  go_ret
  exact ⟨v, rfl, hrow, hb⟩
/-- slices.Collect of the iterator over a slice: a copy. -/
theorem collect_any (A : Option Addr) (len cap : Nat) (xs : List EntryT) (hlen : len ≤ 1048576) (Bs : Nat) (w : World) (hc : w.cell? ⟨Bs, 0, none⟩ = some (.slice A len cap)) (hr : Rd w 7 A len (ents xs)) :
    Calls Try.prog 129 #[.func (.func 131) #[] #[.pointer (some ⟨Bs, 0, none⟩)]] w fun e W' => ∃ v, e = .returned v ∧ W'.ownsRow w.heap.size 66 7 v len (ents xs) ∧ Below w.heap.size w W' := by
  have hbs : Bs < w.heap.size := cell_lt hc
  have hl := hr.len_ent
  have h := collect_in Fence.wide 9 trivial trivial rfl (by omega) 131 #[.pointer (some ⟨Bs, 0, none⟩)] trivial (enters_of Try.func131 (by kernel_rfl) rfl) (fun pre => pre <+: xs) len hlen xs w
    (values_stops Fence.wide 7 trivial rfl (by omega) Bs w.heap.size A len cap xs w hbs (Nat.le_refl _) hc hr (fun h0 b o e => by
      obtain ⟨b', o', x0, x1, x2, x3, x4, x5, x6, e', _, _, c0, _⟩ := hr.ent (k := 0) h0
      rw [e] at e'
      injection e' with e'
      injection e' with e' _
      subst e'
      exact cell_lt c0))
  rw [hl] at h
  exact callsIn_wide.1 h
/-- slices.SortedFunc over a slice's iterator: a sorted copy. -/
def RetSorted (w : World) (xs : List EntryT) (e : Ending) (w' : World) : Prop :=
  ∃ A n c ys, e = .returned (.slice A n c) ∧ ys.Perm xs ∧ (ys.Pairwise fun x y => keyE x ≤ keyE y) ∧ w'.ownsRow w.heap.size 66 7 (.slice A n c) n (ents ys) ∧ Below w.heap.size w w'
theorem own_is_slice {w : World} {base e s n : Nat} {v : Value} {xs : List Value} (h : w.ownsRow base e s v n xs) : ∃ A c, v = .slice A n c := by
  rcases h.2 with ⟨rfl, rfl⟩ | ⟨g, cap, cur, rfl, _⟩
  · exact ⟨none, 0, rfl⟩
  · exact ⟨some ⟨g, 0, none⟩, cap, rfl⟩
theorem sortedFunc_any (A : Option Addr) (len cap : Nat) (xs : List EntryT) (hok : ∀ x ∈ xs, okE x) (hlen : len ≤ 1048576) (Bs : Nat) (w : World) (hc : w.cell? ⟨Bs, 0, none⟩ = some (.slice A len cap)) (hr : Rd w 7 A len (ents xs)) :
    Calls Try.prog 92 #[.func (.func 131) #[] #[.pointer (some ⟨Bs, 0, none⟩)], .func (.func 94) #[] #[]] w (RetSorted w xs) := by
  have HC := Lib.hid (collect_any A len cap xs hlen Bs w hc hr)
  clear hc hr
  go_enter Try.func92, Try.ntmps92
  go_wp2_with fail
  refine HC.out.mono ?_
  rintro e w1 ⟨v, rfl, ho, hb⟩
  obtain ⟨A1, c1, rfl⟩ := own_is_slice ho
  have HS := Lib.hid (sortEnts_any _ A1 len c1 xs hok hlen w1 ho)
  have HB := Lib.hid hb
  have HO := Lib.hid ho
  clear ho hb HC
  go_wp2_with fail
  refine HS.out.mono ?_
  rintro e w2 ⟨rfl, ys, hp, hs, ho2, hg2⟩
  have HO2 := Lib.hid ho2
  have HB2 := Lib.hid (HB.out.grown hg2 HB.out.size (fun k hk => (HO.out.lt k hk).1))
  clear ho2 hg2 HS
  go_wp2_with fail
  go_ret
  exact ⟨_, _, _, ys, rfl, hp, hs, HO2.out, HB2.out⟩
end Go.Proofs.Ytdldcjnidajmpaa

/- Walks: the laws' helpers on registers: size, copy, compare, mark, held. -/
namespace Go.Proofs.Ytdldcjnidajmpaa
open Go.RowKit
set_option linter.unusedVariables false
set_option maxRecDepth 100000

/-- The copy of a register. -/
def RetReg (w : World) (b s : Int) (xs : List EntryT) (e : Ending) (w' : World) : Prop :=
  ∃ A n c, e = .returned (.agg #[.int .i64 b, .int .i64 s, .slice A n c]) ∧ w'.ownsRow w.heap.size 66 7 (.slice A n c) n (ents xs) ∧ n ≤ 1048576 ∧ Below w.heap.size w w'
theorem szRegister_any (b s : Int) (A : Option Addr) (n c : Nat) (xs : List EntryT) (left : Int) (h0 : 0 ≤ left) (h1 : left ≤ 1048576) (w : World) (hr : Rd w 7 A n (ents xs)) :
    Calls Try.prog 29 #[.agg #[.int .i64 b, .int .i64 s, .slice A n c], .int .i64 left] w fun e w' => e = .returned (.int .i64 (if left < (n : Int) then -1 else left - n)) ∧ Below w.heap.size w w' := by
  have hn := hr.le
  have HB := Lib.hid (show ∀ o, Below w.heap.size w (w.alloc o) from fun o => (Below.refl _ _).alloc (Nat.le_refl _) o)
  have HS := Lib.hid (fun w => szEntryS_any A n c left w h0 h1 hn)
  clear hr
  by_cases h : left < n
  · rw [if_pos h] at HS ⊢
    go_enter Try.func29, Try.ntmps29
    go_wp2_with fail
    refine (HS.out _).mono ?_
    rintro e w2 ⟨rfl, rfl⟩
    go_wp2_with fail
    go_ret
    exact ⟨rfl, HB.out _⟩
  · rw [if_neg h] at HS ⊢
    go_enter Try.func29, Try.ntmps29
    go_wp2_with fail
    refine (HS.out _).mono ?_
    rintro e w2 ⟨rfl, rfl⟩
    go_wp2_with fail
    go_ret
    exact ⟨rfl, HB.out _⟩
theorem toRegister_any (b s : Int) (A : Option Addr) (n c : Nat) (xs : List EntryT) (w : World) (h : Rd w 7 A n (ents xs)) (hn : n ≤ 1048576) :
    Calls Try.prog 31 #[.agg #[.int .i64 b, .int .i64 s, .slice A n c]] w (RetReg w b s xs) := by
  have HC := Lib.hid (fun w' (hb : Below w.heap.size w w') => toEntryS_any A n c xs w' (h.below hb) hn)
  clear h
  obtain ⟨w1, hw1, X0, X1, X2, hb1, hs1⟩ := three_boxes w #[.int .i64 b, .int .i64 s, .slice A n c] #[.int .i64 0, .int .i64 0, .slice none 0 0] #[.int .i64 b, .int .i64 s, .slice none 0 0] 46 51 51
  go_enter Try.func31, Try.ntmps31
  go_wp2_with fail
  rw [← hw1]
  clear hw1
  refine (HC.out _ hb1).mono ?_
  rintro e w2 ⟨A2, n2, c2, rfl, ho, hn2, hb2⟩
  have F1 := (X1.below hb2).f3
  have F2 := (X2.below hb2).f3
  have HO := Lib.hid ho
  have HB2 := Lib.hid (hb1.trans (hb2.mono hb1.size))
  have hsz := hb2.size
  clear ho hb2 HC X0 X1 X2
  go_wp2_with fail
  refine bodyPost_ret (v := .agg #[.int .i64 b, .int .i64 s, .slice A2 n2 c2]) (by simp [results, Try.results31, go_sem, F1]) rfl ?_
  have hch := put_chg (g := w.heap.size + 1) [.int .i64 b, .int .i64 s, .slice A2 n2 c2] 0 (put_chg (g := w.heap.size + 1 + 1) [.slice A2 n2 c2] 2 (Chg.refl (w.heap.size + 1) (w.heap.size + 1 + 1 + 1) w2) (by omega) (by omega)) (by omega) (by omega)
  exact ⟨A2, n2, c2, rfl, own_base (own_chg HO.out hch (fun b hb => .inr (by have := (HO.out.lt b hb).1; omega))) (by omega), hn2, below_chg HB2.out hch (by omega) (by omega)⟩
theorem eqRegister_any (b s : Int) (A : Option Addr) (n c : Nat) (A' : Option Addr) (n' c' : Nat) (xs : List EntryT) (w : World) (h : Rd w 7 A n (ents xs)) (h' : Rd w 7 A' n' (ents xs)) :
    Calls Try.prog 33 #[.agg #[.int .i64 b, .int .i64 s, .slice A n c], .agg #[.int .i64 b, .int .i64 s, .slice A' n' c']] w fun e w' => e = .returned (.bool true) ∧ Below w.heap.size w w' := by
  have HC := Lib.hid (fun w' (hb : Below w.heap.size w w') => eqEntryS_same A A' n c n' c' xs w' (h.below hb) (h'.below hb))
  clear h h'
  obtain ⟨w1, hw1, X0, X1, hb1, hs1⟩ := two_boxes w #[.int .i64 b, .int .i64 s, .slice A n c] #[.int .i64 b, .int .i64 s, .slice A' n' c'] 51 51
  go_enter Try.func33, Try.ntmps33
  go_wp2_with fail
  rw [← hw1]
  clear hw1
  refine (HC.out _ hb1).mono ?_
  rintro e w2 ⟨rfl, hb2⟩
  have HB2 := Lib.hid (hb1.trans (hb2.mono hb1.size))
  clear hb2 X0 X1
  go_wp2_with fail
  go_ret
  exact ⟨rfl, HB2.out⟩
theorem markRegister_any (base lo hi e : Nat) (b s : Int) (A : Option Addr) (n c : Nat) (xs : List EntryT) (k : Int) (w : World) (h : w.ownsRow base e 7 (.slice A n c) n (ents xs)) (hv : ∀ b, (Value.slice A n c).ownBlock = some b → lo ≤ b ∧ b < hi)
    (hk0 : 0 ≤ k) (hk1 : k ≤ 1099511627776) (hn : n ≤ 1048576) :
    Calls Try.prog 37 #[.agg #[.int .i64 b, .int .i64 s, .slice A n c], .int .i64 k] w fun e' w' => e' = .returned (.int .i64 (k + 7 * n)) ∧ w'.ownsRow base e 7 (.slice A n c) n (ents (seqent k n)) ∧ Chg lo hi w w' := by
  obtain ⟨w1, hw1, X0, hb1, hs1⟩ := one_box w #[.int .i64 b, .int .i64 s, .slice A n c] 51
  have HC := Lib.hid (markEntryS_seq base e A n c xs k w1 (own_below h hb1) hk0 hk1 hn)
  clear h
  go_enter Try.func37, Try.ntmps37
  go_wp2_with fail
  rw [← hw1]
  clear hw1
  refine HC.out.mono ?_
  rintro e w2 ⟨rfl, ho2, hc2⟩
  have HC2 := Lib.hid ((Chg.of_below (lo := lo) (hi := hi) hb1).trans (Chg.of_grown hc2 hv))
  have HO2 := Lib.hid ho2
  clear hc2 ho2
  go_wp2_with fail
  go_ret
  exact ⟨rfl, HO2.out, HC2.out⟩
theorem markEntryS_sq (base lo hi e : Nat) (A : Option Addr) (n c : Nat) (xs : List EntryT) (k : Int) (w : World) (h : w.ownsRow base e 7 (.slice A n c) n (ents xs)) (hv : ∀ b, (Value.slice A n c).ownBlock = some b → lo ≤ b ∧ b < hi)
    (hk0 : 0 ≤ k) (hk1 : k ≤ 1099511627776) (hn : n ≤ 1048576) :
    Calls Try.prog 38 #[.slice A n c, .int .i64 k] w fun e' w' => e' = .returned (.int .i64 (k + 7 * n)) ∧ w'.ownsRow base e 7 (.slice A n c) n (ents (seqent k n)) ∧ Chg lo hi w w' :=
  (markEntryS_seq base e A n c xs k w h hk0 hk1 hn).mono fun _ _ ⟨h1, h2, h3⟩ => ⟨h1, h2, Chg.of_grown h3 hv⟩
theorem heldRegister_any (b s : Int) (A : Option Addr) (n c : Nat) (k : Int) (w : World) (h : Rd w 7 A n (ents (seqent k n))) (hk0 : 0 ≤ k) (hk1 : k ≤ 1099511627776) (hn : n ≤ 1048576) :
    Calls Try.prog 45 #[.agg #[.int .i64 b, .int .i64 s, .slice A n c], .int .i64 k] w fun e' w' => e' = .returned (.int .i64 (k + 7 * n)) ∧ Below w.heap.size w w' := by
  obtain ⟨w1, hw1, X0, hb1, hs1⟩ := one_box w #[.int .i64 b, .int .i64 s, .slice A n c] 51
  have HC := Lib.hid (heldEntryS_any A n c k w1 (h.below hb1) hk0 hk1 hn)
  clear h
  go_enter Try.func45, Try.ntmps45
  go_wp2_with fail
  rw [← hw1]
  clear hw1
  refine HC.out.mono ?_
  rintro e w2 ⟨rfl, rfl⟩
  have HB1 := Lib.hid hb1
  clear hb1
  go_wp2_with fail
  go_ret
  exact ⟨rfl, HB1.out⟩
end Go.Proofs.Ytdldcjnidajmpaa

/- Plain functions: an entry that is added is drawn. -/
namespace Go.Proofs.Ytdldcjnidajmpaa
open Go.RowKit
set_option linter.unusedVariables false

def bigL (k : Nat) : List EntryT := (List.range k).map fun (i : Nat) => (0, 0, (i : Int) + 1, 4, 0, 0, 0)
theorem bigL_snoc (k : Nat) : bigL (k + 1) = bigL k ++ [(0, 0, (k : Int) + 1, 4, 0, 0, 0)] := by simp [bigL, List.range_succ]
theorem bigL_len (k : Nat) : (bigL k).length = k := by simp [bigL]
def race12 (q : Int) (x : EntryT) : EntryT := if q = 0 then (12, E.boat x, E.rev x, E.code x, E.time x, E.kind x, E.points x) else x
def addD (code : List Int) : RegT × EntryT := (if (nextF code (nextF code (entX code (regD code (fromF code)).1.1 (regD code (fromF code)).2).2 16).2 40).1 = 0 then (3, 0, bigL 400) else (regD code (fromF code)).1, race12 (nextF code (entX code (regD code (fromF code)).1.1 (regD code (fromF code)).2).2 16).1 (entX code (regD code (fromF code)).1.1 (regD code (fromF code)).2).1)
theorem addD_eq (code : List Int) : addD code = (if (nextF code (nextF code (entX code (regD code (fromF code)).1.1 (regD code (fromF code)).2).2 16).2 40).1 = 0 then (3, 0, bigL 400) else (regD code (fromF code)).1, race12 (nextF code (entX code (regD code (fromF code)).1.1 (regD code (fromF code)).2).2 16).1 (entX code (regD code (fromF code)).1.1 (regD code (fromF code)).2).1) := rfl
end Go.Proofs.Ytdldcjnidajmpaa

/- General lemmas: slices of races (structs of one slice of finishes). No Go function in sight. -/
namespace Go.Proofs.Ytdldcjnidajmpaa
open Go.RowKit
set_option linter.unusedVariables false

/-- A slice of slices that reads as a list of lists. -/
structure RdRaces (w : World) (A : Option Addr) (n : Nat) (rows : List (List FinishT)) : Prop where
  len : rows.length = n
  le : n ≤ 9223372036854775807
  at_ : ∀ k, k < n → ∃ b o A' c' xs, A = some ⟨b, o, none⟩ ∧ rows[k]? = some xs ∧ w.cell? ⟨b, o + k, none⟩ = some (.slice A' xs.length c') ∧ Rd w 3 A' xs.length (fins xs)
theorem RdRaces.keep {w w' : World} {A : Option Addr} {n : Nat} {rows : List (List FinishT)} (h : RdRaces w A n rows) (k : Keeps w w') : RdRaces w' A n rows :=
  ⟨h.len, h.le, fun i hi => by
    obtain ⟨b, o, A', c', xs, e, hx, hc, hr⟩ := h.at_ i hi
    exact ⟨b, o, A', c', xs, e, hx, k _ _ hc, hr.keep k⟩⟩
theorem RdRaces.below {w w' : World} {A : Option Addr} {n : Nat} {rows : List (List FinishT)} (h : RdRaces w A n rows) (k : Below w.heap.size w w') : RdRaces w' A n rows := h.keep (Keeps.below k)
theorem RdRaces.drawn {w w' : World} {A : Option Addr} {n : Nat} {rows : List (List FinishT)} (h : RdRaces w A n rows) (k : Drawn w w') : RdRaces w' A n rows := h.below k.below
theorem RdRaces.row {w : World} {A : Option Addr} {n k : Nat} {rows : List (List FinishT)} (h : RdRaces w A n rows) (hk : k < n) :
    ∃ b o A' c' xs, A = some ⟨b, o, none⟩ ∧ rows[k]? = some xs ∧ rows.drop k = xs :: rows.drop (k + 1) ∧ w.cell? ⟨b, o + k, none⟩ = some (.slice A' xs.length c') ∧ Rd w 3 A' xs.length (fins xs) := by
  obtain ⟨b, o, A', c', xs, e, hx, hc, hr⟩ := h.at_ k hk
  obtain ⟨y, h1, h2⟩ := drop_cons (xs := rows) (k := k) (by rw [h.len]; exact hk)
  obtain rfl : xs = y := by rw [hx] at h1; injection h1
  exact ⟨b, o, A', c', xs, e, hx, h2, hc, hr⟩

/-- A slice of slices of the call's own. -/
structure OwnRaces (w : World) (base eo ei : Nat) (A : Option Addr) (n c : Nat) (vs : List Value) (rows : List (List FinishT)) : Prop where
  outer : w.ownsRow base eo 1 (.slice A n c) n vs
  len : rows.length = n
  row : ∀ (k : Nat) (v : Value) (xs : List FinishT), vs[k]? = some v → rows[k]? = some xs → ∃ A' c', v = .slice A' xs.length c' ∧ w.ownsRow base ei 3 v xs.length (fins xs)
  apart : ∀ (i j : Nat) (u v : Value), i ≠ j → vs[i]? = some u → vs[j]? = some v → ∀ g, u.ownBlock = some g → v.ownBlock ≠ some g

section
variable {w w' : World} {base eo ei n c : Nat} {A : Option Addr} {vs : List Value} {rows : List (List FinishT)}
theorem OwnRaces.vlen (h : OwnRaces w base eo ei A n c vs rows) : vs.length = n := by have := h.outer.1; omega
theorem OwnRaces.nle (h : OwnRaces w base eo ei A n c vs rows) : n ≤ 9223372036854775807 := (own_rd h.outer).le
/-- What row k is. -/
theorem OwnRaces.get (h : OwnRaces w base eo ei A n c vs rows) {k : Nat} (hk : k < n) :
    ∃ v A' c' xs, vs[k]? = some v ∧ rows[k]? = some xs ∧ rows.drop k = xs :: rows.drop (k + 1) ∧ v = .slice A' xs.length c' ∧ w.ownsRow base ei 3 (.slice A' xs.length c') xs.length (fins xs) := by
  have h1 : vs[k]? = some (vs[k]'(by rw [h.vlen]; exact hk)) := List.getElem?_eq_getElem _
  obtain ⟨xs, h2, h3⟩ := drop_cons (xs := rows) (k := k) (by rw [h.len]; exact hk)
  obtain ⟨A', c', e, ho⟩ := h.row k _ _ h1 h2
  exact ⟨_, A', c', xs, h1, h2, h3, e, by rw [e] at ho; exact ho⟩
theorem OwnRaces.rd (h : OwnRaces w base eo ei A n c vs rows) : RdRaces w A n rows :=
  ⟨h.len, h.nle, fun k hk => by
    obtain ⟨v, A', c', xs, h1, h2, _, e, ho⟩ := h.get hk
    obtain ⟨g, u, hA, _, _, hu, hc, _⟩ := own_at h.outer hk
    obtain rfl : v = u := by rw [h1] at hu; injection hu
    exact ⟨g, 0, A', c', xs, hA, h2, by rw [Nat.zero_add, hc, e], own_rd ho⟩⟩
theorem OwnRaces.in_ (h : OwnRaces w base eo ei A n c vs rows) : RowsIn base w.heap.size A n c vs := by
  refine ⟨h.outer.lt, fun v hv b hb => ?_⟩
  obtain ⟨k, hk⟩ := List.mem_iff_getElem?.1 hv
  have hkn : k < n := by have := (List.getElem?_eq_some_iff.1 hk).1; rw [h.vlen] at this; exact this
  obtain ⟨u, A', c', xs, h1, h2, _, e, ho⟩ := h.get hkn
  obtain rfl : v = u := by rw [hk] at h1; injection h1
  rw [e] at hb
  exact ho.lt b hb
theorem OwnRaces.below (h : OwnRaces w base eo ei A n c vs rows) (k : Below w.heap.size w w') : OwnRaces w' base eo ei A n c vs rows :=
  ⟨own_below h.outer k, h.len, fun i v xs h1 h2 => by obtain ⟨A', c', e, ho⟩ := h.row i v xs h1 h2; exact ⟨A', c', e, own_below ho k⟩, h.apart⟩
theorem OwnRaces.drawn (h : OwnRaces w base eo ei A n c vs rows) (k : Drawn w w') : OwnRaces w' base eo ei A n c vs rows := h.below k.below
theorem OwnRaces.alloc (h : OwnRaces w base eo ei A n c vs rows) (o : Obj) : OwnRaces (w.alloc o) base eo ei A n c vs rows := h.below ((Below.refl _ _).alloc (Nat.le_refl _) _)
theorem OwnRaces.chg {lo hi : Nat} (h : OwnRaces w base eo ei A n c vs rows) (k : Chg lo hi w w') {lo2 hi2 : Nat} (hv : RowsIn lo2 hi2 A n c vs) (hd : hi2 ≤ lo ∨ hi ≤ lo2) : OwnRaces w' base eo ei A n c vs rows :=
  ⟨own_chg h.outer k (fun b hb => by have := hv.1 b hb; omega), h.len,
    fun i v xs h1 h2 => by
      obtain ⟨A', c', e, ho⟩ := h.row i v xs h1 h2
      exact ⟨A', c', e, own_chg ho k (fun b hb => by have := hv.2 v (List.mem_of_getElem? h1) b hb; omega)⟩, h.apart⟩
theorem OwnRaces.base' {base' : Nat} (h : OwnRaces w base eo ei A n c vs rows) (hb : base' ≤ base) : OwnRaces w base' eo ei A n c vs rows :=
  ⟨own_base h.outer hb, h.len, fun i v xs h1 h2 => by obtain ⟨A', c', e, ho⟩ := h.row i v xs h1 h2; exact ⟨A', c', e, own_base ho hb⟩, h.apart⟩

/-- Row k alone is written. -/
theorem OwnRaces.upd (h : OwnRaces w base eo ei A n c vs rows) (hne : eo ≠ ei) {k : Nat} {v : Value} {xs ys : List FinishT} (hk : vs[k]? = some v) (hx : rows[k]? = some xs) (hl : ys.length = xs.length)
    (hg : w.grownBy w' v.ownBlock) (hy : w'.ownsRow base ei 3 v ys.length (fins ys)) : OwnRaces w' base eo ei A n c vs (rows.set k ys) := by
  obtain ⟨A0, c0, e0, ho0⟩ := h.row k v xs hk hx
  refine ⟨h.outer.kept hg ?_, by simpa using h.len, ?_, h.apart⟩
  · rcases hb : (Value.slice A n c).ownBlock with _ | g
    · exact .inl rfl
    · exact .inr (fun he => own_type_ne h.outer ho0 hne g hb he.symm)
  · intro i u zs h1 h2
    by_cases hik : i = k
    · subst hik
      obtain rfl : v = u := by rw [hk] at h1; injection h1
      have hlt := (List.getElem?_eq_some_iff.1 hx).1
      rw [List.getElem?_set_self hlt] at h2
      injection h2 with h2; subst h2
      exact ⟨A0, c0, by rw [e0, hl], hy⟩
    · rw [List.getElem?_set_ne (fun e => hik e.symm)] at h2
      obtain ⟨A', c', e, ho⟩ := h.row i u zs h1 h2
      refine ⟨A', c', e, ho.kept hg ?_⟩
      rcases hb : u.ownBlock with _ | g
      · exact .inl rfl
      · exact .inr (fun he => h.apart i k u v hik h1 hk g hb he.symm)

/-- Row k is put: a slice whose block is none of the others'. -/
theorem OwnRaces.put {g : Nat} (h : OwnRaces w base eo ei (some ⟨g, 0, none⟩) n c vs rows) (hne : eo ≠ ei) {k : Nat} {A' : Option Addr} {c' : Nat} {ys : List FinishT}
    (hy : w.ownsRow base ei 3 (.slice A' ys.length c') ys.length (fins ys)) (hap : ∀ u ∈ vs, ∀ b, (Value.slice A' ys.length c').ownBlock = some b → u.ownBlock ≠ some b) :
    OwnRaces (w.setCell ⟨g, k, none⟩ (.slice A' ys.length c')) base eo ei (some ⟨g, 0, none⟩) n c (vs.set k (.slice A' ys.length c')) (rows.set k ys) := by
  have hst := h.outer.stored k (.slice A' ys.length c')
  have keep : ∀ (u : Value) (m : Nat) (zs : List Value), w.ownsRow base ei 3 u m zs → (w.setCell ⟨g, k, none⟩ (.slice A' ys.length c')).ownsRow base ei 3 u m zs := by
    intro u m zs ho
    refine ho.kept hst.2 ?_
    rcases hb : u.ownBlock with _ | b
    · exact .inl rfl
    · refine .inr (fun he => ?_)
      injection he with he
      subst he
      exact own_type_ne h.outer ho hne b rfl hb
  refine ⟨hst.1, by simpa using h.len, ?_, ?_⟩
  · intro i u zs h1 h2
    by_cases hik : i = k
    · subst hik
      have hlt : i < rows.length := by have := (List.getElem?_eq_some_iff.1 h2).1; simpa using this
      have hlt' : i < vs.length := by rw [h.vlen, ← h.len]; exact hlt
      rw [List.getElem?_set_self hlt] at h2
      rw [List.getElem?_set_self hlt'] at h1
      injection h2 with h2; injection h1 with h1
      subst h2; subst h1
      exact ⟨A', c', rfl, keep _ _ _ hy⟩
    · rw [List.getElem?_set_ne (fun e => hik e.symm)] at h1 h2
      obtain ⟨A'', c'', e, ho⟩ := h.row i u zs h1 h2
      exact ⟨A'', c'', e, keep _ _ _ ho⟩
  · intro i j u v hij h1 h2 b hb
    by_cases hik : i = k
    · subst hik
      rw [List.getElem?_set_ne (fun e => hij e)] at h2
      have hlt' : i < vs.length := by have := (List.getElem?_eq_some_iff.1 h1).1; simpa using this
      rw [List.getElem?_set_self hlt'] at h1
      injection h1 with h1; subst h1
      exact hap v (List.mem_of_getElem? h2) b hb
    · rw [List.getElem?_set_ne (fun e => hik e.symm)] at h1
      by_cases hjk : j = k
      · subst hjk
        have hlt' : j < vs.length := by have := (List.getElem?_eq_some_iff.1 h2).1; simpa using this
        rw [List.getElem?_set_self hlt'] at h2
        injection h2 with h2; subst h2
        exact fun hb' => hap u (List.mem_of_getElem? h1) b hb' hb
      · rw [List.getElem?_set_ne (fun e => hjk e.symm)] at h2
        exact h.apart i j u v hij h1 h2 b hb

/-- Behind a make: all rows are nil. -/
theorem OwnRaces.made (w : World) (base eo ei n : Nat) (hb : base ≤ w.heap.size) (hm : n ≤ 9223372036854775807) :
    OwnRaces (w.alloc (.cells (madeCells #[.slice none 0 0] n) eo)) base eo ei (some ⟨w.heap.size, 0, none⟩) n n (List.replicate n (.slice none 0 0)) (List.replicate n []) := by
  refine ⟨own_made w base eo n _ hb hm, by simp, ?_, ?_⟩
  · intro k v xs h1 h2
    rw [List.getElem?_replicate] at h1 h2
    split at h1
    · injection h1 with h1; subst h1
      rw [if_pos ‹_›] at h2
      injection h2 with h2; subst h2
      exact ⟨none, 0, rfl, World.ownsRow_nil _ _ _ _⟩
    · cases h1
  · intro i j u v _ h1 h2 g hg
    rw [List.getElem?_replicate] at h1
    split at h1
    · injection h1 with h1; subst h1
      simp [Value.ownBlock] at hg
    · cases h1
theorem OwnRaces.nil (w : World) (base eo ei : Nat) : OwnRaces w base eo ei none 0 0 [] [] :=
  ⟨World.ownsRow_nil _ _ _ _, rfl, fun k v xs h => by simp at h, fun i j u v _ h => by simp at h⟩
theorem OwnRaces.empty (w : World) (base eo ei : Nat) (hb : base ≤ w.heap.size) : OwnRaces (w.alloc (.cells #[] eo)) base eo ei (some ⟨w.heap.size, 0, none⟩) 0 0 [] [] :=
  ⟨own_empty w base eo hb, rfl, fun k v xs h => by simp at h, fun i j u v _ h => by simp at h⟩
/-- A row is appended. -/
theorem OwnRaces.append {w1 : World} {A1 : Option Addr} {c1 : Nat} (h : OwnRaces w base eo ei A n c vs rows) (hne : eo ≠ ei) {A' : Option Addr} {c' : Nat} {ys : List FinishT}
    (hy : w.ownsRow base ei 3 (.slice A' ys.length c') ys.length (fins ys)) (hap : ∀ u ∈ vs, ∀ b, (Value.slice A' ys.length c').ownBlock = some b → u.ownBlock ≠ some b)
    (o : Obj) (hg : (w.alloc o).grownBy w1 (Value.slice A n c).ownBlock) (ho : w1.ownsRow base eo 1 (.slice A1 (n + 1) c1) (n + 1) (vs ++ [.slice A' ys.length c'])) :
    OwnRaces w1 base eo ei A1 (n + 1) c1 (vs ++ [.slice A' ys.length c']) (rows ++ [ys]) := by
  have keep : ∀ (u : Value) (m : Nat) (zs : List Value), w.ownsRow base ei 3 u m zs → w1.ownsRow base ei 3 u m zs := by
    intro u m zs hu
    refine (hu.alloc o).kept hg ?_
    rcases hb : u.ownBlock with _ | b
    · exact .inl rfl
    · exact .inr (fun he => own_type_ne h.outer hu hne b he.symm hb)
  refine ⟨ho, by simp [h.len], ?_, ?_⟩
  · intro i u zs h1 h2
    by_cases hi : i < n
    · rw [List.getElem?_append_left (by rw [h.vlen]; exact hi)] at h1
      rw [List.getElem?_append_left (by rw [h.len]; exact hi)] at h2
      obtain ⟨A'', c'', e, hr⟩ := h.row i u zs h1 h2
      exact ⟨A'', c'', e, keep _ _ _ hr⟩
    · rw [List.getElem?_append_right (by rw [h.vlen]; omega), h.vlen] at h1
      rw [List.getElem?_append_right (by rw [h.len]; omega), h.len] at h2
      have h0 : i - n = 0 := by
        rcases Nat.eq_zero_or_pos (i - n) with h | h
        · exact h
        · rw [List.getElem?_eq_none (by simp; omega)] at h1; cases h1
      rw [h0] at h1 h2
      simp at h1 h2
      subst h1; subst h2
      exact ⟨A', c', rfl, keep _ _ _ hy⟩
  · intro i j u v hij h1 h2 b hb
    have split : ∀ (q : Nat) (x : Value), (vs ++ [Value.slice A' ys.length c'])[q]? = some x → (q < n ∧ vs[q]? = some x) ∨ (q = n ∧ x = .slice A' ys.length c') := by
      intro q x hx
      by_cases hq : q < n
      · rw [List.getElem?_append_left (by rw [h.vlen]; exact hq)] at hx; exact .inl ⟨hq, hx⟩
      · rw [List.getElem?_append_right (by rw [h.vlen]; omega), h.vlen] at hx
        have h0 : q - n = 0 := by
          rcases Nat.eq_zero_or_pos (q - n) with h | h
          · exact h
          · rw [List.getElem?_eq_none (by simp; omega)] at hx; cases hx
        rw [h0] at hx
        simp at hx
        exact .inr ⟨by omega, hx.symm⟩
    rcases split i u h1 with ⟨hi, hu⟩ | ⟨hi, rfl⟩ <;> rcases split j v h2 with ⟨hj, hv⟩ | ⟨hj, rfl⟩
    · exact h.apart i j u v hij hu hv b hb
    · exact fun hb' => hap u (List.mem_of_getElem? hu) b hb' hb
    · exact hap v (List.mem_of_getElem? hv) b hb
    · omega
end
end Go.Proofs.Ytdldcjnidajmpaa

/- Walks: the laws' helpers on slices of races and on series: compare, mark, held. -/
namespace Go.Proofs.Ytdldcjnidajmpaa
open Go.RowKit
set_option linter.unusedVariables false
set_option maxRecDepth 100000

theorem mixr_set {α : Type} (ys xs : List α) (j : Nat) (y : α) (hl : ys.length = xs.length) (hy : ys[j]? = some y) : (ys.take j ++ xs.drop j).set j y = ys.take (j + 1) ++ xs.drop (j + 1) := by
  have hj : j < ys.length := (List.getElem?_eq_some_iff.1 hy).1
  have hj' : j < xs.length := by omega
  rw [List.set_append, if_neg (by simp; omega), take_snoc_get hy, List.drop_eq_getElem_cons hj']
  have e : j - (ys.take j).length = 0 := by simp; omega
  rw [e, List.set_cons_zero, List.append_assoc]
  rfl
theorem mixr_get {α : Type} (ys xs : List α) (j : Nat) (hl : ys.length = xs.length) (hj : j < xs.length) : (ys.take j ++ xs.drop j)[j]? = xs[j]? := by
  rw [List.getElem?_append_right (by simp; omega)]
  have e : j - (ys.take j).length = 0 := by simp; omega
  rw [e, List.getElem?_drop]; simp
/-- All numbers of all races. -/
def raceSum : List (List FinishT) → Nat
  | [] => 0
  | x :: r => 3 * x.length + raceSum r
theorem raceSum_take_le (rows : List (List FinishT)) (j : Nat) : raceSum (rows.take j) ≤ raceSum rows := by
  induction rows generalizing j with
  | nil => simp
  | cons x r ih =>
    cases j with
    | zero => simp [raceSum]
    | succ j => simp only [List.take_succ_cons, raceSum]; have := ih j; omega
theorem raceSum_snoc (rows : List (List FinishT)) (x : List FinishT) : raceSum (rows ++ [x]) = raceSum rows + 3 * x.length := by
  induction rows with
  | nil => simp [raceSum]
  | cons y r ih => simp only [List.cons_append, raceSum, ih]; omega
def seqRaces (k : Int) : List (List FinishT) → List (List FinishT)
  | [] => []
  | x :: r => seqfin k x.length :: seqRaces (k + 3 * x.length) r
theorem seqRaces_length (k : Int) (rows : List (List FinishT)) : (seqRaces k rows).length = rows.length := by
  induction rows generalizing k with
  | nil => rfl
  | cons x r ih => simp [seqRaces, ih]
theorem seqRaces_get (k : Int) (rows : List (List FinishT)) (j : Nat) (x : List FinishT) (h : rows[j]? = some x) : (seqRaces k rows)[j]? = some (seqfin (k + raceSum (rows.take j)) x.length) := by
  induction rows generalizing k j with
  | nil => simp at h
  | cons y r ih =>
    cases j with
    | zero => simp at h; subst h; simp [seqRaces, raceSum]
    | succ j =>
      simp only [seqRaces, List.getElem?_cons_succ, List.take_succ_cons, raceSum]
      rw [ih _ _ (by simpa using h)]
      congr 2
      omega
/-- Equal races compare as equal. -/
theorem eqRaceS_same (A A' : Option Addr) (n c n' c' : Nat) (xs : List (List FinishT)) (w : World) (h : RdRaces w A n xs) (h' : RdRaces w A' n' xs) :
    Calls Try.prog 110 #[.slice A n c, .slice A' n' c'] w fun e w' => e = .returned (.bool true) ∧ Below w.heap.size w w' := by
  obtain rfl : n = n' := h.len.symm.trans h'.len
  have hm := h.le
  have H := Lib.hid (fun w' (hb : Below w.heap.size w w') => h.below hb)
  have H' := Lib.hid (fun w' (hb : Below w.heap.size w w') => h'.below hb)
  clear h h'
  go_enter Try.func110, Try.ntmps110
  go_wp2_with fail
  go_loopw [5] (fun i wr => ∃ k : Nat, k ≤ n ∧ i = .int .i64 k ∧ Hid (Below w.heap.size w wr)) (fun i _ => n - (intOf i).toNat)
  case atStart => exact ⟨0, Nat.zero_le _, rfl, Lib.hid (Below.refl _ _)⟩
  case round =>
    obtain ⟨k, hk, rfl, HB⟩ := hrel
    by_cases hlt : k < n
    · obtain ⟨b, o, B, cB, x, rfl, hx, _, hc, hrd⟩ := (H.out _ HB.out).row hlt
      obtain ⟨b', o', B', cB', x', rfl, hx', _, hc', hrd'⟩ := (H'.out _ HB.out).row hlt
      obtain rfl : x = x' := by rw [hx] at hx'; injection hx'
      have HQ := Lib.hid (fun w' (hb : Below wr.heap.size wr w') => eqRace_any B x.length cB B' x.length cB' x w' (hrd.below hb) (hrd'.below hb))
      clear hx hx' hrd hrd'
      go_wp2_with fail
      go_still_tail 8, (by kernel_rfl)
      go_wp2_with fail
      refine (HQ.out _ (below_drewN' _ wr 1)).mono ?_
      rintro e w2 ⟨rfl, hb2⟩
      have HB2 := Lib.hid ((HB.out.trans ((below_drewN' wr.heap.size wr 1).mono HB.out.size)).trans (hb2.mono HB.out.size))
      clear hb2 HB hc hc'
      go_wp2_with fail
      go_roundw
      case rel => exact ⟨k + 1, by omega, by go_num, HB2⟩
      case measure => simp [intOf] <;> omega
    · obtain rfl : k = n := by omega
      go_wp2_with fail
      go_ret
      exact ⟨rfl, HB.out⟩
theorem markRaceS_any (base lo hi : Nat) (A : Option Addr) (n c : Nat) (vs : List Value) (rows : List (List FinishT)) (k : Int) (w : World) (h : OwnRaces w base 31 88 A n c vs rows) (hv : RowsIn lo hi A n c vs)
    (hk0 : 0 ≤ k) (hk1 : k ≤ 549755813888) (hs : raceSum rows ≤ 1048576) :
    Calls Try.prog 111 #[.slice A n c, .int .i64 k] w fun e' w' => e' = .returned (.int .i64 (k + raceSum rows)) ∧ OwnRaces w' base 31 88 A n c vs (seqRaces k rows) ∧ Chg lo hi w w' := by
  have HN := Lib.hid h.len
  have hnle := h.nle
  have HV := Lib.hid hv; clear hv
  go_enter Try.func111, Try.ntmps111
  go_wp2
  go_loopw [1, 5] (fun t i wr => ∃ j : Nat, j ≤ n ∧ i = .int .i64 j ∧ t = .int .i64 (k + (raceSum (rows.take j) : Nat)) ∧ OwnRaces wr base 31 88 A n c vs ((seqRaces k rows).take j ++ rows.drop j) ∧ Chg lo hi w wr) (fun _ i _ => n - (intOf i).toNat)
  case atStart => exact ⟨0, Nat.zero_le _, rfl, by simp [raceSum], by simpa using h, Chg.refl _ _ _⟩
  case round =>
    obtain ⟨j, hj, rfl, rfl, ho, hg⟩ := hrel
    clear h
    by_cases hlt : j < n
    · obtain ⟨v, A', c', x, hv1, hx1, hd1, he, hox⟩ := ho.get hlt
      obtain ⟨g, u, hA, _, _, hu, hcy, _⟩ := own_at ho.outer hlt
      obtain rfl : v = u := by rw [hv1] at hu; injection hu
      have hxr : rows[j]? = some x := by rw [← mixr_get (seqRaces k rows) rows j (seqRaces_length _ _) (by rw [HN.out]; exact hlt)]; exact hx1
      have hvin := HV.out.2 v (List.mem_of_getElem? hv1)
      have hst := raceSum_take_le rows j
      have hst1 : raceSum (rows.take j) + 3 * x.length ≤ raceSum rows := by rw [← raceSum_snoc, ← take_snoc_get hxr]; exact raceSum_take_le _ _
      subst hA
      subst he
      have HX := Lib.hid hxr; have HV1 := Lib.hid hv1; have HX1 := Lib.hid hx1; have HVIN := Lib.hid hvin
      clear hu hxr hv1 hx1 hd1 hvin
      go_wp2_with fail
      refine (markFinishS_seq _ _ _ _ _ _ _ _ hox (by omega) (by omega) (by omega)).mono ?_
      rintro e w1 ⟨rfl, ho1, hg1⟩
      have ho2 := ho.upd (by decide) HV1.out HX1.out (seqfin_len (k + (raceSum (rows.take j) : Nat)) x.length) hg1 (by rw [seqfin_len]; exact ho1)
      rw [mixr_set _ rows j _ (seqRaces_length _ _) (seqRaces_get k rows j x HX.out)] at ho2
      have hg2 := hg.trans (Chg.of_grown hg1 HVIN.out)
      go_wp2_with fail
      go_roundw
      case rel => exact ⟨j + 1, by omega, by go_num, by rw [take_snoc_get HX.out, raceSum_snoc, Int.natCast_add, Int.natCast_mul, Int.add_assoc]; rfl, ho2, hg2⟩
      case measure => simp [intOf]; omega
    · obtain rfl : j = n := by omega
      go_wp2
      go_ret
      refine ⟨ret_int (by rw [List.take_of_length_le (by rw [HN.out]; omega)]), ?_, hg⟩
      rw [List.take_of_length_le (by rw [seqRaces_length, HN.out]; omega), List.drop_eq_nil_of_le (by rw [HN.out]; omega), List.append_nil] at ho
      exact ho
theorem heldRaceS_any (A : Option Addr) (n c : Nat) (rows : List (List FinishT)) (k : Int) (w : World) (h : RdRaces w A n (seqRaces k rows)) (hk0 : 0 ≤ k) (hk1 : k ≤ 549755813888) (hs : raceSum rows ≤ 1048576) :
    Calls Try.prog 112 #[.slice A n c, .int .i64 k] w fun e w' => e = .returned (.int .i64 (k + raceSum rows)) ∧ w = w' := by
  have HN := Lib.hid ((seqRaces_length k rows).symm.trans h.len)
  have hnle := h.le
  go_enter Try.func112, Try.ntmps112
  go_wp2
  go_loop [1, 5] (fun t i => ∃ j : Nat, j ≤ n ∧ i = .int .i64 j ∧ t = .int .i64 (k + (raceSum (rows.take j) : Nat))) (fun _ i => n - (intOf i).toNat)
  case atStart => exact ⟨0, Nat.zero_le _, rfl, by simp [raceSum]⟩
  case round =>
    obtain ⟨j, hj, rfl, rfl⟩ := hrel
    by_cases hlt : j < n
    · obtain ⟨b, o, A', c', z, rfl, hz, _, hc, hrd⟩ := h.row hlt
      obtain ⟨x, hx, _⟩ := drop_cons (xs := rows) (k := j) (by rw [HN.out]; exact hlt)
      have hz' := seqRaces_get k rows j x hx
      rw [hz] at hz'
      injection hz' with hz'
      have hst1 : raceSum (rows.take j) + 3 * x.length ≤ raceSum rows := by rw [← raceSum_snoc, ← take_snoc_get hx]; exact raceSum_take_le _ _
      have hzl : z.length = x.length := by rw [hz', seqfin_len]
      rw [hzl] at hrd hc
      rw [hz'] at hrd
      have HX := Lib.hid hx
      clear hz hz' hzl hx
      go_wp2_with fail
      refine (heldFinishS_any _ _ _ _ _ hrd (by omega) (by omega) (by omega)).mono ?_
      rintro e w' ⟨rfl, rfl⟩
      go_wp2_with fail
      go_round
      case rel => exact ⟨j + 1, by omega, by go_num, by rw [take_snoc_get HX.out, raceSum_snoc, Int.natCast_add, Int.natCast_mul, Int.add_assoc]; rfl⟩
      case measure => simp [intOf]; omega
    · obtain rfl : j = n := by omega
      go_wp2
      go_ret
      exact ⟨ret_int (by rw [List.take_of_length_le (by rw [HN.out]; omega)]), rfl⟩
/-! ### Series -/
/-- A new series and a code. -/
def RetSer (w : World) (b s : Int) (rows : List (List FinishT)) (code : Int) (e : Ending) (w' : World) : Prop :=
  ∃ A n c vs, e = .returned (.tuple #[.agg #[.int .i64 b, .int .i64 s, .slice A n c], .int .i64 code]) ∧ OwnRaces w' w.heap.size 31 88 A n c vs rows ∧ raceSum rows ≤ 1048576 ∧ Below w.heap.size w w'
/-- A new series. -/
def RetSer1 (w : World) (b s : Int) (rows : List (List FinishT)) (e : Ending) (w' : World) : Prop :=
  ∃ A n c vs, e = .returned (.agg #[.int .i64 b, .int .i64 s, .slice A n c]) ∧ OwnRaces w' w.heap.size 31 88 A n c vs rows ∧ raceSum rows ≤ 1048576 ∧ Below w.heap.size w w'
theorem eqSeries_any (b s : Int) (A : Option Addr) (n c : Nat) (A' : Option Addr) (n' c' : Nat) (xs : List (List FinishT)) (w : World) (h : RdRaces w A n xs) (h' : RdRaces w A' n' xs) :
    Calls Try.prog 52 #[.agg #[.int .i64 b, .int .i64 s, .slice A n c], .agg #[.int .i64 b, .int .i64 s, .slice A' n' c']] w fun e w' => e = .returned (.bool true) ∧ Below w.heap.size w w' := by
  have HC := Lib.hid (fun w' (hb : Below w.heap.size w w') => eqRaceS_same A A' n c n' c' xs w' (h.below hb) (h'.below hb))
  clear h h'
  obtain ⟨w1, hw1, X0, X1, hb1, hs1⟩ := two_boxes w #[.int .i64 b, .int .i64 s, .slice A n c] #[.int .i64 b, .int .i64 s, .slice A' n' c'] 73 73
  go_enter Try.func52, Try.ntmps52
  go_wp2_with fail
  rw [← hw1]
  clear hw1
  refine (HC.out _ hb1).mono ?_
  rintro e w2 ⟨rfl, hb2⟩
  have HB2 := Lib.hid (hb1.trans (hb2.mono hb1.size))
  clear hb2 X0 X1
  go_wp2_with fail
  go_ret
  exact ⟨rfl, HB2.out⟩
theorem markSeries_any (base lo hi : Nat) (b s : Int) (A : Option Addr) (n c : Nat) (vs : List Value) (rows : List (List FinishT)) (k : Int) (w : World) (h : OwnRaces w base 31 88 A n c vs rows) (hv : RowsIn lo hi A n c vs)
    (hk0 : 0 ≤ k) (hk1 : k ≤ 549755813888) (hs : raceSum rows ≤ 1048576) :
    Calls Try.prog 53 #[.agg #[.int .i64 b, .int .i64 s, .slice A n c], .int .i64 k] w fun e' w' => e' = .returned (.int .i64 (k + raceSum rows)) ∧ OwnRaces w' base 31 88 A n c vs (seqRaces k rows) ∧ Chg lo hi w w' := by
  obtain ⟨w1, hw1, X0, hb1, hs1⟩ := one_box w #[.int .i64 b, .int .i64 s, .slice A n c] 73
  have HC := Lib.hid (markRaceS_any base lo hi A n c vs rows k w1 (h.below hb1) hv hk0 hk1 hs)
  clear h hv
  go_enter Try.func53, Try.ntmps53
  go_wp2_with fail
  rw [← hw1]
  clear hw1
  refine HC.out.mono ?_
  rintro e w2 ⟨rfl, ho2, hc2⟩
  have HC2 := Lib.hid ((Chg.of_below (lo := lo) (hi := hi) hb1).trans hc2)
  have HO2 := Lib.hid ho2
  clear hc2 ho2
  go_wp2_with fail
  go_ret
  exact ⟨rfl, HO2.out, HC2.out⟩
theorem heldSeries_any (b s : Int) (A : Option Addr) (n c : Nat) (rows : List (List FinishT)) (k : Int) (w : World) (h : RdRaces w A n (seqRaces k rows)) (hk0 : 0 ≤ k) (hk1 : k ≤ 549755813888) (hs : raceSum rows ≤ 1048576) :
    Calls Try.prog 54 #[.agg #[.int .i64 b, .int .i64 s, .slice A n c], .int .i64 k] w fun e' w' => e' = .returned (.int .i64 (k + raceSum rows)) ∧ Below w.heap.size w w' := by
  obtain ⟨w1, hw1, X0, hb1, hs1⟩ := one_box w #[.int .i64 b, .int .i64 s, .slice A n c] 73
  have HC := Lib.hid (heldRaceS_any A n c rows k w1 (h.below hb1) hk0 hk1 hs)
  have HB1 := Lib.hid hb1
  clear h hb1
  go_enter Try.func54, Try.ntmps54
  go_wp2_with fail
  rw [← hw1]
  clear hw1
  refine HC.out.mono ?_
  rintro e w2 ⟨rfl, rfl⟩
  go_wp2_with fail
  go_ret
  exact ⟨rfl, HB1.out⟩
end Go.Proofs.Ytdldcjnidajmpaa

/- One byte before the code: append([]byte{k}, code...). -/
namespace Go.Proofs.Ytdldcjnidajmpaa
open Go.RowKit Go.Lib
set_option linter.unusedVariables false
set_option maxRecDepth 100000

theorem Try.info_byte : (Try.prog.info? 5).map (fun i => (i.zero, i.size, i.bytes)) = some (some (.int .u8 0), 1, 1) := by kernel_rfl
theorem u8s_one (ys : List Int) : ∀ u ∈ u8s ys, u.oneCell' = true := by
  intro u hu
  unfold u8s at hu
  obtain ⟨y, _, rfl⟩ := List.mem_map.1 hu
  rfl
theorem u8s_news {w : World} {b o m : Nat} {ys : List Int} (h : Rd w 1 (some ⟨b, o, none⟩) m (u8s ys)) : ∀ (j : Nat) (u : Value), (u8s ys)[j]? = some u → w.cell? ((⟨b, o, none⟩ : Addr).add j) = some u := by
  intro j u hu
  have hl := h.len
  have hj := (List.getElem?_eq_some_iff.1 hu).1
  obtain ⟨b', o', e, hc⟩ := h.pos (by omega)
  injection e with e
  injection e with e1 e2
  subst e1 e2
  have hadd : (⟨b, o, none⟩ : Addr).add j = ⟨b, o + j, none⟩ := by unfold Addr.add; split <;> simp_all
  rw [hadd]
  exact hc j u hu
theorem run_append_zeroB (w : World) (ty : TypeId) (A : Option Addr) (n c : Nat) (hnc : n ≤ c) (B : Option Addr) (d : Nat) :
    (Builtin.append_ #[39, 39] ty #[.slice A n c, .slice B 0 d]).run Try.prog w = .ok (.slice A n c) w := by
  obtain ⟨i, hi, hz, hs1, hb1⟩ := info_parts Try.info_byte
  cases A <;> cases B <;>
    simp [Builtin.append_, run_underlying Try.underlying39, sizeOf, typeInfo, hi, Builtin.lenOf, Builtin.firstCells, loadCells, loadCellsFrom, storeCells, hnc]
theorem run_code (w : World) (ty : TypeId) {base g0 : Nat} {k : Int} (hown : w.ownsRow base 5 1 (.slice (some ⟨g0, 0, none⟩) 1 1) 1 (u8s [k])) {A : Option Addr} {n d : Nat} {code : List Int}
    (hr : Rd w 1 A n (u8s code)) (hn : n ≤ 8192) (hbase : base ≤ w.heap.size) :
    ∃ A' c' w', (Builtin.append_ #[39, 39] ty #[.slice (some ⟨g0, 0, none⟩) 1 1, .slice A n d]).run Try.prog w = .ok (.slice A' (1 + n) c') w' ∧ w'.ownsRow base 5 1 (.slice A' (1 + n) c') (1 + n) (u8s (k :: code)) ∧ w.grownBy w' (some g0) := by
  have hl : (u8s code).length = n := by have := hr.len; omega
  rcases Nat.eq_zero_or_pos n with h0 | h0
  · subst h0
    have hy : code = [] := by
      have : code.length = 0 := by rwa [u8s_length] at hl
      exact List.eq_nil_of_length_eq_zero this
    subst hy
    exact ⟨_, 1, w, run_append_zeroB w ty _ 1 1 (Nat.le_refl _) A d, hown, World.grownBy.refl _ _⟩
  · obtain ⟨b, f, rfl, _⟩ := hr.pos (by omega)
    obtain ⟨i, hi, hz, hs1, hb1⟩ := info_parts Try.info_byte
    obtain ⟨v', w', h1, h2, h3, _, _⟩ := run_append_own_at (P := Try.prog) w base 39 ty 5 i (.int .u8 0) 1 1 Try.underlying39 hi hz hs1 hb1 rfl (by decide) (.slice (some ⟨g0, 0, none⟩) 1 1) 1 (u8s [k]) hown ⟨b, f, none⟩ n d (u8s code) (by rw [hl]; omega) (u8s_news hr) (u8s_one code) (by unfold maxLen; omega) (by omega) hbase
    have e : u8s [k] ++ u8s code = u8s (k :: code) := rfl
    rw [e] at h2
    rcases h2.2 with ⟨hv, hm⟩ | ⟨g', c', cur, hv, _⟩
    · omega
    · subst hv
      exact ⟨_, c', w', h1, h2, h3⟩
section
variable {ops : Array Oper} {rest : List Oper} {o : Oper} {a : Act} {Q : Exit → Act → World → Prop}
theorem wpl_code (w : World) (hgd : o.guard = none) (s x : Operand)
    (ho : o.op = .call { callee := .builtin .append, args := #[s, x], argTypes := #[39, 39] }) {base g0 : Nat} {k : Int}
    (hs : a.eval s = .slice (some ⟨g0, 0, none⟩) 1 1) (hown : w.ownsRow base 5 1 (.slice (some ⟨g0, 0, none⟩) 1 1) 1 (u8s [k])) {A : Option Addr} {n d : Nat} {code : List Int} (hx : a.eval x = .slice A n d)
    (hr : Rd w 1 A n (u8s code)) (hn : n ≤ 8192) (hbase : base ≤ w.heap.size)
    (h : ∀ A' c' w', w'.ownsRow base 5 1 (.slice A' (1 + n) c') (1 + n) (u8s (k :: code)) → w.grownBy w' (some g0) → wpList Try.prog ops Q rest (a.put o.dst (.slice A' (1 + n) c')) w') :
    wpList Try.prog ops Q (o :: rest) a w := by
  obtain ⟨A', c', w', h1, h2, h3⟩ := run_code w o.type hown hr (d := d) hn hbase
  exact Lib.wpList_append_run w hgd s x _ _ ho _ _ hs hx _ w' h1 (h A' c' w' h2 h3)
end
/-- The longer code reads as a code. -/
theorem code_more {w : World} {base c : Nat} {A' : Option Addr} {n : Nat} {k : Int} {code : List Int} (h : w.ownsRow base 5 1 (.slice A' (1 + n) c) (1 + n) (u8s (k :: code))) (hn : n ≤ 8190) (hk : 0 ≤ k ∧ k ≤ 255) (hb : ∀ c ∈ code, 0 ≤ c ∧ c ≤ 255) : Code0 w A' (1 + n) (k :: code) :=
  ⟨own_rd h, by omega, fun c hc => by rcases List.mem_cons.1 hc with rfl | hc; exact hk; exact hb c hc⟩
end Go.Proofs.Ytdldcjnidajmpaa

/- The code of a drawn law, as it came in. -/
namespace Go.Proofs.Ytdldcjnidajmpaa
open Go.RowKit
set_option linter.unusedVariables false

theorem IsRow.u8 {w : World} {a : Option Addr} {len cap : Nat} {zs : List Int} (h : IsRow .u8 w a len cap zs) : Rd w 1 a len (u8s (zs.take len)) ∧ ∀ c ∈ zs.take len, 0 ≤ c ∧ c ≤ 255 := by
  rcases h with ⟨rfl, rfl, rfl, rfl⟩ | ⟨x, rfl, h1, h2, h3, h4, h5⟩
  · exact ⟨⟨rfl, by omega, fun h => by omega⟩, fun c hc => by simp at hc⟩
  · unfold maxLen at h2
    refine ⟨⟨by simp [u8s]; omega, by omega, fun hn => ?_⟩, ?_⟩
    · have h0 := h4 0 (by omega)
      have hadd0 : x.add 0 = x := by simp [Addr.add]
      rw [hadd0] at h0
      obtain ⟨b, o, sp⟩ := x
      obtain rfl : sp = none := spot_none h0
      refine ⟨b, o, rfl, fun i u hu => ?_⟩
      have hlen : i < (u8s (zs.take len)).length := by
        rcases Nat.lt_or_ge i (u8s (zs.take len)).length with h | h
        · exact h
        · rw [List.getElem?_eq_none h] at hu; cases hu
      have hi : i < len := by simp [u8s] at hlen; omega
      have hc := h4 i (by omega)
      have hadd : (⟨b, o, none⟩ : Addr).add i = ⟨b, o + i, none⟩ := by unfold Addr.add; split <;> simp_all
      rw [hadd] at hc
      rw [hc, ← hu]
      simp [u8s, hi, List.getElem?_eq_getElem (show i < zs.length by omega)]
    · intro c hc
      have hw := h5 c (List.mem_of_mem_take hc)
      simp [Lit.wf, IntKind.min, IntKind.max, IntKind.signed, IntKind.bits] at hw
      omega
theorem code0_of {w : World} {a : Option Addr} {len cap : Nat} {zs : List Int} (h : IsRow .u8 w a len cap zs) (hl : len ≤ 4096) : Code0 w a len (zs.take len) := ⟨h.u8.1, by omega, h.u8.2⟩
theorem IsRow.addr {k : IntKind} {w : World} {a : Option Addr} {len cap : Nat} {zs : List Int} (h : IsRow k w a len cap zs) : (a = none ∧ len = 0 ∧ cap = 0) ∨ ∃ ad, a = some ad := by
  rcases h with ⟨rfl, rfl, rfl, rfl⟩ | ⟨x, rfl, _⟩
  · exact .inl ⟨rfl, rfl, rfl⟩
  · exact .inr ⟨x, rfl⟩
theorem IsRow.lenle {k : IntKind} {w : World} {a : Option Addr} {len cap : Nat} {zs : List Int} (h : IsRow k w a len cap zs) : len ≤ 9223372036854775807 := by
  rcases h with ⟨rfl, rfl, rfl, rfl⟩ | ⟨x, rfl, h1, h2, _⟩
  · omega
  · unfold maxLen at h2; omega
theorem big_any (A : Option Addr) (n c : Nat) (hn : n ≤ 9223372036854775807) (w : World) :
    Calls Try.prog 25 #[.slice A n c] w fun e w' => e = .returned (.bool (decide (4096 < n))) ∧ w = w' := by
  go_enter Try.func25, Try.ntmps25
  go_wp2_with fail
  go_ret
  refine ⟨?_, rfl⟩
  refine ret_bool ?_
  rw [Bool.eq_iff_iff]
  simp only [decide_eq_true_eq]
  omega
end Go.Proofs.Ytdldcjnidajmpaa

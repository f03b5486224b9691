/- Plain: entries, registers, histories. -/
import Derived.Test.YtdldcjnidajmpaaEs
import Derived.Test.YtdldcjnidajmpaaFq
namespace Go.Proofs.Ytdldcjnidajmpaa
open Go.RowKit
set_option linter.unusedVariables false

def isRedB (kind points : Int) : Bool := if kind = 3 then withinB points 0 10000 else withinB kind 1 2 && (points == 0)
namespace E
abbrev race (x : EntryT) : Int := x.1
abbrev boat (x : EntryT) : Int := x.2.1
abbrev rev (x : EntryT) : Int := x.2.2.1
abbrev code (x : EntryT) : Int := x.2.2.2.1
abbrev time (x : EntryT) : Int := x.2.2.2.2.1
abbrev kind (x : EntryT) : Int := x.2.2.2.2.2.1
abbrev points (x : EntryT) : Int := x.2.2.2.2.2.2
end E
/-- An entry is valid but for its revision. -/
def entB (b : Int) (x : EntryT) : Bool := withinB (E.race x) 0 11 && withinB (E.boat x) 0 (b - 1) && finB (E.boat x, E.code x, E.time x) && (if E.kind x = 0 then (E.points x == 0) else (E.code x == 9) && isRedB (E.kind x) (E.points x))
def revB (n : Int) : Bool := withinB n 1 1000
def sameB (x y : EntryT) : Bool := E.race x == E.race y && E.boat x == E.boat y && E.rev x == E.rev y
def hasB (xs : List EntryT) (x : EntryT) : Bool := xs.any fun y => sameB y x
/-- All valid, none with the key of an earlier one. -/
def entsGo (b : Int) : List EntryT → List EntryT → Bool
  | _, [] => true
  | seen, x :: r => entB b x && revB (E.rev x) && !hasB seen x && entsGo b (seen ++ [x]) r
def regB (b s : Int) (xs : List EntryT) : Bool := withinB b 1 16 && withinB s 0 1 && decide (xs.length ≤ 400) && entsGo b [] xs
/-- What a valid register is. -/
structure RegOk (b s : Int) (xs : List EntryT) : Prop where
  b1 : 1 ≤ b
  b2 : b ≤ 16
  s0 : 0 ≤ s
  s1 : s ≤ 1
  len : xs.length ≤ 400
  ent : ∀ x ∈ xs, entB b x = true ∧ 1 ≤ E.rev x ∧ E.rev x ≤ 1000
  key : xs.Pairwise fun x y => sameB x y = false
theorem sameB_iff {x y : EntryT} : sameB x y = true ↔ E.race x = E.race y ∧ E.boat x = E.boat y ∧ E.rev x = E.rev y := by
  unfold sameB
  simp [and_assoc]
theorem entsGo_iff (b : Int) : ∀ (xs seen : List EntryT), entsGo b seen xs = true ↔ (∀ x ∈ xs, entB b x = true ∧ revB (E.rev x) = true) ∧ (∀ x ∈ xs, ∀ y ∈ seen, sameB y x = false) ∧ xs.Pairwise fun x y => sameB x y = false := by
  intro xs
  induction xs with
  | nil => intro seen; simp [entsGo]
  | cons x r ih =>
    intro seen
    rw [entsGo, Bool.and_eq_true, ih, List.pairwise_cons]
    have hh : (!hasB seen x) = true ↔ ∀ y ∈ seen, sameB y x = false := by
      unfold hasB
      simp [List.any_eq_false]
    simp only [Bool.and_eq_true, hh, List.mem_append, List.mem_cons, List.not_mem_nil, or_false]
    constructor
    · rintro ⟨⟨⟨h1, h2⟩, h3⟩, h4, h5, h6⟩
      refine ⟨fun y hy => ?_, fun y hy z hz => ?_, fun y hy => h5 y hy x (.inr rfl), h6⟩
      · rcases hy with rfl | hy
        · exact ⟨h1, h2⟩
        · exact h4 y hy
      · rcases hy with rfl | hy
        · exact h3 z hz
        · exact h5 y hy z (.inl hz)
    · rintro ⟨h1, h2, h3, h4⟩
      refine ⟨⟨h1 x (.inl rfl), h2 x (.inl rfl)⟩, fun y hy => h1 y (.inr hy), fun y hy z hz => ?_, h4⟩
      rcases hz with hz | rfl
      · exact h2 y (.inr hy) z hz
      · exact h3 y hy
theorem regB_ok {b s : Int} {xs : List EntryT} (h : regB b s xs = true) : RegOk b s xs := by
  unfold regB at h
  simp only [Bool.and_eq_true, decide_eq_true_eq] at h
  obtain ⟨⟨⟨h1, h2⟩, h3⟩, h4⟩ := h
  have hb := withinB_iff.1 h1
  have hs := withinB_iff.1 h2
  obtain ⟨a, _, c⟩ := (entsGo_iff b xs []).1 h4
  exact ⟨hb.1, hb.2, hs.1, hs.2, h3, fun x hx => ⟨(a x hx).1, withinB_iff.1 (a x hx).2⟩, c⟩
theorem RegOk.regB {b s : Int} {xs : List EntryT} (h : RegOk b s xs) : regB b s xs = true := by
  unfold Go.Proofs.Ytdldcjnidajmpaa.regB
  rw [withinB_iff.2 ⟨h.b1, h.b2⟩, withinB_iff.2 ⟨h.s0, h.s1⟩, decide_eq_true h.len, (entsGo_iff b xs []).2 ⟨fun x hx => ⟨(h.ent x hx).1, withinB_iff.2 (h.ent x hx).2⟩, fun x hx y hy => (by cases hy), h.key⟩]
  rfl

/-! ### Histories -/
/-- x is put behind the last entry with a revision that is not greater. -/
def putE (x : EntryT) : List EntryT → List EntryT
  | [] => [x]
  | y :: r => if (y :: r).all (fun z => decide (E.rev x < E.rev z)) = true then x :: y :: r else y :: putE x r
def ofKey (race boat : Int) (xs : List EntryT) : List EntryT := xs.filter fun x => E.race x == race && E.boat x == boat
/-- The sorted list with the same entries. -/
def histF (xs : List EntryT) (race boat : Int) : List EntryT := (ofKey race boat xs).mergeSort fun x y => decide (E.rev x ≤ E.rev y)
/-- Two sorted lists with the same elements are one, if no two elements have one revision. -/
theorem sorted_uniq {xs ys : List EntryT} (hp : xs.Perm ys) (h1 : xs.Pairwise fun x y => E.rev x < E.rev y) (h2 : ys.Pairwise fun x y => E.rev x < E.rev y) : xs = ys :=
  hp.eq_of_pairwise (fun a b _ _ h h' => by omega) h1 h2
end Go.Proofs.Ytdldcjnidajmpaa

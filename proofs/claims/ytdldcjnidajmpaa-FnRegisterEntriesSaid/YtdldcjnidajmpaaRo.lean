/- Plain: a sorted list of entries shows whether two of them have one key. -/
import Derived.Test.YtdldcjnidajmpaaEc
import Derived.Test.YtdldcjnidajmpaaCf
namespace Go.Proofs.Ytdldcjnidajmpaa
open Go.RowKit
set_option linter.unusedVariables false

theorem sameB_symm {x y : EntryT} (h : sameB x y = false) : sameB y x = false := by
  cases hs : sameB y x with
  | false => rfl
  | true =>
    have := sameB_iff.1 hs
    rw [sameB_iff.2 ⟨this.1.symm, this.2.1.symm, this.2.2.symm⟩] at h
    exact h
theorem adj_sorted : ∀ (ys : List EntryT), (ys.Pairwise fun x y => keyE x ≤ keyE y) → (∀ x ∈ ys, okE x) → (adjGo ys = false ↔ ys.Pairwise fun x y => sameB x y = false) := by
  intro ys
  induction ys with
  | nil => intro _ _; simp [adjGo]
  | cons x r ih =>
    intro hs hok
    match r, ih, hs, hok with
    | [], _, _, _ => simp [adjGo]
    | y :: r, ih, hs, hok =>
      have hs2 := (List.pairwise_cons.1 hs).2
      have hi := ih hs2 (fun z hz => hok z (.tail _ hz))
      rw [adjGo, Bool.or_eq_false_iff, hi, List.pairwise_cons (a := x)]
      constructor
      · rintro ⟨h1, h2⟩
        refine ⟨fun z hz => ?_, h2⟩
        rcases List.mem_cons.1 hz with rfl | hz
        · exact sameB_symm h1
        · have hxy := (List.pairwise_cons.1 hs).1 y (.head _)
          have hyz := (List.pairwise_cons.1 hs2).1 z hz
          cases hq : sameB x z with
          | false => rfl
          | true =>
            have hk := (key_same (hok x (.head _)) (hok z (.tail _ (.tail _ hz)))).2 hq
            have hk2 : keyE y = keyE x := by omega
            rw [(key_same (hok y (.tail _ (.head _))) (hok x (.head _))).1 hk2] at h1
            exact h1
      · rintro ⟨h1, h2⟩
        exact ⟨sameB_symm (h1 y (.head _)), h2⟩
theorem adj_perm {xs ys : List EntryT} (hp : ys.Perm xs) (hs : ys.Pairwise fun x y => keyE x ≤ keyE y) (hok : ∀ x ∈ xs, okE x) : adjGo ys = false ↔ xs.Pairwise fun x y => sameB x y = false :=
  (adj_sorted ys hs (fun x hx => hok x (hp.mem_iff.1 hx))).trans (hp.pairwise_iff (fun h => sameB_symm h))
/-- All entries are valid. -/
def allE (b : Int) (xs : List EntryT) : Bool := xs.all fun x => entB b x && revB (E.rev x)
theorem allE_iff {b : Int} {xs : List EntryT} : allE b xs = true ↔ ∀ x ∈ xs, entB b x = true ∧ revB (E.rev x) = true := by
  unfold allE; simp [List.all_eq_true]
theorem allE_cons (b : Int) (x : EntryT) (xs : List EntryT) : allE b (x :: xs) = ((entB b x && revB (E.rev x)) && allE b xs) := rfl
theorem regB_not_all {b s : Int} {xs : List EntryT} (h : allE b xs = false) : regB b s xs = false := by
  cases hr : regB b s xs with
  | false => rfl
  | true =>
    unfold regB at hr
    simp only [Bool.and_eq_true] at hr
    rw [allE_iff.2 ((entsGo_iff b xs []).1 hr.2).1] at h
    exact h
theorem allE_ok {b : Int} {xs : List EntryT} (hb : b ≤ 16) (h : allE b xs = true) : ∀ x ∈ xs, okE x := fun x hx => by
  obtain ⟨h1, h2⟩ := allE_iff.1 h x hx
  have h3 := withinB_iff.1 h2
  exact entB_okE hb h1 h3.1 h3.2
theorem regB_all {b s : Int} {xs ys : List EntryT} (h1 : withinB b 1 16 = true) (h2 : withinB s 0 1 = true) (h3 : xs.length ≤ 400) (h4 : allE b xs = true) (hp : ys.Perm xs) (hs : ys.Pairwise fun x y => keyE x ≤ keyE y) : regB b s xs = !adjGo ys := by
  have hi := adj_perm hp hs (allE_ok (withinB_iff.1 h1).2 h4)
  unfold regB
  rw [h1, h2, decide_eq_true h3, Bool.true_and, Bool.true_and, Bool.true_and]
  have he := entsGo_iff b xs []
  cases ha : adjGo ys with
  | false => exact he.2 ⟨allE_iff.1 h4, fun x _ y hy => (by cases hy), hi.1 ha⟩
  | true =>
    cases hg : entsGo b [] xs with
    | false => rfl
    | true => rw [hi.2 (he.1 hg).2.2] at ha; exact ha.symm
theorem RegOk.okE {b s : Int} {xs : List EntryT} (h : RegOk b s xs) : ∀ x ∈ xs, okE x := fun x hx => by
  obtain ⟨h1, h2, h3⟩ := h.ent x hx
  exact entB_okE h.b2 h1 h2 h3
end Go.Proofs.Ytdldcjnidajmpaa

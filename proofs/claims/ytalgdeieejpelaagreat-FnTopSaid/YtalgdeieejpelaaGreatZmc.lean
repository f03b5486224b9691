/- General and plain lemmas, and light walks (merged): Ro Rm Te Ys. -/
import Derived.Test.YtalgdeieejpelaaGreatZmb
import Derived.Test.YtalgdeieejpelaaGreatCf
import Derived.Test.YtalgdeieejpelaaGreatTd
import Derived.Test.YtalgdeieejpelaaGreatZmg
/- Plain: a sorted list of entries shows whether two of them have one key. -/
namespace Go.Proofs.YtalgdeieejpelaaGreat
open Go.RowKit
set_option linter.unusedVariables false

theorem sameB_symm {x y : EntryT} (h : sameB x y = false) : sameB y x = false := by
  cases hs : sameB y x with
  | false => rfl
  | true =>
    have := sameB_iff.1 hs
    rw [sameB_iff.2 ⟨this.1.symm, this.2.1.symm, this.2.2.symm⟩] at h
    exact h
theorem adj_sorted : ∀ (ys : List EntryT), (ys.Pairwise fun x y => keyE x ≤ keyE y) → (∀ x ∈ ys, okE x) → (adjGo ys = false ↔ ys.Pairwise fun x y => sameB x y = false) := by
  intro ys
  induction ys with
  | nil => intro _ _; simp [adjGo]
  | cons x r ih =>
    intro hs hok
    match r, ih, hs, hok with
    | [], _, _, _ => simp [adjGo]
    | y :: r, ih, hs, hok =>
      have hs2 := (List.pairwise_cons.1 hs).2
      have hi := ih hs2 (fun z hz => hok z (.tail _ hz))
      rw [adjGo, Bool.or_eq_false_iff, hi, List.pairwise_cons (a := x)]
      constructor
      · rintro ⟨h1, h2⟩
        refine ⟨fun z hz => ?_, h2⟩
        rcases List.mem_cons.1 hz with rfl | hz
        · exact sameB_symm h1
        · have hxy := (List.pairwise_cons.1 hs).1 y (.head _)
          have hyz := (List.pairwise_cons.1 hs2).1 z hz
          cases hq : sameB x z with
          | false => rfl
          | true =>
            have hk := (key_same (hok x (.head _)) (hok z (.tail _ (.tail _ hz)))).2 hq
            have hk2 : keyE y = keyE x := by omega
            rw [(key_same (hok y (.tail _ (.head _))) (hok x (.head _))).1 hk2] at h1
            exact h1
      · rintro ⟨h1, h2⟩
        exact ⟨sameB_symm (h1 y (.head _)), h2⟩
theorem adj_perm {xs ys : List EntryT} (hp : ys.Perm xs) (hs : ys.Pairwise fun x y => keyE x ≤ keyE y) (hok : ∀ x ∈ xs, okE x) : adjGo ys = false ↔ xs.Pairwise fun x y => sameB x y = false :=
  (adj_sorted ys hs (fun x hx => hok x (hp.mem_iff.1 hx))).trans (hp.pairwise_iff (fun h => sameB_symm h))
/-- All entries are valid. -/
def allE (b : Int) (xs : List EntryT) : Bool := xs.all fun x => entB b x && revB (E.rev x)
theorem allE_iff {b : Int} {xs : List EntryT} : allE b xs = true ↔ ∀ x ∈ xs, entB b x = true ∧ revB (E.rev x) = true := by
  unfold allE; simp [List.all_eq_true]
theorem allE_cons (b : Int) (x : EntryT) (xs : List EntryT) : allE b (x :: xs) = ((entB b x && revB (E.rev x)) && allE b xs) := rfl
theorem regB_not_all {b s : Int} {xs : List EntryT} (h : allE b xs = false) : regB b s xs = false := by
  cases hr : regB b s xs with
  | false => rfl
  | true =>
    unfold regB at hr
    simp only [Bool.and_eq_true] at hr
    rw [allE_iff.2 ((entsGo_iff b xs []).1 hr.2).1] at h
    exact h
theorem allE_ok {b : Int} {xs : List EntryT} (hb : b ≤ 16) (h : allE b xs = true) : ∀ x ∈ xs, okE x := fun x hx => by
  obtain ⟨h1, h2⟩ := allE_iff.1 h x hx
  have h3 := withinB_iff.1 h2
  exact entB_okE hb h1 h3.1 h3.2
theorem regB_all {b s : Int} {xs ys : List EntryT} (h1 : withinB b 1 16 = true) (h2 : withinB s 0 1 = true) (h3 : xs.length ≤ 400) (h4 : allE b xs = true) (hp : ys.Perm xs) (hs : ys.Pairwise fun x y => keyE x ≤ keyE y) : regB b s xs = !adjGo ys := by
  have hi := adj_perm hp hs (allE_ok (withinB_iff.1 h1).2 h4)
  unfold regB
  rw [h1, h2, decide_eq_true h3, Bool.true_and, Bool.true_and, Bool.true_and]
  have he := entsGo_iff b xs []
  cases ha : adjGo ys with
  | false => exact he.2 ⟨allE_iff.1 h4, fun x _ y hy => (by cases hy), hi.1 ha⟩
  | true =>
    cases hg : entsGo b [] xs with
    | false => rfl
    | true => rw [hi.2 (he.1 hg).2.2] at ha; exact ha.symm
theorem RegOk.okE {b s : Int} {xs : List EntryT} (h : RegOk b s xs) : ∀ x ∈ xs, okE x := fun x hx => by
  obtain ⟨h1, h2, h3⟩ := h.ent x hx
  exact entB_okE h.b2 h1 h2 h3
end Go.Proofs.YtalgdeieejpelaaGreat

/- Plain: histories of a boat in a race: sorted, by insertion; current entries. -/
namespace Go.Proofs.YtalgdeieejpelaaGreat
open Go.RowKit
set_option linter.unusedVariables false

theorem ofKey_mem {race boat : Int} {xs : List EntryT} {x : EntryT} : x ∈ ofKey race boat xs ↔ x ∈ xs ∧ E.race x = race ∧ E.boat x = boat := by
  unfold ofKey
  simp [List.mem_filter]
theorem ofKey_rev {xs : List EntryT} (h : xs.Pairwise fun x y => sameB x y = false) (race boat : Int) : (ofKey race boat xs).Pairwise fun x y => E.rev x ≠ E.rev y :=
  (List.Pairwise.filter (fun x => E.race x == race && E.boat x == boat) h).imp_of_mem (fun {a b} ha hb hab he => by
    have h1 := (ofKey_mem.1 ha).2
    have h2 := (ofKey_mem.1 hb).2
    rw [sameB_iff.2 ⟨h1.1.trans h2.1.symm, h1.2.trans h2.2.symm, he⟩] at hab
    cases hab)
theorem lt_of {ys : List EntryT} (h1 : ys.Pairwise fun x y => E.rev x ≤ E.rev y) (h2 : ys.Pairwise fun x y => E.rev x ≠ E.rev y) : ys.Pairwise fun x y => E.rev x < E.rev y :=
  (h1.and h2).imp (fun {a b} h => by omega)
theorem hist_sorted {xs : List EntryT} (h : xs.Pairwise fun x y => sameB x y = false) (race boat : Int) : (histF xs race boat).Pairwise fun x y => E.rev x < E.rev y := by
  refine lt_of ?_ ?_
  · have hs := List.pairwise_mergeSort (le := fun x y : EntryT => decide (E.rev x ≤ E.rev y)) (fun a b c h1 h2 => by simp at h1 h2 ⊢; omega) (fun a b => by simp; omega) (ofKey race boat xs)
    exact hs.imp (fun {a b} h => by simpa using h)
  · exact ((List.mergeSort_perm (ofKey race boat xs) _).pairwise_iff (fun {a b} h => h.symm)).2 (ofKey_rev h race boat)
theorem hist_perm (xs : List EntryT) (race boat : Int) : (histF xs race boat).Perm (ofKey race boat xs) := List.mergeSort_perm _ _
theorem hist_uniq {xs ys : List EntryT} {race boat : Int} (h : xs.Pairwise fun x y => sameB x y = false) (hp : ys.Perm (ofKey race boat xs)) (hs : ys.Pairwise fun x y => E.rev x < E.rev y) : ys = histF xs race boat :=
  sorted_uniq (hp.trans (hist_perm xs race boat).symm) hs (hist_sorted h race boat)
/-- What the library's sort leaves is the history. -/
theorem hist_sort {xs ys : List EntryT} {race boat : Int} (h : xs.Pairwise fun x y => sameB x y = false) (hp : ys.Perm (ofKey race boat xs)) (hs : ys.Pairwise fun x y => keyE x ≤ keyE y) : ys = histF xs race boat := by
  refine hist_uniq h hp (lt_of (hs.imp_of_mem (fun {a b} ha hb hab => ?_)) ((hp.pairwise_iff (fun {a b} h => h.symm)).2 (ofKey_rev h race boat)))
  have h1 := (ofKey_mem.1 (hp.mem_iff.1 ha)).2
  have h2 := (ofKey_mem.1 (hp.mem_iff.1 hb)).2
  unfold keyE at hab
  omega
theorem hist_mem {xs : List EntryT} {race boat : Int} {x : EntryT} : x ∈ histF xs race boat ↔ x ∈ xs ∧ E.race x = race ∧ E.boat x = boat :=
  (hist_perm xs race boat).mem_iff.trans ofKey_mem
theorem hist_len (xs : List EntryT) (race boat : Int) : (histF xs race boat).length ≤ xs.length := by
  rw [(hist_perm xs race boat).length_eq]
  exact List.length_filter_le _ _
theorem ofKey_snoc (race boat : Int) (xs : List EntryT) (x : EntryT) : ofKey race boat (xs ++ [x]) = ofKey race boat xs ++ (if (E.race x == race && E.boat x == boat) = true then [x] else []) := by
  unfold ofKey
  rw [List.filter_append]
  congr 1
  simp only [List.filter_cons, List.filter_nil]
theorem ofKey_len (race boat : Int) (xs : List EntryT) : (ofKey race boat xs).length ≤ xs.length := List.length_filter_le _ _
/-- A sorted list of the key's entries among the first i. -/
def Ins (xs : List EntryT) (race boat : Int) (i : Nat) (out : List EntryT) : Prop := out.Perm (ofKey race boat (xs.take i)) ∧ out.Pairwise fun x y => E.rev x < E.rev y
theorem Ins.zero (xs : List EntryT) (race boat : Int) : Ins xs race boat 0 [] := ⟨List.Perm.refl _, List.Pairwise.nil⟩
theorem take_snoc {xs : List EntryT} {i : Nat} {x : EntryT} (hx : xs[i]? = some x) : xs.take (i + 1) = xs.take i ++ [x] := by
  rw [List.take_add_one, hx]; rfl
theorem Ins.skip {xs out : List EntryT} {race boat : Int} {i : Nat} {x : EntryT} (h : Ins xs race boat i out) (hx : xs[i]? = some x) (hk : (E.race x == race && E.boat x == boat) = false) : Ins xs race boat (i + 1) out := by
  refine ⟨?_, h.2⟩
  rw [take_snoc hx, ofKey_snoc, hk, if_neg (by simp), List.append_nil]
  exact h.1
theorem Ins.len {xs out : List EntryT} {race boat : Int} {i : Nat} (h : Ins xs race boat i out) : out.length ≤ i := by
  rw [h.1.length_eq]
  exact Nat.le_trans (ofKey_len _ _ _) (by rw [List.length_take]; omega)
theorem Ins.put {xs out : List EntryT} {race boat : Int} {i at_ : Nat} {x : EntryT} (hkeys : xs.Pairwise fun x y => sameB x y = false) (h : Ins xs race boat i out) (hx : xs[i]? = some x) (hr : E.race x = race) (hb : E.boat x = boat)
    (hat : at_ ≤ out.length) (hgt : ∀ z ∈ out.drop at_, E.rev x < E.rev z) (hle : ∀ y, 0 < at_ → out[at_ - 1]? = some y → E.rev y ≤ E.rev x) : Ins xs race boat (i + 1) (out.take at_ ++ [x] ++ out.drop at_) := by
  have hil : i < xs.length := (List.getElem?_eq_some_iff.1 hx).1
  have hne : ∀ z ∈ out, E.rev z ≠ E.rev x := fun z hz he => by
    have hm := ofKey_mem.1 (h.1.mem_iff.1 hz)
    have hs : (xs.take i ++ xs.drop i).Pairwise fun x y => sameB x y = false := by rw [List.take_append_drop]; exact hkeys
    have hd : x ∈ xs.drop i := by
      rw [List.drop_eq_getElem_cons hil]
      rw [List.getElem?_eq_getElem hil] at hx
      injection hx with hx
      rw [hx]; exact .head _
    have hq := (List.pairwise_append.1 hs).2.2 z hm.1 x hd
    rw [sameB_iff.2 ⟨hm.2.1.trans hr.symm, hm.2.2.trans hb.symm, he⟩] at hq
    cases hq
  constructor
  · rw [take_snoc hx, ofKey_snoc, hr, hb]
    simp only [BEq.rfl, Bool.and_self, if_true]
    have h1 : (out.take at_ ++ [x] ++ out.drop at_).Perm (out ++ [x]) := by
      have h2 : (out.take at_ ++ ([x] ++ out.drop at_)).Perm (out.take at_ ++ (out.drop at_ ++ [x])) := List.Perm.append_left _ List.perm_append_comm
      rw [← List.append_assoc, ← List.append_assoc, List.take_append_drop] at h2
      exact h2
    exact h1.trans (List.Perm.append_right _ h.1)
  · have hs : (out.take at_ ++ out.drop at_).Pairwise fun x y => E.rev x < E.rev y := by rw [List.take_append_drop]; exact h.2
    obtain ⟨s1, s2, s3⟩ := List.pairwise_append.1 hs
    rw [List.append_assoc, List.pairwise_append]
    refine ⟨s1, List.pairwise_cons.2 ⟨hgt, s2⟩, fun a ha b hb' => ?_⟩
    rcases List.mem_cons.1 hb' with rfl | hb'
    · by_cases h0 : at_ = 0
      · subst h0; simp at ha
      · have hlt : at_ - 1 < out.length := by omega
        have hy := hle _ (by omega) (List.getElem?_eq_getElem hlt)
        have hne' := hne _ (List.getElem_mem hlt)
        have ht : out.take at_ = out.take (at_ - 1) ++ [out[at_ - 1]] := by
          conv => lhs; rw [show at_ = at_ - 1 + 1 by omega]
          exact take_snoc (List.getElem?_eq_getElem hlt)
        rw [ht] at ha s1
        rcases List.mem_append.1 ha with ha | ha
        · have := (List.pairwise_append.1 s1).2.2 a ha _ (.head _)
          omega
        · have : a = out[at_ - 1] := by simpa using ha
          rw [this]; omega
    · exact s3 a ha b hb'
theorem Ins.done {xs out : List EntryT} {race boat : Int} (hkeys : xs.Pairwise fun x y => sameB x y = false) (h : Ins xs race boat xs.length out) : out = histF xs race boat :=
  hist_uniq hkeys (by have := h.1; rwa [List.take_length] at this) h.2
/-! ### Current entries -/
def lastL (l : List EntryT) : List EntryT := l.getLast?.toList
def rowC (xs : List EntryT) (race : Int) (k : Nat) : List EntryT := (List.range k).flatMap fun (b : Nat) => lastL (histF xs race (b : Int))
def currC (xs : List EntryT) (b r : Nat) : List EntryT := (List.range r).flatMap fun (race : Nat) => rowC xs (race : Int) b
def currF (b : Int) (xs : List EntryT) : List EntryT := currC xs b.toNat 12
theorem rowC_succ (xs : List EntryT) (race : Int) (k : Nat) : rowC xs race (k + 1) = rowC xs race k ++ lastL (histF xs race (k : Int)) := by
  unfold rowC; rw [List.range_succ, List.flatMap_append]; simp
theorem currC_succ (xs : List EntryT) (b r : Nat) : currC xs b (r + 1) = currC xs b r ++ rowC xs (r : Int) b := by
  unfold currC; rw [List.range_succ, List.flatMap_append]; simp
theorem lastL_len (l : List EntryT) : (lastL l).length ≤ 1 := by
  unfold lastL
  cases l.getLast? <;> simp
theorem lastL_nil : lastL [] = [] := rfl
theorem lastL_some {l : List EntryT} {x : EntryT} (h : l[l.length - 1]? = some x) : lastL l = [x] := by
  unfold lastL
  rw [List.getLast?_eq_getElem?, h]; rfl
theorem rowC_len (xs : List EntryT) (race : Int) : ∀ k, (rowC xs race k).length ≤ k := by
  intro k
  induction k with
  | zero => simp [rowC]
  | succ k ih =>
    rw [rowC_succ, List.length_append]
    have := lastL_len (histF xs race (k : Int))
    omega
theorem currC_len (xs : List EntryT) (b : Nat) : ∀ r, (currC xs b r).length ≤ r * b := by
  intro r
  induction r with
  | zero => simp [currC]
  | succ r ih =>
    rw [currC_succ, List.length_append, Nat.succ_mul]
    have := rowC_len xs (r : Int) b
    omega
end Go.Proofs.YtalgdeieejpelaaGreat

/- Walks: lists of redress (chapter 29), both sides. -/
namespace Go.Proofs.YtalgdeieejpelaaGreat
open Go.RowKit
set_option linter.unusedVariables false
set_option maxRecDepth 100000

/-- Points of a redress, and whether there are some. -/
def redPtF (t : Tb) (x : RedT) : Int × Bool := if x.2.2.1 = 3 then (x.2.2.2, true) else avgF t x.1 x.2.1 x.2.2.1
theorem redB_ok {t : Tb} {x : RedT} (a1 : withinB x.1 0 ((t.pts.length : Int) - 1) = true) (a2 : withinB x.2.1 0 (t.boats - 1) = true) (a3 : isRedBT x.2.2.1 x.2.2.2 = true) (a4 : codeAt t x.1 x.2.1 = 9) : redB t x = (redPtF t x).2 := by
  unfold redB redPtF
  rw [a1, a2, a3, a4]
  by_cases h : x.2.2.1 = 3
  · simp [h]
  · simp [h]
theorem redB_no {t : Tb} {x : RedT} (h : withinB x.1 0 ((t.pts.length : Int) - 1) = false ∨ withinB x.2.1 0 (t.boats - 1) = false ∨ isRedBT x.2.2.1 x.2.2.2 = false ∨ codeAt t x.1 x.2.1 ≠ 9) : redB t x = false := by
  unfold redB
  rcases h with h | h | h | h
  · rw [h]; simp
  · rw [h]; simp
  · rw [h]; simp
  · have : (codeAt t x.1 x.2.1 == 9) = false := by simpa using h
    rw [this]; simp
def prevR (xs : List RedT) : Nat → Option RedT
  | 0 => none
  | k + 1 => xs[k]?
theorem reds_no {t : Tb} {x : RedT} {p : Option RedT} {r : List RedT} (h : redB t x = false) : redsGo t p (x :: r) = false := by
  cases p <;> simp [redsGo, h]
theorem reds_first {t : Tb} {x : RedT} {r : List RedT} (h : redB t x = true) : redsGo t none (x :: r) = redsGo t (some x) r := by simp [redsGo, h]
theorem reds_next {t : Tb} {x y : RedT} {r : List RedT} (h : redB t x = true) (hl : ltRB y x = true) : redsGo t (some y) (x :: r) = redsGo t (some x) r := by simp [redsGo, h, hl]
theorem reds_bad {t : Tb} {x y : RedT} {r : List RedT} (hl : ltRB y x = false) : redsGo t (some y) (x :: r) = false := by simp [redsGo, hl]
theorem isRedB_kind {k p : Int} (h : isRedBT k p = true) : k = 1 ∨ k = 2 ∨ k = 3 := by
  unfold isRedBT at h
  by_cases h3 : k = 3
  · exact .inr (.inr h3)
  · rw [if_neg h3] at h
    simp only [Bool.and_eq_true, withinB_iff] at h
    omega
theorem within_litT {n a b : Int} {r : Bool} (h : withinB n a b = r) (w : World) : Calls Tryz.prog 53 #[.int .i64 n, .int .i64 a, .int .i64 b] w fun e w' => e = .returned (.bool r) ∧ w = w' := by
  subst h; exact within_any n a b w
theorem l01In_litT {n a b : Int} {r : Bool} (h : withinB n a b = r) (w : World) : Calls Tryz.prog 64 #[.int .i64 n, .int .i64 a, .int .i64 b] w fun e w' => e = .returned (.bool r) ∧ w = w' := by
  subst h; exact l01In_any n a b w
theorem isRedress_anyT (x0 x1 x2 x3 : Int) (w : World) :
    Calls Tryz.prog 88 #[.agg #[.int .i64 x0, .int .i64 x1, .int .i64 x2, .int .i64 x3]] w fun e w' => e = .returned (.bool (isRedBT x2 x3)) ∧ Below w.heap.size w w' := by
  have HB := Lib.hid (show ∀ o, Below w.heap.size w (w.alloc o) from fun o => (Below.refl _ _).alloc (Nat.le_refl _) o)
  unfold isRedBT
  by_cases h3 : x2 = 3
  · subst h3
    rw [if_pos rfl]
    go_enter Tryz.func88, Tryz.ntmps88
    go_wp2_with (go_at_call 53; refine (within_any _ _ _ _).mono ?_; rintro e w' ⟨rfl, rfl⟩)
    go_ret
    exact ⟨rfl, HB.out _⟩
  · rw [if_neg h3]
    have e3 : (x2 == 3) = false := by simp [h3]
    cases h12 : withinB x2 1 2 with
    | false =>
      have HWL := Lib.hid (fun w => within_litT h12 w)
      clear h12
      go_enter Tryz.func88, Tryz.ntmps88
      go_wp2_with (go_at_call 53; refine (HWL.out _).mono ?_; rintro e w' ⟨rfl, rfl⟩)
      go_ret
      exact ⟨rfl, HB.out _⟩
    | true =>
      have HWL := Lib.hid (fun w => within_litT h12 w)
      clear h12
      go_enter Tryz.func88, Tryz.ntmps88
      go_wp2_with (go_at_call 53; refine (HWL.out _).mono ?_; rintro e w' ⟨rfl, rfl⟩)
      go_ret
      exact ⟨ret_bool (by simp), HB.out _⟩
theorem redressPoints_any (P : Option Addr) (n c : Nat) (C : Option Addr) (m d : Nat) (t : Tb) (x0 : Int) (bt : Nat) (x2 x3 : Int) (hk : x2 = 1 ∨ x2 = 2 ∨ x2 = 3) (ok : TabOk t) (hbt : (bt : Int) < t.boats) (w : World) (h : RdT w P n C m t) :
    Calls Tryz.prog 80 #[.agg #[.int .i64 t.boats, .slice P n c, .slice C m d], .agg #[.int .i64 x0, .int .i64 bt, .int .i64 x2, .int .i64 x3]] w fun e w' => e = .returned (.tuple #[.int .i64 (redPtF t (x0, (bt : Int), x2, x3)).1, .bool (redPtF t (x0, (bt : Int), x2, x3)).2]) ∧ Below w.heap.size w w' := by
  have HB := Lib.hid (show ∀ o1 o2, Below w.heap.size w ((w.alloc o1).alloc o2) from fun o1 o2 => ((Below.refl _ _).alloc (Nat.le_refl _) _).alloc (by simp) _)
  unfold redPtF
  show Calls _ _ _ _ fun e w' => e = .returned (.tuple #[.int .i64 (if x2 = 3 then (x3, true) else avgF t x0 bt x2).1, .bool (if x2 = 3 then (x3, true) else avgF t x0 bt x2).2]) ∧ Below w.heap.size w w'
  by_cases h3 : x2 = 3
  · subst h3
    rw [if_pos rfl]
    go_enter Tryz.func80, Tryz.ntmps80
    go_wp2_with fail
    go_ret2
    exact ⟨rfl, HB.out _ _⟩
  · rw [if_neg h3]
    have e3 : (x2 == 3) = false := by simp [h3]
    have HA := Lib.hid (fun w' (hb : Below w.heap.size w w') => implAvg_any P n c C m d t x0 bt x2 (by omega) ok hbt w' (h.below hb))
    generalize avgF t x0 bt x2 = R at *
    clear h hk hbt ok h3
    go_enter Tryz.func80, Tryz.ntmps80
    go_wp2_with fail
    refine (HA.out _ (HB.out _ _)).mono ?_
    rintro e w2 ⟨rfl, hb2⟩
    have HB2 := Lib.hid ((HB.out _ _).trans (hb2.mono (HB.out _ _).size))
    clear hb2
    go_wp2_with fail
    go_ret2
    exact ⟨rfl, HB2.out⟩
end Go.Proofs.YtalgdeieejpelaaGreat

/- Walks: averages of a table, both sides; plain: an average lies between the least and the greatest points. -/
namespace Go.Proofs.YtalgdeieejpelaaGreat
open Go.RowKit
set_option linter.unusedVariables false
set_option maxRecDepth 100000

/-- Least and greatest points of the races that count. -/
def mmGo (race kind : Int) (b : Nat) : Nat → List (List Int) → List (List Int) → Int → Int → Int × Int
  | k, p :: ps, c :: cs, lo, hi => if (otherB race kind k && !(c.getD b 0 == 9)) = true then mmGo race kind b (k + 1) ps cs (min lo (p.getD b 0)) (max hi (p.getD b 0)) else mmGo race kind b (k + 1) ps cs lo hi
  | _, _, _, lo, hi => (lo, hi)
theorem mm_avg (race kind : Int) (b : Nat) : ∀ (ps cs : List (List Int)) (k : Nat) (s m lo hi : Int), 0 ≤ m → lo * m ≤ s → s ≤ hi * m →
    0 ≤ (avgGo race kind b k ps cs s m).2 ∧ (mmGo race kind b k ps cs lo hi).1 * (avgGo race kind b k ps cs s m).2 ≤ (avgGo race kind b k ps cs s m).1 ∧ (avgGo race kind b k ps cs s m).1 ≤ (mmGo race kind b k ps cs lo hi).2 * (avgGo race kind b k ps cs s m).2 := by
  intro ps
  induction ps with
  | nil => intro cs k s m lo hi h0 h1 h2; cases cs <;> exact ⟨h0, h1, h2⟩
  | cons p ps ih =>
    intro cs k s m lo hi h0 h1 h2
    cases cs with
    | nil => exact ⟨h0, h1, h2⟩
    | cons c cs =>
      unfold avgGo mmGo
      split
      · refine ih cs (k + 1) _ _ _ _ (by omega) ?_ ?_
        · have e1 : min lo (p.getD b 0) * m ≤ lo * m := Int.mul_le_mul_of_nonneg_right (Int.min_le_left _ _) h0
          have e2 : min lo (p.getD b 0) ≤ p.getD b 0 := Int.min_le_right _ _
          rw [Int.mul_add, Int.mul_one]
          omega
        · have e1 : hi * m ≤ max hi (p.getD b 0) * m := Int.mul_le_mul_of_nonneg_right (Int.le_max_left _ _) h0
          have e2 : p.getD b 0 ≤ max hi (p.getD b 0) := Int.le_max_right _ _
          rw [Int.mul_add, Int.mul_one]
          omega
      · exact ih cs (k + 1) s m lo hi h0 h1 h2
/-- An average lies between the least and the greatest points. -/
theorem avg_between (t : Tb) (race boat kind : Int) (h : (avgF t race boat kind).2 = true) :
    (mmGo race kind boat.toNat 0 t.pts t.cds 10000 0).1 ≤ (avgF t race boat kind).1 ∧ (avgF t race boat kind).1 ≤ (mmGo race kind boat.toNat 0 t.pts t.cds 10000 0).2 := by
  have hm := mm_avg race kind boat.toNat t.pts t.cds 0 0 0 10000 0 (by omega) (by omega) (by omega)
  unfold avgF avgOf at h ⊢
  generalize avgGo race kind boat.toNat 0 t.pts t.cds 0 0 = r at *
  generalize mmGo race kind boat.toNat 0 t.pts t.cds 10000 0 = q at *
  obtain ⟨s, m⟩ := r
  obtain ⟨lo, hi⟩ := q
  simp only at hm h ⊢
  by_cases h0 : m = 0
  · rw [if_pos h0] at h; cases h
  · rw [if_neg h0]
    simp only
    obtain ⟨a1, a2, a3⟩ := hm
    constructor
    · refine Int.le_ediv_of_mul_le (by omega) ?_
      have : lo * (2 * m) = 2 * (lo * m) := by rw [Int.mul_left_comm]
      omega
    · have : (2 * s + m) / (2 * m) < hi + 1 := by
        refine Int.ediv_lt_of_lt_mul (by omega) ?_
        have e : (hi + 1) * (2 * m) = 2 * (hi * m) + 2 * m := by rw [Int.add_mul, Int.one_mul, Int.mul_left_comm]
        omega
      omega
end Go.Proofs.YtalgdeieejpelaaGreat

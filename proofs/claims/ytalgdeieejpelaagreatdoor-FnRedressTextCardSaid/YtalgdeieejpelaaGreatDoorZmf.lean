/- General and plain lemmas, and light walks (merged): Ro Rm It Se Iu Rh Sr Sq Rd Sa Fu Fw Yp S1. -/
import Derived.Test.YtalgdeieejpelaaGreatDoorZme
import Derived.Test.YtalgdeieejpelaaGreatDoorCf
import Derived.Test.YtalgdeieejpelaaGreatDoorZma
import Derived.Test.YtalgdeieejpelaaGreatDoorEs
import Derived.Test.YtalgdeieejpelaaGreatDoorZmb
import Derived.Test.YtalgdeieejpelaaGreatDoorZmc
import Derived.Test.YtalgdeieejpelaaGreatDoorZmd
import Derived.RangeFuncNested
import Derived.RangeFuncBound
import Derived.RangeFuncCalls
import Derived.RangeFuncLeaves
import Derived.Shelf.Abstract
import Derived.OwnWalkIn
import Derived.TacticsInMore
import Derived.LoopNIn
import Derived.LoopIn
import Derived.Maps.AppendAt
import Derived.Shelf.SlSortCmp.WholeK
import Derived.Shelf.SlSortCmp.NoneTotal
import Derived.Ground.SlsfProg
import Derived.StillTailTactics
/- Plain: a sorted list of entries shows whether two of them have one key. -/
namespace Go.Proofs.YtalgdeieejpelaaGreatDoor
open Go.RowKit
set_option linter.unusedVariables false

theorem sameB_symm {x y : EntryT} (h : sameB x y = false) : sameB y x = false := by
  cases hs : sameB y x with
  | false => rfl
  | true =>
    have := sameB_iff.1 hs
    rw [sameB_iff.2 ⟨this.1.symm, this.2.1.symm, this.2.2.symm⟩] at h
    exact h
theorem adj_sorted : ∀ (ys : List EntryT), (ys.Pairwise fun x y => keyE x ≤ keyE y) → (∀ x ∈ ys, okE x) → (adjGo ys = false ↔ ys.Pairwise fun x y => sameB x y = false) := by
  intro ys
  induction ys with
  | nil => intro _ _; simp [adjGo]
  | cons x r ih =>
    intro hs hok
    match r, ih, hs, hok with
    | [], _, _, _ => simp [adjGo]
    | y :: r, ih, hs, hok =>
      have hs2 := (List.pairwise_cons.1 hs).2
      have hi := ih hs2 (fun z hz => hok z (.tail _ hz))
      rw [adjGo, Bool.or_eq_false_iff, hi, List.pairwise_cons (a := x)]
      constructor
      · rintro ⟨h1, h2⟩
        refine ⟨fun z hz => ?_, h2⟩
        rcases List.mem_cons.1 hz with rfl | hz
        · exact sameB_symm h1
        · have hxy := (List.pairwise_cons.1 hs).1 y (.head _)
          have hyz := (List.pairwise_cons.1 hs2).1 z hz
          cases hq : sameB x z with
          | false => rfl
          | true =>
            have hk := (key_same (hok x (.head _)) (hok z (.tail _ (.tail _ hz)))).2 hq
            have hk2 : keyE y = keyE x := by omega
            rw [(key_same (hok y (.tail _ (.head _))) (hok x (.head _))).1 hk2] at h1
            exact h1
      · rintro ⟨h1, h2⟩
        exact ⟨sameB_symm (h1 y (.head _)), h2⟩
theorem adj_perm {xs ys : List EntryT} (hp : ys.Perm xs) (hs : ys.Pairwise fun x y => keyE x ≤ keyE y) (hok : ∀ x ∈ xs, okE x) : adjGo ys = false ↔ xs.Pairwise fun x y => sameB x y = false :=
  (adj_sorted ys hs (fun x hx => hok x (hp.mem_iff.1 hx))).trans (hp.pairwise_iff (fun h => sameB_symm h))
/-- All entries are valid. -/
def allE (b : Int) (xs : List EntryT) : Bool := xs.all fun x => entB b x && revB (E.rev x)
theorem allE_iff {b : Int} {xs : List EntryT} : allE b xs = true ↔ ∀ x ∈ xs, entB b x = true ∧ revB (E.rev x) = true := by
  unfold allE; simp [List.all_eq_true]
theorem allE_cons (b : Int) (x : EntryT) (xs : List EntryT) : allE b (x :: xs) = ((entB b x && revB (E.rev x)) && allE b xs) := rfl
theorem regB_not_all {b s : Int} {xs : List EntryT} (h : allE b xs = false) : regB b s xs = false := by
  cases hr : regB b s xs with
  | false => rfl
  | true =>
    unfold regB at hr
    simp only [Bool.and_eq_true] at hr
    rw [allE_iff.2 ((entsGo_iff b xs []).1 hr.2).1] at h
    exact h
theorem allE_ok {b : Int} {xs : List EntryT} (hb : b ≤ 16) (h : allE b xs = true) : ∀ x ∈ xs, okE x := fun x hx => by
  obtain ⟨h1, h2⟩ := allE_iff.1 h x hx
  have h3 := withinB_iff.1 h2
  exact entB_okE hb h1 h3.1 h3.2
theorem regB_all {b s : Int} {xs ys : List EntryT} (h1 : withinB b 1 16 = true) (h2 : withinB s 0 1 = true) (h3 : xs.length ≤ 400) (h4 : allE b xs = true) (hp : ys.Perm xs) (hs : ys.Pairwise fun x y => keyE x ≤ keyE y) : regB b s xs = !adjGo ys := by
  have hi := adj_perm hp hs (allE_ok (withinB_iff.1 h1).2 h4)
  unfold regB
  rw [h1, h2, decide_eq_true h3, Bool.true_and, Bool.true_and, Bool.true_and]
  have he := entsGo_iff b xs []
  cases ha : adjGo ys with
  | false => exact he.2 ⟨allE_iff.1 h4, fun x _ y hy => (by cases hy), hi.1 ha⟩
  | true =>
    cases hg : entsGo b [] xs with
    | false => rfl
    | true => rw [hi.2 (he.1 hg).2.2] at ha; exact ha.symm
theorem RegOk.okE {b s : Int} {xs : List EntryT} (h : RegOk b s xs) : ∀ x ∈ xs, okE x := fun x hx => by
  obtain ⟨h1, h2, h3⟩ := h.ent x hx
  exact entB_okE h.b2 h1 h2 h3
end Go.Proofs.YtalgdeieejpelaaGreatDoor

/- Plain: histories of a boat in a race: sorted, by insertion; current entries. -/
namespace Go.Proofs.YtalgdeieejpelaaGreatDoor
open Go.RowKit
set_option linter.unusedVariables false

theorem ofKey_mem {race boat : Int} {xs : List EntryT} {x : EntryT} : x ∈ ofKey race boat xs ↔ x ∈ xs ∧ E.race x = race ∧ E.boat x = boat := by
  unfold ofKey
  simp [List.mem_filter]
theorem ofKey_rev {xs : List EntryT} (h : xs.Pairwise fun x y => sameB x y = false) (race boat : Int) : (ofKey race boat xs).Pairwise fun x y => E.rev x ≠ E.rev y :=
  (List.Pairwise.filter (fun x => E.race x == race && E.boat x == boat) h).imp_of_mem (fun {a b} ha hb hab he => by
    have h1 := (ofKey_mem.1 ha).2
    have h2 := (ofKey_mem.1 hb).2
    rw [sameB_iff.2 ⟨h1.1.trans h2.1.symm, h1.2.trans h2.2.symm, he⟩] at hab
    cases hab)
theorem lt_of {ys : List EntryT} (h1 : ys.Pairwise fun x y => E.rev x ≤ E.rev y) (h2 : ys.Pairwise fun x y => E.rev x ≠ E.rev y) : ys.Pairwise fun x y => E.rev x < E.rev y :=
  (h1.and h2).imp (fun {a b} h => by omega)
theorem hist_sorted {xs : List EntryT} (h : xs.Pairwise fun x y => sameB x y = false) (race boat : Int) : (histF xs race boat).Pairwise fun x y => E.rev x < E.rev y := by
  refine lt_of ?_ ?_
  · have hs := List.pairwise_mergeSort (le := fun x y : EntryT => decide (E.rev x ≤ E.rev y)) (fun a b c h1 h2 => by simp at h1 h2 ⊢; omega) (fun a b => by simp; omega) (ofKey race boat xs)
    exact hs.imp (fun {a b} h => by simpa using h)
  · exact ((List.mergeSort_perm (ofKey race boat xs) _).pairwise_iff (fun {a b} h => h.symm)).2 (ofKey_rev h race boat)
theorem hist_perm (xs : List EntryT) (race boat : Int) : (histF xs race boat).Perm (ofKey race boat xs) := List.mergeSort_perm _ _
theorem hist_uniq {xs ys : List EntryT} {race boat : Int} (h : xs.Pairwise fun x y => sameB x y = false) (hp : ys.Perm (ofKey race boat xs)) (hs : ys.Pairwise fun x y => E.rev x < E.rev y) : ys = histF xs race boat :=
  sorted_uniq (hp.trans (hist_perm xs race boat).symm) hs (hist_sorted h race boat)
/-- What the library's sort leaves is the history. -/
theorem hist_sort {xs ys : List EntryT} {race boat : Int} (h : xs.Pairwise fun x y => sameB x y = false) (hp : ys.Perm (ofKey race boat xs)) (hs : ys.Pairwise fun x y => keyE x ≤ keyE y) : ys = histF xs race boat := by
  refine hist_uniq h hp (lt_of (hs.imp_of_mem (fun {a b} ha hb hab => ?_)) ((hp.pairwise_iff (fun {a b} h => h.symm)).2 (ofKey_rev h race boat)))
  have h1 := (ofKey_mem.1 (hp.mem_iff.1 ha)).2
  have h2 := (ofKey_mem.1 (hp.mem_iff.1 hb)).2
  unfold keyE at hab
  omega
theorem hist_mem {xs : List EntryT} {race boat : Int} {x : EntryT} : x ∈ histF xs race boat ↔ x ∈ xs ∧ E.race x = race ∧ E.boat x = boat :=
  (hist_perm xs race boat).mem_iff.trans ofKey_mem
theorem hist_len (xs : List EntryT) (race boat : Int) : (histF xs race boat).length ≤ xs.length := by
  rw [(hist_perm xs race boat).length_eq]
  exact List.length_filter_le _ _
theorem ofKey_snoc (race boat : Int) (xs : List EntryT) (x : EntryT) : ofKey race boat (xs ++ [x]) = ofKey race boat xs ++ (if (E.race x == race && E.boat x == boat) = true then [x] else []) := by
  unfold ofKey
  rw [List.filter_append]
  congr 1
  simp only [List.filter_cons, List.filter_nil]
theorem ofKey_len (race boat : Int) (xs : List EntryT) : (ofKey race boat xs).length ≤ xs.length := List.length_filter_le _ _
/-- A sorted list of the key's entries among the first i. -/
def Ins (xs : List EntryT) (race boat : Int) (i : Nat) (out : List EntryT) : Prop := out.Perm (ofKey race boat (xs.take i)) ∧ out.Pairwise fun x y => E.rev x < E.rev y
theorem Ins.zero (xs : List EntryT) (race boat : Int) : Ins xs race boat 0 [] := ⟨List.Perm.refl _, List.Pairwise.nil⟩
theorem take_snoc {xs : List EntryT} {i : Nat} {x : EntryT} (hx : xs[i]? = some x) : xs.take (i + 1) = xs.take i ++ [x] := by
  rw [List.take_add_one, hx]; rfl
theorem Ins.skip {xs out : List EntryT} {race boat : Int} {i : Nat} {x : EntryT} (h : Ins xs race boat i out) (hx : xs[i]? = some x) (hk : (E.race x == race && E.boat x == boat) = false) : Ins xs race boat (i + 1) out := by
  refine ⟨?_, h.2⟩
  rw [take_snoc hx, ofKey_snoc, hk, if_neg (by simp), List.append_nil]
  exact h.1
theorem Ins.len {xs out : List EntryT} {race boat : Int} {i : Nat} (h : Ins xs race boat i out) : out.length ≤ i := by
  rw [h.1.length_eq]
  exact Nat.le_trans (ofKey_len _ _ _) (by rw [List.length_take]; omega)
theorem Ins.put {xs out : List EntryT} {race boat : Int} {i at_ : Nat} {x : EntryT} (hkeys : xs.Pairwise fun x y => sameB x y = false) (h : Ins xs race boat i out) (hx : xs[i]? = some x) (hr : E.race x = race) (hb : E.boat x = boat)
    (hat : at_ ≤ out.length) (hgt : ∀ z ∈ out.drop at_, E.rev x < E.rev z) (hle : ∀ y, 0 < at_ → out[at_ - 1]? = some y → E.rev y ≤ E.rev x) : Ins xs race boat (i + 1) (out.take at_ ++ [x] ++ out.drop at_) := by
  have hil : i < xs.length := (List.getElem?_eq_some_iff.1 hx).1
  have hne : ∀ z ∈ out, E.rev z ≠ E.rev x := fun z hz he => by
    have hm := ofKey_mem.1 (h.1.mem_iff.1 hz)
    have hs : (xs.take i ++ xs.drop i).Pairwise fun x y => sameB x y = false := by rw [List.take_append_drop]; exact hkeys
    have hd : x ∈ xs.drop i := by
      rw [List.drop_eq_getElem_cons hil]
      rw [List.getElem?_eq_getElem hil] at hx
      injection hx with hx
      rw [hx]; exact .head _
    have hq := (List.pairwise_append.1 hs).2.2 z hm.1 x hd
    rw [sameB_iff.2 ⟨hm.2.1.trans hr.symm, hm.2.2.trans hb.symm, he⟩] at hq
    cases hq
  constructor
  · rw [take_snoc hx, ofKey_snoc, hr, hb]
    simp only [BEq.rfl, Bool.and_self, if_true]
    have h1 : (out.take at_ ++ [x] ++ out.drop at_).Perm (out ++ [x]) := by
      have h2 : (out.take at_ ++ ([x] ++ out.drop at_)).Perm (out.take at_ ++ (out.drop at_ ++ [x])) := List.Perm.append_left _ List.perm_append_comm
      rw [← List.append_assoc, ← List.append_assoc, List.take_append_drop] at h2
      exact h2
    exact h1.trans (List.Perm.append_right _ h.1)
  · have hs : (out.take at_ ++ out.drop at_).Pairwise fun x y => E.rev x < E.rev y := by rw [List.take_append_drop]; exact h.2
    obtain ⟨s1, s2, s3⟩ := List.pairwise_append.1 hs
    rw [List.append_assoc, List.pairwise_append]
    refine ⟨s1, List.pairwise_cons.2 ⟨hgt, s2⟩, fun a ha b hb' => ?_⟩
    rcases List.mem_cons.1 hb' with rfl | hb'
    · by_cases h0 : at_ = 0
      · subst h0; simp at ha
      · have hlt : at_ - 1 < out.length := by omega
        have hy := hle _ (by omega) (List.getElem?_eq_getElem hlt)
        have hne' := hne _ (List.getElem_mem hlt)
        have ht : out.take at_ = out.take (at_ - 1) ++ [out[at_ - 1]] := by
          conv => lhs; rw [show at_ = at_ - 1 + 1 by omega]
          exact take_snoc (List.getElem?_eq_getElem hlt)
        rw [ht] at ha s1
        rcases List.mem_append.1 ha with ha | ha
        · have := (List.pairwise_append.1 s1).2.2 a ha _ (.head _)
          omega
        · have : a = out[at_ - 1] := by simpa using ha
          rw [this]; omega
    · exact s3 a ha b hb'
theorem Ins.done {xs out : List EntryT} {race boat : Int} (hkeys : xs.Pairwise fun x y => sameB x y = false) (h : Ins xs race boat xs.length out) : out = histF xs race boat :=
  hist_uniq hkeys (by have := h.1; rwa [List.take_length] at this) h.2
/-! ### Current entries -/
def lastL (l : List EntryT) : List EntryT := l.getLast?.toList
def rowC (xs : List EntryT) (race : Int) (k : Nat) : List EntryT := (List.range k).flatMap fun (b : Nat) => lastL (histF xs race (b : Int))
def currC (xs : List EntryT) (b r : Nat) : List EntryT := (List.range r).flatMap fun (race : Nat) => rowC xs (race : Int) b
def currF (b : Int) (xs : List EntryT) : List EntryT := currC xs b.toNat 12
theorem rowC_succ (xs : List EntryT) (race : Int) (k : Nat) : rowC xs race (k + 1) = rowC xs race k ++ lastL (histF xs race (k : Int)) := by
  unfold rowC; rw [List.range_succ, List.flatMap_append]; simp
theorem currC_succ (xs : List EntryT) (b r : Nat) : currC xs b (r + 1) = currC xs b r ++ rowC xs (r : Int) b := by
  unfold currC; rw [List.range_succ, List.flatMap_append]; simp
theorem lastL_len (l : List EntryT) : (lastL l).length ≤ 1 := by
  unfold lastL
  cases l.getLast? <;> simp
theorem lastL_nil : lastL [] = [] := rfl
theorem lastL_some {l : List EntryT} {x : EntryT} (h : l[l.length - 1]? = some x) : lastL l = [x] := by
  unfold lastL
  rw [List.getLast?_eq_getElem?, h]; rfl
theorem rowC_len (xs : List EntryT) (race : Int) : ∀ k, (rowC xs race k).length ≤ k := by
  intro k
  induction k with
  | zero => simp [rowC]
  | succ k ih =>
    rw [rowC_succ, List.length_append]
    have := lastL_len (histF xs race (k : Int))
    omega
theorem currC_len (xs : List EntryT) (b : Nat) : ∀ r, (currC xs b r).length ≤ r * b := by
  intro r
  induction r with
  | zero => simp [currC]
  | succ r ih =>
    rw [currC_succ, List.length_append, Nat.succ_mul]
    have := rowC_len xs (r : Int) b
    omega
end Go.Proofs.YtalgdeieejpelaaGreatDoor

/- Walks: the library's iterator over entries, and what collects it. -/
namespace Go.Proofs.YtalgdeieejpelaaGreatDoor
open Go.RowKit Go.Shelf
set_option linter.unusedVariables false
set_option maxRecDepth 100000
attribute [local go_sem] Oper.semAt_some

def aggE (x : EntryT) : Array Value := #[.agg (entC x).toArray]
end Go.Proofs.YtalgdeieejpelaaGreatDoor

/- Walks: the library's sort at entries. -/
namespace Go.Proofs.YtalgdeieejpelaaGreatDoor
open Go.RowKit Go.Sort Go.Shelf
set_option linter.unusedVariables false
set_option maxRecDepth 100000

/-! ### An own row of k cells an element, sorted -/
section
variable {α : Type} [Inhabited α] {f : α → List Value} {k : Nat}
theorem flatK_list (hk : ∀ x, (f x).length = k) (d : Array α) : (flatK f k d).toList = d.toList.flatMap f := by
  apply List.ext_getElem?
  intro t
  by_cases ht : t < d.size * k
  · have k0 : 0 < k := by rcases Nat.eq_zero_or_pos k with h | h; · subst h; simp at ht
                          · exact h
    have hq : t / k < d.size := Nat.div_lt_of_lt_mul (by rw [Nat.mul_comm]; exact ht)
    have e : t = t / k * k + t % k := by have := Nat.div_add_mod t k; rw [Nat.mul_comm] at this; exact this.symm
    have hx : d.toList[t / k]? = some d[t / k] := by simp [hq]
    have h2 := flat_get hk hx (j := t % k) (Nat.mod_lt t k0)
    rw [← e] at h2
    rw [h2, Array.getElem?_toList]
    have hF : (flatK f k d)[t]? = some ((flatK f k d)[t]!) := by
      rw [getElem!_pos _ t (by simpa using ht), Array.getElem?_eq_getElem]
    rw [hF, get_flatK _ _ _ _ ht, getElem!_pos d (t / k) hq]
    have hm : t % k < (f d[t / k]).length := by rw [hk]; exact Nat.mod_lt t k0
    rw [List.getElem?_eq_getElem hm, getElem!_pos (f d[t / k]) (t % k) hm]
  · rw [List.getElem?_eq_none (by simp; omega), List.getElem?_eq_none (by rw [flat_len hk]; simp; omega)]
theorem holdsK_own (hk : ∀ x, (f x).length = k) {w : World} {base e g n c : Nat} {xs : List α} (h : w.ownsRow base e k (.slice (some ⟨g, 0, none⟩) n c) n (xs.flatMap f)) : HoldsK f k w g 0 xs.toArray := by
  intro j hj
  rw [size_flatK] at hj
  have hF : (flatK f k xs.toArray).toList[j]? = some ((flatK f k xs.toArray)[j]!) := by
    rw [Array.getElem?_toList, getElem!_pos _ j (by simpa using hj), Array.getElem?_eq_getElem]
  rw [flatK_list hk] at hF
  have hc := h.cells (g := g) rfl j _ hF
  have hadd : (⟨g, 0, none⟩ : Addr).add j = ⟨g, 0 + j, none⟩ := by unfold Addr.add; split <;> simp_all
  rw [hadd] at hc
  exact ⟨hc, by rw [Nat.zero_add]; exact h.frozenAt j⟩
theorem grownBy_sortedK {w : World} {g n : Nat} {os : Array Obj} (d : Array α) : w.grownBy (sortWorldK f k w g 0 n d os) (some g) := by
  refine ⟨rfl, rfl, rfl, by simp [sortWorldK, putRowK, putRow, mapBlock, Sort.ahead], fun j hj hne => ?_⟩
  unfold sortWorldK
  rw [heap_grow_old _ _ (by simpa [putRowK, putRow, mapBlock, Sort.ahead] using hj)]
  have : g ≠ j := fun e => hne (by rw [e])
  simp [putRowK, putRow, mapBlock, Sort.ahead, Array.getElem?_modify, this]
theorem own_sortedK (hk : ∀ x, (f x).length = k) {w : World} {base e g m c n : Nat} {os : Array Obj} {xs ys : List α} (h : w.ownsRow base e k (.slice (some ⟨g, 0, none⟩) m c) m (xs.flatMap f)) (hl : ys.length = xs.length) :
    (sortWorldK f k w g 0 n ys.toArray os).ownsRow base e k (.slice (some ⟨g, 0, none⟩) m c) m (ys.flatMap f) := by
  have h1 := h.1
  rw [flat_len hk] at h1
  refine ⟨by rw [flat_len hk, hl]; exact h1, ?_⟩
  rcases h.2 with ⟨hv, _⟩ | ⟨g', cap, cur, hv, hb, hg, hnc, hcm, hcs, htake⟩
  · cases hv
  injection hv with hA _ hc
  injection hA with hA
  injection hA with hA
  subst hA hc
  have hgl : g < w.heap.size := (Array.getElem?_eq_some_iff.1 hg).1
  refine .inr ⟨g, c, putCells id 0 (flatK f k ys.toArray) cur, rfl, hb, ?_, hnc, hcm, by simp [putCells, hcs], ?_⟩
  · unfold sortWorldK
    rw [heap_grow_old _ _ (by simpa [putRowK, putRow, mapBlock, Sort.ahead] using hgl)]
    simp [putRowK, putRow, mapBlock, Sort.ahead, Array.getElem?_modify, hg, onCells]
  · have hsz : (flatK f k ys.toArray).size = m * k := by rw [size_flatK]; simp only [List.size_toArray]; rw [hl, h1]
    have hcz : m * k ≤ cur.size := by rw [hcs]; exact Nat.mul_le_mul_right k hnc
    rw [← flatK_list hk ys.toArray]
    apply List.ext_getElem?
    intro j
    by_cases hj : j < m * k
    · rw [List.getElem?_take_of_lt hj, Array.getElem?_toList, Array.getElem?_toList]
      simp only [putCells, Array.getElem?_mapIdx]
      rw [Array.getElem?_eq_getElem (show j < cur.size by omega)]
      simp only [Option.map_some, Nat.zero_add, Nat.zero_le, true_and, Nat.sub_zero, hsz, hj, if_true, id]
      rw [getElem!_pos _ j (by rw [hsz]; exact hj), Array.getElem?_eq_getElem]
    · rw [List.getElem?_take_eq_none (by omega), List.getElem?_eq_none (by simp only [Array.length_toList]; rw [hsz]; omega)]
end
theorem permIn_all {α : Type} [Inhabited α] {d d' : Array α} (h : PermIn 0 d.size d d') : d'.toList.Perm d.toList := by
  obtain ⟨h1, _, h3⟩ := h
  have e1 : d.extract 0 d.size = d := by simp
  have e2 : d'.extract 0 d.size = d' := by rw [← h1]; simp
  rwa [e1, e2] at h3
theorem sortedIn_all {α : Type} [Inhabited α] {lt : α → α → Bool} {d : Array α} {n : Nat} (hn : n = d.size) (h : SortedIn lt 0 n d) : d.toList.Pairwise fun x y => lt y x = false := by
  subst hn
  rw [List.pairwise_iff_getElem]
  intro i j hi hj hij
  have hi' : i < d.size := by simpa using hi
  have hj' : j < d.size := by simpa using hj
  have := h i j (Nat.zero_le _) hij hj'
  rw [getElem!_pos d i hi', getElem!_pos d j hj'] at this
  simpa using this

/-! ### Entries that may be compared -/
abbrev EV : Type := { x : EntryT // okE x }
instance : Inhabited EV := ⟨⟨(0, 0, 1, 0, 0, 0, 0), by unfold okE; simp [E.race, E.boat, E.rev]⟩⟩
def encE (x : EV) : List Value := entC x.1
def cmpE (x y : EV) : Int := sgn (keyE x.1 - keyE y.1)
theorem encE_len (x : EV) : (encE x).length = 7 := rfl
theorem encE_one (x : EV) : ∀ v ∈ encE x, v.oneCell' = true := by
  intro v hv
  obtain ⟨⟨x0, x1, x2, x3, x4, x5, x6⟩, hx⟩ := x
  simp [encE, entC] at hv
  rcases hv with rfl | rfl | rfl | rfl | rfl | rfl | rfl <;> rfl
theorem ltE (x y : EV) : ltOf cmpE x y = decide (keyE x.1 < keyE y.1) := by
  unfold ltOf cmpE sgn
  by_cases h1 : keyE x.1 < keyE y.1
  · rw [if_pos (by omega)]; simp [h1]
  · rw [if_neg (by omega)]
    by_cases h2 : keyE x.1 - keyE y.1 = 0
    · rw [if_pos h2]; simp [h1]
    · rw [if_neg h2]; simp [h1]
theorem swoE : SWO (ltOf cmpE) where
  irrefl x := by rw [ltE]; simp
  trans x y z h1 h2 := by rw [ltE] at *; simp at *; omega
  ntrans x y z h1 h2 := by rw [ltE] at *; simp at *; omega
theorem vals_of : ∀ (xs : List EntryT), (∀ x ∈ xs, okE x) → ∃ L : List EV, L.map (·.1) = xs := by
  intro xs
  induction xs with
  | nil => intro _; exact ⟨[], rfl⟩
  | cons x r ih =>
    intro h
    obtain ⟨L, hL⟩ := ih fun y hy => h y (List.mem_cons_of_mem _ hy)
    exact ⟨⟨x, h x (List.mem_cons_self ..)⟩ :: L, by rw [List.map_cons, hL]⟩
theorem ents_vals (L : List EV) : ents (L.map (·.1)) = L.flatMap encE := by
  unfold ents
  rw [List.flatMap_map]; rfl
end Go.Proofs.YtalgdeieejpelaaGreatDoor

/- Walks: the library's Collect and SortedFunc over the entries of a slice. -/
namespace Go.Proofs.YtalgdeieejpelaaGreatDoor
open Go.RowKit Go.Shelf Go.Sort
set_option linter.unusedVariables false
set_option maxRecDepth 100000
attribute [local go_sem] Oper.semAt_some

theorem box_boxed {W : World} {B : Nat} {t : TypeId} {v : Value} (h : Boxed W B t v) : Box W B #[v] t := h
theorem own_is_slice {w : World} {base e s n : Nat} {v : Value} {xs : List Value} (h : w.ownsRow base e s v n xs) : ∃ A c, v = .slice A n c := by
  rcases h.2 with ⟨rfl, rfl⟩ | ⟨g, cap, cur, rfl, _⟩
  · exact ⟨none, 0, rfl⟩
  · exact ⟨some ⟨g, 0, none⟩, cap, rfl⟩
end Go.Proofs.YtalgdeieejpelaaGreatDoor

/- Walks: the laws' helpers on registers: size, copy, compare, mark, held. -/
namespace Go.Proofs.YtalgdeieejpelaaGreatDoor
open Go.RowKit
set_option linter.unusedVariables false
set_option maxRecDepth 100000

end Go.Proofs.YtalgdeieejpelaaGreatDoor

/- General lemmas: slices of races (structs of one slice of finishes). No Go function in sight. -/
namespace Go.Proofs.YtalgdeieejpelaaGreatDoor
open Go.RowKit
set_option linter.unusedVariables false

/-- A slice of slices that reads as a list of lists. -/
structure RdRaces (w : World) (A : Option Addr) (n : Nat) (rows : List (List FinishT)) : Prop where
  len : rows.length = n
  le : n ≤ 9223372036854775807
  at_ : ∀ k, k < n → ∃ b o A' c' xs, A = some ⟨b, o, none⟩ ∧ rows[k]? = some xs ∧ w.cell? ⟨b, o + k, none⟩ = some (.slice A' xs.length c') ∧ Rd w 3 A' xs.length (fins xs)
theorem RdRaces.keep {w w' : World} {A : Option Addr} {n : Nat} {rows : List (List FinishT)} (h : RdRaces w A n rows) (k : Keeps w w') : RdRaces w' A n rows :=
  ⟨h.len, h.le, fun i hi => by
    obtain ⟨b, o, A', c', xs, e, hx, hc, hr⟩ := h.at_ i hi
    exact ⟨b, o, A', c', xs, e, hx, k _ _ hc, hr.keep k⟩⟩
theorem RdRaces.below {w w' : World} {A : Option Addr} {n : Nat} {rows : List (List FinishT)} (h : RdRaces w A n rows) (k : Below w.heap.size w w') : RdRaces w' A n rows := h.keep (Keeps.below k)
theorem RdRaces.drawn {w w' : World} {A : Option Addr} {n : Nat} {rows : List (List FinishT)} (h : RdRaces w A n rows) (k : Drawn w w') : RdRaces w' A n rows := h.below k.below
theorem RdRaces.row {w : World} {A : Option Addr} {n k : Nat} {rows : List (List FinishT)} (h : RdRaces w A n rows) (hk : k < n) :
    ∃ b o A' c' xs, A = some ⟨b, o, none⟩ ∧ rows[k]? = some xs ∧ rows.drop k = xs :: rows.drop (k + 1) ∧ w.cell? ⟨b, o + k, none⟩ = some (.slice A' xs.length c') ∧ Rd w 3 A' xs.length (fins xs) := by
  obtain ⟨b, o, A', c', xs, e, hx, hc, hr⟩ := h.at_ k hk
  obtain ⟨y, h1, h2⟩ := drop_cons (xs := rows) (k := k) (by rw [h.len]; exact hk)
  obtain rfl : xs = y := by rw [hx] at h1; injection h1
  exact ⟨b, o, A', c', xs, e, hx, h2, hc, hr⟩

/-- A slice of slices of the call's own. -/
structure OwnRaces (w : World) (base eo ei : Nat) (A : Option Addr) (n c : Nat) (vs : List Value) (rows : List (List FinishT)) : Prop where
  outer : w.ownsRow base eo 1 (.slice A n c) n vs
  len : rows.length = n
  row : ∀ (k : Nat) (v : Value) (xs : List FinishT), vs[k]? = some v → rows[k]? = some xs → ∃ A' c', v = .slice A' xs.length c' ∧ w.ownsRow base ei 3 v xs.length (fins xs)
  apart : ∀ (i j : Nat) (u v : Value), i ≠ j → vs[i]? = some u → vs[j]? = some v → ∀ g, u.ownBlock = some g → v.ownBlock ≠ some g

section
variable {w w' : World} {base eo ei n c : Nat} {A : Option Addr} {vs : List Value} {rows : List (List FinishT)}
theorem OwnRaces.vlen (h : OwnRaces w base eo ei A n c vs rows) : vs.length = n := by have := h.outer.1; omega
theorem OwnRaces.nle (h : OwnRaces w base eo ei A n c vs rows) : n ≤ 9223372036854775807 := (own_rd h.outer).le
/-- What row k is. -/
theorem OwnRaces.get (h : OwnRaces w base eo ei A n c vs rows) {k : Nat} (hk : k < n) :
    ∃ v A' c' xs, vs[k]? = some v ∧ rows[k]? = some xs ∧ rows.drop k = xs :: rows.drop (k + 1) ∧ v = .slice A' xs.length c' ∧ w.ownsRow base ei 3 (.slice A' xs.length c') xs.length (fins xs) := by
  have h1 : vs[k]? = some (vs[k]'(by rw [h.vlen]; exact hk)) := List.getElem?_eq_getElem _
  obtain ⟨xs, h2, h3⟩ := drop_cons (xs := rows) (k := k) (by rw [h.len]; exact hk)
  obtain ⟨A', c', e, ho⟩ := h.row k _ _ h1 h2
  exact ⟨_, A', c', xs, h1, h2, h3, e, by rw [e] at ho; exact ho⟩
theorem OwnRaces.rd (h : OwnRaces w base eo ei A n c vs rows) : RdRaces w A n rows :=
  ⟨h.len, h.nle, fun k hk => by
    obtain ⟨v, A', c', xs, h1, h2, _, e, ho⟩ := h.get hk
    obtain ⟨g, u, hA, _, _, hu, hc, _⟩ := own_at h.outer hk
    obtain rfl : v = u := by rw [h1] at hu; injection hu
    exact ⟨g, 0, A', c', xs, hA, h2, by rw [Nat.zero_add, hc, e], own_rd ho⟩⟩
theorem OwnRaces.in_ (h : OwnRaces w base eo ei A n c vs rows) : RowsIn base w.heap.size A n c vs := by
  refine ⟨h.outer.lt, fun v hv b hb => ?_⟩
  obtain ⟨k, hk⟩ := List.mem_iff_getElem?.1 hv
  have hkn : k < n := by have := (List.getElem?_eq_some_iff.1 hk).1; rw [h.vlen] at this; exact this
  obtain ⟨u, A', c', xs, h1, h2, _, e, ho⟩ := h.get hkn
  obtain rfl : v = u := by rw [hk] at h1; injection h1
  rw [e] at hb
  exact ho.lt b hb
theorem OwnRaces.below (h : OwnRaces w base eo ei A n c vs rows) (k : Below w.heap.size w w') : OwnRaces w' base eo ei A n c vs rows :=
  ⟨own_below h.outer k, h.len, fun i v xs h1 h2 => by obtain ⟨A', c', e, ho⟩ := h.row i v xs h1 h2; exact ⟨A', c', e, own_below ho k⟩, h.apart⟩
theorem OwnRaces.drawn (h : OwnRaces w base eo ei A n c vs rows) (k : Drawn w w') : OwnRaces w' base eo ei A n c vs rows := h.below k.below
theorem OwnRaces.alloc (h : OwnRaces w base eo ei A n c vs rows) (o : Obj) : OwnRaces (w.alloc o) base eo ei A n c vs rows := h.below ((Below.refl _ _).alloc (Nat.le_refl _) _)
theorem OwnRaces.chg {lo hi : Nat} (h : OwnRaces w base eo ei A n c vs rows) (k : Chg lo hi w w') {lo2 hi2 : Nat} (hv : RowsIn lo2 hi2 A n c vs) (hd : hi2 ≤ lo ∨ hi ≤ lo2) : OwnRaces w' base eo ei A n c vs rows :=
  ⟨own_chg h.outer k (fun b hb => by have := hv.1 b hb; omega), h.len,
    fun i v xs h1 h2 => by
      obtain ⟨A', c', e, ho⟩ := h.row i v xs h1 h2
      exact ⟨A', c', e, own_chg ho k (fun b hb => by have := hv.2 v (List.mem_of_getElem? h1) b hb; omega)⟩, h.apart⟩
theorem OwnRaces.base' {base' : Nat} (h : OwnRaces w base eo ei A n c vs rows) (hb : base' ≤ base) : OwnRaces w base' eo ei A n c vs rows :=
  ⟨own_base h.outer hb, h.len, fun i v xs h1 h2 => by obtain ⟨A', c', e, ho⟩ := h.row i v xs h1 h2; exact ⟨A', c', e, own_base ho hb⟩, h.apart⟩

/-- Row k alone is written. -/
theorem OwnRaces.upd (h : OwnRaces w base eo ei A n c vs rows) (hne : eo ≠ ei) {k : Nat} {v : Value} {xs ys : List FinishT} (hk : vs[k]? = some v) (hx : rows[k]? = some xs) (hl : ys.length = xs.length)
    (hg : w.grownBy w' v.ownBlock) (hy : w'.ownsRow base ei 3 v ys.length (fins ys)) : OwnRaces w' base eo ei A n c vs (rows.set k ys) := by
  obtain ⟨A0, c0, e0, ho0⟩ := h.row k v xs hk hx
  refine ⟨h.outer.kept hg ?_, by simpa using h.len, ?_, h.apart⟩
  · rcases hb : (Value.slice A n c).ownBlock with _ | g
    · exact .inl rfl
    · exact .inr (fun he => own_type_ne h.outer ho0 hne g hb he.symm)
  · intro i u zs h1 h2
    by_cases hik : i = k
    · subst hik
      obtain rfl : v = u := by rw [hk] at h1; injection h1
      have hlt := (List.getElem?_eq_some_iff.1 hx).1
      rw [List.getElem?_set_self hlt] at h2
      injection h2 with h2; subst h2
      exact ⟨A0, c0, by rw [e0, hl], hy⟩
    · rw [List.getElem?_set_ne (fun e => hik e.symm)] at h2
      obtain ⟨A', c', e, ho⟩ := h.row i u zs h1 h2
      refine ⟨A', c', e, ho.kept hg ?_⟩
      rcases hb : u.ownBlock with _ | g
      · exact .inl rfl
      · exact .inr (fun he => h.apart i k u v hik h1 hk g hb he.symm)

/-- Row k is put: a slice whose block is none of the others'. -/
theorem OwnRaces.put {g : Nat} (h : OwnRaces w base eo ei (some ⟨g, 0, none⟩) n c vs rows) (hne : eo ≠ ei) {k : Nat} {A' : Option Addr} {c' : Nat} {ys : List FinishT}
    (hy : w.ownsRow base ei 3 (.slice A' ys.length c') ys.length (fins ys)) (hap : ∀ u ∈ vs, ∀ b, (Value.slice A' ys.length c').ownBlock = some b → u.ownBlock ≠ some b) :
    OwnRaces (w.setCell ⟨g, k, none⟩ (.slice A' ys.length c')) base eo ei (some ⟨g, 0, none⟩) n c (vs.set k (.slice A' ys.length c')) (rows.set k ys) := by
  have hst := h.outer.stored k (.slice A' ys.length c')
  have keep : ∀ (u : Value) (m : Nat) (zs : List Value), w.ownsRow base ei 3 u m zs → (w.setCell ⟨g, k, none⟩ (.slice A' ys.length c')).ownsRow base ei 3 u m zs := by
    intro u m zs ho
    refine ho.kept hst.2 ?_
    rcases hb : u.ownBlock with _ | b
    · exact .inl rfl
    · refine .inr (fun he => ?_)
      injection he with he
      subst he
      exact own_type_ne h.outer ho hne b rfl hb
  refine ⟨hst.1, by simpa using h.len, ?_, ?_⟩
  · intro i u zs h1 h2
    by_cases hik : i = k
    · subst hik
      have hlt : i < rows.length := by have := (List.getElem?_eq_some_iff.1 h2).1; simpa using this
      have hlt' : i < vs.length := by rw [h.vlen, ← h.len]; exact hlt
      rw [List.getElem?_set_self hlt] at h2
      rw [List.getElem?_set_self hlt'] at h1
      injection h2 with h2; injection h1 with h1
      subst h2; subst h1
      exact ⟨A', c', rfl, keep _ _ _ hy⟩
    · rw [List.getElem?_set_ne (fun e => hik e.symm)] at h1 h2
      obtain ⟨A'', c'', e, ho⟩ := h.row i u zs h1 h2
      exact ⟨A'', c'', e, keep _ _ _ ho⟩
  · intro i j u v hij h1 h2 b hb
    by_cases hik : i = k
    · subst hik
      rw [List.getElem?_set_ne (fun e => hij e)] at h2
      have hlt' : i < vs.length := by have := (List.getElem?_eq_some_iff.1 h1).1; simpa using this
      rw [List.getElem?_set_self hlt'] at h1
      injection h1 with h1; subst h1
      exact hap v (List.mem_of_getElem? h2) b hb
    · rw [List.getElem?_set_ne (fun e => hik e.symm)] at h1
      by_cases hjk : j = k
      · subst hjk
        have hlt' : j < vs.length := by have := (List.getElem?_eq_some_iff.1 h2).1; simpa using this
        rw [List.getElem?_set_self hlt'] at h2
        injection h2 with h2; subst h2
        exact fun hb' => hap u (List.mem_of_getElem? h1) b hb' hb
      · rw [List.getElem?_set_ne (fun e => hjk e.symm)] at h2
        exact h.apart i j u v hij h1 h2 b hb

/-- Behind a make: all rows are nil. -/
theorem OwnRaces.made (w : World) (base eo ei n : Nat) (hb : base ≤ w.heap.size) (hm : n ≤ 9223372036854775807) :
    OwnRaces (w.alloc (.cells (madeCells #[.slice none 0 0] n) eo)) base eo ei (some ⟨w.heap.size, 0, none⟩) n n (List.replicate n (.slice none 0 0)) (List.replicate n []) := by
  refine ⟨own_made w base eo n _ hb hm, by simp, ?_, ?_⟩
  · intro k v xs h1 h2
    rw [List.getElem?_replicate] at h1 h2
    split at h1
    · injection h1 with h1; subst h1
      rw [if_pos ‹_›] at h2
      injection h2 with h2; subst h2
      exact ⟨none, 0, rfl, World.ownsRow_nil _ _ _ _⟩
    · cases h1
  · intro i j u v _ h1 h2 g hg
    rw [List.getElem?_replicate] at h1
    split at h1
    · injection h1 with h1; subst h1
      simp [Value.ownBlock] at hg
    · cases h1
theorem OwnRaces.nil (w : World) (base eo ei : Nat) : OwnRaces w base eo ei none 0 0 [] [] :=
  ⟨World.ownsRow_nil _ _ _ _, rfl, fun k v xs h => by simp at h, fun i j u v _ h => by simp at h⟩
theorem OwnRaces.empty (w : World) (base eo ei : Nat) (hb : base ≤ w.heap.size) : OwnRaces (w.alloc (.cells #[] eo)) base eo ei (some ⟨w.heap.size, 0, none⟩) 0 0 [] [] :=
  ⟨own_empty w base eo hb, rfl, fun k v xs h => by simp at h, fun i j u v _ h => by simp at h⟩
/-- A row is appended. -/
theorem OwnRaces.append {w1 : World} {A1 : Option Addr} {c1 : Nat} (h : OwnRaces w base eo ei A n c vs rows) (hne : eo ≠ ei) {A' : Option Addr} {c' : Nat} {ys : List FinishT}
    (hy : w.ownsRow base ei 3 (.slice A' ys.length c') ys.length (fins ys)) (hap : ∀ u ∈ vs, ∀ b, (Value.slice A' ys.length c').ownBlock = some b → u.ownBlock ≠ some b)
    (o : Obj) (hg : (w.alloc o).grownBy w1 (Value.slice A n c).ownBlock) (ho : w1.ownsRow base eo 1 (.slice A1 (n + 1) c1) (n + 1) (vs ++ [.slice A' ys.length c'])) :
    OwnRaces w1 base eo ei A1 (n + 1) c1 (vs ++ [.slice A' ys.length c']) (rows ++ [ys]) := by
  have keep : ∀ (u : Value) (m : Nat) (zs : List Value), w.ownsRow base ei 3 u m zs → w1.ownsRow base ei 3 u m zs := by
    intro u m zs hu
    refine (hu.alloc o).kept hg ?_
    rcases hb : u.ownBlock with _ | b
    · exact .inl rfl
    · exact .inr (fun he => own_type_ne h.outer hu hne b he.symm hb)
  refine ⟨ho, by simp [h.len], ?_, ?_⟩
  · intro i u zs h1 h2
    by_cases hi : i < n
    · rw [List.getElem?_append_left (by rw [h.vlen]; exact hi)] at h1
      rw [List.getElem?_append_left (by rw [h.len]; exact hi)] at h2
      obtain ⟨A'', c'', e, hr⟩ := h.row i u zs h1 h2
      exact ⟨A'', c'', e, keep _ _ _ hr⟩
    · rw [List.getElem?_append_right (by rw [h.vlen]; omega), h.vlen] at h1
      rw [List.getElem?_append_right (by rw [h.len]; omega), h.len] at h2
      have h0 : i - n = 0 := by
        rcases Nat.eq_zero_or_pos (i - n) with h | h
        · exact h
        · rw [List.getElem?_eq_none (by simp; omega)] at h1; cases h1
      rw [h0] at h1 h2
      simp at h1 h2
      subst h1; subst h2
      exact ⟨A', c', rfl, keep _ _ _ hy⟩
  · intro i j u v hij h1 h2 b hb
    have split : ∀ (q : Nat) (x : Value), (vs ++ [Value.slice A' ys.length c'])[q]? = some x → (q < n ∧ vs[q]? = some x) ∨ (q = n ∧ x = .slice A' ys.length c') := by
      intro q x hx
      by_cases hq : q < n
      · rw [List.getElem?_append_left (by rw [h.vlen]; exact hq)] at hx; exact .inl ⟨hq, hx⟩
      · rw [List.getElem?_append_right (by rw [h.vlen]; omega), h.vlen] at hx
        have h0 : q - n = 0 := by
          rcases Nat.eq_zero_or_pos (q - n) with h | h
          · exact h
          · rw [List.getElem?_eq_none (by simp; omega)] at hx; cases hx
        rw [h0] at hx
        simp at hx
        exact .inr ⟨by omega, hx.symm⟩
    rcases split i u h1 with ⟨hi, hu⟩ | ⟨hi, rfl⟩ <;> rcases split j v h2 with ⟨hj, hv⟩ | ⟨hj, rfl⟩
    · exact h.apart i j u v hij hu hv b hb
    · exact fun hb' => hap u (List.mem_of_getElem? hu) b hb' hb
    · exact hap v (List.mem_of_getElem? hv) b hb
    · omega
end
end Go.Proofs.YtalgdeieejpelaaGreatDoor

/- Walks: the laws' helpers on slices of races and on series: compare, mark, held. -/
namespace Go.Proofs.YtalgdeieejpelaaGreatDoor
open Go.RowKit
set_option linter.unusedVariables false
set_option maxRecDepth 100000

theorem mixr_set {α : Type} (ys xs : List α) (j : Nat) (y : α) (hl : ys.length = xs.length) (hy : ys[j]? = some y) : (ys.take j ++ xs.drop j).set j y = ys.take (j + 1) ++ xs.drop (j + 1) := by
  have hj : j < ys.length := (List.getElem?_eq_some_iff.1 hy).1
  have hj' : j < xs.length := by omega
  rw [List.set_append, if_neg (by simp; omega), take_snoc_get hy, List.drop_eq_getElem_cons hj']
  have e : j - (ys.take j).length = 0 := by simp; omega
  rw [e, List.set_cons_zero, List.append_assoc]
  rfl
theorem mixr_get {α : Type} (ys xs : List α) (j : Nat) (hl : ys.length = xs.length) (hj : j < xs.length) : (ys.take j ++ xs.drop j)[j]? = xs[j]? := by
  rw [List.getElem?_append_right (by simp; omega)]
  have e : j - (ys.take j).length = 0 := by simp; omega
  rw [e, List.getElem?_drop]; simp
/-- All numbers of all races. -/
def raceSum : List (List FinishT) → Nat
  | [] => 0
  | x :: r => 3 * x.length + raceSum r
theorem raceSum_take_le (rows : List (List FinishT)) (j : Nat) : raceSum (rows.take j) ≤ raceSum rows := by
  induction rows generalizing j with
  | nil => simp
  | cons x r ih =>
    cases j with
    | zero => simp [raceSum]
    | succ j => simp only [List.take_succ_cons, raceSum]; have := ih j; omega
theorem raceSum_snoc (rows : List (List FinishT)) (x : List FinishT) : raceSum (rows ++ [x]) = raceSum rows + 3 * x.length := by
  induction rows with
  | nil => simp [raceSum]
  | cons y r ih => simp only [List.cons_append, raceSum, ih]; omega
def seqRaces (k : Int) : List (List FinishT) → List (List FinishT)
  | [] => []
  | x :: r => seqfin k x.length :: seqRaces (k + 3 * x.length) r
theorem seqRaces_length (k : Int) (rows : List (List FinishT)) : (seqRaces k rows).length = rows.length := by
  induction rows generalizing k with
  | nil => rfl
  | cons x r ih => simp [seqRaces, ih]
theorem seqRaces_get (k : Int) (rows : List (List FinishT)) (j : Nat) (x : List FinishT) (h : rows[j]? = some x) : (seqRaces k rows)[j]? = some (seqfin (k + raceSum (rows.take j)) x.length) := by
  induction rows generalizing k j with
  | nil => simp at h
  | cons y r ih =>
    cases j with
    | zero => simp at h; subst h; simp [seqRaces, raceSum]
    | succ j =>
      simp only [seqRaces, List.getElem?_cons_succ, List.take_succ_cons, raceSum]
      rw [ih _ _ (by simpa using h)]
      congr 2
      omega
/-! ### Series -/
/-- A new series and a code. -/
def RetSer (w : World) (b s : Int) (rows : List (List FinishT)) (code : Int) (e : Ending) (w' : World) : Prop :=
  ∃ A n c vs, e = .returned (.tuple #[.agg #[.int .i64 b, .int .i64 s, .slice A n c], .int .i64 code]) ∧ OwnRaces w' w.heap.size 107 109 A n c vs rows ∧ raceSum rows ≤ 1048576 ∧ Below w.heap.size w w'
/-- A new series. -/
def RetSer1 (w : World) (b s : Int) (rows : List (List FinishT)) (e : Ending) (w' : World) : Prop :=
  ∃ A n c vs, e = .returned (.agg #[.int .i64 b, .int .i64 s, .slice A n c]) ∧ OwnRaces w' w.heap.size 107 109 A n c vs rows ∧ raceSum rows ≤ 1048576 ∧ Below w.heap.size w w'
end Go.Proofs.YtalgdeieejpelaaGreatDoor

/- Walks: drawn races. -/
namespace Go.Proofs.YtalgdeieejpelaaGreatDoor
open Go.RowKit
set_option linter.unusedVariables false
set_option maxRecDepth 100000

/-- A new race is drawn. -/
def RetFD (w0 w : World) (A : Option Addr) (n cap : Nat) (code : List Int) (g : Nat) (r : List FinishT × St) (e : Ending) (w' : World) : Prop :=
  ∃ A' m c, e = .returned (.agg #[.slice A' m c]) ∧ w'.ownsRow w.heap.size 109 3 (.slice A' m c) m (fins r.1) ∧ Src w0 w' A n cap code g r.2 ∧ Chg g (g + 1) w w'
theorem src_put {w0 w : World} {A : Option Addr} {n cap : Nat} {code : List Int} {g : Nat} {s : St} (h : Src w0 w A n cap code g s) {b i : Nat} (hb : g < b) (v : Value) : Src w0 (w.setCell ⟨b, i, none⟩ v) A n cap code g s :=
  h.grown (row := some b) (grown_set ⟨rfl, rfl, rfl, Nat.le_refl _, fun _ _ _ => rfl⟩ i v) (fun k e => by injection e with e; omega)
theorem chg_put {lo hi : Nat} {w w' : World} (h : Chg lo hi w w') {g i : Nat} (h1 : w.heap.size ≤ g) (v : Value) : Chg lo hi w (w'.setCell ⟨g, i, none⟩ v) :=
  ⟨h.os, h.tape, h.output, by simpa [World.setCell] using h.size, fun k hk hn => (Below.heap_setCell _ _ _ _ (by simp; omega)).trans (h.block k hk hn)⟩
theorem src_app {w0 w w' : World} {A : Option Addr} {n cap : Nat} {code : List Int} {g : Nat} {s : St} (h : Src w0 w A n cap code g s) {base e sz m c : Nat} {A1 : Option Addr} {vs : List Value} {o : Obj} (ho : w.ownsRow base e sz (.slice A1 m c) m vs) (hb : g < base) (hg : (w.alloc o).grownBy w' (Value.slice A1 m c).ownBlock) : Src w0 w' A n cap code g s :=
  (h.alloc o).grown hg (fun k e => by have := (ho.lt k e).1; omega)
theorem chg_app {lo hi : Nat} {a w w' : World} (h : Chg lo hi a w) {base e sz m c : Nat} {A1 : Option Addr} {vs : List Value} {o : Obj} (ho : w.ownsRow base e sz (.slice A1 m c) m vs) (hb : a.heap.size ≤ base) (hg : (w.alloc o).grownBy w' (Value.slice A1 m c).ownBlock) : Chg lo hi a w' :=
  chg_grown (chg_alloc h o) hg (fun k e => by have := (ho.lt k e).1; omega)
theorem own_emptyF (w : World) (base e s : Nat) (hb : base ≤ w.heap.size) : (w.alloc (.cells #[] e)).ownsRow base e s (.slice (some ⟨w.heap.size, 0, none⟩) 0 0) 0 [] := by
  have := World.ownsRow_lit (base := base) (e := e) (size := s) w #[] 0 hb (by unfold maxLen; omega) (by simp)
  simpa using this
set_option maxHeartbeats 4000000 in
theorem raceD_any (w0 : World) (A : Option Addr) (n cap : Nat) (code : List Int) (hcode : Code0 w0 A n code) (g : Nat) (s : St) (N : Nat) (hN : N ≤ 17) (w : World) (h : Src w0 w A n cap code g s) :
    Calls Tryz.prog 99 #[.pointer (some ⟨g, 0, none⟩), .int .i64 (N : Int)] w (RetFD w0 w A n cap code g (raceD code N s)) := by
  have hgl := h.lt
  have HNX := Lib.hid (fun s k hk w' h => next_any w0 A n cap code hcode g s k hk w' h)
  unfold raceD
  generalize hR : raceGo code (N : Int) N 0 [] s = R at *
  have HR := Lib.hid hR
  clear hR
  obtain ⟨wa, hwa, XR, hba, hsa⟩ := one_box w #[.slice none 0 0] 107
  have HS := Lib.hid (h.below hba)
  have HC := Lib.hid (Chg.of_below (lo := g) (hi := g + 1) hba)
  have ho0 := own_emptyF wa (w.heap.size + 1) 109 3 (by omega)
  have HSA := Lib.hid hsa
  clear h hba hsa
  go_enter Tryz.func99, Tryz.ntmps99
  go_wp2_with fail
  rw [← hwa]
  clear hwa
  rw [← HSA.out] at *
  go_wp2_with fail
  go_loopw [5, 6] (fun v i wr => ∃ (k c' : Nat) (A' : Option Addr) (out : List FinishT) (s' : St), k ≤ N ∧ i = .int .i64 k ∧ v = .slice A' k c' ∧ Hid (wr.ownsRow (w.heap.size + 1) 109 3 (.slice A' k c') k (fins out)) ∧ Hid (raceGo code (N : Int) (N - k) k out s' = R) ∧ Hid (Src w0 wr A n cap code g s') ∧ Hid (Chg g (g + 1) w wr) ∧ Hid (Box wr w.heap.size #[.slice none 0 0] 107)) (fun _ i _ => N - (intOf i).toNat)
  case atStart => exact ⟨0, _, _, [], s, Nat.zero_le _, rfl, rfl, Lib.hid ho0, HR, Lib.hid (HS.out.alloc _), Lib.hid (chg_alloc HC.out _), Lib.hid (XR.below ((Below.refl _ _).alloc (Nat.le_refl _) _))⟩
  case round =>
    clear ho0 HR HS HC XR
    obtain ⟨k, c', A', out, s', hk, rfl, rfl, HO, HR, HS, HC, HX⟩ := hrel
    by_cases hlt : k < N
    · have hsz := HC.out.size
      have hxl := HX.out.lt
      have ek : N - k = (N - (k + 1)) + 1 := by omega
      have hr := HR.out
      rw [ek, raceGo] at hr
      have ex : finX code (N : Int) k s' = if (nextF code (nextF code s' (2 * (N : Int))).2 4).1 = 0 then (((k : Int), 1 + (nextF code (nextF code (nextF code s' (2 * (N : Int))).2 4).2 9).1, 0), (nextF code (nextF code (nextF code s' (2 * (N : Int))).2 4).2 9).2) else (((k : Int), 0, 1 + (nextF code s' (2 * (N : Int))).1), (nextF code (nextF code s' (2 * (N : Int))).2 4).2) := rfl
      generalize finX code (N : Int) k s' = X at *
      have H1 := Lib.hid (HNX.out s' (2 * (N : Int)) (by omega))
      have b1 := nextF_bd code s' (2 * (N : Int)) (by omega)
      generalize nextF code s' (2 * (N : Int)) = r1 at *
      obtain ⟨t, s1⟩ := r1
      have H2 := Lib.hid (HNX.out s1 4 (by omega))
      simp only at ex b1
      generalize nextF code s1 4 = r2 at *
      obtain ⟨q, s2⟩ := r2
      have H3 := Lib.hid (HNX.out s2 9 (by omega))
      have b3 := nextF_bd code s2 9 (by omega)
      simp only at ex
      generalize nextF code s2 9 = r3 at *
      obtain ⟨v3, s3⟩ := r3
      simp only at ex b3
      obtain ⟨b10, b11⟩ := b1
      obtain ⟨b30, b31⟩ := b3
      have HR2 := Lib.hid hr
      have HEX := Lib.hid ex
      clear hr ex HR ek
      go_wp2_with fail
      refine (H1.out _ HS.out).mono ?_
      rintro e w1 ⟨rfl, hs1, hc1⟩
      have HO1 := Lib.hid (own_ne_chg HO.out hc1 (by omega))
      have HC1 := Lib.hid (HC.out.trans hc1)
      have HX1 := Lib.hid (HX.out.chg hc1 (by omega))
      have HS1 := Lib.hid hs1
      have hsz1 := hc1.size
      have HV := Lib.hid (fun b hb => (HO1.out.lt b hb).2)
      clear hs1 hc1 HO HC HX HS H1
      simp only
      go_wp2_with fail
      obtain ⟨wb, hwb, XB, hbb, hsb⟩ := one_box w1 #[.int .i64 (k : Int), .int .i64 0, .int .i64 (1 + t)] 109
      rw [← hwb]
      clear hwb
      refine (H2.out _ (HS1.out.below hbb)).mono ?_
      rintro e w2 ⟨rfl, hs2, hc2⟩
      have XB2 := Lib.hid (XB.chg hc2 (by omega))
      have HO2 := Lib.hid (own_ne_chg (own_below HO1.out hbb) hc2 (by omega))
      have HC2 := Lib.hid ((chg_below HC1.out hbb).trans hc2)
      have HX2 := Lib.hid ((HX1.out.below hbb).chg hc2 (by omega))
      have HS2 := Lib.hid hs2
      have hsz2 := hc2.size
      clear hs2 hc2 HO1 HC1 HX1 HS1 H2 XB hbb
      simp only
      by_cases hq : q = 0
      · subst hq
        have ex := HEX.out
        rw [if_pos rfl] at ex
        have hr := HR2.out
        subst ex
        have HR3 := Lib.hid hr
        clear hr HR2 HEX
        go_wp2_with fail
        refine (H3.out _ HS2.out).mono ?_
        rintro e w3 ⟨rfl, hs3, hc3⟩
        have XB3 := XB2.out.chg hc3 (by omega)
        have HO3 := Lib.hid (own_ne_chg HO2.out hc3 (by omega))
        have HC3 := Lib.hid (HC2.out.trans hc3)
        have HX3 := Lib.hid (HX2.out.chg hc3 (by omega))
        have HS3 := Lib.hid hs3
        have hsz3 := hc3.size
        have F3 := XB3.f3
        clear hs3 hc3 HO2 HC2 HX2 HS2 H3 XB2
        simp only
        have hput := put_chg (g := w1.heap.size) [.int .i64 (k : Int), .int .i64 (1 + v3), .int .i64 0] 0 (Chg.refl w1.heap.size (w1.heap.size + 1) w3) (Nat.le_refl _) (by omega)
        have HO4 := Lib.hid (own_chg HO3.out hput (fun b hb => .inl (HV.out b hb)))
        have HS4 := Lib.hid (HS3.out.chg hput (by omega))
        have HC4 := Lib.hid (chg_put (i := 2) (chg_put (i := 1) (chg_put (i := 0) HC3.out (g := w1.heap.size) (by omega) (.int .i64 (k : Int))) (g := w1.heap.size) (by omega) (.int .i64 (1 + v3))) (g := w1.heap.size) (by omega) (.int .i64 0))
        have HX4 := Lib.hid (HX3.out.chg hput (.inl (by omega)))
        clear hput
        have HN4 := Lib.hid (show ((((w3.setCell ⟨w1.heap.size, 0, none⟩ (.int .i64 (k : Int))).setCell ⟨w1.heap.size, 1, none⟩ (.int .i64 (1 + v3))).setCell ⟨w1.heap.size, 2, none⟩ (.int .i64 0)).alloc (.cells #[.int .i64 (k : Int), .int .i64 (1 + v3), .int .i64 0] 109)).heap[w3.heap.size]? = some (.cells #[.int .i64 (k : Int), .int .i64 (1 + v3), .int .i64 0] 109 (0, 0)) from by
          have := heap_alloc_new (((w3.setCell ⟨w1.heap.size, 0, none⟩ (.int .i64 (k : Int))).setCell ⟨w1.heap.size, 1, none⟩ (.int .i64 (1 + v3))).setCell ⟨w1.heap.size, 2, none⟩ (.int .i64 0)) (.cells #[.int .i64 (k : Int), .int .i64 (1 + v3), .int .i64 0] 109)
          rwa [size_set, size_set, size_set] at this)
        go_wp2_with (at_builtin; refine app_fin _ rfl _ _ rfl rfl (HO4.out.alloc _) rfl HN4.out (by omega) ?cA ?_; rotate_left; intro g5 c5 w5 hown5 hgr5 _ _)
        · have HO5 := Lib.hid hown5
          have HS5 := Lib.hid (src_app HS4.out HO4.out (by omega) hgr5)
          have HC5 := Lib.hid (chg_app HC4.out HO4.out (by omega) hgr5)
          have HX5 := Lib.hid ((HX4.out.below ((Below.refl _ _).alloc (Nat.le_refl _) _)).grown hgr5 (fun e => by have := (HO4.out.lt _ e).1; omega))
          clear hown5 hgr5
          go_roundw
          case rel => exact ⟨k + 1, _, _, _, _, by omega, by go_num, rfl, HO5, HR3, HS5, HC5, HX5⟩
          case measure => simp [intOf] <;> omega
        · first | omega | (simp; omega)
      · have ex := HEX.out
        rw [if_neg hq] at ex
        have hqb : (q == 0) = false := by simpa using hq
        have hr := HR2.out
        subst ex
        have HR3 := Lib.hid hr
        have F2 := XB2.out.f3
        clear hr HR2 HEX hq XB2
        go_wp2_with (at_builtin; refine app_fin _ rfl _ _ rfl rfl (HO2.out.alloc _) rfl (heap_alloc_new _ _) (by omega) ?cB ?_; rotate_left; intro g5 c5 w5 hown5 hgr5 _ _)
        · have HO5 := Lib.hid hown5
          have HS5 := Lib.hid (src_app HS2.out HO2.out (by omega) hgr5)
          have HC5 := Lib.hid (chg_app HC2.out HO2.out (by omega) hgr5)
          have HX5 := Lib.hid ((HX2.out.below ((Below.refl _ _).alloc (Nat.le_refl _) _)).grown hgr5 (fun e => by have := (HO2.out.lt _ e).1; omega))
          clear hown5 hgr5
          go_roundw
          case rel => exact ⟨k + 1, _, _, _, _, by omega, by go_num, rfl, HO5, HR3, HS5, HC5, HX5⟩
          case measure => simp [intOf] <;> omega
        · first | omega | (simp; omega)
    · obtain rfl : k = N := by omega
      have hr := HR.out
      rw [Nat.sub_self, raceGo] at hr
      subst hr
      have F := HX.out.l1
      go_wp2_with fail
      refine bodyPost_ret (v := .agg #[.slice A' k c']) (by simp [results, Tryz.results99, go_sem, F]) rfl ?_
      have hxl := HX.out.lt
      have hput := put_chg (g := w.heap.size) [.slice A' k c'] 0 (Chg.refl w.heap.size (w.heap.size + 1) wr) (Nat.le_refl _) (by omega)
      exact ⟨_, _, _, rfl, own_base (own_chg HO.out hput (fun b hb => .inr (by have := (HO.out.lt b hb).1; omega))) (by omega), src_put HS.out hgl _, chg_put HC.out (Nat.le_refl _) _⟩
end Go.Proofs.YtalgdeieejpelaaGreatDoor

/- Appending to an own slice of races. -/
namespace Go.Proofs.YtalgdeieejpelaaGreatDoor
open Go.RowKit
set_option linter.unusedVariables false
set_option maxRecDepth 100000

theorem Tryz.info_race : (Tryz.prog.info? 107).map (fun i => (i.zero, i.size, i.bytes)) = some (some (.agg #[.slice none 0 0]), 1, 24) := by kernel_rfl

theorem app_race {ops : Array Oper} {rest : List Oper} {o : Oper} {a : Act} {Q : Exit → Act → World → Prop} (w : World) (hgd : o.guard = none) (s x : Operand)
    (ho : o.op = .call { callee := .builtin .append, args := #[s, x], argTypes := #[101, 101] }) {base n c : Nat} {A : Option Addr} {vs : List Value}
    (hs : a.eval s = .slice A n c) (hown : w.ownsRow base 107 1 (.slice A n c) n vs) {ad : Addr} {B : Option Addr} {m d : Nat} (hx : a.eval x = .slice (some ad) 1 1)
    (hc : w.cell? ad = some (.slice B m d)) (hn : n ≤ 1099511627776) (hbase : base ≤ w.heap.size)
    (h : ∀ A' c' w', w'.ownsRow base 107 1 (.slice A' (n + 1) c') (n + 1) (vs ++ [.slice B m d]) → w.grownBy w' (Value.slice A n c).ownBlock → wpList Tryz.prog ops Q rest (a.put o.dst (.slice A' (n + 1) c')) w') :
    wpList Tryz.prog ops Q (o :: rest) a w := by
  obtain ⟨i, hi, hz, hs1, hb1⟩ := info_parts Tryz.info_race
  refine wpList_append_own w hgd s x 101 ho base 107 i (.agg #[.slice none 0 0]) 1 24 Tryz.underlying101 hi hz hs1 hb1 rfl (by decide) (.slice A n c) n vs hs hown ad 1 1 [.slice B m d] hx rfl ?_ ?_ (by unfold maxLen; omega) (by omega) hbase ?_
  · intro j u hu
    have hj : j = 0 := by
      rcases j with _ | j
      · rfl
      · simp at hu
    subst hj
    have hadd : ad.add 0 = ad := by simp [Addr.add]
    rw [hadd, hc]
    simpa using hu
  · intro u hu
    simp at hu
    subst hu
    rfl
  · intro v' w' h1 h2 _
    rcases h1.2 with ⟨rfl, h0⟩ | ⟨g, cap, cur, rfl, _⟩
    · omega
    · exact h _ _ w' h1 h2
end Go.Proofs.YtalgdeieejpelaaGreatDoor

/- Plain: the points of a race in fleets, boat by boat. -/
namespace Go.Proofs.YtalgdeieejpelaaGreatDoor
open Go.RowKit
set_option linter.unusedVariables false

def ptF (L : Int) (fs : List FinishT) (list : List Int) (i : Nat) : Int := pointF L (ofFleet (list.getD i 0) fs list) (fs.getD i (0, 0, 0))
def pointsL (L : Int) (fs : List FinishT) (list : List Int) : List Int := (List.range list.length).map (ptF L fs list)
/-- The points of the fleets below fl and of the boats in S. -/
def partG (L : Int) (fs : List FinishT) (list : List Int) (fl : Int) (S : List Int) : List Int :=
  (List.range list.length).map fun i => if list.getD i 0 < fl ∨ (i : Int) ∈ S then ptF L fs list i else 0
def fleetPointsL (fs : List FinishT) (list : List Int) (k : Int) : List Int × Int :=
  if fleetsCodeF list k = 0 then (if raceB (list.length : Int) fs = true then (pointsL (largestF (countF list (List.replicate k.toNat 0))) fs list, 0) else ([], 5)) else ([], fleetsCodeF list k)
theorem partG_len (L : Int) (fs : List FinishT) (list : List Int) (fl : Int) (S : List Int) : (partG L fs list fl S).length = list.length := by unfold partG; simp
theorem getD_mem {α : Type} {xs : List α} {i : Nat} {d : α} (h : i < xs.length) : xs.getD i d ∈ xs := by
  rw [List.getD_eq_getElem?_getD, List.getElem?_eq_getElem h]; exact List.getElem_mem _
theorem partG_zero (L : Int) (fs : List FinishT) {list : List Int} (h : ∀ x ∈ list, 0 ≤ x) : partG L fs list 0 [] = List.replicate list.length 0 := by
  apply List.ext_getElem
  · simp [partG]
  · intro i h1 h2
    simp only [partG, List.length_map, List.length_range] at h1
    have := h _ (getD_mem (d := 0) h1)
    simp only [partG, List.getElem_map, List.getElem_range, List.getElem_replicate, List.not_mem_nil, or_false]
    rw [if_neg (by omega)]
theorem partG_end (L : Int) (fs : List FinishT) {list : List Int} {k : Int} (h : ∀ x ∈ list, x < k) : partG L fs list k [] = pointsL L fs list := by
  apply List.ext_getElem
  · simp [partG, pointsL]
  · intro i h1 h2
    simp only [partG, List.length_map, List.length_range] at h1
    have := h _ (getD_mem (d := 0) h1)
    simp only [partG, pointsL, List.getElem_map, List.getElem_range]
    rw [if_pos (.inl this)]
theorem partG_set (L : Int) (fs : List FinishT) (list : List Int) (fl : Int) (S : List Int) (b : Nat) : (partG L fs list fl S).set b (ptF L fs list b) = partG L fs list fl (S ++ [(b : Int)]) := by
  apply List.ext_getElem
  · simp [partG]
  · intro i h1 h2
    rw [List.getElem_set]
    simp only [partG, List.getElem_map, List.getElem_range, List.mem_append, List.mem_singleton]
    by_cases hb : b = i
    · subst hb
      rw [if_pos rfl, if_pos (.inr (.inr rfl))]
    · rw [if_neg hb]
      have : ¬ (i : Int) = (b : Int) := by omega
      simp [this]
theorem boatsF_mem {fl : Int} : ∀ {xs : List Int} {i : Nat} {y : Int}, y ∈ boatsF fl i xs ↔ ∃ j : Nat, y = ((i + j : Nat) : Int) ∧ xs[j]? = some fl := by
  intro xs
  induction xs with
  | nil => intro i y; simp [boatsF]
  | cons x r ih =>
    intro i y
    unfold boatsF
    constructor
    · intro h
      split at h
      · rename_i hx
        rcases List.mem_cons.1 h with h | h
        · exact ⟨0, by simpa using h, by simp [hx]⟩
        · obtain ⟨j, h1, h2⟩ := ih.1 h
          exact ⟨j + 1, by rw [h1]; congr 1; omega, by simpa using h2⟩
      · obtain ⟨j, h1, h2⟩ := ih.1 h
        exact ⟨j + 1, by rw [h1]; congr 1; omega, by simpa using h2⟩
    · rintro ⟨j, h1, h2⟩
      cases j with
      | zero => simp at h2; rw [if_pos h2]; exact List.mem_cons.2 (.inl (by simpa using h1))
      | succ j =>
        have hm : y ∈ boatsF fl (i + 1) r := ih.2 ⟨j, by rw [h1]; congr 1; omega, by simpa using h2⟩
        split
        · exact List.mem_cons_of_mem _ hm
        · exact hm
theorem boatsF_at {fl : Int} {xs : List Int} {t : Nat} {y : Int} (h : (boatsF fl 0 xs)[t]? = some y) : ∃ j : Nat, y = (j : Int) ∧ j < xs.length ∧ xs[j]? = some fl := by
  obtain ⟨j, h1, h2⟩ := boatsF_mem.1 (List.mem_of_getElem? h)
  exact ⟨j, by simpa using h1, (List.getElem?_eq_some_iff.1 h2).1, h2⟩
theorem boatsF_len (fl : Int) : ∀ (xs : List Int) (i : Nat), (boatsF fl i xs).length ≤ xs.length := by
  intro xs
  induction xs with
  | nil => intro i; simp [boatsF]
  | cons x r ih => intro i; have := ih (i + 1); unfold boatsF; split <;> simp <;> omega
theorem partG_next (L : Int) (fs : List FinishT) (list : List Int) (fl : Int) : partG L fs list fl (boatsF fl 0 list) = partG L fs list (fl + 1) [] := by
  apply List.ext_getElem
  · simp [partG]
  · intro i h1 h2
    simp only [partG, List.length_map, List.length_range] at h1
    simp only [partG, List.getElem_map, List.getElem_range, List.not_mem_nil, or_false]
    have e : (i : Int) ∈ boatsF fl 0 list ↔ list.getD i 0 = fl := by
      rw [boatsF_mem, List.getD_eq_getElem?_getD, List.getElem?_eq_getElem h1]
      constructor
      · rintro ⟨j, e1, e2⟩
        obtain rfl : i = j := by omega
        rw [List.getElem?_eq_getElem h1] at e2; injection e2
      · intro e1
        exact ⟨i, by simp, by rw [List.getElem?_eq_getElem h1]; simpa using e1⟩
    by_cases hc : list.getD i 0 < fl + 1
    · rw [if_pos hc, if_pos (by rw [e]; omega)]
    · rw [if_neg hc, if_neg (by rw [e]; omega)]
theorem boats_fins_go (fl : Int) (all : List FinishT) : ∀ (xs : List Int) (fs : List FinishT) (i : Nat), all.drop i = fs → fs.length = xs.length →
    (boatsF fl i xs).map (fun y => all.getD y.toNat (0, 0, 0)) = ofFleet fl fs xs := by
  intro xs
  induction xs with
  | nil => intro fs i h hl; cases fs with
    | nil => rfl
    | cons f r => simp at hl
  | cons x r ih =>
    intro fs i h hl
    cases fs with
    | nil => simp at hl
    | cons f q =>
      have h2 : all.drop (i + 1) = q := by rw [← List.drop_drop, h]; rfl
      have hg : all.getD i (0, 0, 0) = f := by
        have : (all.drop i)[0]? = some f := by rw [h]; rfl
        rw [List.getElem?_drop] at this
        rw [List.getD_eq_getElem?_getD]
        simp at this
        rw [this]; rfl
      have := ih q (i + 1) h2 (by simpa using hl)
      unfold boatsF ofFleet
      split
      · rw [List.map_cons, this]; congr 1
      · exact this
theorem boats_fins (fl : Int) {xs : List Int} {fs : List FinishT} (h : fs.length = xs.length) : (boatsF fl 0 xs).map (fun y => fs.getD y.toNat (0, 0, 0)) = ofFleet fl fs xs :=
  boats_fins_go fl fs xs fs 0 rfl h
theorem ofFleet_at {fl : Int} {xs : List Int} {fs : List FinishT} (h : fs.length = xs.length) {t : Nat} {y : Nat} (hy : (boatsF fl 0 xs)[t]? = some (y : Int)) : (ofFleet fl fs xs)[t]? = some (fs.getD y (0, 0, 0)) := by
  rw [← boats_fins fl h, List.getElem?_map, hy]; rfl
/-- What a boat of the fleet gets. -/
theorem ptF_at {L fl : Int} {xs : List Int} {fs : List FinishT} {y : Nat} (hy : xs[y]? = some fl) : ptF L fs xs y = pointF L (ofFleet fl fs xs) (fs.getD y (0, 0, 0)) := by
  unfold ptF
  rw [List.getD_eq_getElem?_getD, hy]; rfl
theorem partG_skip {L : Int} {fs : List FinishT} {list : List Int} {fl : Int} {S : List Int} {b : Nat} (hz : ptF L fs list b = 0) : partG L fs list fl S = partG L fs list fl (S ++ [(b : Int)]) := by
  rw [← partG_set]
  apply List.ext_getElem
  · simp
  · intro i h1 h2
    rw [List.getElem_set]
    split
    · rename_i hb
      subst hb
      simp only [partG, List.getElem_map, List.getElem_range]
      rw [hz]
      split <;> rfl
    · rfl
theorem largest_snoc (xs : List Int) (x : Int) : largestF (xs ++ [x]) = max (largestF xs) x := by unfold largestF; rw [List.foldl_append]; rfl
theorem largest_le {xs : List Int} (h : ∀ x ∈ xs, x ≤ 16) : 0 ≤ largestF xs ∧ largestF xs ≤ 16 := by
  unfold largestF
  have : ∀ (ys : List Int) (a : Int), 0 ≤ a → a ≤ 16 → (∀ x ∈ ys, x ≤ 16) → 0 ≤ ys.foldl max a ∧ ys.foldl max a ≤ 16 := by
    intro ys
    induction ys with
    | nil => intro a h0 h1 _; exact ⟨h0, h1⟩
    | cons y r ih => intro a h0 h1 h2; exact ih _ (by omega) (by have := h2 y (by simp); omega) (fun x hx => h2 x (by simp [hx]))
  exact this xs 0 (by omega) (by omega) h
theorem filter_of_fleet (fl t : Int) (p : FinishT → Bool) : ∀ (fs : List FinishT) (l : List Int), fs.length = l.length →
    ((ofFleet fl fs l).filter p).length = (((fs.zip l).filter fun q => p q.1 && (q.2 == fl)).length) := by
  intro fs
  induction fs with
  | nil => intro l h; simp [ofFleet]
  | cons f r ih =>
    intro l h
    cases l with
    | nil => simp at h
    | cons x l =>
      have := ih l (by simpa using h)
      unfold ofFleet
      rw [List.zip_cons_cons, List.filter_cons]
      by_cases hx : x = fl
      · subst hx
        rw [if_pos rfl, List.filter_cons]
        by_cases hp : p f = true
        · rw [if_pos hp, if_pos (by simp [hp])]; simp [this]
        · rw [if_neg hp, if_neg (by simp [hp])]; exact this
      · rw [if_neg hx, if_neg (by simp [hx])]; exact this
end Go.Proofs.YtalgdeieejpelaaGreatDoor

/- Walks: what the points of fleets need of the fleets (chapter 30). -/
namespace Go.Proofs.YtalgdeieejpelaaGreatDoor
open Go.RowKit
set_option linter.unusedVariables false
set_option maxRecDepth 100000

theorem fleetsB_len {xs : List Int} {k : Int} (h : fleetsB xs k = true) : 1 ≤ xs.length ∧ xs.length ≤ 16 := by
  unfold fleetsB at h
  simp only [Bool.and_eq_true, withinB_iff] at h
  omega
theorem fleetsB_mem {xs : List Int} {k : Int} (h : fleetsB xs k = true) {i : Nat} {x : Int} (hx : xs[i]? = some x) : ∃ j : Nat, x = j ∧ (j : Int) < k := by
  unfold fleetsB at h
  simp only [Bool.and_eq_true, List.all_eq_true] at h
  have := withinB_iff.1 (h.2 x (List.mem_of_getElem? hx))
  exact ⟨x.toNat, by omega, by omega⟩
theorem fleetsCode_ok {xs : List Int} {k : Int} (h : fleetsCodeF xs k = 0) : 1 ≤ k ∧ k ≤ 4 ∧ fleetsB xs k = true := by
  unfold fleetsCodeF at h
  split at h
  · rename_i h1
    split at h
    · rename_i h2
      exact ⟨(withinB_iff.1 h1).1, (withinB_iff.1 h1).2, h2⟩
    · cases h
  · cases h

end Go.Proofs.YtalgdeieejpelaaGreatDoor

/- Plain memory: a row is appended to both columns of a table of one's own: the second row lay there before. -/
namespace Go.Proofs.YtalgdeieejpelaaGreatDoor
open Go.RowKit
set_option linter.unusedVariables false

/-- A row is appended to own rows: where all lies; the row may be old. -/
structure PushedW (wr w' : World) (base : Nat) (A : Option Addr) (n c : Nat) (vs : List Value) (rows : List (List Int)) (ga ca g1 c1 : Nat) (p : List Int) : Prop where
  own : OwnRows w' base 35 2 (some ⟨ga, 0, none⟩) (n + 1) ca (vs ++ [.slice (some ⟨g1, 0, none⟩) p.length c1]) (rows ++ [p])
  lies : (Value.slice A n c).ownBlock = some ga ∨ wr.heap.size ≤ ga
  ltA : ga < w'.heap.size
  size : wr.heap.size ≤ w'.heap.size
  keep : ∀ b, b < wr.heap.size → (Value.slice A n c).ownBlock ≠ some b → w'.heap[b]? = wr.heap[b]?
  frame : w'.os = wr.os ∧ w'.tape = wr.tape ∧ w'.output = wr.output
/-- .. the world ahead of the append however it came about. -/
theorem push_row1 {wr wd w5 : World} {base b1 n c ga ca g1 c1 : Nat} {A : Option Addr} {vs : List Value} {rows : List (List Int)} {p : List Int} (h : OwnRows wr base 35 2 A n c vs rows) (hbs : base ≤ wr.heap.size)
    (hb : Below wr.heap.size wr wd) (og : wd.ownsRow b1 2 1 (.slice (some ⟨g1, 0, none⟩) p.length c1) p.length (ints p)) (hg1 : ∀ u ∈ vs, ∀ b, u.ownBlock = some b → b ≠ g1) (hb1 : base ≤ b1)
    (hga : wd.grownBy w5 (Value.slice A n c).ownBlock) (ho : w5.ownsRow base 35 1 (.slice (some ⟨ga, 0, none⟩) (n + 1) ca) (n + 1) (vs ++ [.slice (some ⟨g1, 0, none⟩) p.length c1]))
    (hla : (Value.slice A n c).ownBlock = some ga ∨ ga = wd.heap.size) : PushedW wr w5 base A n c vs rows ga ca g1 c1 p := by
  have hin := h.in_
  have hs := hb.size
  have hs5 := hga.size
  have hlt := (og.lt g1 rfl).2
  have hW := h.below hb
  have og0 := own_base og hb1
  refine ⟨⟨ho, by simp [h.len], ?_, ?_⟩, ?_, (ho.lt ga rfl).2, by omega, fun b hbl hne => ?_, ⟨hga.os.trans hb.os, hga.tape.trans hb.tape, hga.output.trans hb.output⟩⟩
  · have keep : ∀ (u : Value) (m : Nat) (zs : List Value), wd.ownsRow base 2 1 u m zs → w5.ownsRow base 2 1 u m zs := by
      intro u m zs hu
      refine hu.kept hga ?_
      rcases hb : u.ownBlock with _ | b
      · exact .inl rfl
      · exact .inr (fun he => own_type_ne hW.outer hu (by decide) b he.symm hb)
    intro i u zs h1 h2
    by_cases hi : i < n
    · rw [List.getElem?_append_left (by rw [h.vlen]; exact hi)] at h1
      rw [List.getElem?_append_left (by rw [h.len]; exact hi)] at h2
      obtain ⟨A'', c'', e, hr⟩ := hW.row i u zs h1 h2
      exact ⟨A'', c'', e, keep _ _ _ hr⟩
    · rw [List.getElem?_append_right (by rw [h.vlen]; omega), h.vlen] at h1
      rw [List.getElem?_append_right (by rw [h.len]; omega), h.len] at h2
      have h0 : i - n = 0 := by
        rcases Nat.eq_zero_or_pos (i - n) with h | h
        · exact h
        · rw [List.getElem?_eq_none (by simp; omega)] at h1; cases h1
      rw [h0] at h1 h2
      simp at h1 h2
      subst h1; subst h2
      exact ⟨_, c1, rfl, keep _ _ _ og0⟩
  · intro i j u v hij h1 h2 b hb hb'
    have split : ∀ (q : Nat) (x : Value), (vs ++ [Value.slice (some ⟨g1, 0, none⟩) p.length c1])[q]? = some x → (q < n ∧ vs[q]? = some x) ∨ (q = n ∧ x = .slice (some ⟨g1, 0, none⟩) p.length c1) := by
      intro q x hx
      by_cases hq : q < n
      · rw [List.getElem?_append_left (by rw [h.vlen]; exact hq)] at hx; exact .inl ⟨hq, hx⟩
      · rw [List.getElem?_append_right (by rw [h.vlen]; omega), h.vlen] at hx
        have h0 : q - n = 0 := by
          rcases Nat.eq_zero_or_pos (q - n) with h | h
          · exact h
          · rw [List.getElem?_eq_none (by simp; omega)] at hx; cases hx
        rw [h0] at hx
        simp at hx
        exact .inr ⟨by omega, hx.symm⟩
    have isg : ∀ b, (Value.slice (some ⟨g1, 0, none⟩) p.length c1).ownBlock = some b → b = g1 := fun b e => by simp [Value.ownBlock] at e; exact e.symm
    rcases split i u h1 with ⟨hi, hu⟩ | ⟨hi, rfl⟩ <;> rcases split j v h2 with ⟨hj, hv⟩ | ⟨hj, rfl⟩
    · exact h.apart i j u v hij hu hv b hb hb'
    · exact absurd (isg b hb') (hg1 u (List.mem_of_getElem? hu) b hb)
    · exact absurd (isg b hb) (hg1 v (List.mem_of_getElem? hv) b hb')
    · omega
  · rcases hla with hla | hla
    · exact .inl hla
    · right; omega
  · have h2 := hga.block b (by omega) (fun e => hne e.symm)
    rw [h2]
    exact hb.block b hbl
/-- Both columns, one behind the other. -/
theorem push_pair {wr w5 w9 : World} {base n c d ga ca gb cb g1 c1 g2 c2 : Nat} {A C : Option Addr} {vs us : List Value} {pts cds : List (List Int)} {B : Int} {p q : List Int}
    (h : OwnT wr base A n c vs C n d us ⟨B, pts, cds⟩) (hbs : base ≤ wr.heap.size)
    (h1 : Pushed wr w5 base A n c vs pts ga ca g1 c1 p)
    (h2 : OwnRows w5 base 35 2 C n d us cds → PushedW w5 w9 base C n d us cds gb cb g2 c2 q) (hn2 : wr.heap.size ≤ g2) (hn12 : g1 ≠ g2) :
    OwnT w9 base (some ⟨ga, 0, none⟩) (n + 1) ca (vs ++ [.slice (some ⟨g1, 0, none⟩) p.length c1]) (some ⟨gb, 0, none⟩) (n + 1) cb (us ++ [.slice (some ⟨g2, 0, none⟩) q.length c2]) ⟨B, pts ++ [p], cds ++ [q]⟩ := by
  have hpi := h.pts.in_
  have hci := h.cds.in_
  have hg5 : wr.grownBy w5 (Value.slice A n c).ownBlock := ⟨h1.frame.1, h1.frame.2.1, h1.frame.2.2, h1.size, fun k hk hn => h1.keep k hk (fun e => hn e.symm)⟩
  have hcd5 : OwnRows w5 base 35 2 C n d us cds := h.cds.grown hg5 (fun b hb e => h.apO b e hb) (fun v hv b hb e => by
    obtain ⟨m, zs, ho⟩ := h.cds.row_ty hv
    exact own_type_ne h.pts.outer ho (by decide) b e hb)
  have h2 := h2 hcd5
  have hg9 : w5.grownBy w9 (Value.slice C n d).ownBlock := ⟨h2.frame.1, h2.frame.2.1, h2.frame.2.2, h2.size, fun k hk hn => h2.keep k hk (fun e => hn e.symm)⟩
  have hne : ∀ b, (Value.slice C n d).ownBlock = some b → ga ≠ b := by
    rintro b hb rfl
    rcases h1.lies with e | e
    · exact h.apO ga e hb
    · have := (hci.1 ga hb).2; omega
  refine ⟨h1.own.grown hg9 (fun b hb e => ?_) (fun v hv b hb e => ?_), h2.own, ?_, ?_⟩
  · have e2 : ga = b := by simp [Value.ownBlock] at hb; exact hb
    exact hne b e e2
  · obtain ⟨m, zs, ho⟩ := h1.own.row_ty hv
    exact own_type_ne hcd5.outer ho (by decide) b e hb
  · intro g hg hg'
    have e1 : ga = g := by simpa [Value.ownBlock] using hg
    have e2 : gb = g := by simpa [Value.ownBlock] using hg'
    rcases h2.lies with e | e
    · exact hne gb e (by omega)
    · have := h1.ltA; omega
  · intro v hv u hu g hg hg'
    rcases List.mem_append.1 hu with hu | hu
    · rcases List.mem_append.1 hv with hv | hv
      · exact h.apR v hv u hu g hg hg'
      · simp at hv; subst hv
        have e1 : g1 = g := by simpa [Value.ownBlock] using hg
        have := (hci.2 u hu g hg').2
        have := h1.new.1
        omega
    · simp at hu; subst hu
      have e1 : g2 = g := by simpa [Value.ownBlock] using hg'
      rcases List.mem_append.1 hv with hv | hv
      · have := (hpi.2 v hv g hg).2
        omega
      · simp at hv; subst hv
        have e2 : g1 = g := by simpa [Value.ownBlock] using hg
        omega
theorem PushedW.below {wr w' : World} {base n c ga ca g1 c1 : Nat} {A : Option Addr} {vs : List Value} {rows : List (List Int)} {p : List Int} (h : PushedW wr w' base A n c vs rows ga ca g1 c1 p) (ho : OwnRows wr base 35 2 A n c vs rows) (hb : base ≤ wr.heap.size) : Below base wr w' :=
  ⟨h.frame.1, h.frame.2.1, h.frame.2.2, h.size, fun k hk => h.keep k (by omega) (fun e => by have := (ho.in_.1 k e).1; omega)⟩
end Go.Proofs.YtalgdeieejpelaaGreatDoor

/- One cell of one element of an own slice of structs is written. -/
namespace Go.Proofs.YtalgdeieejpelaaGreatDoor
open Go.RowKit
set_option linter.unusedVariables false

theorem flat_set1 {α : Type} {f : α → List Value} {s : Nat} (hf : ∀ x, (f x).length = s) {j : Nat} (hj : j < s) (v : Value) {x y : α} (hy : f y = (f x).set j v) : ∀ (xs : List α) (k : Nat), xs[k]? = some x → (xs.flatMap f).set (k * s + j) v = (xs.set k y).flatMap f := by
  intro xs
  induction xs with
  | nil => intro k h; simp at h
  | cons a r ih =>
    intro k h
    cases k with
    | zero =>
      simp at h
      subst h
      rw [Nat.zero_mul, Nat.zero_add, List.flatMap_cons, List.set_cons_zero, List.flatMap_cons, List.set_append_left _ _ (by rw [hf]; exact hj), hy]
    | succ k =>
      have e : (k + 1) * s + j = s + (k * s + j) := by rw [Nat.add_mul, Nat.one_mul]; omega
      rw [List.flatMap_cons, List.set_cons_succ, List.flatMap_cons, e, List.set_append_right _ _ (by rw [hf]; omega), hf, Nat.add_sub_cancel_left, ih k (by simpa using h)]
theorem own_set1 {α : Type} {f : α → List Value} {s : Nat} (hf : ∀ x, (f x).length = s) {w : World} {base e g n c k : Nat} {xs : List α} (h : w.ownsRow base e s (.slice (some ⟨g, 0, none⟩) n c) n (xs.flatMap f)) {j : Nat} (hj : j < s) {x : α} (hx : xs[k]? = some x) (v : Value) (y : α) (hy : f y = (f x).set j v) :
    (w.setCell ⟨g, k * s + j, none⟩ v).ownsRow base e s (.slice (some ⟨g, 0, none⟩) n c) n ((xs.set k y).flatMap f) := by
  rw [← flat_set1 hf hj v hy xs k hx]
  exact (h.stored _ v).1
end Go.Proofs.YtalgdeieejpelaaGreatDoor

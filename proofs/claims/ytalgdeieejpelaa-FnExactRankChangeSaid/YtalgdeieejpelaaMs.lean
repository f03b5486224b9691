/- Plain: insertion sort, as the library's text goes; its result is the order by rank: no Go in sight. -/
import Derived.Test.YtalgdeieejpelaaLib
namespace Go.Proofs.Ytalgdeieejpelaa
open Go.RowKit
set_option linter.unusedVariables false

def swapAt (j : Nat) (xs : List Int) : List Int := (xs.set (j + 1) (xs.getD j 0)).set j (xs.getD (j + 1) 0)
def insIn (lt : Int → Int → Bool) : Nat → List Int → List Int
  | 0, xs => xs
  | j + 1, xs => if lt (xs.getD (j + 1) 0) (xs.getD j 0) then insIn lt j (swapAt j xs) else xs
def insOut (lt : Int → Int → Bool) : Nat → Nat → List Int → List Int
  | 0, _, xs => xs
  | m + 1, i, xs => insOut lt m (i + 1) (insIn lt i xs)
def insSort (lt : Int → Int → Bool) (xs : List Int) : List Int := insOut lt (xs.length - 1) 1 xs
theorem swapAt_length (j : Nat) (xs : List Int) : (swapAt j xs).length = xs.length := by simp [swapAt]
theorem insIn_length (lt : Int → Int → Bool) (j : Nat) (xs : List Int) : (insIn lt j xs).length = xs.length := by
  induction j generalizing xs with
  | zero => rfl
  | succ j ih =>
    unfold insIn
    split
    · rw [ih, swapAt_length]
    · rfl
theorem insOut_length (lt : Int → Int → Bool) (m i : Nat) (xs : List Int) : (insOut lt m i xs).length = xs.length := by
  induction m generalizing i xs with
  | zero => rfl
  | succ m ih => unfold insOut; rw [ih, insIn_length]
theorem insSort_length (lt : Int → Int → Bool) (xs : List Int) : (insSort lt xs).length = xs.length := insOut_length _ _ _ _

/-- x is put in from the right into a list that stands reversed. -/
def insRev (lt : Int → Int → Bool) (x : Int) : List Int → List Int → List Int
  | [], acc => x :: acc
  | y :: r, acc => if lt x y then insRev lt x r (y :: acc) else r.reverse ++ y :: x :: acc
theorem swapAt_app (p : List Int) (y x : Int) (acc : List Int) : swapAt p.length (p ++ y :: x :: acc) = p ++ x :: y :: acc := by
  have h1 : (p ++ y :: x :: acc).getD p.length 0 = y := by
    rw [List.getD_eq_getElem?_getD, List.getElem?_append_right (Nat.le_refl _)]; simp
  have h2 : (p ++ y :: x :: acc).getD (p.length + 1) 0 = x := by
    rw [List.getD_eq_getElem?_getD, List.getElem?_append_right (by omega)]; simp
  unfold swapAt
  rw [h1, h2, List.set_append, if_neg (by omega), List.set_append, if_neg (by omega)]
  have e1 : p.length + 1 - p.length = 1 := by omega
  rw [e1, Nat.sub_self]
  rfl
theorem insIn_rev (lt : Int → Int → Bool) (x : Int) (r acc : List Int) : insIn lt r.length (r.reverse ++ x :: acc) = insRev lt x r acc := by
  induction r generalizing acc with
  | nil => rfl
  | cons y r ih =>
    have h1 : (r.reverse ++ y :: x :: acc).getD r.length 0 = y := by
      rw [List.getD_eq_getElem?_getD, List.getElem?_append_right (by simp)]; simp
    have h2 : (r.reverse ++ y :: x :: acc).getD (r.length + 1) 0 = x := by
      rw [List.getD_eq_getElem?_getD, List.getElem?_append_right (by simp)]; simp
    have e : (y :: r).reverse ++ x :: acc = r.reverse ++ y :: x :: acc := by simp
    rw [e, List.length_cons, insIn, h1, h2, insRev]
    split
    · have h3 := swapAt_app r.reverse y x acc
      rw [List.length_reverse] at h3
      rw [h3, ih]
    · rfl
theorem insRev_perm (lt : Int → Int → Bool) (x : Int) (r acc : List Int) : List.Perm (insRev lt x r acc) (x :: (r.reverse ++ acc)) := by
  induction r generalizing acc with
  | nil => simp [insRev]
  | cons y r ih =>
    unfold insRev
    split
    · refine (ih (y :: acc)).trans ?_
      simp
    · have : (y :: r).reverse ++ acc = r.reverse ++ y :: acc := by simp
      rw [this]
      have h := @List.perm_middle _ x (r.reverse ++ [y]) acc
      simpa using h

/-- lt is a strict total order on what the list holds. -/
structure Strict (lt : Int → Int → Bool) (xs : List Int) : Prop where
  irr : ∀ x ∈ xs, lt x x = false
  tot : ∀ x ∈ xs, ∀ y ∈ xs, x ≠ y → lt x y = false → lt y x = true
  asy : ∀ x ∈ xs, ∀ y ∈ xs, lt x y = true → lt y x = false
  tr : ∀ x ∈ xs, ∀ y ∈ xs, ∀ z ∈ xs, lt x y = true → lt y z = true → lt x z = true
theorem insRev_sorted {lt : Int → Int → Bool} {all : List Int} (h : Strict lt all) (x : Int) (hx : x ∈ all) (r acc : List Int) (hr : ∀ y ∈ r, y ∈ all) (ha : ∀ y ∈ acc, y ∈ all)
    (hs : (r.reverse ++ acc).Pairwise (fun a b => lt a b = true)) (hxa : ∀ y ∈ acc, lt x y = true) (hne : ∀ y ∈ r, y ≠ x) : (insRev lt x r acc).Pairwise (fun a b => lt a b = true) := by
  induction r generalizing acc with
  | nil =>
    unfold insRev
    rw [List.pairwise_cons]
    exact ⟨hxa, by simpa using hs⟩
  | cons y r ih =>
    have e : (y :: r).reverse ++ acc = r.reverse ++ y :: acc := by simp
    rw [e] at hs
    have hy : y ∈ all := hr y (by simp)
    unfold insRev
    split
    · rename_i hlt
      refine ih (y :: acc) (fun z hz => hr z (by simp [hz])) (fun z hz => ?_) hs (fun z hz => ?_) (fun z hz => hne z (by simp [hz]))
      · rcases List.mem_cons.1 hz with rfl | hz
        · exact hy
        · exact ha z hz
      · rcases List.mem_cons.1 hz with rfl | hz
        · exact hlt
        · exact hxa z hz
    · rename_i hlt
      have hyx : lt y x = true := h.tot x hx y hy (fun e => hne y (by simp) e.symm) (by simpa using hlt)
      rw [List.pairwise_append] at hs ⊢
      obtain ⟨h1, h2, h3⟩ := hs
      rw [List.pairwise_cons] at h2
      refine ⟨h1, ?_, ?_⟩
      · rw [List.pairwise_cons, List.pairwise_cons]
        refine ⟨fun z hz => ?_, hxa, h2.2⟩
        rcases List.mem_cons.1 hz with rfl | hz
        · exact hyx
        · exact h2.1 z hz
      · intro a har b hb
        have haa : a ∈ all := hr a (by simp at har; simp [har])
        rcases List.mem_cons.1 hb with rfl | hb
        · exact h3 a har b (by simp)
        · rcases List.mem_cons.1 hb with rfl | hb
          · exact h.tr a haa y hy b hx (h3 a har y (by simp)) hyx
          · exact h3 a har b (by simp [hb])

theorem insOut_sorts {lt : Int → Int → Bool} {all : List Int} (h : Strict lt all) (m : Nat) (p q : List Int) (hm : q.length = m) (hall : ∀ y ∈ p ++ q, y ∈ all) (hn : (p ++ q).Nodup)
    (hs : p.Pairwise (fun a b => lt a b = true)) : List.Perm (insOut lt m p.length (p ++ q)) (p ++ q) ∧ (insOut lt m p.length (p ++ q)).Pairwise (fun a b => lt a b = true) := by
  induction m generalizing p q with
  | zero =>
    obtain rfl := List.eq_nil_of_length_eq_zero hm
    simpa [insOut] using hs
  | succ m ih =>
    cases q with
    | nil => simp at hm
    | cons x q =>
      unfold insOut
      have e1 : insIn lt p.length (p ++ x :: q) = insRev lt x p.reverse [] ++ q := by
        have h1 : ∀ (r acc : List Int), insRev lt x r (acc ++ q) = insRev lt x r acc ++ q := by
          intro r
          induction r with
          | nil => intro acc; rfl
          | cons y r ih' =>
            intro acc
            unfold insRev
            split
            · exact ih' (y :: acc)
            · simp
        have h2 := insIn_rev lt x p.reverse q
        rw [List.length_reverse, List.reverse_reverse] at h2
        rw [h2]
        exact h1 p.reverse []
      rw [e1]
      have hperm := insRev_perm lt x p.reverse []
      rw [List.reverse_reverse, List.append_nil] at hperm
      have hlen : (insRev lt x p.reverse []).length = p.length + 1 := by rw [hperm.length_eq]; simp
      have hxm : x ∈ all := hall x (by simp)
      have hnd := List.nodup_append.1 hn
      have hsort := insRev_sorted h x hxm p.reverse [] (fun y hy => hall y (by simp at hy; simp [hy])) (fun y hy => by cases hy) (by simpa using hs) (fun y hy => by cases hy)
        (fun y hy e => hnd.2.2 y (by simpa using hy) x (by simp) e)
      have hp2 : List.Perm (insRev lt x p.reverse [] ++ q) (p ++ x :: q) := by
        refine (hperm.append_right q).trans ?_
        exact (List.perm_middle (a := x) (l₁ := p) (l₂ := q)).symm
      have h3 := ih (insRev lt x p.reverse []) q (by simpa using hm) (fun y hy => hall y (hp2.mem_iff.1 hy)) (hp2.nodup_iff.2 hn) hsort
      rw [hlen] at h3
      exact ⟨h3.1.trans hp2, h3.2⟩
theorem insSort_sorts {lt : Int → Int → Bool} {xs : List Int} (h : Strict lt xs) (hn : xs.Nodup) : List.Perm (insSort lt xs) xs ∧ (insSort lt xs).Pairwise (fun a b => lt a b = true) := by
  unfold insSort
  cases xs with
  | nil => simp [insOut]
  | cons x r => exact insOut_sorts h r.length [x] r rfl (fun y hy => hy) hn (by simp)
/-- The place of an element is the number of those below it. -/
theorem insSort_rank {lt : Int → Int → Bool} {xs : List Int} (h : Strict lt xs) (hn : xs.Nodup) (j : Nat) (x : Int) (hx : (insSort lt xs)[j]? = some x) : xs.countP (fun k => lt k x) = j := by
  obtain ⟨h1, h2⟩ := insSort_sorts h hn
  rw [← h1.countP_eq]
  have hm : ∀ y ∈ insSort lt xs, y ∈ xs := fun y hy => h1.mem_iff.1 hy
  generalize insSort lt xs = out at *
  have hj := (List.getElem?_eq_some_iff.1 hx).1
  have hxm : x ∈ xs := hm x (List.mem_of_getElem? hx)
  have e : out = out.take j ++ x :: out.drop (j + 1) := by
    obtain ⟨y, hy1, hy2⟩ := drop_cons (xs := out) (k := j) hj
    rw [hx] at hy1
    injection hy1 with hy1
    subst hy1
    rw [← hy2, List.take_append_drop]
  rw [e] at h2
  rw [List.pairwise_append, List.pairwise_cons] at h2
  obtain ⟨_, ⟨h3, _⟩, h4⟩ := h2
  rw [e, List.countP_append, List.countP_cons, h.irr x hxm]
  have e1 : (out.take j).countP (fun k => lt k x) = j := by
    rw [List.countP_eq_length.2 (fun a ha => h4 a ha x (by simp)), List.length_take]
    omega
  have e2 : (out.drop (j + 1)).countP (fun k => lt k x) = 0 := by
    rw [List.countP_eq_zero]
    intro a ha
    have := h.asy x hxm a (hm a (List.mem_of_mem_drop ha)) (h3 a ha)
    simp [this]
  rw [e1, e2]
  simp

/-- Each i is stored at r i. -/
def setsF (r : Nat → Nat) : Nat → Nat → List Int → List Int
  | 0, _, out => out
  | m + 1, i, out => setsF r m (i + 1) (out.set (r i) (i : Int))
theorem setsF_length (r : Nat → Nat) (m i : Nat) (out : List Int) : (setsF r m i out).length = out.length := by
  induction m generalizing i out with
  | zero => rfl
  | succ m ih => unfold setsF; rw [ih]; simp
theorem setsF_keep (r : Nat → Nat) (m i : Nat) (out : List Int) (p : Nat) (h : ∀ k, i ≤ k → k < i + m → r k ≠ p) : (setsF r m i out)[p]? = out[p]? := by
  induction m generalizing i out with
  | zero => rfl
  | succ m ih =>
    unfold setsF
    rw [ih _ _ (fun k h1 h2 => h k (by omega) (by omega)), List.getElem?_set_ne (h i (by omega) (by omega))]
theorem setsF_get (r : Nat → Nat) (m i : Nat) (out : List Int) (k : Nat) (h1 : i ≤ k) (h2 : k < i + m) (hr : r k < out.length) (hinj : ∀ k', i ≤ k' → k' < i + m → r k' = r k → k' = k) : (setsF r m i out)[r k]? = some (k : Int) := by
  induction m generalizing i out with
  | zero => omega
  | succ m ih =>
    unfold setsF
    by_cases hk : i = k
    · subst hk
      rw [setsF_keep r m (i + 1) _ (r i) (fun k' g1 g2 e => by have := hinj k' (by omega) (by omega) e; omega), List.getElem?_set_self hr]
    · exact ih (i + 1) _ (by omega) (by omega) (by simpa using hr) (fun k' g1 g2 e => hinj k' (by omega) (by omega) e)
def idx (n : Nat) : List Int := (List.range n).map fun (i : Nat) => (i : Int)
theorem idx_length (n : Nat) : (idx n).length = n := by simp [idx]
theorem idx_get {n i : Nat} (h : i < n) : (idx n)[i]? = some (i : Int) := by simp [idx, h]
theorem idx_mem {n : Nat} {x : Int} : x ∈ idx n ↔ 0 ≤ x ∧ x < n := by
  unfold idx
  rw [List.mem_map]
  constructor
  · rintro ⟨a, ha, rfl⟩
    rw [List.mem_range] at ha
    omega
  · intro h
    exact ⟨x.toNat, by rw [List.mem_range]; omega, by omega⟩
theorem idx_nodup (n : Nat) : (idx n).Nodup := by
  unfold idx
  rw [List.nodup_iff_pairwise_ne, List.pairwise_map]
  refine List.Pairwise.imp (fun {a b} h => ?_) (List.nodup_iff_pairwise_ne.1 List.nodup_range)
  omega
/-- The sorted indices are what storing each at its rank yields. -/
theorem order_rank {lt : Int → Int → Bool} {n : Nat} (h : Strict lt (idx n)) (r : Nat → Nat) (hr : ∀ i, i < n → r i = (idx n).countP (fun k => lt k (i : Int))) : insSort lt (idx n) = setsF r n 0 (List.replicate n 0) := by
  have hrank := fun j x hx => insSort_rank h (idx_nodup n) j x hx
  have hperm := (insSort_sorts h (idx_nodup n)).1
  have hlen := insSort_length lt (idx n)
  rw [idx_length] at hlen
  generalize insSort lt (idx n) = out at *
  have hat : ∀ i, i < n → out[r i]? = some (i : Int) ∧ r i < n := by
    intro i hi
    have hm : (i : Int) ∈ out := hperm.mem_iff.2 (idx_mem.2 (by omega))
    obtain ⟨j, hj⟩ := List.getElem?_of_mem hm
    have h1 := hrank j _ hj
    rw [← hr i hi] at h1
    rw [h1]
    have := (List.getElem?_eq_some_iff.1 hj).1
    exact ⟨hj, by omega⟩
  refine List.ext_getElem? (fun j => ?_)
  by_cases hj : j < n
  · have hx : out[j]? = some (out[j]'(by omega)) := List.getElem?_eq_getElem _
    generalize out[j]'(by omega) = x at hx
    have hxm := idx_mem.1 (hperm.mem_iff.1 (List.mem_of_getElem? hx))
    obtain ⟨k, rfl⟩ : ∃ k : Nat, x = k := ⟨x.toNat, by omega⟩
    have hrk : r k = j := by rw [hr k (by omega)]; exact hrank j _ hx
    rw [hx, ← hrk]
    refine (setsF_get r n 0 _ k (by omega) (by omega) (by simp; omega) (fun k' _ h2 e => ?_)).symm
    have e1 := (hat k' (by omega)).1
    rw [e, (hat k (by omega)).1] at e1
    injection e1 with e1
    omega
  · rw [List.getElem?_eq_none (by omega), List.getElem?_eq_none (by rw [setsF_length]; simp; omega)]
end Go.Proofs.Ytalgdeieejpelaa

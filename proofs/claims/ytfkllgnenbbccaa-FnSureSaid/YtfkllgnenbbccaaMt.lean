/- Plain: the final order and rank (chapter 31): no Go in sight. -/
import Derived.Test.YtfkllgnenbbccaaMm
import Derived.Test.YtfkllgnenbbccaaMs
namespace Go.Proofs.Ytfkllgnenbbccaa
open Go.RowKit
set_option linter.unusedVariables false

def ordC (pts pls : List Int) (a b : Int) : Int :=
  if pts.getD a.toNat 0 = pts.getD b.toNat 0 then pls.getD a.toNat 0 - pls.getD b.toNat 0 else pts.getD a.toNat 0 - pts.getD b.toNat 0
def ordL (pts pls : List Int) (a b : Int) : Bool := decide (ordC pts pls a b < 0)
/-- The boats, the best one first. -/
def orderF (factor : Int) (net pls : List Int) : List Int := insSort (ordL (ptsF factor net pls) pls) (idx net.length)
/-- How many boats are before boat b. -/
def before (pts pls : List Int) (n : Nat) (b : Int) : Nat := (idx n).countP fun k => ordL pts pls k b
theorem strict_of {pts pls : List Int} {n : Nat} (hinj : ∀ i j : Nat, i < n → j < n → pls.getD i 0 = pls.getD j 0 → i = j) : Strict (ordL pts pls) (idx n) := by
  have key : ∀ x y : Int, ordL pts pls x y = true ↔ pts.getD x.toNat 0 < pts.getD y.toNat 0 ∨ (pts.getD x.toNat 0 = pts.getD y.toNat 0 ∧ pls.getD x.toNat 0 < pls.getD y.toNat 0) := by
    intro x y
    unfold ordL ordC
    rw [decide_eq_true_eq]
    split <;> omega
  refine ⟨?_, ?_, ?_, ?_⟩
  · intro x _
    cases h : ordL pts pls x x with
    | false => rfl
    | true => have := (key x x).1 h; omega
  · intro x hx y hy hne h
    have hx := idx_mem.1 hx
    have hy := idx_mem.1 hy
    have h1 : ¬ _ := fun h' => by rw [(key x y).2 h'] at h; cases h
    rw [key]
    rcases Int.lt_trichotomy (pts.getD x.toNat 0) (pts.getD y.toNat 0) with g | g | g
    · exact absurd (Or.inl g) h1
    · rcases Int.lt_trichotomy (pls.getD x.toNat 0) (pls.getD y.toNat 0) with k | k | k
      · exact absurd (Or.inr ⟨g, k⟩) h1
      · have := hinj x.toNat y.toNat (by omega) (by omega) k
        omega
      · exact .inr ⟨g.symm, k⟩
    · exact .inl g
  · intro x _ y _ h
    have h1 := (key x y).1 h
    cases h2 : ordL pts pls y x with
    | false => rfl
    | true => have := (key y x).1 h2; omega
  · intro x _ y _ z _ h1 h2
    have h1 := (key x y).1 h1
    have h2 := (key y z).1 h2
    exact (key x z).2 (by omega)
theorem permF_inj {low : Int} {n : Nat} {xs : List Int} : ∀ {seen : List Bool}, seen.length = n → permF low n xs seen = true → xs.Pairwise (fun a b => a ≠ b) ∧ ∀ x ∈ xs, seen.getD (x - low).toNat false = false := by
  induction xs with
  | nil => intro seen _ _; exact ⟨List.Pairwise.nil, fun x hx => by cases hx⟩
  | cons y r ih =>
    intro seen hl h
    have hmem := permF_mem h y (by simp)
    unfold permF at h
    split at h
    · split at h
      · cases h
      · rename_i hw hs
        obtain ⟨h1, h2⟩ := ih (by simpa using hl) h
        have hs' : seen.getD (y - low).toNat false = false := by simpa using hs
        refine ⟨?_, ?_⟩
        · rw [List.pairwise_cons]
          refine ⟨fun z hz e => ?_, h1⟩
          subst e
          have h3 := h2 y hz
          by_cases hlt : (y - low).toNat < seen.length
          · rw [List.getD_eq_getElem?_getD, List.getElem?_set_self hlt] at h3
            cases h3
          · omega
        · intro z hz
          rcases List.mem_cons.1 hz with rfl | hz
          · exact hs'
          · have h3 := h2 z hz
            by_cases e : (y - low).toNat = (z - low).toNat
            · rw [← e]; exact hs'
            · rw [List.getD_eq_getElem?_getD, List.getElem?_set_ne e, ← List.getD_eq_getElem?_getD] at h3
              exact h3
    · cases h
theorem perm_inj {xs : List Int} {low : Int} (h : isPermB low xs = true) (i j : Nat) (hi : i < xs.length) (hj : j < xs.length) (e : xs.getD i 0 = xs.getD j 0) : i = j := by
  have hp := (permF_inj (by simp) h).1
  rw [List.getD_eq_getElem?_getD, List.getD_eq_getElem?_getD, List.getElem?_eq_getElem hi, List.getElem?_eq_getElem hj] at e
  simp only [Option.getD_some] at e
  rw [List.pairwise_iff_getElem] at hp
  rcases Nat.lt_trichotomy i j with h | h | h
  · exact absurd e (hp i j hi hj h)
  · exact h
  · exact absurd e.symm (hp j i hj hi h)

/-- The first place of a number in a list. -/
def indexF (v : Int) : Nat → List Int → Int
  | _, [] => -1
  | i, x :: r => if v = x then (i : Int) else indexF v (i + 1) r
theorem indexF_get {v : Int} {xs : List Int} (h : v ∈ xs) (i : Nat) : ∃ j : Nat, xs[j]? = some v ∧ indexF v i xs = ((i + j : Nat) : Int) := by
  induction xs generalizing i with
  | nil => cases h
  | cons x r ih =>
    unfold indexF
    by_cases e : v = x
    · subst e
      exact ⟨0, rfl, by rw [if_pos rfl]; rfl⟩
    · rw [if_neg e]
      obtain ⟨j, h1, h2⟩ := ih (by rcases List.mem_cons.1 h with h | h; exact absurd h e; exact h) (i + 1)
      exact ⟨j + 1, by simpa using h1, by rw [h2]; omega⟩
def rankF (factor : Int) (net pls : List Int) (b : Int) : Int := (before (ptsF factor net pls) pls net.length b : Nat) + 1
section
variable {factor : Int} {net pls : List Int} (hlen : pls.length = net.length) (hp : isPermB 1 pls = true)
include hlen hp
theorem order_strict : Strict (ordL (ptsF factor net pls) pls) (idx net.length) := strict_of fun i j hi hj e => perm_inj hp i j (by omega) (by omega) e
/-- The rank is the place in the order. -/
theorem index_rank (b : Int) (h0 : 0 ≤ b) (h1 : b < net.length) : indexF b 0 (orderF factor net pls) + 1 = rankF factor net pls b := by
  have hs := order_strict (factor := factor) hlen hp
  have hm : b ∈ orderF factor net pls := (insSort_sorts hs (idx_nodup _)).1.mem_iff.2 (idx_mem.2 ⟨h0, h1⟩)
  obtain ⟨j, h2, h3⟩ := indexF_get hm 0
  rw [h3]
  have := insSort_rank hs (idx_nodup _) j b h2
  unfold rankF before
  rw [this]
  omega
theorem order_sets : orderF factor net pls = setsF (fun i => before (ptsF factor net pls) pls net.length (i : Int)) net.length 0 (List.replicate net.length 0) :=
  order_rank (order_strict hlen hp) _ (fun i hi => rfl)
theorem order_mem (x : Int) (hx : x ∈ orderF factor net pls) : 0 ≤ x ∧ x < net.length := idx_mem.1 ((insSort_sorts (order_strict hlen hp) (idx_nodup _)).1.mem_iff.1 hx)
end
theorem orderF_len (factor : Int) (net pls : List Int) : (orderF factor net pls).length = net.length := by
  unfold orderF; rw [insSort_length, idx_length]
theorem before_lt {pts pls : List Int} {n : Nat} {b : Int} (h0 : 0 ≤ b) (h1 : b < n) : before pts pls n b < n := by
  unfold before
  have h2 : (idx n).countP (fun k => ordL pts pls k b) < (idx n).length := by
    rcases Nat.lt_or_eq_of_le (List.countP_le_length (p := fun k => ordL pts pls k b) (l := idx n)) with h | h
    · exact h
    · have := List.countP_eq_length.1 h b (idx_mem.2 ⟨h0, h1⟩)
      unfold ordL ordC at this
      rw [if_pos rfl, Int.sub_self] at this
      simp at this
  rwa [idx_length] at h2
def finalOrderF (net : List Int) (factor : Int) (places : List Int) : List Int × Int :=
  if placesCodeF net factor places 0 = 0 then (orderF factor net places, 0) else ([], placesCodeF net factor places 0)
def finalRankF (net : List Int) (factor : Int) (places : List Int) (boat : Int) : Int × Int :=
  if placesCodeF net factor places boat = 0 then (rankF factor net places boat, 0) else (0, placesCodeF net factor places boat)
end Go.Proofs.Ytfkllgnenbbccaa

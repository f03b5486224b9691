/- Plain: winners and ranges (chapter 31): no Go in sight. -/
import Derived.Test.YtfkllgnenbbccaaMv2
namespace Go.Proofs.Ytfkllgnenbbccaa
open Go.RowKit
set_option linter.unusedVariables false

/-- All lists of m numbers from 1 to n. -/
def listsL (n : Nat) : Nat → List (List Int)
  | 0 => [[]]
  | m + 1 => (List.range n).flatMap fun (i : Nat) => (listsL n m).map fun p => (((i : Nat) : Int) + 1) :: p
theorem mem_listsL {n : Nat} : ∀ (p : List Int), (∀ x ∈ p, 1 ≤ x ∧ x ≤ n) → p ∈ listsL n p.length := by
  intro p
  induction p with
  | nil => intro _; simp [listsL]
  | cons x r ih =>
    intro h
    have hx := h x (by simp)
    refine List.mem_flatMap.2 ⟨(x - 1).toNat, List.mem_range.2 (by omega), List.mem_map.2 ⟨r, ih (fun y hy => h y (by simp [hy])), ?_⟩⟩
    have : (((x - 1).toNat : Nat) : Int) + 1 = x := by omega
    rw [this]
theorem all_perm : ∀ n : Fin 6, (listsL n.val n.val).all (fun p => !isPermB 1 p || (placesL n.val).contains p) = true := by decide +kernel
/-- Each list of places is among those that are tried. -/
theorem perm_mem {n : Nat} (h : n ≤ 5) {p : List Int} (hl : p.length = n) (hp : isPermB 1 p = true) : p ∈ placesL n := by
  have h1 := List.all_eq_true.1 (all_perm ⟨n, by omega⟩) p (by
    have := mem_listsL (n := n) p (fun x hx => by
      obtain ⟨i, hi⟩ := List.getElem?_of_mem hx
      have := isPermB_mem hp hi
      omega)
    rwa [hl] at this)
  simp only [hp, Bool.not_true, Bool.false_or, List.contains_iff_mem] at h1
  exact h1
section
variable {net : List Int} {factor boat : Int} (hl1 : 1 ≤ net.length) (hl5 : net.length ≤ 5) (hb0 : 0 ≤ boat) (hb1 : boat < net.length)
include hl1 hl5 hb0 hb1
omit hb0 in
/-- Each rank lies in the range. -/
theorem range_in {p : List Int} (hp : p ∈ placesL net.length) : (rangeF net factor boat 5).1 ≤ rankF factor net p boat ∧ rankF factor net p boat ≤ (rangeF net factor boat 5).2 := by
  unfold rangeF
  rw [useF_mm]
  obtain ⟨⟨_, h2, _⟩, ⟨_, h5, _⟩⟩ := mm_spec (fun p => decide (p.getD boat.toNat 0 ≤ 5)) (fun p => rankF factor net p boat) (placesL net.length) (5, 1)
  have hpl : decide (p.getD boat.toNat 0 ≤ 5) = true := by
    have := place_bd (boat := boat) hl1 hl5 hb1 hp
    exact decide_eq_true (by omega)
  exact ⟨h2 p hp hpl, h5 p hp hpl⟩
theorem range_bd : 1 ≤ (rangeF net factor boat 5).1 ∧ (rangeF net factor boat 5).1 ≤ (rangeF net factor boat 5).2 ∧ (rangeF net factor boat 5).2 ≤ net.length := by
  obtain ⟨q, hq, _⟩ := place_ex hl1 hl5 hb0 hb1 (k := 1) (by omega) (by omega)
  have h1 := range_in (factor := factor) hl1 hl5 hb1 hq
  have h0 : 1 ≤ (rangeF net factor boat 5).1 ∧ (rangeF net factor boat 5).2 ≤ net.length := by
    unfold rangeF
    rw [useF_mm]
    obtain ⟨⟨_, _, h3⟩, ⟨_, _, h6⟩⟩ := mm_spec (fun p => decide (p.getD boat.toNat 0 ≤ 5)) (fun p => rankF factor net p boat) (placesL net.length) (5, 1)
    refine ⟨?_, ?_⟩
    · rcases h3 with h3 | ⟨p, _, _, h3⟩
      · rw [h3]; show (1 : Int) ≤ 5; omega
      · rw [h3]; exact (rank_bd hb0 hb1 p).1
    · rcases h6 with h6 | ⟨p, _, _, h6⟩
      · rw [h6]; show (1 : Int) ≤ _; omega
      · rw [h6]; exact (rank_bd hb0 hb1 p).2
  omega
end
theorem sorted_first {net : List Int} (h : sortedB net = true) : ∀ (k : Nat) (x y : Int), net[0]? = some x → net[k]? = some y → x ≤ y := by
  intro k
  induction k with
  | zero => intro x y hx hy; rw [hx] at hy; injection hy with hy; omega
  | succ k ih =>
    intro x y hx hy
    obtain ⟨hk, _⟩ := List.getElem?_eq_some_iff.1 hy
    have hz : net[k]? = some net[k] := List.getElem?_eq_getElem (by omega)
    have h1 := ih x _ hx hz
    have h2 := sortedB_iff.1 h k _ _ hz hy
    omega
/-- The first boat can win. -/
theorem first_wins {net : List Int} {factor : Int} (hm : medalB net = true) (f1 : 1 ≤ factor) : (rangeF net factor 0 5).1 = 1 := by
  obtain ⟨hl1, hl5⟩ := medalB_len hm
  have hsrt : sortedB net = true := by
    unfold medalB at hm
    simp only [Bool.and_eq_true] at hm
    exact hm.2.2
  have hb1 : (0 : Int) < net.length := by omega
  obtain ⟨q, hq, he⟩ := place_ex hl1 hl5 (Int.le_refl 0) hb1 (k := 1) (by omega) (by omega)
  have hr := range_in (factor := factor) hl1 hl5 hb1 hq
  have hbd := range_bd (factor := factor) hl1 hl5 (Int.le_refl 0) hb1
  obtain ⟨hql, hqp⟩ := mem_good hl5 hq
  have hone : rankF factor net q 0 = 1 := by
    unfold rankF before
    have hz : (idx net.length).countP (fun k => ordL (ptsF factor net q) q k 0) = 0 := by
      rw [List.countP_eq_zero]
      intro k hk
      obtain ⟨k0, k1⟩ := idx_mem.1 hk
      obtain ⟨kn, rfl⟩ := int_up k k0
      have hn0 : net[0]? = some net[0] := List.getElem?_eq_getElem (by omega)
      have hnk : net[kn]? = some net[kn] := List.getElem?_eq_getElem (by omega)
      have hq0 : q[0]? = some q[0] := List.getElem?_eq_getElem (by omega)
      have hqk : q[kn]? = some q[kn] := List.getElem?_eq_getElem (by omega)
      have hle := sorted_first hsrt kn _ _ hn0 hnk
      have hbk := isPermB_mem hqp hqk
      have e0 : q[0] = 1 := by
        rw [List.getD_eq_getElem?_getD] at he
        simp only [Int.toNat_zero] at he
        rw [hq0] at he; exact he
      have p0 := ptsF_get (factor := factor) hn0 hq0
      have pk := ptsF_get (factor := factor) hnk hqk
      unfold ordL ordC
      simp only [Int.toNat_zero, Int.toNat_natCast, List.getD_eq_getElem?_getD, p0, pk, hq0, hqk, Option.getD_some, decide_eq_true_eq]
      rw [e0]
      have hmul : 10 * factor * 1 ≤ 10 * factor * q[kn] := Int.mul_le_mul_of_nonneg_left (by omega) (by omega)
      split <;> omega
    rw [hz]; rfl
  omega
/-- The order sorts the final points; the ranks are the places in it. -/
theorem order_facts {net pls : List Int} {factor : Int} (hlen : pls.length = net.length) (hp : isPermB 1 pls = true) {i : Nat} {b : Int} (hb : (orderF factor net pls)[i]? = some b) :
    0 ≤ b ∧ b < net.length ∧ rankF factor net pls b = (i : Int) + 1 ∧ ∀ c, (orderF factor net pls)[i + 1]? = some c → (ptsF factor net pls).getD b.toNat 0 ≤ (ptsF factor net pls).getD c.toNat 0 := by
  have hs := order_strict (factor := factor) hlen hp
  have hm := order_mem (factor := factor) hlen hp b (List.mem_of_getElem? hb)
  refine ⟨hm.1, hm.2, ?_, ?_⟩
  · have := insSort_rank hs (idx_nodup _) i b hb
    unfold rankF before
    rw [this]
  · intro c hc
    obtain ⟨_, hpw⟩ := insSort_sorts hs (idx_nodup _)
    obtain ⟨hi, ei⟩ := List.getElem?_eq_some_iff.1 hb
    obtain ⟨hj, ej⟩ := List.getElem?_eq_some_iff.1 hc
    have h := List.pairwise_iff_getElem.1 hpw i (i + 1) hi hj (by omega)
    unfold orderF at ei ej
    rw [ei, ej] at h
    unfold ordL ordC at h
    rw [decide_eq_true_eq] at h
    split at h <;> omega
end Go.Proofs.Ytfkllgnenbbccaa

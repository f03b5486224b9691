/- Plain: the range of ranks as the program and as the laws compute it, sure places (chapter 31): no Go in sight. -/
import Derived.Test.YtfkllgnenbbccaaMv
namespace Go.Proofs.Ytfkllgnenbbccaa
open Go.RowKit
set_option linter.unusedVariables false

/-- Least and greatest value over the members of a list that are asked for. -/
def mmF (P : List Int → Bool) (f : List Int → Int) (s : Int × Int) (p : List Int) : Int × Int := if P p = true then (min s.1 (f p), max s.2 (f p)) else s
theorem mm_spec (P : List Int → Bool) (f : List Int → Int) (l : List (List Int)) (s : Int × Int) :
    ((l.foldl (mmF P f) s).1 ≤ s.1 ∧ (∀ p ∈ l, P p = true → (l.foldl (mmF P f) s).1 ≤ f p) ∧ ((l.foldl (mmF P f) s).1 = s.1 ∨ ∃ p ∈ l, P p = true ∧ (l.foldl (mmF P f) s).1 = f p)) ∧
    (s.2 ≤ (l.foldl (mmF P f) s).2 ∧ (∀ p ∈ l, P p = true → f p ≤ (l.foldl (mmF P f) s).2) ∧ ((l.foldl (mmF P f) s).2 = s.2 ∨ ∃ p ∈ l, P p = true ∧ (l.foldl (mmF P f) s).2 = f p)) := by
  induction l generalizing s with
  | nil => exact ⟨⟨Int.le_refl _, (fun p hp => by cases hp), .inl rfl⟩, ⟨Int.le_refl _, (fun p hp => by cases hp), .inl rfl⟩⟩
  | cons x r ih =>
    obtain ⟨⟨h1, h2, h3⟩, ⟨h4, h5, h6⟩⟩ := ih (mmF P f s x)
    rw [List.foldl_cons]
    generalize List.foldl (mmF P f) (mmF P f s x) r = t at *
    unfold mmF at h1 h3 h4 h6
    by_cases hx : P x = true
    · simp only [if_pos hx] at h1 h3 h4 h6
      refine ⟨⟨Int.le_trans h1 (Int.min_le_left _ _), ?_, ?_⟩, ⟨Int.le_trans (Int.le_max_left _ _) h4, ?_, ?_⟩⟩
      · intro p hp hP
        rcases List.mem_cons.1 hp with rfl | hp
        · exact Int.le_trans h1 (Int.min_le_right _ _)
        · exact h2 p hp hP
      · rcases h3 with h3 | ⟨p, hp, hP, h3⟩
        · rcases Int.le_total s.1 (f x) with g | g
          · exact .inl (by rw [h3]; exact Int.min_eq_left g)
          · exact .inr ⟨x, by simp, hx, by rw [h3]; exact Int.min_eq_right g⟩
        · exact .inr ⟨p, by simp [hp], hP, h3⟩
      · intro p hp hP
        rcases List.mem_cons.1 hp with rfl | hp
        · exact Int.le_trans (Int.le_max_right _ _) h4
        · exact h5 p hp hP
      · rcases h6 with h6 | ⟨p, hp, hP, h6⟩
        · rcases Int.le_total s.2 (f x) with g | g
          · exact .inr ⟨x, by simp, hx, by rw [h6]; exact Int.max_eq_right g⟩
          · exact .inl (by rw [h6]; exact Int.max_eq_left g)
        · exact .inr ⟨p, by simp [hp], hP, h6⟩
    · simp only [if_neg hx] at h1 h3 h4 h6
      refine ⟨⟨h1, ?_, ?_⟩, ⟨h4, ?_, ?_⟩⟩
      · intro p hp hP
        rcases List.mem_cons.1 hp with rfl | hp
        · exact absurd hP hx
        · exact h2 p hp hP
      · rcases h3 with h3 | ⟨p, hp, hP, h3⟩
        · exact .inl h3
        · exact .inr ⟨p, by simp [hp], hP, h3⟩
      · intro p hp hP
        rcases List.mem_cons.1 hp with rfl | hp
        · exact absurd hP hx
        · exact h5 p hp hP
      · rcases h6 with h6 | ⟨p, hp, hP, h6⟩
        · exact .inl h6
        · exact .inr ⟨p, by simp [hp], hP, h6⟩
/-- Both ways over the same members agree, if one is there and the starts do not matter. -/
theorem mm_same {P P' : List Int → Bool} {f : List Int → Int} {l l' : List (List Int)} {s s' : Int × Int} (hmem : ∀ p, p ∈ l ∧ P p = true ↔ p ∈ l' ∧ P' p = true) {q : List Int} (hq : q ∈ l) (hP : P q = true)
    (hb : ∀ p ∈ l, P p = true → f p ≤ s.1 ∧ f p ≤ s'.1 ∧ s.2 ≤ f p ∧ s'.2 ≤ f p) : l.foldl (mmF P f) s = l'.foldl (mmF P' f) s' := by
  obtain ⟨⟨a1, a2, a3⟩, ⟨a4, a5, a6⟩⟩ := mm_spec P f l s
  obtain ⟨⟨b1, b2, b3⟩, ⟨b4, b5, b6⟩⟩ := mm_spec P' f l' s'
  obtain ⟨hq', hP'⟩ := (hmem q).1 ⟨hq, hP⟩
  have q1 := hb q hq hP
  have q2 := a2 q hq hP
  have q3 := a5 q hq hP
  have q4 := b2 q hq' hP'
  have q5 := b5 q hq' hP'
  generalize l.foldl (mmF P f) s = t at *
  generalize l'.foldl (mmF P' f) s' = t' at *
  have e1 : ∃ p ∈ l, P p = true ∧ t.1 = f p := by
    rcases a3 with h | h
    · exact ⟨q, hq, hP, by omega⟩
    · exact h
  have e2 : ∃ p ∈ l, P p = true ∧ t.2 = f p := by
    rcases a6 with h | h
    · exact ⟨q, hq, hP, by omega⟩
    · exact h
  have e3 : ∃ p ∈ l', P' p = true ∧ t'.1 = f p := by
    rcases b3 with h | h
    · exact ⟨q, hq', hP', by omega⟩
    · exact h
  have e4 : ∃ p ∈ l', P' p = true ∧ t'.2 = f p := by
    rcases b6 with h | h
    · exact ⟨q, hq', hP', by omega⟩
    · exact h
  obtain ⟨p1, m1, n1, k1⟩ := e1
  obtain ⟨p2, m2, n2, k2⟩ := e2
  obtain ⟨p3, m3, n3, k3⟩ := e3
  obtain ⟨p4, m4, n4, k4⟩ := e4
  have c1 := b2 p1 ((hmem p1).1 ⟨m1, n1⟩).1 ((hmem p1).1 ⟨m1, n1⟩).2
  have c2 := b5 p2 ((hmem p2).1 ⟨m2, n2⟩).1 ((hmem p2).1 ⟨m2, n2⟩).2
  have c3 := a2 p3 ((hmem p3).2 ⟨m3, n3⟩).1 ((hmem p3).2 ⟨m3, n3⟩).2
  have c4 := a5 p4 ((hmem p4).2 ⟨m4, n4⟩).1 ((hmem p4).2 ⟨m4, n4⟩).2
  exact Prod.ext (by omega) (by omega)

theorem useF_mm (net : List Int) (factor boat most : Int) : useF net factor boat most = mmF (fun p => decide (p.getD boat.toNat 0 ≤ most)) (fun p => rankF factor net p boat) := by
  funext s p
  unfold useF mmF
  simp
/-- The range as the program computes it. -/
def rangeF (net : List Int) (factor boat most : Int) : Int × Int := (placesL net.length).foldl (useF net factor boat most) (5, 1)
/-- The range as the laws compute it. -/
def rangeS (net : List Int) (factor boat a b : Int) : Int × Int := (allL net.length).foldl (mmF (fun p => withinB (p.getD boat.toNat 0) a b) (fun p => rankF factor net p boat)) ((net.length : Int) + 1, 0)
section
variable {net : List Int} {factor boat : Int} (hl1 : 1 ≤ net.length) (hl5 : net.length ≤ 5) (hb0 : 0 ≤ boat) (hb1 : boat < net.length)
include hl1 hl5 hb0 hb1
omit hl1 hl5 in
theorem rank_bd (p : List Int) : 1 ≤ rankF factor net p boat ∧ rankF factor net p boat ≤ net.length := by
  have := before_lt (pts := ptsF factor net p) (pls := p) (n := net.length) hb0 hb1
  unfold rankF
  omega
omit hb0 in
theorem place_bd {p : List Int} (hp : p ∈ placesL net.length) : 1 ≤ p.getD boat.toNat 0 ∧ p.getD boat.toNat 0 ≤ net.length := by
  obtain ⟨h1, h2⟩ := mem_good hl5 hp
  have hx : p[boat.toNat]? = some (p.getD boat.toNat 0) := by rw [List.getD_eq_getElem?_getD, List.getElem?_eq_getElem (by omega)]; rfl
  have := isPermB_mem h2 hx
  omega
theorem place_ex {k : Int} (h1 : 1 ≤ k) (h2 : k ≤ net.length) : ∃ p ∈ placesL net.length, p.getD boat.toNat 0 = k := by
  have h := mem_at ⟨net.length, by omega⟩ ⟨boat.toNat, by omega⟩ ⟨(k - 1).toNat, by omega⟩ (by simp; omega) (by simp; omega)
  rw [List.any_eq_true] at h
  obtain ⟨p, hp, e⟩ := h
  refine ⟨p, hp, ?_⟩
  have e := eq_of_beq e
  rw [e]
  show (((k - 1).toNat + 1 : Nat) : Int) = k
  omega
theorem range_full : rangeF net factor boat 5 = rangeS net factor boat 1 net.length := by
  obtain ⟨q, hq, _⟩ := place_ex hl1 hl5 hb0 hb1 (k := 1) (by omega) (by omega)
  unfold rangeF rangeS
  rw [useF_mm]
  refine mm_same (fun p => ?_) hq ?_ (fun p hp _ => ?_)
  · rw [mem_same hl5]
    constructor
    · intro ⟨h1, h2⟩
      exact ⟨h1, withinB_iff.2 (place_bd hl1 hl5 hb1 ((mem_same hl5 p).2 h1))⟩
    · intro ⟨h1, h2⟩
      have := withinB_iff.1 h2
      exact ⟨h1, decide_eq_true (by omega)⟩
  · have := place_bd hl1 hl5 hb1 hq
    simp only [decide_eq_true_eq]
    omega
  · have := rank_bd hb0 hb1 (factor := factor) p
    exact ⟨by simp only; omega, by simp only; omega, by simp only; omega, by simp only; omega⟩
omit hl1 hl5 hb0 hb1 in
/-- When the worst rank is at most some rank. -/
theorem worstF_le {m r : Int} (hr : 1 ≤ r) : (rangeF net factor boat m).2 ≤ r ↔ ∀ p ∈ placesL net.length, p.getD boat.toNat 0 ≤ m → rankF factor net p boat ≤ r := by
  unfold rangeF
  rw [useF_mm]
  obtain ⟨_, ⟨h4, h5, h6⟩⟩ := mm_spec (fun p => decide (p.getD boat.toNat 0 ≤ m)) (fun p => rankF factor net p boat) (placesL net.length) (5, 1)
  constructor
  · intro h p hp hm
    have := h5 p hp (by simpa using hm)
    omega
  · intro h
    rcases h6 with h6 | ⟨p, hp, hm, h6⟩
    · rw [h6]; exact hr
    · rw [h6]; exact h p hp (by simpa using hm)
omit hl1 hb0 hb1 in
theorem worstS_le {k r : Int} (hr : 1 ≤ r) : (rangeS net factor boat k k).2 ≤ r ↔ ∀ p ∈ placesL net.length, p.getD boat.toNat 0 = k → rankF factor net p boat ≤ r := by
  unfold rangeS
  obtain ⟨_, ⟨h4, h5, h6⟩⟩ := mm_spec (fun p => withinB (p.getD boat.toNat 0) k k) (fun p => rankF factor net p boat) (allL net.length) ((net.length : Int) + 1, 0)
  constructor
  · intro h p hp hm
    have := h5 p ((mem_same hl5 p).1 hp) (withinB_iff.2 (by omega))
    omega
  · intro h
    rcases h6 with h6 | ⟨p, hp, hm, h6⟩
    · rw [h6]; show (0 : Int) ≤ r; omega
    · rw [h6]
      have := withinB_iff.1 hm
      exact h p ((mem_same hl5 p).2 hp) (by omega)
omit hb0 in
theorem worst_same {s r : Int} (hs : 0 ≤ s) (hr : 1 ≤ r) : (rangeF net factor boat (s + 1)).2 ≤ r ↔ ∀ q, 1 ≤ q → q ≤ s + 1 → (rangeS net factor boat q q).2 ≤ r := by
  rw [worstF_le hr]
  constructor
  · intro h q _ hq
    rw [worstS_le hl5 hr]
    intro p hp e
    exact h p hp (by omega)
  · intro h p hp hm
    have hb := place_bd hl1 hl5 hb1 hp
    exact (worstS_le hl5 hr).1 (h _ hb.1 hm) p hp rfl
end
/-- The loop over sure places. -/
def sureG (g : Int → Int) (rank : Int) : Nat → Int → Int
  | 0, s => s
  | m + 1, s => if rank < g (s + 1) then s else sureG g rank m (s + 1)
theorem sureG_same {g h : Int → Int} {rank : Int} : ∀ (m : Nat) (s : Int), 0 ≤ s → (∀ q, 1 ≤ q → q ≤ s → h q ≤ rank) → (∀ t, 0 ≤ t → (g (t + 1) ≤ rank ↔ ∀ q, 1 ≤ q → q ≤ t + 1 → h q ≤ rank)) → sureG g rank m s = sureG h rank m s := by
  intro m
  induction m with
  | zero => intros; rfl
  | succ m ih =>
    intro s hs hq hg
    unfold sureG
    by_cases hh : rank < h (s + 1)
    · have hn : ¬ g (s + 1) ≤ rank := fun c => by have := (hg s hs).1 c (s + 1) (by omega) (by omega); omega
      rw [if_pos hh, if_pos (by omega)]
    · have hall : ∀ q, 1 ≤ q → q ≤ s + 1 → h q ≤ rank := by
        intro q h1 h2
        by_cases e : q = s + 1
        · rw [e]; omega
        · exact hq q h1 (by omega)
      have hy := (hg s hs).2 hall
      rw [if_neg hh, if_neg (by omega)]
      exact ih (s + 1) (by omega) hall hg
theorem sureG_bd (g : Int → Int) (rank : Int) : ∀ (m : Nat) (s : Int), s ≤ sureG g rank m s ∧ sureG g rank m s ≤ s + m := by
  intro m
  induction m with
  | zero => intro s; unfold sureG; omega
  | succ m ih =>
    intro s
    unfold sureG
    split
    · omega
    · have := ih (s + 1); omega
/-- All places are sure exactly if none endangers the rank. -/
theorem sureG_all (h : Int → Int) (rank : Int) : ∀ (m : Nat) (s : Int), sureG h rank m s = s + m ↔ ∀ q, s < q → q ≤ s + m → h q ≤ rank := by
  intro m
  induction m with
  | zero => intro s; unfold sureG; simp; omega
  | succ m ih =>
    intro s
    unfold sureG
    by_cases hh : rank < h (s + 1)
    · rw [if_pos hh]
      constructor
      · intro e; omega
      · intro hq; have := hq (s + 1) (by omega) (by omega); omega
    · rw [if_neg hh]
      have := ih (s + 1)
      rw [show s + ((m + 1 : Nat) : Int) = s + 1 + m from by omega, this]
      constructor
      · intro hq q h1 h2
        by_cases e : q = s + 1
        · rw [e]; omega
        · exact hq q (by omega) h2
      · intro hq q h1 h2
        exact hq q (by omega) h2
def canWinF (net : List Int) (factor boat : Int) : Bool × Int :=
  if medalCodeF net factor boat = 0 then ((rangeF net factor boat 5).1 == 1, 0) else (false, medalCodeF net factor boat)
def rankRangeF (net : List Int) (factor boat : Int) : Int × Int × Int :=
  if medalCodeF net factor boat = 0 then ((rangeF net factor boat 5).1, (rangeF net factor boat 5).2, 0) else (0, 0, medalCodeF net factor boat)
def sureCodeF (net : List Int) (factor boat rank : Int) : Int :=
  if medalCodeF net factor boat = 0 then (if withinB rank 1 net.length = true then 0 else 2) else medalCodeF net factor boat
def surePlaceF (net : List Int) (factor boat rank : Int) : Int × Int :=
  if sureCodeF net factor boat rank = 0 then (sureG (fun k => (rangeF net factor boat k).2) rank net.length 0, 0) else (0, sureCodeF net factor boat rank)
theorem sure_same {net : List Int} {factor boat rank : Int} (hl1 : 1 ≤ net.length) (hl5 : net.length ≤ 5) (hb0 : 0 ≤ boat) (hb1 : boat < net.length) (hr : 1 ≤ rank) :
    sureG (fun k => (rangeF net factor boat k).2) rank net.length 0 = sureG (fun k => (rangeS net factor boat k k).2) rank net.length 0 :=
  sureG_same _ _ (Int.le_refl _) (fun q h1 h2 => by omega) (fun t ht => worst_same hl1 hl5 hb1 ht hr)
end Go.Proofs.Ytfkllgnenbbccaa

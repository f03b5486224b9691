/- Plain: shortest times over arcs; relaxing arc by arc (chapter 32): no Go in sight. -/
import Derived.Test.YtpaamhkgokkgpaaLib
namespace Go.Proofs.Ytpaamhkgokkgpaa
open Go.RowKit
set_option linter.unusedVariables false

/-- An arc: from a to b, taking c. -/
abbrev Arc := Nat × Nat × Int
def tm (T : List Int) (v : Nat) : Int := T.getD v 0
def relF (T : List Int) (x : Arc) : List Int := if 0 ≤ tm T x.1 ∧ (tm T x.2.1 < 0 ∨ tm T x.1 + x.2.2 < tm T x.2.1) then T.set x.2.1 (tm T x.1 + x.2.2) else T
/-- All arcs lie among n cells, each takes at least 1. -/
def ArcsOk (n : Nat) (l : List Arc) : Prop := ∀ x ∈ l, x.1 < n ∧ x.2.1 < n ∧ 1 ≤ x.2.2 ∧ x.2.2 ≤ 2520
theorem tm_set_same {T : List Int} {v : Nat} (x : Int) (h : v < T.length) : tm (T.set v x) v = x := by
  unfold tm
  rw [List.getD_eq_getElem?_getD, List.getElem?_set_self h]; rfl
theorem tm_set_ne {T : List Int} {v u : Nat} (x : Int) (h : v ≠ u) : tm (T.set v x) u = tm T u := by
  unfold tm
  rw [List.getD_eq_getElem?_getD, List.getElem?_set_ne h, ← List.getD_eq_getElem?_getD]
theorem relF_len (T : List Int) (x : Arc) : (relF T x).length = T.length := by unfold relF; split <;> simp
theorem rels_len (l : List Arc) : ∀ T : List Int, (l.foldl relF T).length = T.length := by
  induction l with
  | nil => intro T; rfl
  | cons x r ih => intro T; rw [List.foldl_cons, ih, relF_len]
/-- Later times are no worse. -/
def NoWorse (T T' : List Int) : Prop := ∀ v, 0 ≤ tm T v → 0 ≤ tm T' v ∧ tm T' v ≤ tm T v
theorem NoWorse.refl (T : List Int) : NoWorse T T := fun v h => ⟨h, Int.le_refl _⟩
theorem NoWorse.trans {a b c : List Int} (h : NoWorse a b) (k : NoWorse b c) : NoWorse a c := fun v hv => by
  obtain ⟨h1, h2⟩ := h v hv
  obtain ⟨h3, h4⟩ := k v h1
  exact ⟨h3, by omega⟩
theorem relF_noWorse {n : Nat} {T : List Int} {x : Arc} (hn : T.length = n) (hx : x.1 < n ∧ x.2.1 < n ∧ 1 ≤ x.2.2 ∧ x.2.2 ≤ 2520) : NoWorse T (relF T x) := by
  intro v hv
  unfold relF
  split
  · rename_i h
    by_cases e : x.2.1 = v
    · rw [e, tm_set_same _ (by omega)]
      rw [e] at h
      omega
    · rw [tm_set_ne _ e]
      exact ⟨hv, Int.le_refl _⟩
  · exact ⟨hv, Int.le_refl _⟩
theorem relF_done {n : Nat} {T : List Int} {x : Arc} (hn : T.length = n) (hx : x.1 < n ∧ x.2.1 < n ∧ 1 ≤ x.2.2 ∧ x.2.2 ≤ 2520) (h : 0 ≤ tm T x.1) : 0 ≤ tm (relF T x) x.2.1 ∧ tm (relF T x) x.2.1 ≤ tm T x.1 + x.2.2 := by
  unfold relF
  split
  · rw [tm_set_same _ (by omega)]
    omega
  · rename_i hc
    omega
theorem rels_noWorse {n : Nat} : ∀ (l : List Arc) (T : List Int), T.length = n → ArcsOk n l → NoWorse T (l.foldl relF T) := by
  intro l
  induction l with
  | nil => intro T _ _; exact NoWorse.refl T
  | cons x r ih =>
    intro T hn hl
    rw [List.foldl_cons]
    exact (relF_noWorse hn (hl x (by simp))).trans (ih _ (by rw [relF_len, hn]) (fun y hy => hl y (by simp [hy])))
/-- An arc that was among those relaxed leads no further than it may. -/
theorem rels_done {n : Nat} : ∀ (l : List Arc) (T : List Int), T.length = n → ArcsOk n l → ∀ x ∈ l, 0 ≤ tm T x.1 → 0 ≤ tm (l.foldl relF T) x.2.1 ∧ tm (l.foldl relF T) x.2.1 ≤ tm T x.1 + x.2.2 := by
  intro l
  induction l with
  | nil => intro T _ _ x hx; cases hx
  | cons y r ih =>
    intro T hn hl x hx h
    rw [List.foldl_cons]
    have hl' : ArcsOk n r := fun z hz => hl z (by simp [hz])
    have hn' : (relF T y).length = n := by rw [relF_len, hn]
    rcases List.mem_cons.1 hx with rfl | hx
    · obtain ⟨h1, h2⟩ := relF_done hn (hl x (by simp)) h
      obtain ⟨h3, h4⟩ := rels_noWorse r _ hn' hl' _ h1
      exact ⟨h3, by omega⟩
    · obtain ⟨h1, h2⟩ := relF_noWorse hn (hl y (by simp)) _ h
      obtain ⟨h3, h4⟩ := ih _ hn' hl' x hx h1
      exact ⟨h3, by omega⟩

/-! ### What can be reached, in which time -/
inductive Way (l : List Arc) (s : Nat) : Nat → Int → Prop
  | start : Way l s s 0
  | move {u v : Nat} {t c : Int} : Way l s u t → (u, v, c) ∈ l → Way l s v (t + c)
/-- Each time is that of a way; what is not reached, holds -1. -/
structure Sound (n : Nat) (l : List Arc) (s : Nat) (T : List Int) : Prop where
  len : T.length = n
  start : tm T s = 0
  way : ∀ v, v < n → 0 ≤ tm T v → Way l s v (tm T v)
  neg : ∀ v, v < n → tm T v < 0 → tm T v = -1
/-- No arc betters a time. -/
def Closed (l : List Arc) (T : List Int) : Prop := ∀ x ∈ l, 0 ≤ tm T x.1 → 0 ≤ tm T x.2.1 ∧ tm T x.2.1 ≤ tm T x.1 + x.2.2
section
variable {n s : Nat} {l : List Arc} {T : List Int}
theorem Way.nonneg (hl : ArcsOk n l) {v : Nat} {t : Int} (h : Way l s v t) : 0 ≤ t := by
  induction h with
  | start => exact Int.le_refl _
  | move _ hx ih => have := hl _ hx; simp only at this; omega
theorem Way.lt (hl : ArcsOk n l) (hs : s < n) {v : Nat} {t : Int} (h : Way l s v t) : v < n := by
  cases h with
  | start => exact hs
  | move _ hx => exact (hl _ hx).2.1
theorem Closed.le (hc : Closed l T) (h0 : tm T s = 0) {v : Nat} {t : Int} (h : Way l s v t) : 0 ≤ tm T v ∧ tm T v ≤ t := by
  induction h with
  | start => omega
  | move _ hx ih =>
    obtain ⟨h1, h2⟩ := ih
    have := hc _ hx h1
    simp only at this
    omega
/-- The times are told by soundness and closedness. -/
theorem times_uniq {T' : List Int} (h : Sound n l s T) (hc : Closed l T) (h' : Sound n l s T') (hc' : Closed l T') : T = T' := by
  refine List.ext_getElem? (fun v => ?_)
  by_cases hv : v < n
  · have e1 : T[v]? = some (tm T v) := by unfold tm; rw [List.getD_eq_getElem?_getD, List.getElem?_eq_getElem (by rw [h.len]; exact hv)]; rfl
    have e2 : T'[v]? = some (tm T' v) := by unfold tm; rw [List.getD_eq_getElem?_getD, List.getElem?_eq_getElem (by rw [h'.len]; exact hv)]; rfl
    rw [e1, e2]
    congr 1
    by_cases h1 : 0 ≤ tm T v
    · have k1 := hc'.le h'.start (h.way v hv h1)
      have k2 := hc.le h.start (h'.way v hv k1.1)
      omega
    · have h2 : tm T' v < 0 := by
        rcases Int.lt_or_le (tm T' v) 0 with g | g
        · exact g
        · have := hc.le h.start (h'.way v hv g); omega
      rw [h.neg v hv (by omega), h'.neg v hv h2]
  · rw [List.getElem?_eq_none (by rw [h.len]; omega), List.getElem?_eq_none (by rw [h'.len]; omega)]
theorem Sound.rel (h : Sound n l s T) (hl : ArcsOk n l) (hs : s < n) {x : Arc} (hx : x ∈ l) : Sound n l s (relF T x) := by
  obtain ⟨x1, x2, x3, x4⟩ := hl x hx
  refine ⟨by rw [relF_len, h.len], ?_, ?_, ?_⟩
  · have := (relF_noWorse (T := T) h.len (hl x hx)) s (by rw [h.start]; exact Int.le_refl _)
    rw [h.start] at this
    omega
  · intro v hv h0
    unfold relF at h0 ⊢
    split
    · rename_i hc
      rw [if_pos hc] at h0
      by_cases e : x.2.1 = v
      · rw [e, tm_set_same _ (by rw [h.len]; exact hv)]
        have := Way.move (h.way x.1 x1 hc.1) (show (x.1, x.2.1, x.2.2) ∈ l from hx)
        rwa [e] at this
      · rw [tm_set_ne _ e] at h0 ⊢
        exact h.way v hv h0
    · rename_i hc
      rw [if_neg hc] at h0
      exact h.way v hv h0
  · intro v hv h0
    unfold relF at h0 ⊢
    split
    · rename_i hc
      rw [if_pos hc] at h0
      by_cases e : x.2.1 = v
      · rw [e, tm_set_same _ (by rw [h.len]; exact hv)] at h0
        omega
      · rw [tm_set_ne _ e] at h0 ⊢
        exact h.neg v hv h0
    · rename_i hc
      rw [if_neg hc] at h0
      exact h.neg v hv h0
theorem Sound.rels (hl : ArcsOk n l) (hs : s < n) : ∀ (q : List Arc) (T : List Int), (∀ x ∈ q, x ∈ l) → Sound n l s T → Sound n l s (q.foldl relF T) := by
  intro q
  induction q with
  | nil => intro T _ h; exact h
  | cons x r ih => intro T hq h; exact ih _ (fun y hy => hq y (by simp [hy])) (h.rel hl hs (hq x (by simp)))
end

/-! ### Round by round -/
def roundsF (l : List Arc) : Nat → List Int → List Int
  | 0, T => T
  | k + 1, T => roundsF l k (l.foldl relF T)
theorem roundsF_succ (l : List Arc) (k : Nat) (T : List Int) : roundsF l (k + 1) T = l.foldl relF (roundsF l k T) := by
  induction k generalizing T with
  | zero => rfl
  | succ k ih => rw [roundsF, ih, ← roundsF]
/-- How many cells are nearer. -/
def nearer (n : Nat) (D : List Int) (v : Nat) : Nat := (List.range n).countP fun u => decide (0 ≤ tm D u) && decide (tm D u < tm D v)
theorem nearer_lt {n : Nat} {D : List Int} {u v : Nat} (hu : u < n) (h0 : 0 ≤ tm D u) (h : tm D u < tm D v) : nearer n D u < nearer n D v := by
  unfold nearer
  have hsplit : ∀ (l : List Nat), u ∈ l → l.countP (fun w => decide (0 ≤ tm D w) && decide (tm D w < tm D u)) < l.countP (fun w => decide (0 ≤ tm D w) && decide (tm D w < tm D v)) := by
    intro l
    have hle : ∀ (q : List Nat), q.countP (fun w => decide (0 ≤ tm D w) && decide (tm D w < tm D u)) ≤ q.countP (fun w => decide (0 ≤ tm D w) && decide (tm D w < tm D v)) := by
      intro q
      refine List.countP_mono_left (fun w _ hw => ?_)
      simp only [Bool.and_eq_true, decide_eq_true_eq] at hw ⊢
      omega
    induction l with
    | nil => intro hm; cases hm
    | cons w r ih =>
      intro hm
      rw [List.countP_cons, List.countP_cons]
      rcases List.mem_cons.1 hm with rfl | hm
      · have h1 : (decide (0 ≤ tm D u) && decide (tm D u < tm D u)) = false := by simp
        have h2 : (decide (0 ≤ tm D u) && decide (tm D u < tm D v)) = true := by simp [h0, h]
        rw [h1, h2]
        have := hle r
        simp
        omega
      · have := ih hm
        have h3 : (if (decide (0 ≤ tm D w) && decide (tm D w < tm D u)) = true then 1 else 0) ≤ (if (decide (0 ≤ tm D w) && decide (tm D w < tm D v)) = true then 1 else 0 : Nat) := by
          by_cases hw : (decide (0 ≤ tm D w) && decide (tm D w < tm D u)) = true
          · have hw' : (decide (0 ≤ tm D w) && decide (tm D w < tm D v)) = true := by simp only [Bool.and_eq_true, decide_eq_true_eq] at hw ⊢; omega
            rw [if_pos hw, if_pos hw']; exact Nat.le_refl _
          · rw [if_neg hw]; exact Nat.zero_le _
        omega
  exact hsplit _ (List.mem_range.2 hu)
theorem nearer_n {n : Nat} {D : List Int} {v : Nat} (hv : v < n) : nearer n D v < n := by
  unfold nearer
  have h2 : (List.range n).countP (fun u => decide (0 ≤ tm D u) && decide (tm D u < tm D v)) < (List.range n).length := by
    rcases Nat.lt_or_eq_of_le (List.countP_le_length (p := fun u => decide (0 ≤ tm D u) && decide (tm D u < tm D v)) (l := List.range n)) with h | h
    · exact h
    · have := List.countP_eq_length.1 h v (List.mem_range.2 hv)
      simp at this
  simpa using h2
theorem rounds_all {n s : Nat} {l : List Arc} {D : List Int} (hl : ArcsOk n l) (hs : s < n) (hD : Sound n l s D) (hc : Closed l D) (T : List Int) (hT : Sound n l s T) :
    ∀ k, Sound n l s (roundsF l k T) ∧ ∀ v, v < n → 0 ≤ tm D v → nearer n D v ≤ k → tm (roundsF l k T) v = tm D v := by
  intro k
  have low : ∀ (X : List Int), Sound n l s X → ∀ v, v < n → 0 ≤ tm X v → tm D v ≤ tm X v := fun X hX v hv h0 => (hc.le hD.start (hX.way v hv h0)).2
  have last : ∀ v, v < n → 0 ≤ tm D v → v = s ∨ ∃ u c, (u, v, c) ∈ l ∧ u < n ∧ 0 ≤ tm D u ∧ tm D v = tm D u + c ∧ 1 ≤ c := by
    intro v hv h0
    have hw := hD.way v hv h0
    generalize ht : tm D v = t at hw
    cases hw with
    | start => exact .inl rfl
    | move hu hx =>
      rename_i u t' c
      obtain ⟨h1, h2⟩ := hc.le hD.start hu
      have h3 := hc _ hx h1
      have h4 := hl _ hx
      simp only at h3 h4
      exact .inr ⟨u, c, hx, h4.1, h1, by omega, h4.2.2.1⟩
  induction k with
  | zero =>
    refine ⟨hT, fun v hv h0 hk => ?_⟩
    rcases last v hv h0 with rfl | ⟨u, c, hx, hu, h1, h2, h3⟩
    · show tm T v = _
      rw [hT.start, hD.start]
    · have := nearer_lt (n := n) (D := D) (u := u) (v := v) hu h1 (by omega)
      omega
  | succ k ih =>
    obtain ⟨ih1, ih2⟩ := ih
    rw [roundsF_succ]
    have hS := Sound.rels hl hs l _ (fun x hx => hx) ih1
    refine ⟨hS, fun v hv h0 hk => ?_⟩
    rcases last v hv h0 with rfl | ⟨u, c, hx, hu, h1, h2, h3⟩
    · rw [hS.start, hD.start]
    · have hlt := nearer_lt (n := n) (D := D) (u := u) (v := v) hu h1 (by omega)
      have hu2 := ih2 u hu h1 (by omega)
      have hd := rels_done l _ ih1.len hl _ hx (by rw [hu2]; exact h1)
      simp only [hu2] at hd
      have := low _ hS v hv hd.1
      omega
/-- n rounds are enough. -/
theorem rounds_eq {n s : Nat} {l : List Arc} {D : List Int} (hl : ArcsOk n l) (hs : s < n) (hD : Sound n l s D) (hc : Closed l D) (T : List Int) (hT : Sound n l s T) : roundsF l n T = D := by
  obtain ⟨h1, h2⟩ := rounds_all hl hs hD hc T hT n
  refine List.ext_getElem? (fun v => ?_)
  by_cases hv : v < n
  · have e1 : (roundsF l n T)[v]? = some (tm (roundsF l n T) v) := by unfold tm; rw [List.getD_eq_getElem?_getD, List.getElem?_eq_getElem (by rw [h1.len]; exact hv)]; rfl
    have e2 : D[v]? = some (tm D v) := by unfold tm; rw [List.getD_eq_getElem?_getD, List.getElem?_eq_getElem (by rw [hD.len]; exact hv)]; rfl
    rw [e1, e2]
    congr 1
    by_cases h0 : 0 ≤ tm D v
    · exact h2 v hv h0 (Nat.le_of_lt (nearer_n hv))
    · have h3 : tm (roundsF l n T) v < 0 := by
        rcases Int.lt_or_le (tm (roundsF l n T) v) 0 with g | g
        · exact g
        · have := hc.le hD.start (h1.way v hv g); omega
      rw [hD.neg v hv (by omega), h1.neg v hv h3]
  · rw [List.getElem?_eq_none (by rw [h1.len]; omega), List.getElem?_eq_none (by rw [hD.len]; omega)]
/-- The first times. -/
theorem sound_start {n s : Nat} (l : List Arc) (hs : s < n) : Sound n l s ((List.replicate n (-1)).set s 0) := by
  have hlen : ((List.replicate n (-1 : Int)).set s 0).length = n := by simp
  have hst : tm ((List.replicate n (-1 : Int)).set s 0) s = 0 := tm_set_same _ (by simpa using hs)
  have hne : ∀ v, v < n → v ≠ s → tm ((List.replicate n (-1 : Int)).set s 0) v = -1 := by
    intro v hv h
    rw [tm_set_ne _ (fun e => h e.symm)]
    unfold tm
    rw [List.getD_eq_getElem?_getD, List.getElem?_replicate, if_pos hv]; rfl
  refine ⟨hlen, hst, fun v hv h0 => ?_, fun v hv h0 => ?_⟩
  · by_cases e : v = s
    · subst e; rw [hst]; exact Way.start
    · rw [hne v hv e] at h0; omega
  · by_cases e : v = s
    · subst e; rw [hst] at h0; omega
    · exact hne v hv e
end Go.Proofs.Ytpaamhkgokkgpaa

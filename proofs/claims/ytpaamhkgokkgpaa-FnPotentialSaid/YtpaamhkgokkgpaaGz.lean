/- Plain: the nearest cell first (chapter 32): no Go in sight. -/
import Derived.Test.YtpaamhkgokkgpaaGx
namespace Go.Proofs.Ytpaamhkgokkgpaa
open Go.RowKit
set_option linter.unusedVariables false

def dnB (dn : List Bool) (u : Nat) : Bool := dn.getD u false
def candB (T : List Int) (dn : List Bool) (u : Nat) : Bool := !dnB dn u && decide (0 ≤ tm T u)
/-- The nearest cell that is not done, or -1. -/
def scanF (T : List Int) (dn : List Bool) : List Nat → Int → Int
  | [], b => b
  | u :: r, b => scanF T dn r (if (candB T dn u && (decide (b < 0) || decide (tm T u < tm T b.toNat))) = true then (u : Int) else b)
theorem scan_spec (T : List Int) (dn : List Bool) : ∀ (l : List Nat) (b : Int), (0 ≤ b → candB T dn b.toNat = true) →
    (scanF T dn l b < 0 → b < 0 ∧ ∀ u ∈ l, candB T dn u = false) ∧
    (0 ≤ scanF T dn l b → candB T dn (scanF T dn l b).toNat = true ∧ (0 ≤ b → tm T (scanF T dn l b).toNat ≤ tm T b.toNat) ∧ (∀ u ∈ l, candB T dn u = true → tm T (scanF T dn l b).toNat ≤ tm T u) ∧ ((scanF T dn l b) = b ∨ (scanF T dn l b).toNat ∈ l)) := by
  intro l
  induction l with
  | nil =>
    intro b hb
    refine ⟨fun h => ⟨h, fun u hu => by cases hu⟩, fun h => ⟨hb h, fun _ => Int.le_refl _, (fun u hu => by cases hu), .inl rfl⟩⟩
  | cons w r ih =>
    intro b hb
    rw [scanF]
    by_cases hc : (candB T dn w && (decide (b < 0) || decide (tm T w < tm T b.toNat))) = true
    · rw [if_pos hc]
      simp only [Bool.and_eq_true, Bool.or_eq_true, decide_eq_true_eq] at hc
      obtain ⟨hw, hlt⟩ := hc
      obtain ⟨h1, h2⟩ := ih (w : Int) (fun _ => by rw [Int.toNat_natCast]; exact hw)
      refine ⟨fun h => ?_, fun h => ?_⟩
      · have := (h1 h).1; omega
      · obtain ⟨k1, k2, k3, k4⟩ := h2 h
        have k2' := k2 (by omega)
        rw [Int.toNat_natCast] at k2'
        refine ⟨k1, fun h0 => by omega, fun u hu hcu => ?_, .inr ?_⟩
        · rcases List.mem_cons.1 hu with rfl | hu
          · exact k2'
          · exact k3 u hu hcu
        · rcases k4 with k4 | k4
          · rw [k4, Int.toNat_natCast]; simp
          · simp [k4]
    · rw [if_neg hc]
      obtain ⟨h1, h2⟩ := ih b hb
      simp only [Bool.and_eq_true, Bool.or_eq_true, decide_eq_true_eq] at hc
      refine ⟨fun h => ?_, fun h => ?_⟩
      · obtain ⟨g1, g2⟩ := h1 h
        refine ⟨g1, fun u hu => ?_⟩
        rcases List.mem_cons.1 hu with rfl | hu
        · cases hcu : candB T dn u with
          | false => rfl
          | true => exact absurd ⟨hcu, .inl g1⟩ hc
        · exact g2 u hu
      · obtain ⟨k1, k2, k3, k4⟩ := h2 h
        refine ⟨k1, k2, fun u hu hcu => ?_, ?_⟩
        · rcases List.mem_cons.1 hu with rfl | hu
          · have hb0 : 0 ≤ b := by
              rcases Int.lt_or_le b 0 with g | g
              · exact absurd ⟨hcu, .inl g⟩ hc
              · exact g
            have := k2 hb0
            have : ¬ tm T u < tm T b.toNat := fun g => hc ⟨hcu, .inr g⟩
            omega
          · exact k3 u hu hcu
        · rcases k4 with k4 | k4
          · exact .inl k4
          · exact .inr (by simp [k4])
def bestF (n : Nat) (T : List Int) (dn : List Bool) : Int := scanF T dn (List.range n) (-1)
theorem best_none {n : Nat} {T : List Int} {dn : List Bool} (h : bestF n T dn < 0) : ∀ u, u < n → candB T dn u = false := fun u hu =>
  ((scan_spec T dn (List.range n) (-1) (fun h => by omega)).1 h).2 u (List.mem_range.2 hu)
theorem best_some {n : Nat} {T : List Int} {dn : List Bool} (h : 0 ≤ bestF n T dn) : ∃ b : Nat, bestF n T dn = b ∧ b < n ∧ dnB dn b = false ∧ 0 ≤ tm T b ∧ ∀ u, u < n → dnB dn u = false → 0 ≤ tm T u → tm T b ≤ tm T u := by
  obtain ⟨k1, _, k3, k4⟩ := (scan_spec T dn (List.range n) (-1) (fun h => by omega)).2 h
  unfold bestF at h ⊢
  generalize scanF T dn (List.range n) (-1) = b at *
  refine ⟨b.toNat, by omega, ?_, ?_, ?_, fun u hu hd h0 => k3 u (List.mem_range.2 hu) ?_⟩
  · rcases k4 with k4 | k4
    · omega
    · exact List.mem_range.1 k4
  · unfold candB at k1; simp only [Bool.and_eq_true, Bool.not_eq_true', decide_eq_true_eq] at k1; exact k1.1
  · unfold candB at k1; simp only [Bool.and_eq_true, Bool.not_eq_true', decide_eq_true_eq] at k1; exact k1.2
  · unfold candB; simp [hd, h0]

/-- Relaxing the arcs out of one cell. -/
theorem rels_from {n b : Nat} : ∀ (q : List Arc) (T : List Int), T.length = n → ArcsOk n q → (∀ x ∈ q, x.1 = b) → 0 ≤ tm T b →
    tm (q.foldl relF T) b = tm T b ∧ ∀ v, tm (q.foldl relF T) v = tm T v ∨ (tm T b < tm (q.foldl relF T) v ∧ (tm T v < 0 ∨ tm (q.foldl relF T) v < tm T v)) := by
  intro q
  induction q with
  | nil => intro T _ _ _ _; exact ⟨rfl, fun v => .inl rfl⟩
  | cons x r ih =>
    intro T hn hq hb h0
    rw [List.foldl_cons]
    obtain ⟨x1, x2, x3, x4⟩ := hq x (by simp)
    have hxb := hb x (by simp)
    have one : tm (relF T x) b = tm T b ∧ ∀ v, tm (relF T x) v = tm T v ∨ (tm T b < tm (relF T x) v ∧ (tm T v < 0 ∨ tm (relF T x) v < tm T v)) := by
      unfold relF
      split
      · rename_i hc
        rw [hxb] at hc ⊢
        refine ⟨?_, fun v => ?_⟩
        · by_cases e : x.2.1 = b
          · rw [e] at hc; omega
          · rw [tm_set_ne _ e]
        · by_cases e : x.2.1 = v
          · subst e
            rw [tm_set_same _ (by omega)]
            exact .inr ⟨by omega, hc.2⟩
          · rw [tm_set_ne _ e]; exact .inl rfl
      · exact ⟨rfl, fun v => .inl rfl⟩
    obtain ⟨o1, o2⟩ := one
    obtain ⟨i1, i2⟩ := ih (relF T x) (by rw [relF_len, hn]) (fun y hy => hq y (by simp [hy])) (fun y hy => hb y (by simp [hy])) (by rw [o1]; exact h0)
    refine ⟨by rw [i1, o1], fun v => ?_⟩
    rw [o1] at i2
    rcases i2 v with j | ⟨j1, j2⟩
    · rw [j]; exact o2 v
    · rcases o2 v with k | ⟨k1, k2⟩
      · rw [k] at j2; exact .inr ⟨j1, j2⟩
      · refine .inr ⟨j1, ?_⟩
        rcases k2 with k2 | k2
        · exact .inl k2
        · rcases j2 with j2 | j2
          · omega
          · exact .inr (by omega)
def dijG (n : Nat) (A : Nat → List Arc) : Nat → List Int → List Bool → List Int
  | 0, T, _ => T
  | f + 1, T, dn => if bestF n T dn < 0 then T else dijG n A f ((A (bestF n T dn).toNat).foldl relF T) (dn.set (bestF n T dn).toNat true)
structure Dij (n s : Nat) (A : Nat → List Arc) (l : List Arc) (T : List Int) (dn : List Bool) : Prop where
  snd : Sound n l s T
  len : dn.length = n
  d1 : ∀ u, u < n → dnB dn u = true → 0 ≤ tm T u
  d2 : ∀ u, u < n → dnB dn u = true → ∀ x ∈ A u, 0 ≤ tm T x.2.1 ∧ tm T x.2.1 ≤ tm T u + x.2.2
  d3 : ∀ u v, u < n → v < n → dnB dn u = true → dnB dn v = false → 0 ≤ tm T v → tm T u ≤ tm T v
theorem dnB_set {dn : List Bool} {b u : Nat} (hb : b < dn.length) : dnB (dn.set b true) u = if u = b then true else dnB dn u := by
  unfold dnB
  by_cases e : u = b
  · subst e
    rw [if_pos rfl, List.getD_eq_getElem?_getD, List.getElem?_set_self hb]; rfl
  · rw [if_neg e, List.getD_eq_getElem?_getD, List.getElem?_set_ne (fun h => e h.symm), ← List.getD_eq_getElem?_getD]
theorem Dij.step {n s : Nat} {A : Nat → List Arc} {l : List Arc} {T : List Int} {dn : List Bool} (h : Dij n s A l T dn) (hl : ArcsOk n l) (hs : s < n) (hA : ∀ u, u < n → ∀ x ∈ A u, x.1 = u ∧ x ∈ l)
    {b : Nat} (hb : b < n) (hd : dnB dn b = false) (h0 : 0 ≤ tm T b) (hmin : ∀ u, u < n → dnB dn u = false → 0 ≤ tm T u → tm T b ≤ tm T u) : Dij n s A l ((A b).foldl relF T) (dn.set b true) := by
  have hAb : ArcsOk n (A b) := fun x hx => hl x (hA b hb x hx).2
  obtain ⟨f1, f2⟩ := rels_from (b := b) (A b) T h.snd.len hAb (fun x hx => (hA b hb x hx).1) h0
  have hnw := rels_noWorse (A b) T h.snd.len hAb
  have hbl : b < dn.length := by rw [h.len]; exact hb
  have same : ∀ u, u < n → dnB dn u = true → tm ((A b).foldl relF T) u = tm T u := by
    intro u hu hdu
    rcases f2 u with g | ⟨g1, g2⟩
    · exact g
    · have := h.d3 u b hu hb hdu hd h0
      have := h.d1 u hu hdu
      omega
  refine ⟨Sound.rels hl hs _ _ (fun x hx => (hA b hb x hx).2) h.snd, by simp [h.len], ?_, ?_, ?_⟩
  · intro u hu hdu
    rw [dnB_set hbl] at hdu
    by_cases e : u = b
    · subst e; rw [f1]; exact h0
    · rw [if_neg e] at hdu; rw [same u hu hdu]; exact h.d1 u hu hdu
  · intro u hu hdu x hx
    rw [dnB_set hbl] at hdu
    by_cases e : u = b
    · subst e
      have hx1 := (hA u hu x hx).1
      have := rels_done (A u) T h.snd.len hAb x hx (by rw [hx1]; exact h0)
      rw [hx1] at this
      rw [f1]; exact this
    · rw [if_neg e] at hdu
      obtain ⟨g1, g2⟩ := h.d2 u hu hdu x hx
      obtain ⟨g3, g4⟩ := hnw _ g1
      rw [same u hu hdu]
      exact ⟨g3, by omega⟩
  · intro u v hu hv hdu hdv hv0
    rw [dnB_set hbl] at hdu hdv
    by_cases ev : v = b
    · rw [if_pos ev] at hdv; cases hdv
    rw [if_neg ev] at hdv
    have hub : tm ((A b).foldl relF T) u ≤ tm T b := by
      by_cases e : u = b
      · subst e; rw [f1]; exact Int.le_refl _
      · rw [if_neg e] at hdu
        rw [same u hu hdu]
        exact h.d3 u b hu hb hdu hd h0
    rcases f2 v with g | ⟨g1, _⟩
    · rw [g] at hv0 ⊢
      have := hmin v hv hdv hv0
      omega
    · omega
theorem dij_ok {n s : Nat} {A : Nat → List Arc} {l : List Arc} (hl : ArcsOk n l) (hs : s < n) (hA : ∀ u, u < n → ∀ x ∈ A u, x.1 = u ∧ x ∈ l) (hA2 : ∀ x ∈ l, x ∈ A x.1) :
    ∀ (f : Nat) (T : List Int) (dn : List Bool), Dij n s A l T dn → dn.countP (fun b => !b) ≤ f → Sound n l s (dijG n A f T dn) ∧ Closed l (dijG n A f T dn) := by
  have fin : ∀ (T : List Int) (dn : List Bool), Dij n s A l T dn → (∀ u, u < n → 0 ≤ tm T u → dnB dn u = true) → Closed l T := by
    intro T dn h hall x hx h0
    have hx1 := (hl x hx).1
    exact h.d2 x.1 hx1 (hall x.1 hx1 h0) x (hA2 x hx)
  intro f
  induction f with
  | zero =>
    intro T dn h hc
    refine ⟨h.snd, fin T dn h (fun u hu h0 => ?_)⟩
    have hz : dn.countP (fun b => !b) = 0 := by omega
    have := List.countP_eq_zero.1 hz (dnB dn u) (by unfold dnB; rw [List.getD_eq_getElem?_getD, List.getElem?_eq_getElem (by rw [h.len]; exact hu)]; exact List.getElem_mem _)
    simpa using this
  | succ f ih =>
    intro T dn h hc
    unfold dijG
    by_cases hb : bestF n T dn < 0
    · rw [if_pos hb]
      refine ⟨h.snd, fin T dn h (fun u hu h0 => ?_)⟩
      have := best_none hb u hu
      unfold candB at this
      simp only [Bool.and_eq_false_iff, Bool.not_eq_false', decide_eq_false_iff_not] at this
      rcases this with g | g
      · exact g
      · exact absurd h0 g
    · rw [if_neg hb]
      obtain ⟨b, e, hbn, hd, h0, hmin⟩ := best_some (show 0 ≤ bestF n T dn by omega)
      rw [e, Int.toNat_natCast]
      refine ih _ _ (h.step hl hs hA hbn hd h0 hmin) ?_
      have hbl : b < dn.length := by rw [h.len]; exact hbn
      have hget : dn[b] = false := by unfold dnB at hd; rwa [List.getD_eq_getElem?_getD, List.getElem?_eq_getElem hbl] at hd
      have e2 : dn.countP (fun b => !b) = (dn.set b true).countP (fun b => !b) + 1 := by
        rw [List.countP_set hbl]
        have hpos : 0 < dn.countP (fun b => !b) := List.countP_pos_iff.2 ⟨false, by rw [← hget]; exact List.getElem_mem _, rfl⟩
        simp [hget]
        omega
      omega
theorem dij_start {n s : Nat} {A : Nat → List Arc} {l : List Arc} (hs : s < n) : Dij n s A l ((List.replicate n (-1)).set s 0) (List.replicate n false) := by
  have hno : ∀ u, u < n → dnB (List.replicate n false) u = false := by
    intro u hu
    unfold dnB
    rw [List.getD_eq_getElem?_getD, List.getElem?_replicate, if_pos hu]; rfl
  refine ⟨sound_start l hs, by simp, ?_, ?_, ?_⟩
  · intro u hu h; rw [hno u hu] at h; cases h
  · intro u hu h; rw [hno u hu] at h; cases h
  · intro u v hu _ h; rw [hno u hu] at h; cases h
end Go.Proofs.Ytpaamhkgokkgpaa

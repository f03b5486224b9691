/- Plain: bounds of times while they are found; the way to a cell (chapter 32): no Go in sight. -/
import Derived.Test.YtpaamhkgokkgpaaHa
namespace Go.Proofs.Ytpaamhkgokkgpaa
open Go.RowKit
set_option linter.unusedVariables false

theorem tm_get {T : List Int} {v : Nat} {x : Int} (h : T[v]? = some x) : tm T v = x := by
  unfold tm; rw [List.getD_eq_getElem?_getD, h]; rfl
/-- How many cells are reached. -/
def cnt (T : List Int) : Nat := T.countP fun t => decide (0 ≤ t)
structure Cap (n : Nat) (T : List Int) : Prop where
  len : T.length = n
  lo : ∀ v, v < n → -1 ≤ tm T v
  hi : ∀ v, tm T v ≤ 2520 * (cnt T : Int)
theorem cnt_le (T : List Int) : cnt T ≤ T.length := List.countP_le_length
theorem tm_elem {T : List Int} {v : Nat} (hv : v < T.length) : T[v] = tm T v := by
  unfold tm; rw [List.getD_eq_getElem?_getD, List.getElem?_eq_getElem hv]; rfl
theorem cnt_set {T : List Int} {v : Nat} {x : Int} (hv : v < T.length) (hx : 0 ≤ x) : cnt (T.set v x) = cnt T + if tm T v < 0 then 1 else 0 := by
  unfold cnt
  rw [List.countP_set hv, tm_elem hv]
  have h1 : decide (0 ≤ x) = true := by simpa using hx
  rw [h1]
  by_cases h : tm T v < 0
  · have h2 : decide (0 ≤ tm T v) = false := by simp; omega
    rw [h2, if_pos h]; simp
  · have h2 : decide (0 ≤ tm T v) = true := by simp; omega
    have h3 : 0 < T.countP (fun t => decide (0 ≤ t)) := List.countP_pos_iff.2 ⟨T[v], List.getElem_mem _, by rw [tm_elem hv]; exact h2⟩
    rw [h2, if_neg h]; simp; omega
theorem Cap.bd {n : Nat} {T : List Int} (h : Cap n T) (hn : n ≤ 100) (v : Nat) : tm T v ≤ 252000 := by
  have h1 := cnt_le T
  have h2 := h.hi v
  rw [h.len] at h1
  omega
theorem Cap.low {n : Nat} {T : List Int} (h : Cap n T) (v : Nat) : -1 ≤ tm T v := by
  by_cases hv : v < n
  · exact h.lo v hv
  · unfold tm; rw [List.getD_eq_getElem?_getD, List.getElem?_eq_none (by rw [h.len]; omega)]; show (-1 : Int) ≤ 0; omega
theorem Cap.set {n : Nat} {T : List Int} (h : Cap n T) {u v : Nat} {c : Int} (hv : v < n) (c1 : 1 ≤ c) (c2 : c ≤ 2520) (h0 : 0 ≤ tm T u) (hc : tm T v < 0 ∨ tm T u + c < tm T v) : Cap n (T.set v (tm T u + c)) := by
  have hvl : v < T.length := by rw [h.len]; exact hv
  have e := cnt_set (T := T) (v := v) (x := tm T u + c) hvl (by omega)
  have hu := h.hi u
  have hv1 := h.hi v
  refine ⟨by simp [h.len], fun k hk => ?_, fun k => ?_⟩
  · by_cases ek : v = k
    · subst ek; rw [tm_set_same _ hvl]; omega
    · rw [tm_set_ne _ ek]; exact h.lo k hk
  · have hk := h.hi k
    rw [e]
    by_cases ek : v = k
    · subst ek; rw [tm_set_same _ hvl]; split <;> omega
    · rw [tm_set_ne _ ek]; split <;> omega
theorem Cap.rel {n : Nat} {T : List Int} {x : Arc} (h : Cap n T) (hx : x.1 < n ∧ x.2.1 < n ∧ 1 ≤ x.2.2 ∧ x.2.2 ≤ 2520) : Cap n (relF T x) := by
  unfold relF
  split
  · rename_i hc
    exact h.set hx.2.1 hx.2.2.1 hx.2.2.2 hc.1 hc.2
  · exact h
theorem cap_start {n s : Nat} (hs : s < n) : Cap n ((List.replicate n (-1)).set s 0) := by
  have hs' : s < (List.replicate n (-1 : Int)).length := by simpa using hs
  have e := cnt_set (T := List.replicate n (-1 : Int)) (v := s) (x := 0) hs' (by omega)
  have hr : ∀ v, v < n → tm (List.replicate n (-1 : Int)) v = -1 := by
    intro v hv; unfold tm; rw [List.getD_eq_getElem?_getD, List.getElem?_replicate, if_pos hv]; rfl
  have hr2 : ∀ v, tm (List.replicate n (-1 : Int)) v ≤ 0 := by
    intro v
    by_cases hv : v < n
    · rw [hr v hv]; omega
    · unfold tm; rw [List.getD_eq_getElem?_getD, List.getElem?_eq_none (by simp; omega)]; exact Int.le_refl _
  refine ⟨by simp, fun v hv => ?_, fun v => ?_⟩
  · by_cases ev : s = v
    · subst ev; rw [tm_set_same _ hs']; omega
    · rw [tm_set_ne _ ev, hr v hv]; exact Int.le_refl _
  · by_cases ev : s = v
    · subst ev; rw [tm_set_same _ hs']; omega
    · rw [tm_set_ne _ ev]; have := hr2 v; omega
/-- What is left to better. -/
def mw (t : Int) : Nat := if t < 0 then 300000 else t.toNat
def mu : List Int → Nat
  | [] => 0
  | t :: r => mw t + mu r
theorem mu_set (x : Int) : ∀ (T : List Int) (v : Nat), v < T.length → mu (T.set v x) + mw (tm T v) = mu T + mw x := by
  intro T
  induction T with
  | nil => intro v h; simp at h
  | cons t r ih =>
    intro v h
    cases v with
    | zero => show mw x + mu r + mw t = mw t + mu r + mw x; omega
    | succ v =>
      have := ih v (by simpa using h)
      have e : tm (t :: r) (v + 1) = tm r v := by unfold tm; simp
      rw [e]
      show mw t + mu (r.set v x) + mw (tm r v) = mw t + mu r + mw x
      omega
theorem mu_less {n : Nat} {T : List Int} (h : Cap n T) (hn : n ≤ 100) {u v : Nat} {c : Int} (hv : v < n) (c1 : 1 ≤ c) (c2 : c ≤ 2520) (h0 : 0 ≤ tm T u) (hc : tm T v < 0 ∨ tm T u + c < tm T v) : mu (T.set v (tm T u + c)) < mu T := by
  have e := mu_set (tm T u + c) T v (by rw [h.len]; exact hv)
  have hu := h.bd hn u
  have e2 : mw (tm T u + c) < mw (tm T v) := by
    unfold mw
    rw [if_neg (by omega)]
    split <;> omega
  omega
theorem closed_fix {n : Nat} {l : List Arc} {T : List Int} (hl : ArcsOk n l) (hT : T.length = n) (h : l.foldl relF T = T) : Closed l T := by
  intro x hx h0
  have := rels_done l T hT hl x hx h0
  rwa [h] at this
theorem last_arc {n s : Nat} {l : List Arc} {D : List Int} (hl : ArcsOk n l) (hD : Sound n l s D) (hc : Closed l D) {v : Nat} (hv : v < n) (h0 : 0 ≤ tm D v) : v = s ∨ ∃ u c, (u, v, c) ∈ l ∧ u < n ∧ 0 ≤ tm D u ∧ tm D v = tm D u + c ∧ 1 ≤ c := by
  have hw := hD.way v hv h0
  generalize ht : tm D v = t at hw
  cases hw with
  | start => exact .inl rfl
  | move hu hx =>
    rename_i u t' c
    obtain ⟨h1, h2⟩ := hc.le hD.start hu
    have h3 := hc _ hx h1
    have h4 := hl _ hx
    simp only at h3 h4
    exact .inr ⟨u, c, hx, h4.1, h1, by omega, h4.2.2.1⟩
/-- The laws' times. -/
def timesB (back : Bool) (W H : Int) (xs : List (Int × Int)) (s : Nat) : List Int := passesF back W H xs xs.length ((List.replicate xs.length (-1)).set s 0)
theorem timesB_ok {W H : Int} {xs : List (Int × Int)} (hg : GridOk W H xs) (back : Bool) {s : Nat} (hs : s < xs.length) : Sound xs.length (arcsB back W H xs) s (timesB back W H xs s) ∧ Closed (arcsB back W H xs) (timesB back W H xs s) := by
  have h := dij_ok (A := fun u => (arcsB back W H xs).filter (fun x => x.1 == u)) (arcsB_ok hg back) hs (fun u hu x hx => by
    rw [List.mem_filter] at hx
    exact ⟨by simpa using hx.2, hx.1⟩) (fun x hx => by rw [List.mem_filter]; exact ⟨hx, by simp⟩) xs.length _ _ (dij_start hs) (by rw [List.countP_replicate]; simp)
  unfold timesB
  rw [passes_eq, rounds_eq (arcsB_ok hg back) hs h.1 h.2 _ (sound_start _ hs)]
  exact h
theorem timesB_false {W H : Int} {xs : List (Int × Int)} (hg : GridOk W H xs) {s : Nat} (hs : s < xs.length) : timesB false W H xs s = timesF W H xs s := times_same hg hs
theorem times_is {W H : Int} {xs : List (Int × Int)} (hg : GridOk W H xs) (back : Bool) {s : Nat} (hs : s < xs.length) {T : List Int} (h1 : Sound xs.length (arcsB back W H xs) s T) (h2 : Closed (arcsB back W H xs) T) : T = timesB back W H xs s :=
  times_uniq h1 h2 (timesB_ok hg back hs).1 (timesB_ok hg back hs).2
/-- Does a move keep to a fastest way? -/
def goodB (W H : Int) (xs : List (Int × Int)) (L : List Int) (u d : Nat) : Bool :=
  moveB W H xs u d && (decide (0 ≤ tm L (nbF W H u d).toNat) && decide (tm L (nbF W H u d).toNat + takeF xs u d = tm L u))
def pathF (W H : Int) (xs : List (Int × Int)) (L : List Int) (tg : Nat) : Nat → Nat → List Int
  | 0, _ => []
  | f + 1, u => if u = tg then [] else match (List.range 8).find? (goodB W H xs L u) with
    | none => []
    | some d => (d : Int) :: pathF W H xs L tg f (nbF W H u d).toNat
theorem good_some {W H : Int} {xs : List (Int × Int)} (hg : GridOk W H xs) {tg u : Nat} (ht : tg < xs.length) (hu : u < xs.length) (hne : u ≠ tg) (h0 : 0 ≤ tm (timesB true W H xs tg) u) :
    ∃ d, (List.range 8).find? (goodB W H xs (timesB true W H xs tg) u) = some d := by
  obtain ⟨h1, h2⟩ := timesB_ok hg true ht
  rcases last_arc (arcsB_ok hg true) h1 h2 hu h0 with rfl | ⟨v, c, hx, hv, hv0, he, hc⟩
  · exact absurd rfl hne
  · unfold arcsB at hx
    rw [List.mem_map] at hx
    obtain ⟨y, hy, hyx⟩ := hx
    have hyx : revA y = (v, u, c) := hyx
    have hy1 : y = (u, v, c) := by
      obtain ⟨a, b, c'⟩ := y
      unfold revA at hyx
      simp only [Prod.mk.injEq] at hyx
      obtain ⟨e1, e2, e3⟩ := hyx
      rw [e1, e2, e3]
    rw [hy1] at hy
    obtain ⟨d, hd, hm, hdx⟩ := out_mem (arcs_in _ hy)
    simp only [Prod.mk.injEq] at hdx
    obtain ⟨_, hd1, hd2⟩ := hdx
    rw [← Option.isSome_iff_exists, List.find?_isSome]
    refine ⟨d, List.mem_range.2 hd, ?_⟩
    unfold goodB
    simp only at hm hd1 hd2
    rw [hm, ← hd1, ← hd2]
    simp; omega
theorem good_zero {W H : Int} {xs : List (Int × Int)} (hg : GridOk W H xs) {tg u : Nat} (ht : tg < xs.length) (hu : u < xs.length) (h0 : tm (timesB true W H xs tg) u = 0) : u = tg := by
  obtain ⟨h1, h2⟩ := timesB_ok hg true ht
  rcases last_arc (arcsB_ok hg true) h1 h2 hu (by omega) with h | ⟨v, c, hx, hv, hv0, he, hc⟩
  · exact h
  · omega
end Go.Proofs.Ytpaamhkgokkgpaa

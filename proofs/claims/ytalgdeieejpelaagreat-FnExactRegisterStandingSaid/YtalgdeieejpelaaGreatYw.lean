/- Plain: what applied redress leaves, the open redress counted, the table stays valid. -/
import Derived.Test.YtalgdeieejpelaaGreatTl
import Derived.Test.YtalgdeieejpelaaGreatZmc
import Derived.Test.YtalgdeieejpelaaGreatZmd
namespace Go.Proofs.YtalgdeieejpelaaGreat
open Go.RowKit Go.Sort
set_option linter.unusedVariables false

theorem setRC_at {rows : List (List Int)} {r b i k : Nat} {v : Int} (h : ¬ (r = i ∧ b = k)) : ((setRC rows r b v).getD i []).getD k 0 = (rows.getD i []).getD k 0 := by
  unfold setRC
  by_cases hr : r = i
  · subst hr
    have hb : b ≠ k := fun e => h ⟨rfl, e⟩
    by_cases hl : r < rows.length
    · simp only [List.getD, List.getElem?_set, hl, if_true]
      simp [hb]
    · rw [List.set_eq_of_length_le (by omega)]
  · simp only [List.getD, List.getElem?_set, if_neg hr]
theorem applyGo_at (t : Tb) : ∀ (xs : List RedT) (rows : List (List Int)) (i k : Nat), (∀ x ∈ xs, 0 ≤ x.1 ∧ 0 ≤ x.2.1) → namedB xs i k = false → ((applyGo t xs rows).getD i []).getD k 0 = (rows.getD i []).getD k 0 := by
  intro xs
  induction xs with
  | nil => intro rows i k _ _; rfl
  | cons x xs ih =>
    intro rows i k h hn
    unfold namedB at hn
    rw [List.any_cons] at hn
    simp only [Bool.or_eq_false_iff] at hn
    rw [applyGo, ih _ i k (fun y hy => h y (List.mem_cons_of_mem _ hy)) hn.2]
    refine setRC_at ?_
    rintro ⟨e1, e2⟩
    have hx := h x List.mem_cons_self
    have h1 : x.1 = (i : Int) := by omega
    have h2 : x.2.1 = (k : Int) := by omega
    have := hn.1
    simp [h1, h2] at this
theorem reds_mem {t : Tb} {xs : List RedT} (h : redsB t xs = true) (x : RedT) (hx : x ∈ xs) : redB t x = true := by
  obtain ⟨k, hk⟩ := List.getElem?_of_mem hx
  exact reds_at h k x hk
theorem applyF_at {t : Tb} {xs : List RedT} (h : redsB t xs = true) {i k : Nat} (hn : namedB xs i k = false) : ((applyF t xs).pts.getD i []).getD k 0 = (t.pts.getD i []).getD k 0 :=
  applyGo_at t xs t.pts i k (fun x hx => by have := redB_redOk (reds_mem h x hx); exact ⟨this.race.1, this.boat.1⟩) hn
theorem mm_bd (race kind : Int) (b : Nat) : ∀ (ps cs : List (List Int)) (k : Nat) (lo hi : Int), (∀ p ∈ ps, ∀ x ∈ p, 0 ≤ x ∧ x ≤ 10000) → 0 ≤ lo → hi ≤ 10000 →
    0 ≤ (mmGo race kind b k ps cs lo hi).1 ∧ (mmGo race kind b k ps cs lo hi).2 ≤ 10000 := by
  intro ps
  induction ps with
  | nil => intro cs k lo hi _ h1 h2; cases cs <;> exact ⟨h1, h2⟩
  | cons p ps ih =>
    intro cs k lo hi h h1 h2
    cases cs with
    | nil => exact ⟨h1, h2⟩
    | cons c cs =>
      have hp : 0 ≤ p.getD b 0 ∧ p.getD b 0 ≤ 10000 := by
        by_cases hb : b < p.length
        · have e : p.getD b 0 = p[b] := by simp [List.getD, List.getElem?_eq_getElem hb]
          rw [e]
          exact h p List.mem_cons_self _ (List.getElem_mem hb)
        · have e : p.getD b 0 = 0 := by simp [List.getD, List.getElem?_eq_none (by omega : p.length ≤ b)]
          rw [e]; omega
      unfold mmGo
      split
      · exact ih cs _ _ _ (fun q hq => h q (List.mem_cons_of_mem _ hq)) (by omega) (by omega)
      · exact ih cs _ _ _ (fun q hq => h q (List.mem_cons_of_mem _ hq)) h1 h2
theorem pts_bd {t : Tb} (ok : TabOk t) : ∀ p ∈ t.pts, (p.length : Int) = t.boats ∧ ∀ x ∈ p, 0 ≤ x ∧ x ≤ 10000 := by
  intro p hp
  obtain ⟨k, hk⟩ := List.getElem?_of_mem hp
  have hl : k < t.cds.length := by rw [← ok.same]; exact (List.getElem?_eq_some_iff.1 hk).1
  exact (ok.row k p t.cds[k] hk (List.getElem?_eq_getElem hl)).1
theorem redVal_bd {t : Tb} {x : RedT} (ok : TabOk t) (h : redB t x = true) : 0 ≤ redVal t x ∧ redVal t x ≤ 10000 := by
  have h0 := redB_redOk h
  unfold redVal
  by_cases hk : x.2.2.1 = 3
  · rw [if_pos hk]
    unfold redB at h
    simp only [Bool.and_eq_true, beq_iff_eq] at h
    have h1 := h.1.1.2
    unfold isRedBT at h1
    rw [if_pos hk] at h1
    exact withinB_iff.1 h1
  · rw [if_neg hk]
    have hs := h0.some_
    unfold redPtF at hs
    rw [if_neg hk] at hs
    have hb := avg_between t x.1 x.2.1 x.2.2.1 hs
    have hm := mm_bd x.1 x.2.2.1 x.2.1.toNat t.pts t.cds 0 10000 0 (fun p hp => (pts_bd ok p hp).2) (by omega) (by omega)
    omega
theorem applyGo_ok (t : Tb) (ok : TabOk t) (B : Int) : ∀ (xs : List RedT) (rows : List (List Int)), (∀ x ∈ xs, redB t x = true) → rows.length = t.pts.length → (∀ p ∈ rows, (p.length : Int) = B ∧ ∀ x ∈ p, 0 ≤ x ∧ x ≤ 10000) →
    (applyGo t xs rows).length = t.pts.length ∧ ∀ p ∈ applyGo t xs rows, (p.length : Int) = B ∧ ∀ x ∈ p, 0 ≤ x ∧ x ≤ 10000 := by
  intro xs
  induction xs with
  | nil => intro rows _ h1 h2; exact ⟨h1, h2⟩
  | cons x xs ih =>
    intro rows h h1 h2
    have hx := h x List.mem_cons_self
    have hv := redVal_bd ok hx
    have hr := redB_redOk hx
    rw [applyGo]
    refine ih _ (fun y hy => h y (List.mem_cons_of_mem _ hy)) (by rw [setRC_len]; exact h1) ?_
    intro p hp
    unfold setRC at hp
    rcases List.mem_or_eq_of_mem_set hp with hp | rfl
    · exact h2 p hp
    · have hlt : x.1.toNat < rows.length := by have := hr.race; omega
      have e : rows.getD x.1.toNat [] = rows[x.1.toNat] := by simp [List.getD, List.getElem?_eq_getElem hlt]
      have h3 := h2 _ (List.getElem_mem hlt)
      rw [e]
      refine ⟨by rw [List.length_set]; exact h3.1, fun y hy => ?_⟩
      rcases List.mem_or_eq_of_mem_set hy with hy | rfl
      · exact h3.2 y hy
      · exact hv
theorem applyF_tab {t : Tb} {xs : List RedT} (ok : TabOk t) (h : redsB t xs = true) : tableB (applyF t xs) = true := by
  have hp := applyGo_ok t ok t.boats xs t.pts (reds_mem h) rfl (pts_bd ok)
  refine TabOk.tableB ⟨ok.b1, ok.b2, ?_, ?_, ?_⟩
  · show (applyGo t xs t.pts).length ≤ 12
    rw [hp.1]; exact ok.many
  · show (applyGo t xs t.pts).length = t.cds.length
    rw [hp.1]; exact ok.same
  · intro k p c hk hc
    refine ⟨hp.2 p (List.mem_of_getElem? hk), ?_⟩
    have hl : k < t.pts.length := by rw [ok.same]; exact (List.getElem?_eq_some_iff.1 hc).1
    exact (ok.row k t.pts[k] c (List.getElem?_eq_getElem hl) hc).2
theorem openRow_cons (xs : List RedT) (k b : Nat) (c : Int) (cs : List Int) : (openRow xs k b (c :: cs)).length = (if (c == 9 && !namedB xs k b) = true then 1 else 0) + (openRow xs k (b + 1) cs).length := by
  rw [openRow, List.length_append]
  split <;> rfl
theorem openGo_cons (xs : List RedT) (k : Nat) (r : List Int) (rs : List (List Int)) : (openGo xs k (r :: rs)).length = (openRow xs k 0 r).length + (openGo xs (k + 1) rs).length := by
  rw [openGo, List.length_append]
theorem openGo_nil (xs : List RedT) (k : Nat) : (openGo xs k []).length = 0 := rfl
/-- A tail of a list names what its head or its rest names. -/
theorem named_cons (x : RedT) (xs : List RedT) (i k : Int) : namedB (x :: xs) i k = ((x.1 == i && x.2.1 == k) || namedB xs i k) := by
  unfold namedB; rw [List.any_cons]
end Go.Proofs.YtalgdeieejpelaaGreat

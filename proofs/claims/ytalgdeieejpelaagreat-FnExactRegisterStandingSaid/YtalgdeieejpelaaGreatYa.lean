/- Plain: the table of a register's series and its redress. -/
import Derived.Test.YtalgdeieejpelaaGreatZmf
import Derived.Test.YtalgdeieejpelaaGreatZma
namespace Go.Proofs.YtalgdeieejpelaaGreat
open Go.RowKit
set_option linter.unusedVariables false

/-! ### Points of a race -/
/-- How many came. -/
def cameN (fs : List FinishT) : Nat := (fs.filter fun g => !(g.2.1 == 1)).length
def ptS (s : Int) (fs : List FinishT) (f : FinishT) : Int :=
  if f.2.1 = 0 then 5 * (2 * (placeF fs f).1 + (placeF fs f).2 - 1)
  else if f.2.1 = 9 then 0
  else if f.2.1 = 1 ∨ s = 0 then 10 * ((fs.length : Int) + 1)
  else 10 * ((cameN fs : Int) + 1)
def rowP (s : Int) (fs : List FinishT) : List Int := fs.map (ptS s fs)
def rowK (fs : List FinishT) : List Int := fs.map fun f => f.2.1
def tabS (b s : Int) (rows : List (List FinishT)) : Tb := ⟨b, rows.map (rowP s), rows.map rowK⟩
theorem cameN_le (fs : List FinishT) : cameN fs ≤ fs.length := List.length_filter_le _ _
theorem ptS_bd (s : Int) (fs : List FinishT) (f : FinishT) (h : fs.length ≤ 16) : 0 ≤ ptS s fs f ∧ ptS s fs f ≤ 10000 := by
  have h1 := cameN_le fs
  have h2 := ltN_le f.2.2 fs
  have h3 := eqN_le f.2.2 fs
  unfold ptS
  split
  · rename_i h0
    unfold placeF
    rw [if_pos h0]
    simp only
    omega
  · split
    · omega
    · split <;> omega
/-- All finishes of all races fit. -/
def FinsOk (rows : List (List FinishT)) : Prop := ∀ r ∈ rows, ∀ (k : Nat) (f : FinishT), r[k]? = some f → f.1 = (k : Int) ∧ finB f = true
theorem tabS_ok {b s : Int} {rows : List (List FinishT)} (h1 : 1 ≤ b) (h2 : b ≤ 16) (hg : GoodR b.toNat rows) (hf : FinsOk rows) : TabOk (tabS b s rows) := by
  refine ⟨h1, h2, by simp [tabS]; exact hg.1, by simp [tabS], fun k p c hp hc => ?_⟩
  simp only [tabS, List.getElem?_map] at hp hc
  cases hr : rows[k]? with
  | none => rw [hr] at hp; cases hp
  | some fs =>
    rw [hr] at hp hc
    simp only [Option.map_some, Option.some.injEq] at hp hc
    subst hp; subst hc
    have hm := List.mem_of_getElem? hr
    have hl := hg.2 fs hm
    refine ⟨⟨by simp only [rowP, List.length_map, tabS]; omega, fun x hx => ?_⟩, by simp only [rowK, List.length_map, tabS]; omega, fun x hx => ?_⟩
    · obtain ⟨f, _, rfl⟩ := List.mem_map.1 hx
      exact ptS_bd s fs f (by omega)
    · obtain ⟨f, hfm, rfl⟩ := List.mem_map.1 hx
      obtain ⟨q, hq⟩ := List.mem_iff_getElem?.1 hfm
      have := finB_ok (hf fs hm q f hq).2
      exact ⟨this.1, this.2.1⟩
theorem dncRow_at {b k : Nat} {f : FinishT} (h : (dncRow b)[k]? = some f) : f = ((k : Int), (1 : Int), (0 : Int)) := by
  unfold dncRow at h
  rw [List.getElem?_map] at h
  cases hr : (List.range b)[k]? with
  | none => rw [hr] at h; cases h
  | some q =>
    rw [hr] at h
    have : q = k := by
      have := List.getElem?_eq_some_iff.1 hr
      obtain ⟨h1, h2⟩ := this
      simpa using h2.symm
    subst this
    simpa using h.symm
theorem FinsOk.pad {b : Nat} {rows : List (List FinishT)} (h : FinsOk rows) (m : Nat) : FinsOk (padR b rows m) := by
  intro r hr k f hf
  unfold padR at hr
  rcases List.mem_append.1 hr with hr | hr
  · exact h r hr k f hf
  · rw [List.eq_of_mem_replicate hr] at hf
    rw [dncRow_at hf]
    exact ⟨rfl, by simp [finB, withinB]⟩
theorem FinsOk.put {b : Nat} {rows : List (List FinishT)} (h : FinsOk rows) {x : EntryT} (h0 : 0 ≤ E.boat x) (hx : finB (E.boat x, E.code x, E.time x) = true) : FinsOk (putR b rows x) := by
  intro r hr k f hf
  unfold putR at hr
  have hp := h.pad (b := b) ((E.race x).toNat + 1)
  have hold : ∀ q ∈ padR b rows ((E.race x).toNat + 1), ∀ (k : Nat) (f : FinishT), q[k]? = some f → f.1 = (k : Int) ∧ finB f = true := hp
  generalize padR b rows ((E.race x).toNat + 1) = pr at *
  rcases List.mem_or_eq_of_mem_set hr with hr | rfl
  · exact hold r hr k f hf
  · by_cases hk : (E.boat x).toNat = k
    · rw [List.getElem?_set] at hf
      rw [if_pos hk] at hf
      split at hf
      · injection hf with hf; subst hf; exact ⟨by show E.boat x = (k : Int); omega, hx⟩
      · cases hf
    · rw [List.getElem?_set_ne hk] at hf
      by_cases hl : (E.race x).toNat < pr.length
      · rw [List.getD_eq_getElem?_getD, List.getElem?_eq_getElem hl] at hf
        exact hold _ (List.getElem_mem hl) k f hf
      · rw [List.getD_eq_getElem?_getD, List.getElem?_eq_none (Nat.le_of_not_lt hl)] at hf
        simp at hf
/-! ### Where an entry lies in the series -/
def cellR (rows : List (List FinishT)) (r k : Nat) : Option FinishT := (rows.getD r [])[k]?
theorem cellR_lt {rows : List (List FinishT)} {r k : Nat} {f : FinishT} (h : cellR rows r k = some f) : r < rows.length := by
  false_or_by_contra
  rename_i hn
  unfold cellR at h
  rw [List.getD_eq_getElem?_getD, List.getElem?_eq_none (Nat.le_of_not_lt hn)] at h
  simp at h
theorem padR_getD {b : Nat} {rows : List (List FinishT)} {m r : Nat} (h : r < rows.length) : (padR b rows m).getD r [] = rows.getD r [] := by
  unfold padR
  rw [List.getD_eq_getElem?_getD, List.getD_eq_getElem?_getD, List.getElem?_append_left h]
theorem put_same {b : Nat} {rows : List (List FinishT)} (hg : GoodR b rows) {x : EntryT} (h0 : 0 ≤ E.race x) (h1 : E.race x ≤ 11) (h2 : 0 ≤ E.boat x) (h3 : E.boat x < b) :
    cellR (putR b rows x) (E.race x).toNat (E.boat x).toNat = some (E.boat x, E.code x, E.time x) := by
  have hp := hg.pad (m := (E.race x).toNat + 1) (by omega)
  have hlt : (E.race x).toNat < (padR b rows ((E.race x).toNat + 1)).length := by rw [padR_len]; omega
  unfold putR
  generalize padR b rows ((E.race x).toNat + 1) = pr at *
  have hl : (pr.getD (E.race x).toNat []).length = b := by
    rw [List.getD_eq_getElem?_getD, List.getElem?_eq_getElem hlt]; exact hp.2 _ (List.getElem_mem hlt)
  unfold cellR
  generalize pr.getD (E.race x).toNat [] = q at hl
  rw [List.getD_eq_getElem?_getD, List.getElem?_set_self hlt, Option.getD_some, List.getElem?_set_self (by omega)]
theorem put_other {b : Nat} {rows : List (List FinishT)} {x : EntryT} {r k : Nat} {f : FinishT} (h : cellR rows r k = some f) (hne : ¬ ((E.race x).toNat = r ∧ (E.boat x).toNat = k)) : cellR (putR b rows x) r k = some f := by
  have hr := cellR_lt h
  have hpr := padR_getD (b := b) (m := (E.race x).toNat + 1) hr
  have hlt : r < (padR b rows ((E.race x).toNat + 1)).length := by rw [padR_len]; omega
  unfold cellR at h
  rw [← hpr] at h
  unfold putR cellR
  generalize padR b rows ((E.race x).toNat + 1) = pr at *
  by_cases e : (E.race x).toNat = r
  · subst e
    have hk : (E.boat x).toNat ≠ k := fun e => hne ⟨rfl, e⟩
    generalize hq : pr.getD (E.race x).toNat [] = q at h
    rw [List.getD_eq_getElem?_getD, List.getElem?_set_self hlt, Option.getD_some, List.getElem?_set_ne hk]
    exact h
  · rw [List.getD_eq_getElem?_getD, List.getElem?_set_ne e, ← List.getD_eq_getElem?_getD]
    exact h
/-- Entries by race, then by boat. -/
def ltK (x y : EntryT) : Prop := E.race x < E.race y ∨ (E.race x = E.race y ∧ E.boat x < E.boat y)
/-- An entry lies within b boats and 12 races. -/
def InK (b : Nat) (x : EntryT) : Prop := 0 ≤ E.race x ∧ E.race x ≤ 11 ∧ 0 ≤ E.boat x ∧ E.boat x < b
theorem serGo_keep {b : Nat} : ∀ {l : List EntryT} {rows : List (List FinishT)} {r k : Nat} {f : FinishT}, cellR rows r k = some f → (∀ x ∈ l, ¬ ((E.race x).toNat = r ∧ (E.boat x).toNat = k)) → cellR (serGo b rows l) r k = some f := by
  intro l
  induction l with
  | nil => intro rows r k f h _; exact h
  | cons x q ih => intro rows r k f h hn; exact ih (put_other h (hn x (.head _))) (fun y hy => hn y (.tail _ hy))
theorem serGo_at {b : Nat} : ∀ {l : List EntryT} {rows : List (List FinishT)}, GoodR b rows → (∀ x ∈ l, InK b x) → l.Pairwise ltK → ∀ x ∈ l, cellR (serGo b rows l) (E.race x).toNat (E.boat x).toNat = some (E.boat x, E.code x, E.time x) := by
  intro l
  induction l with
  | nil => intro rows _ _ _ x hx; cases hx
  | cons y q ih =>
    intro rows hg hin hp x hx
    obtain ⟨hy, hp'⟩ := List.pairwise_cons.1 hp
    obtain ⟨i0, i1, i2, i3⟩ := hin y (.head _)
    show cellR (serGo b (putR b rows y) q) (E.race x).toNat (E.boat x).toNat = _
    rcases List.mem_cons.1 hx with rfl | hx
    · refine serGo_keep (put_same hg i0 i1 i2 i3) (fun z hz e => ?_)
      have hl := hy z hz
      obtain ⟨j0, j1, j2, j3⟩ := hin z (.tail _ hz)
      unfold ltK at hl
      omega
    · exact ih (hg.put i0 i1) (fun z hz => hin z (.tail _ hz)) hp' x hx
theorem serGo_fins {b : Nat} : ∀ {l : List EntryT} {rows : List (List FinishT)}, FinsOk rows → (∀ x ∈ l, 0 ≤ E.boat x ∧ finB (E.boat x, E.code x, E.time x) = true) → FinsOk (serGo b rows l) := by
  intro l
  induction l with
  | nil => intro rows h _; exact h
  | cons x q ih => intro rows h hx; exact ih (h.put (hx x (.head _)).1 (hx x (.head _)).2) (fun y hy => hx y (.tail _ hy))
/-! ### Current entries are sorted -/
theorem lastL_mem {xs : List EntryT} {race boat : Int} {x : EntryT} (h : x ∈ lastL (histF xs race boat)) : x ∈ xs ∧ E.race x = race ∧ E.boat x = boat := by
  unfold lastL at h
  exact hist_mem.1 (List.mem_of_getLast? (Option.mem_toList.1 h))
theorem rowC_mem {xs : List EntryT} {race : Int} {k : Nat} {x : EntryT} (h : x ∈ rowC xs race k) : x ∈ xs ∧ E.race x = race ∧ 0 ≤ E.boat x ∧ E.boat x < k := by
  unfold rowC at h
  simp only [List.mem_flatMap, List.mem_range] at h
  obtain ⟨b, hb, hx⟩ := h
  obtain ⟨h1, h2, h3⟩ := lastL_mem hx
  exact ⟨h1, h2, by omega, by omega⟩
theorem lastL_pair (l : List EntryT) : (lastL l).Pairwise ltK := by
  unfold lastL
  cases l.getLast? <;> simp
theorem rowC_sorted (xs : List EntryT) (race : Int) (k : Nat) : (rowC xs race k).Pairwise ltK := by
  induction k with
  | zero => simp [rowC]
  | succ k ih =>
    rw [rowC_succ, List.pairwise_append]
    refine ⟨ih, lastL_pair _, fun a ha c hc => ?_⟩
    have h1 := rowC_mem ha
    have h2 := lastL_mem hc
    right
    omega
theorem currC_sorted (xs : List EntryT) (b r : Nat) : (currC xs b r).Pairwise ltK := by
  induction r with
  | zero => simp [currC]
  | succ r ih =>
    rw [currC_succ, List.pairwise_append]
    refine ⟨ih, rowC_sorted _ _ _, fun a ha c hc => ?_⟩
    have h1 := currC_mem ha
    have h2 := rowC_mem hc
    left
    omega
theorem currF_inK {b : Int} {xs : List EntryT} {x : EntryT} (h : x ∈ currF b xs) : InK b.toNat x := by
  obtain ⟨_, h1, h2, h3, h4⟩ := currF_mem h
  exact ⟨h1, h2, h3, by omega⟩
theorem entB_fin {b : Int} {x : EntryT} (h : entB b x = true) : finB (E.boat x, E.code x, E.time x) = true := by
  unfold entB at h
  simp only [Bool.and_eq_true] at h
  exact h.1.2
theorem serF_fins {b s : Int} {xs : List EntryT} (h : RegOk b s xs) : FinsOk (serF b xs) := by
  refine serGo_fins (fun r hr => by cases hr) (fun x hx => ?_)
  obtain ⟨hm, _, _, h3, _⟩ := currF_mem hx
  exact ⟨h3, entB_fin (h.ent x hm).1⟩
theorem serF_at {b : Int} {xs : List EntryT} {x : EntryT} (h : x ∈ currF b xs) : cellR (serF b xs) (E.race x).toNat (E.boat x).toNat = some (E.boat x, E.code x, E.time x) :=
  serGo_at (GoodR.nil _) (fun y hy => currF_inK hy) (currC_sorted _ _ _) x h
/-- The series of a valid register is valid, race by race. -/
theorem serF_race {b s : Int} {xs : List EntryT} (h : RegOk b s xs) : ∀ r ∈ serF b xs, raceB b r = true := by
  intro r hr
  have hg := serF_good b xs
  have hl := hg.2 r hr
  have hf := serF_fins h r hr
  have hb := h.b1
  unfold raceB
  rw [withinB_iff.2 ⟨h.b1, h.b2⟩]
  have hgo : ∀ (fs : List FinishT) (i : Nat), (∀ (k : Nat) (f : FinishT), fs[k]? = some f → f.1 = ((i + k : Nat) : Int) ∧ finB f = true) → finsGo i fs = true := by
    intro fs
    induction fs with
    | nil => intro i _; rfl
    | cons f q ih =>
      intro i hq
      have h0 := hq 0 f rfl
      unfold finsGo
      rw [h0.2, ih (i + 1) (fun k g hg => by have := hq (k + 1) g (by simpa using hg); rw [show i + 1 + k = i + (k + 1) by omega]; exact this)]
      simp [h0.1]
  rw [hgo r 0 (fun k f hk => by simpa using hf k f hk)]
  have : ((r.length : Int) == b) = true := by rw [beq_iff_eq]; omega
  rw [this]; rfl
/-! ### Redress of a register -/
def redE (x : EntryT) : RedT := (E.race x, E.boat x, E.kind x, E.points x)
def keepB (t : Tb) (x : EntryT) : Bool := !(E.kind x == 0) && (E.kind x == 3 || (avgF t (E.race x) (E.boat x) (E.kind x)).2)
def redsOf (t : Tb) (l : List EntryT) : List RedT := (l.filter (keepB t)).map redE
theorem redsOf_snoc (t : Tb) (l : List EntryT) (x : EntryT) : redsOf t (l ++ [x]) = if keepB t x = true then redsOf t l ++ [redE x] else redsOf t l := by
  unfold redsOf
  rw [List.filter_append, List.map_append]
  cases h : keepB t x <;> simp [h]
theorem redsOf_len (t : Tb) (l : List EntryT) : (redsOf t l).length ≤ l.length := by
  unfold redsOf
  rw [List.length_map]
  exact List.length_filter_le _ _
/-- The table of a valid register before redress. -/
def tab0 (b s : Int) (xs : List EntryT) : Tb := tabS b s (serF b xs)
def tabR (b s : Int) (xs : List EntryT) : Tb := applyF (tab0 b s xs) (redsOf (tab0 b s xs) (currF b xs))
theorem tab0_ok {b s : Int} {xs : List EntryT} (h : RegOk b s xs) : TabOk (tab0 b s xs) := tabS_ok h.b1 h.b2 (serF_good b xs) (serF_fins h)
theorem tab0_code {b s : Int} {xs : List EntryT} {x : EntryT} (h : x ∈ currF b xs) : codeAt (tab0 b s xs) (E.race x) (E.boat x) = E.code x ∧ E.race x ≤ ((tab0 b s xs).pts.length : Int) - 1 := by
  have hc := serF_at h
  have hlt := cellR_lt hc
  have hin := currF_inK h
  refine ⟨?_, by simp only [tab0, tabS, List.length_map]; unfold InK at hin; omega⟩
  unfold codeAt tab0 tabS
  simp only
  unfold cellR at hc
  generalize serF b xs = rows at *
  rw [List.getD_eq_getElem?_getD, List.getElem?_eq_getElem hlt, Option.getD_some] at hc
  rw [List.getD_eq_getElem?_getD, List.getD_eq_getElem?_getD, List.getElem?_map, List.getElem?_eq_getElem hlt, Option.map_some, Option.getD_some]
  unfold rowK
  rw [List.getElem?_map, hc]
  rfl
theorem keep_red {b s : Int} {xs : List EntryT} (h : RegOk b s xs) {x : EntryT} (hx : x ∈ currF b xs) (hk : keepB (tab0 b s xs) x = true) : redB (tab0 b s xs) (redE x) = true := by
  obtain ⟨hc, hr⟩ := tab0_code (s := s) hx
  obtain ⟨hm, i0, i1, i2, i3⟩ := currF_mem hx
  have he := (h.ent x hm).1
  unfold keepB at hk
  rw [Bool.and_eq_true] at hk
  have hk0 : ¬ E.kind x = 0 := by have := hk.1; simpa using this
  unfold entB at he
  simp only [Bool.and_eq_true] at he
  have he2 := he.2
  rw [if_neg hk0, Bool.and_eq_true] at he2
  have h9 : E.code x = 9 := by have := he2.1; simpa using this
  unfold redB redE
  simp only
  rw [withinB_iff.2 ⟨i0, hr⟩, withinB_iff.2 ⟨i2, (by show E.boat x ≤ b - 1; omega)⟩, hc, h9, hk.2]
  have : isRedBT (E.kind x) (E.points x) = true := he2.2
  rw [this]
  rfl
theorem redsGo_of (t : Tb) : ∀ (xs : List RedT) (p : Option RedT), (∀ x ∈ xs, redB t x = true) → (∀ y, p = some y → ∀ x ∈ xs, ltRB y x = true) → xs.Pairwise (fun y x => ltRB y x = true) → redsGo t p xs = true := by
  intro xs
  induction xs with
  | nil => intro p _ _ _; cases p <;> rfl
  | cons x r ih =>
    intro p h1 h2 h3
    obtain ⟨h4, h5⟩ := List.pairwise_cons.1 h3
    have hr := ih (some x) (fun y hy => h1 y (.tail _ hy)) (fun y e z hz => by injection e with e; subst e; exact h4 z hz) h5
    cases p with
    | none => unfold redsGo; rw [h1 x (.head _), hr]; rfl
    | some y => unfold redsGo; rw [h1 x (.head _), h2 y rfl x (.head _), hr]; rfl
theorem reds_ok {b s : Int} {xs : List EntryT} (h : RegOk b s xs) : redsB (tab0 b s xs) (redsOf (tab0 b s xs) (currF b xs)) = true := by
  refine redsGo_of _ _ none (fun x hx => ?_) (fun y e => by cases e) ?_
  · unfold redsOf at hx
    obtain ⟨e, he, rfl⟩ := List.mem_map.1 hx
    obtain ⟨h1, h2⟩ := List.mem_filter.1 he
    exact keep_red h h1 h2
  · unfold redsOf
    rw [List.pairwise_map]
    refine ((currC_sorted xs b.toNat 12).filter _).imp (fun {x y} hl => ?_)
    unfold ltK at hl
    unfold ltRB redE
    simp only [Bool.or_eq_true, Bool.and_eq_true, decide_eq_true_eq, beq_iff_eq]
    exact hl
def regTabC (b s : Int) (xs : List EntryT) : Tb × Int := if regB b s xs = true then (tabR b s xs, 0) else (noT, 1)
end Go.Proofs.YtalgdeieejpelaaGreat

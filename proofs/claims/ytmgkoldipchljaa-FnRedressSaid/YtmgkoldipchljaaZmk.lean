/- General and plain lemmas, and light walks (merged): Ya Ym Yb. -/
import Derived.Test.YtmgkoldipchljaaZme
import Derived.Test.YtmgkoldipchljaaZmf
import Derived.Test.YtmgkoldipchljaaZmg
import Derived.Test.YtmgkoldipchljaaZmh
import Derived.Test.YtmgkoldipchljaaZma
import Derived.IntWalk
/- Plain: the table of a register's series and its redress. -/
namespace Go.Proofs.Ytmgkoldipchljaa
open Go.RowKit
set_option linter.unusedVariables false

/-! ### Points of a race -/
/-- How many came. -/
def cameN (fs : List FinishT) : Nat := (fs.filter fun g => !(g.2.1 == 1)).length
def ptS (s : Int) (fs : List FinishT) (f : FinishT) : Int :=
  if f.2.1 = 0 then 5 * (2 * (placeF fs f).1 + (placeF fs f).2 - 1)
  else if f.2.1 = 9 then 0
  else if f.2.1 = 1 ∨ s = 0 then 10 * ((fs.length : Int) + 1)
  else 10 * ((cameN fs : Int) + 1)
def rowP (s : Int) (fs : List FinishT) : List Int := fs.map (ptS s fs)
def rowK (fs : List FinishT) : List Int := fs.map fun f => f.2.1
def tabS (b s : Int) (rows : List (List FinishT)) : Tb := ⟨b, rows.map (rowP s), rows.map rowK⟩
theorem cameN_le (fs : List FinishT) : cameN fs ≤ fs.length := List.length_filter_le _ _
theorem ptS_bd (s : Int) (fs : List FinishT) (f : FinishT) (h : fs.length ≤ 16) : 0 ≤ ptS s fs f ∧ ptS s fs f ≤ 10000 := by
  have h1 := cameN_le fs
  have h2 := ltN_le f.2.2 fs
  have h3 := eqN_le f.2.2 fs
  unfold ptS
  split
  · rename_i h0
    unfold placeF
    rw [if_pos h0]
    simp only
    omega
  · split
    · omega
    · split <;> omega
/-- All finishes of all races fit. -/
def FinsOk (rows : List (List FinishT)) : Prop := ∀ r ∈ rows, ∀ (k : Nat) (f : FinishT), r[k]? = some f → f.1 = (k : Int) ∧ finB f = true
theorem tabS_ok {b s : Int} {rows : List (List FinishT)} (h1 : 1 ≤ b) (h2 : b ≤ 16) (hg : GoodR b.toNat rows) (hf : FinsOk rows) : TabOk (tabS b s rows) := by
  refine ⟨h1, h2, by simp [tabS]; exact hg.1, by simp [tabS], fun k p c hp hc => ?_⟩
  simp only [tabS, List.getElem?_map] at hp hc
  cases hr : rows[k]? with
  | none => rw [hr] at hp; cases hp
  | some fs =>
    rw [hr] at hp hc
    simp only [Option.map_some, Option.some.injEq] at hp hc
    subst hp; subst hc
    have hm := List.mem_of_getElem? hr
    have hl := hg.2 fs hm
    refine ⟨⟨by simp only [rowP, List.length_map, tabS]; omega, fun x hx => ?_⟩, by simp only [rowK, List.length_map, tabS]; omega, fun x hx => ?_⟩
    · obtain ⟨f, _, rfl⟩ := List.mem_map.1 hx
      exact ptS_bd s fs f (by omega)
    · obtain ⟨f, hfm, rfl⟩ := List.mem_map.1 hx
      obtain ⟨q, hq⟩ := List.mem_iff_getElem?.1 hfm
      have := finB_ok (hf fs hm q f hq).2
      exact ⟨this.1, this.2.1⟩
theorem dncRow_at {b k : Nat} {f : FinishT} (h : (dncRow b)[k]? = some f) : f = ((k : Int), (1 : Int), (0 : Int)) := by
  unfold dncRow at h
  rw [List.getElem?_map] at h
  cases hr : (List.range b)[k]? with
  | none => rw [hr] at h; cases h
  | some q =>
    rw [hr] at h
    have : q = k := by
      have := List.getElem?_eq_some_iff.1 hr
      obtain ⟨h1, h2⟩ := this
      simpa using h2.symm
    subst this
    simpa using h.symm
theorem FinsOk.pad {b : Nat} {rows : List (List FinishT)} (h : FinsOk rows) (m : Nat) : FinsOk (padR b rows m) := by
  intro r hr k f hf
  unfold padR at hr
  rcases List.mem_append.1 hr with hr | hr
  · exact h r hr k f hf
  · rw [List.eq_of_mem_replicate hr] at hf
    rw [dncRow_at hf]
    exact ⟨rfl, by simp [finB, withinB]⟩
theorem FinsOk.put {b : Nat} {rows : List (List FinishT)} (h : FinsOk rows) {x : EntryT} (h0 : 0 ≤ E.boat x) (hx : finB (E.boat x, E.code x, E.time x) = true) : FinsOk (putR b rows x) := by
  intro r hr k f hf
  unfold putR at hr
  have hp := h.pad (b := b) ((E.race x).toNat + 1)
  have hold : ∀ q ∈ padR b rows ((E.race x).toNat + 1), ∀ (k : Nat) (f : FinishT), q[k]? = some f → f.1 = (k : Int) ∧ finB f = true := hp
  generalize padR b rows ((E.race x).toNat + 1) = pr at *
  rcases List.mem_or_eq_of_mem_set hr with hr | rfl
  · exact hold r hr k f hf
  · by_cases hk : (E.boat x).toNat = k
    · rw [List.getElem?_set] at hf
      rw [if_pos hk] at hf
      split at hf
      · injection hf with hf; subst hf; exact ⟨by show E.boat x = (k : Int); omega, hx⟩
      · cases hf
    · rw [List.getElem?_set_ne hk] at hf
      by_cases hl : (E.race x).toNat < pr.length
      · rw [List.getD_eq_getElem?_getD, List.getElem?_eq_getElem hl] at hf
        exact hold _ (List.getElem_mem hl) k f hf
      · rw [List.getD_eq_getElem?_getD, List.getElem?_eq_none (Nat.le_of_not_lt hl)] at hf
        simp at hf
/-! ### Where an entry lies in the series -/
def cellR (rows : List (List FinishT)) (r k : Nat) : Option FinishT := (rows.getD r [])[k]?
theorem cellR_lt {rows : List (List FinishT)} {r k : Nat} {f : FinishT} (h : cellR rows r k = some f) : r < rows.length := by
  false_or_by_contra
  rename_i hn
  unfold cellR at h
  rw [List.getD_eq_getElem?_getD, List.getElem?_eq_none (Nat.le_of_not_lt hn)] at h
  simp at h
theorem padR_getD {b : Nat} {rows : List (List FinishT)} {m r : Nat} (h : r < rows.length) : (padR b rows m).getD r [] = rows.getD r [] := by
  unfold padR
  rw [List.getD_eq_getElem?_getD, List.getD_eq_getElem?_getD, List.getElem?_append_left h]
theorem put_same {b : Nat} {rows : List (List FinishT)} (hg : GoodR b rows) {x : EntryT} (h0 : 0 ≤ E.race x) (h1 : E.race x ≤ 11) (h2 : 0 ≤ E.boat x) (h3 : E.boat x < b) :
    cellR (putR b rows x) (E.race x).toNat (E.boat x).toNat = some (E.boat x, E.code x, E.time x) := by
  have hp := hg.pad (m := (E.race x).toNat + 1) (by omega)
  have hlt : (E.race x).toNat < (padR b rows ((E.race x).toNat + 1)).length := by rw [padR_len]; omega
  unfold putR
  generalize padR b rows ((E.race x).toNat + 1) = pr at *
  have hl : (pr.getD (E.race x).toNat []).length = b := by
    rw [List.getD_eq_getElem?_getD, List.getElem?_eq_getElem hlt]; exact hp.2 _ (List.getElem_mem hlt)
  unfold cellR
  generalize pr.getD (E.race x).toNat [] = q at hl
  rw [List.getD_eq_getElem?_getD, List.getElem?_set_self hlt, Option.getD_some, List.getElem?_set_self (by omega)]
theorem put_other {b : Nat} {rows : List (List FinishT)} {x : EntryT} {r k : Nat} {f : FinishT} (h : cellR rows r k = some f) (hne : ¬ ((E.race x).toNat = r ∧ (E.boat x).toNat = k)) : cellR (putR b rows x) r k = some f := by
  have hr := cellR_lt h
  have hpr := padR_getD (b := b) (m := (E.race x).toNat + 1) hr
  have hlt : r < (padR b rows ((E.race x).toNat + 1)).length := by rw [padR_len]; omega
  unfold cellR at h
  rw [← hpr] at h
  unfold putR cellR
  generalize padR b rows ((E.race x).toNat + 1) = pr at *
  by_cases e : (E.race x).toNat = r
  · subst e
    have hk : (E.boat x).toNat ≠ k := fun e => hne ⟨rfl, e⟩
    generalize hq : pr.getD (E.race x).toNat [] = q at h
    rw [List.getD_eq_getElem?_getD, List.getElem?_set_self hlt, Option.getD_some, List.getElem?_set_ne hk]
    exact h
  · rw [List.getD_eq_getElem?_getD, List.getElem?_set_ne e, ← List.getD_eq_getElem?_getD]
    exact h
/-- Entries by race, then by boat. -/
def ltK (x y : EntryT) : Prop := E.race x < E.race y ∨ (E.race x = E.race y ∧ E.boat x < E.boat y)
/-- An entry lies within b boats and 12 races. -/
def InK (b : Nat) (x : EntryT) : Prop := 0 ≤ E.race x ∧ E.race x ≤ 11 ∧ 0 ≤ E.boat x ∧ E.boat x < b
theorem serGo_keep {b : Nat} : ∀ {l : List EntryT} {rows : List (List FinishT)} {r k : Nat} {f : FinishT}, cellR rows r k = some f → (∀ x ∈ l, ¬ ((E.race x).toNat = r ∧ (E.boat x).toNat = k)) → cellR (serGo b rows l) r k = some f := by
  intro l
  induction l with
  | nil => intro rows r k f h _; exact h
  | cons x q ih => intro rows r k f h hn; exact ih (put_other h (hn x (.head _))) (fun y hy => hn y (.tail _ hy))
theorem serGo_at {b : Nat} : ∀ {l : List EntryT} {rows : List (List FinishT)}, GoodR b rows → (∀ x ∈ l, InK b x) → l.Pairwise ltK → ∀ x ∈ l, cellR (serGo b rows l) (E.race x).toNat (E.boat x).toNat = some (E.boat x, E.code x, E.time x) := by
  intro l
  induction l with
  | nil => intro rows _ _ _ x hx; cases hx
  | cons y q ih =>
    intro rows hg hin hp x hx
    obtain ⟨hy, hp'⟩ := List.pairwise_cons.1 hp
    obtain ⟨i0, i1, i2, i3⟩ := hin y (.head _)
    show cellR (serGo b (putR b rows y) q) (E.race x).toNat (E.boat x).toNat = _
    rcases List.mem_cons.1 hx with rfl | hx
    · refine serGo_keep (put_same hg i0 i1 i2 i3) (fun z hz e => ?_)
      have hl := hy z hz
      obtain ⟨j0, j1, j2, j3⟩ := hin z (.tail _ hz)
      unfold ltK at hl
      omega
    · exact ih (hg.put i0 i1) (fun z hz => hin z (.tail _ hz)) hp' x hx
theorem serGo_fins {b : Nat} : ∀ {l : List EntryT} {rows : List (List FinishT)}, FinsOk rows → (∀ x ∈ l, 0 ≤ E.boat x ∧ finB (E.boat x, E.code x, E.time x) = true) → FinsOk (serGo b rows l) := by
  intro l
  induction l with
  | nil => intro rows h _; exact h
  | cons x q ih => intro rows h hx; exact ih (h.put (hx x (.head _)).1 (hx x (.head _)).2) (fun y hy => hx y (.tail _ hy))
/-! ### Current entries are sorted -/
theorem lastL_mem {xs : List EntryT} {race boat : Int} {x : EntryT} (h : x ∈ lastL (histF xs race boat)) : x ∈ xs ∧ E.race x = race ∧ E.boat x = boat := by
  unfold lastL at h
  exact hist_mem.1 (List.mem_of_getLast? (Option.mem_toList.1 h))
theorem rowC_mem {xs : List EntryT} {race : Int} {k : Nat} {x : EntryT} (h : x ∈ rowC xs race k) : x ∈ xs ∧ E.race x = race ∧ 0 ≤ E.boat x ∧ E.boat x < k := by
  unfold rowC at h
  simp only [List.mem_flatMap, List.mem_range] at h
  obtain ⟨b, hb, hx⟩ := h
  obtain ⟨h1, h2, h3⟩ := lastL_mem hx
  exact ⟨h1, h2, by omega, by omega⟩
theorem lastL_pair (l : List EntryT) : (lastL l).Pairwise ltK := by
  unfold lastL
  cases l.getLast? <;> simp
theorem rowC_sorted (xs : List EntryT) (race : Int) (k : Nat) : (rowC xs race k).Pairwise ltK := by
  induction k with
  | zero => simp [rowC]
  | succ k ih =>
    rw [rowC_succ, List.pairwise_append]
    refine ⟨ih, lastL_pair _, fun a ha c hc => ?_⟩
    have h1 := rowC_mem ha
    have h2 := lastL_mem hc
    right
    omega
theorem currC_sorted (xs : List EntryT) (b r : Nat) : (currC xs b r).Pairwise ltK := by
  induction r with
  | zero => simp [currC]
  | succ r ih =>
    rw [currC_succ, List.pairwise_append]
    refine ⟨ih, rowC_sorted _ _ _, fun a ha c hc => ?_⟩
    have h1 := currC_mem ha
    have h2 := rowC_mem hc
    left
    omega
theorem currF_inK {b : Int} {xs : List EntryT} {x : EntryT} (h : x ∈ currF b xs) : InK b.toNat x := by
  obtain ⟨_, h1, h2, h3, h4⟩ := currF_mem h
  exact ⟨h1, h2, h3, by omega⟩
theorem entB_fin {b : Int} {x : EntryT} (h : entB b x = true) : finB (E.boat x, E.code x, E.time x) = true := by
  unfold entB at h
  simp only [Bool.and_eq_true] at h
  exact h.1.2
theorem serF_fins {b s : Int} {xs : List EntryT} (h : RegOk b s xs) : FinsOk (serF b xs) := by
  refine serGo_fins (fun r hr => by cases hr) (fun x hx => ?_)
  obtain ⟨hm, _, _, h3, _⟩ := currF_mem hx
  exact ⟨h3, entB_fin (h.ent x hm).1⟩
theorem serF_at {b : Int} {xs : List EntryT} {x : EntryT} (h : x ∈ currF b xs) : cellR (serF b xs) (E.race x).toNat (E.boat x).toNat = some (E.boat x, E.code x, E.time x) :=
  serGo_at (GoodR.nil _) (fun y hy => currF_inK hy) (currC_sorted _ _ _) x h
/-- The series of a valid register is valid, race by race. -/
theorem serF_race {b s : Int} {xs : List EntryT} (h : RegOk b s xs) : ∀ r ∈ serF b xs, raceB b r = true := by
  intro r hr
  have hg := serF_good b xs
  have hl := hg.2 r hr
  have hf := serF_fins h r hr
  have hb := h.b1
  unfold raceB
  rw [withinB_iff.2 ⟨h.b1, h.b2⟩]
  have hgo : ∀ (fs : List FinishT) (i : Nat), (∀ (k : Nat) (f : FinishT), fs[k]? = some f → f.1 = ((i + k : Nat) : Int) ∧ finB f = true) → finsGo i fs = true := by
    intro fs
    induction fs with
    | nil => intro i _; rfl
    | cons f q ih =>
      intro i hq
      have h0 := hq 0 f rfl
      unfold finsGo
      rw [h0.2, ih (i + 1) (fun k g hg => by have := hq (k + 1) g (by simpa using hg); rw [show i + 1 + k = i + (k + 1) by omega]; exact this)]
      simp [h0.1]
  rw [hgo r 0 (fun k f hk => by simpa using hf k f hk)]
  have : ((r.length : Int) == b) = true := by rw [beq_iff_eq]; omega
  rw [this]; rfl
/-! ### Redress of a register -/
def redE (x : EntryT) : RedT := (E.race x, E.boat x, E.kind x, E.points x)
def keepB (t : Tb) (x : EntryT) : Bool := !(E.kind x == 0) && (E.kind x == 3 || (avgF t (E.race x) (E.boat x) (E.kind x)).2)
def redsOf (t : Tb) (l : List EntryT) : List RedT := (l.filter (keepB t)).map redE
theorem redsOf_snoc (t : Tb) (l : List EntryT) (x : EntryT) : redsOf t (l ++ [x]) = if keepB t x = true then redsOf t l ++ [redE x] else redsOf t l := by
  unfold redsOf
  rw [List.filter_append, List.map_append]
  cases h : keepB t x <;> simp [h]
theorem redsOf_len (t : Tb) (l : List EntryT) : (redsOf t l).length ≤ l.length := by
  unfold redsOf
  rw [List.length_map]
  exact List.length_filter_le _ _
/-- The table of a valid register before redress. -/
def tab0 (b s : Int) (xs : List EntryT) : Tb := tabS b s (serF b xs)
def tabR (b s : Int) (xs : List EntryT) : Tb := applyF (tab0 b s xs) (redsOf (tab0 b s xs) (currF b xs))
theorem tab0_ok {b s : Int} {xs : List EntryT} (h : RegOk b s xs) : TabOk (tab0 b s xs) := tabS_ok h.b1 h.b2 (serF_good b xs) (serF_fins h)
theorem tab0_code {b s : Int} {xs : List EntryT} {x : EntryT} (h : x ∈ currF b xs) : codeAt (tab0 b s xs) (E.race x) (E.boat x) = E.code x ∧ E.race x ≤ ((tab0 b s xs).pts.length : Int) - 1 := by
  have hc := serF_at h
  have hlt := cellR_lt hc
  have hin := currF_inK h
  refine ⟨?_, by simp only [tab0, tabS, List.length_map]; unfold InK at hin; omega⟩
  unfold codeAt tab0 tabS
  simp only
  unfold cellR at hc
  generalize serF b xs = rows at *
  rw [List.getD_eq_getElem?_getD, List.getElem?_eq_getElem hlt, Option.getD_some] at hc
  rw [List.getD_eq_getElem?_getD, List.getD_eq_getElem?_getD, List.getElem?_map, List.getElem?_eq_getElem hlt, Option.map_some, Option.getD_some]
  unfold rowK
  rw [List.getElem?_map, hc]
  rfl
theorem keep_red {b s : Int} {xs : List EntryT} (h : RegOk b s xs) {x : EntryT} (hx : x ∈ currF b xs) (hk : keepB (tab0 b s xs) x = true) : redB (tab0 b s xs) (redE x) = true := by
  obtain ⟨hc, hr⟩ := tab0_code (s := s) hx
  obtain ⟨hm, i0, i1, i2, i3⟩ := currF_mem hx
  have he := (h.ent x hm).1
  unfold keepB at hk
  rw [Bool.and_eq_true] at hk
  have hk0 : ¬ E.kind x = 0 := by have := hk.1; simpa using this
  unfold entB at he
  simp only [Bool.and_eq_true] at he
  have he2 := he.2
  rw [if_neg hk0, Bool.and_eq_true] at he2
  have h9 : E.code x = 9 := by have := he2.1; simpa using this
  unfold redB redE
  simp only
  rw [withinB_iff.2 ⟨i0, hr⟩, withinB_iff.2 ⟨i2, (by show E.boat x ≤ b - 1; omega)⟩, hc, h9, hk.2]
  have : isRedBT (E.kind x) (E.points x) = true := he2.2
  rw [this]
  rfl
theorem redsGo_of (t : Tb) : ∀ (xs : List RedT) (p : Option RedT), (∀ x ∈ xs, redB t x = true) → (∀ y, p = some y → ∀ x ∈ xs, ltRB y x = true) → xs.Pairwise (fun y x => ltRB y x = true) → redsGo t p xs = true := by
  intro xs
  induction xs with
  | nil => intro p _ _ _; cases p <;> rfl
  | cons x r ih =>
    intro p h1 h2 h3
    obtain ⟨h4, h5⟩ := List.pairwise_cons.1 h3
    have hr := ih (some x) (fun y hy => h1 y (.tail _ hy)) (fun y e z hz => by injection e with e; subst e; exact h4 z hz) h5
    cases p with
    | none => unfold redsGo; rw [h1 x (.head _), hr]; rfl
    | some y => unfold redsGo; rw [h1 x (.head _), h2 y rfl x (.head _), hr]; rfl
theorem reds_ok {b s : Int} {xs : List EntryT} (h : RegOk b s xs) : redsB (tab0 b s xs) (redsOf (tab0 b s xs) (currF b xs)) = true := by
  refine redsGo_of _ _ none (fun x hx => ?_) (fun y e => by cases e) ?_
  · unfold redsOf at hx
    obtain ⟨e, he, rfl⟩ := List.mem_map.1 hx
    obtain ⟨h1, h2⟩ := List.mem_filter.1 he
    exact keep_red h h1 h2
  · unfold redsOf
    rw [List.pairwise_map]
    refine ((currC_sorted xs b.toNat 12).filter _).imp (fun {x y} hl => ?_)
    unfold ltK at hl
    unfold ltRB redE
    simp only [Bool.or_eq_true, Bool.and_eq_true, decide_eq_true_eq, beq_iff_eq]
    exact hl
def regTabC (b s : Int) (xs : List EntryT) : Tb × Int := if regB b s xs = true then (tabR b s xs, 0) else (noT, 1)
end Go.Proofs.Ytmgkoldipchljaa

/- Plain functions: drawn series and tables: no Go in sight. -/
namespace Go.Proofs.Ytmgkoldipchljaa
open Go.RowKit
set_option linter.unusedVariables false

/-- Races are drawn behind those that are there. -/
def racesGo (code : List Int) (N : Nat) : Nat → List (List FinishT) → St → List (List FinishT) × St
  | 0, out, s => (out, s)
  | m + 1, out, s => racesGo code N m (out ++ [(raceD code N s).1]) (raceD code N s).2
theorem racesGo_len (code : List Int) (N : Nat) : ∀ (m : Nat) (out : List (List FinishT)) (s : St), (racesGo code N m out s).1.length = out.length + m := by
  intro m
  induction m with
  | zero => intro out s; rfl
  | succ m ih => intro out s; unfold racesGo; rw [ih]; simp; omega
theorem racesGo_row (code : List Int) (N : Nat) : ∀ (m : Nat) (out : List (List FinishT)) (s : St), (∀ r ∈ out, r.length ≤ 17) → N ≤ 17 → ∀ r ∈ (racesGo code N m out s).1, r.length ≤ 17 := by
  intro m
  induction m with
  | zero => intro out s h _; exact h
  | succ m ih =>
    intro out s h hN
    refine ih _ _ (fun r hr => ?_) hN
    rcases List.mem_append.1 hr with hr | hr
    · exact h r hr
    · rw [List.mem_singleton.1 hr, raceD_len]; exact hN
/-- A series: boats, scheme, races. -/
abbrev SerT := Int × Int × List (List FinishT)
def serX (code : List Int) (s : St) : SerT × St :=
  let n := boatsD code s
  let sc := nextF code n.2 2
  let k := nextF code sc.2 7
  let r := racesGo code n.1.toNat k.1.toNat [] k.2
  let w := nextF code r.2 30
  if w.1 = 0 then ((n.1, 2, r.1), w.2)
  else if w.1 = 1 then ((n.1, sc.1, r.1 ++ [(raceD code (n.1.toNat + 1) w.2).1]), (raceD code (n.1.toNat + 1) w.2).2)
  else if w.1 = 2 then
    ((n.1, sc.1, (racesGo code n.1.toNat (13 - r.1.length) r.1 w.2).1.take (12 + (nextF code (racesGo code n.1.toNat (13 - r.1.length) r.1 w.2).2 2).1).toNat), (nextF code (racesGo code n.1.toNat (13 - r.1.length) r.1 w.2).2 2).2)
  else ((n.1, sc.1, r.1), w.2)
theorem serX_parts (code : List Int) (s : St) : ∃ n sc k r w, n = boatsD code s ∧ sc = nextF code n.2 2 ∧ k = nextF code sc.2 7 ∧ r = racesGo code n.1.toNat k.1.toNat [] k.2 ∧ w = nextF code r.2 30 ∧ serX code s =
    (if w.1 = 0 then ((n.1, 2, r.1), w.2)
    else if w.1 = 1 then ((n.1, sc.1, r.1 ++ [(raceD code (n.1.toNat + 1) w.2).1]), (raceD code (n.1.toNat + 1) w.2).2)
    else if w.1 = 2 then
      ((n.1, sc.1, (racesGo code n.1.toNat (13 - r.1.length) r.1 w.2).1.take (12 + (nextF code (racesGo code n.1.toNat (13 - r.1.length) r.1 w.2).2 2).1).toNat), (nextF code (racesGo code n.1.toNat (13 - r.1.length) r.1 w.2).2 2).2)
    else ((n.1, sc.1, r.1), w.2)) := ⟨_, _, _, _, _, rfl, rfl, rfl, rfl, rfl, rfl⟩
theorem serX_bd (code : List Int) (s : St) : (serX code s).1.2.2.length ≤ 13 ∧ ∀ r ∈ (serX code s).1.2.2, r.length ≤ 17 := by
  obtain ⟨n, sc, k, r, w, hn, hsc, hk, hr, hw, ex⟩ := serX_parts code s
  have hb := boatsD_bd code s
  rw [← hn] at hb
  have hkb := nextF_bd code sc.2 7 (by omega)
  rw [← hk] at hkb
  have hrl : r.1.length ≤ 6 := by rw [hr, racesGo_len]; simp; omega
  have hrr : ∀ q ∈ r.1, q.length ≤ 17 := by rw [hr]; exact racesGo_row _ _ _ _ _ (fun q h => by cases h) (by omega)
  rw [ex]
  split
  · exact ⟨by simp only; omega, hrr⟩
  · split
    · refine ⟨by simp only [List.length_append, List.length_cons, List.length_nil]; omega, fun q hq => ?_⟩
      simp only at hq
      rcases List.mem_append.1 hq with hq | hq
      · exact hrr q hq
      · rw [List.mem_singleton.1 hq, raceD_len]; omega
    · split
      · have hl := racesGo_len code n.1.toNat (13 - r.1.length) r.1 w.2
        refine ⟨?_, fun q hq => ?_⟩
        · simp only [List.length_take]; omega
        · simp only at hq
          exact racesGo_row code n.1.toNat (13 - r.1.length) r.1 w.2 hrr (by omega) q (List.mem_of_mem_take hq)
      · exact ⟨by simp only; omega, hrr⟩
/-! ### Some finishes lose their redress -/
def rdgX (code : List Int) (x : FinishT) (s : St) : FinishT × St :=
  if x.2.1 = 9 then (if (nextF code s 2).1 = 0 then ((x.1, 4, 0), (nextF code s 2).2) else (x, (nextF code s 2).2)) else (x, s)
def rdgRow (code : List Int) : Nat → Nat → List FinishT → St → List FinishT × St
  | 0, _, row, s => (row, s)
  | m + 1, k, row, s => rdgRow code m (k + 1) (row.set k (rdgX code (row.getD k (0, 0, 0)) s).1) (rdgX code (row.getD k (0, 0, 0)) s).2
def rdgGo (code : List Int) : Nat → Nat → List (List FinishT) → St → List (List FinishT) × St
  | 0, _, rows, s => (rows, s)
  | m + 1, i, rows, s => rdgGo code m (i + 1) (rows.set i (rdgRow code (rows.getD i []).length 0 (rows.getD i []) s).1) (rdgRow code (rows.getD i []).length 0 (rows.getD i []) s).2
def seriesB (b s : Int) (rows : List (List FinishT)) : Bool := withinB b 1 16 && withinB s 0 1 && decide (rows.length ≤ 12) && rows.all fun r => ((r.length : Int) == b) && finsGo 0 r

/-- The table of a series, none of one that is not valid. -/
def tabV (v : SerT) : Tb := if seriesB v.1 v.2.1 v.2.2 = true then tabS v.1 v.2.1 v.2.2 else noT
/-- One place of the table is spoiled now and then. -/
def spoilT (code : List Int) (t : Tb) (i k : Nat) (w : Int × St) : Tb × St :=
  if w.1 = 0 then (⟨t.boats, setRC t.pts i k (10000 + (nextF code w.2 2).1), t.cds⟩, (nextF code w.2 2).2)
  else if w.1 = 1 then (⟨t.boats, t.pts, setRC t.cds i k (10 - (nextF code w.2 2).1)⟩, (nextF code w.2 2).2)
  else if w.1 = 2 then (⟨t.boats, t.pts.set i ((t.pts.getD i []).drop 1), t.cds⟩, w.2)
  else if w.1 = 3 then (⟨t.boats, t.pts, t.cds.drop 1⟩, w.2)
  else if w.1 = 4 ∨ w.1 = 5 ∨ w.1 = 6 then (⟨t.boats, setRC t.pts i k (10 * (nextF code w.2 8).1), t.cds⟩, (nextF code w.2 8).2)
  else (t, w.2)
def tabX (code : List Int) (s : St) : Tb × St :=
  let v := serX code s
  let r := rdgGo code v.1.2.2.length 0 v.1.2.2 v.2
  let t := tabV (v.1.1, v.1.2.1, r.1)
  if t.pts.length = 0 ∨ t.boats = 0 then (t, r.2)
  else
    let i := nextF code r.2 (t.pts.length : Int)
    let k := nextF code i.2 t.boats
    spoilT code t i.1.toNat k.1.toNat (nextF code k.2 20)
/-- Some codes become RDG. -/
def redTX (code : List Int) : Nat → Tb → St → Tb × St
  | 0, t, s => (t, s)
  | m + 1, t, s =>
    if tableB t = true ∧ 0 < t.pts.length then
      redTX code m ⟨t.boats, setRC t.pts (nextF code s (t.pts.length : Int)).1.toNat (nextF code (nextF code s (t.pts.length : Int)).2 t.boats).1.toNat 0, setRC t.cds (nextF code s (t.pts.length : Int)).1.toNat (nextF code (nextF code s (t.pts.length : Int)).2 t.boats).1.toNat 9⟩ (nextF code (nextF code s (t.pts.length : Int)).2 t.boats).2
    else (t, s)
def tab29 (code : List Int) (s : St) : Tb × St := redTX code (nextF code (tabX code s).2 4).1.toNat (tabX code s).1 (nextF code (tabX code s).2 4).2
end Go.Proofs.Ytmgkoldipchljaa

/- Walks: points of a race, both sides. -/
namespace Go.Proofs.Ytmgkoldipchljaa
open Go.RowKit Go.Sort
set_option linter.unusedVariables false
set_option maxRecDepth 100000

/-- A cell's fact in a world behind. -/
theorem cell_bel0 {w w' : World} {b i : Nat} {v : Value} (h : w.cell? ⟨b, i, none⟩ = some v) (k : Below w.heap.size w w') : w'.cell? ⟨b, i, none⟩ = some v := Keeps.below k _ _ h
/-- A new row of numbers. -/
def RetL (w : World) (l : List Int) (e : Ending) (w' : World) : Prop :=
  ∃ g c, e = .returned (.slice (some ⟨g, 0, none⟩) l.length c) ∧ w'.ownsRow w.heap.size 2 1 (.slice (some ⟨g, 0, none⟩) l.length c) l.length (ints l) ∧ w.heap.size ≤ g ∧ Below w.heap.size w w'
section
variable {ops : Array Oper} {rest : List Oper} {o : Oper} {a : Act} {K : Act → World → Prop} {Q : Exit → Act → World → Prop} {E : Prop}
theorem step_i64 (w : World) (hgd : o.guard = none) (s x : Operand)
    (ho : o.op = .call { callee := .builtin .append, args := #[s, x], argTypes := #[31, 31] }) {base n c : Nat} {A : Option Addr} {xs : List Int}
    (hs : a.eval s = .slice A n c) (hown : w.ownsRow base 2 1 (.slice A n c) n (ints xs)) {ad : Addr} {x0 : Int} (hx : a.eval x = .slice (some ad) 1 1)
    (hc : w.cell? ad = some (.int .i64 x0)) (hn : n ≤ 1099511627776) (hbase : base ≤ w.heap.size)
    (h : ∀ g c' w', w'.ownsRow base 2 1 (.slice (some ⟨g, 0, none⟩) (n + 1) c') (n + 1) (ints (xs ++ [x0])) → w.grownBy w' (Value.slice A n c).ownBlock → K (a.put o.dst (.slice (some ⟨g, 0, none⟩) (n + 1) c')) w') :
    if Region.wanted o (yielded ops a.tmps) = true then Oper.wp Try.prog o a w K Q else E := by
  obtain ⟨i, hi, hz, hs1, hb1⟩ := info_parts Try.info_i64
  exact step_append_lies w hgd s x 31 ho base 2 i (.int .i64 0) 1 8 Try.underlying31 hi hz hs1 hb1 rfl (by decide) (.slice A n c) n (ints xs) hs hown ad 1 1 [.int .i64 x0] hx rfl (one_news hc)
    (by intro u hu; simp at hu; subst hu; rfl) (by decide) (by unfold maxLen; omega) (by omega) hbase _ rfl (by rw [show ints xs ++ [.int .i64 x0] = ints (xs ++ [x0]) from (by unfold ints; simp)]; exact fun g c' w' h1 h2 _ _ => h g c' w' h1 h2)
end
def cpF (s : Int) (fs : List FinishT) (code : Int) : Int := if code = 9 then 0 else if code = 1 ∨ s = 0 then 10 * ((fs.length : Int) + 1) else 10 * ((cameN fs : Int) + 1)
/-- How many did not come. -/
def dncN (fs : List FinishT) : Nat := (fs.filter fun g => g.2.1 == 1).length
theorem came_dnc (fs : List FinishT) : cameN fs + dncN fs = fs.length := by
  unfold cameN dncN
  induction fs with
  | nil => rfl
  | cons f r ih => simp only [List.filter_cons]; cases f.2.1 == 1 <;> simp <;> omega
theorem dncN_snoc (fs : List FinishT) (g : FinishT) : dncN (fs ++ [g]) = dncN fs + (if g.2.1 = 1 then 1 else 0) := by
  unfold dncN
  rw [List.filter_append, List.length_append, List.filter_cons]
  by_cases h : g.2.1 = 1 <;> simp [h]
theorem dncN_take (fs : List FinishT) (k : Nat) : dncN (fs.take k) ≤ k := Nat.le_trans (List.length_filter_le _ _) (by simp; omega)
theorem ofFleet_zero : ∀ fs : List FinishT, ofFleet 0 fs (List.replicate fs.length 0) = fs := by
  intro fs
  induction fs with
  | nil => rfl
  | cons f r ih => simp only [List.length_cons, List.replicate_succ, ofFleet, if_true, ih]
theorem mix_next (s : Int) {fs : List FinishT} {k : Nat} {f : FinishT} (hf : fs[k]? = some f) : (rowP s fs).take (k + 1) ++ List.replicate (fs.length - (k + 1)) 0 = ((rowP s fs).take k ++ List.replicate (fs.length - k) 0).set k (ptS s fs f) := by
  have hk : k < fs.length := (List.getElem?_eq_some_iff.1 hf).1
  have h1 : (rowP s fs)[k]? = some (ptS s fs f) := by unfold rowP; rw [List.getElem?_map, hf]; rfl
  exact (copy_stepG 0 (rowP s fs) fs.length k (ptS s fs f) (by simp [rowP]) h1 hk).symm
set_option maxHeartbeats 2000000 in
theorem l26Points_any (A : Option Addr) (n c : Nat) (fs : List FinishT) (s : Int) (hn : n ≤ 16) (hn0 : 0 < n) (w : World) (h : Rd w 3 A n (fins fs)) :
    Calls Try.prog 82 #[.agg #[.slice A n c], .int .i64 s] w (RetL w (rowP s fs)) := by
  have HN := Lib.hid h.len_fin
  have HRD := Lib.hid (fun w' (hb : Below w.heap.size w w') => h.below hb)
  have HRL := Lib.hid (show (rowP s fs).length = n from by unfold rowP; rw [List.length_map]; exact h.len_fin)
  clear h
  obtain ⟨wa, hwa, XA, hba, hsa⟩ := one_box w #[.slice A n c] 93
  have HBA := Lib.hid hba
  have HXA := Lib.hid XA
  have FX := XA.l1
  clear hba XA
  go_enter Try.func82, Try.ntmps82
  go_wp2_with fail
  rw [← hwa]
  clear hwa
  go_wp2_with fail
  clear FX
  go_loopw [6, 7] (fun v i wr => ∃ (k : Nat), k ≤ n ∧ i = .int .i64 k ∧ v = .int .i64 (cameN (fs.take k) : Nat) ∧ Hid (Below wa.heap.size wa wr)) (fun _ i _ => n - (intOf i).toNat)
  case atStart => exact ⟨0, Nat.zero_le _, rfl, rfl, Lib.hid (Below.refl _ _)⟩
  case round =>
    obtain ⟨k, hk, rfl, rfl, HB⟩ := hrel
    obtain ⟨wo, hwo⟩ : ∃ wo : World, wo = wr := ⟨_, rfl⟩
    subst hwo
    have HBo := Lib.hid (HBA.out.trans (HB.out.mono HBA.out.size))
    have FX := (HXA.out.below HB.out).l1
    have hck : cameN (fs.take k) ≤ 16 := Nat.le_trans (cameN_le _) (by simp; have := HN.out; omega)
    by_cases hlt : k < n
    · obtain ⟨b, o, x0, x1, x2, rfl, hx, _, hc0, hc1, hc2⟩ := (HRD.out _ HBo.out).fin hlt
      have HSN := Lib.hid (show cameN (fs.take (k + 1)) = cameN (fs.take k) + (if x1 = 1 then 0 else 1) from by
        rw [take_snoc_get hx]
        unfold cameN
        rw [List.filter_append, List.length_append, List.filter_cons]
        by_cases h : x1 = 1 <;> simp [h])
      clear hx
      generalize cameN (fs.take k) = q at *
      by_cases e1 : x1 = 1
      · subst e1
        go_wp2_with fail
        go_roundw
        case rel => exact ⟨k + 1, by omega, by go_num, by rw [HSN.out, if_pos rfl]; rfl, HB⟩
        case measure => simp [intOf] <;> omega
      · have h1 : (x1 != 1) = true := by simp [e1]
        have HQ := Lib.hid (show cameN (fs.take (k + 1)) = q + 1 from by rw [HSN.out, if_neg e1])
        clear e1 HSN
        go_wp2_with fail
        go_roundw
        case rel => exact ⟨k + 1, by omega, by go_num, by rw [HQ.out]; go_num, HB⟩
        case measure => simp [intOf] <;> omega
    · obtain rfl : k = n := by omega
      rw [List.take_of_length_le (by rw [HN.out]; omega)] at hck ⊢
      have HQ0 := Lib.hid (show cameN fs ≤ 16 from hck)
      have hmk := fun w => run_make_i64 k (by omega) w
      obtain ⟨w1, hw1⟩ : ∃ w1, w1 = wo.alloc (.cells (madeCells #[.int .i64 0] k) 2) := ⟨_, rfl⟩
      have ho1 := own_made wo wo.heap.size 2 k (.int .i64 0) (Nat.le_refl _) (by omega)
      rw [← ints_replicate, ← hw1] at ho1
      have hb1 : Below wo.heap.size wo w1 := by rw [hw1]; exact (Below.refl _ _).alloc (Nat.le_refl _) _
      obtain ⟨w2, hw2⟩ : ∃ w2, w2 = w1.alloc (.cells (madeCells #[.int .i64 0] k) 2) := ⟨_, rfl⟩
      have ho2 := own_made w1 w1.heap.size 2 k (.int .i64 0) (Nat.le_refl _) (by omega)
      rw [← ints_replicate, ← hw2] at ho2
      have hb2 : Below w1.heap.size w1 w2 := by rw [hw2]; exact (Below.refl _ _).alloc (Nat.le_refl _) _
      have hs1 : w1.heap.size = wo.heap.size + 1 := by rw [hw1]; simp
      have hs2 : w2.heap.size = w1.heap.size + 1 := by rw [hw2]; simp
      have HO1 := Lib.hid (own_below ho1 hb2); have HO2 := Lib.hid ho2
      have HB2 := Lib.hid (hb1.trans (hb2.mono hb1.size))
      clear ho1 ho2 hb1 hb2
      generalize hcm : cameN fs = cm at *
      have HCM := Lib.hid hcm
      clear hcm hck
      go_wp2_with fail
      rw [← hw1, ← hw2]
      clear hmk hw1 hw2
      go_wp2_with fail
      clear FX
      obtain ⟨g2, hg2⟩ : ∃ g, g = wo.heap.size + 1 := ⟨_, rfl⟩
      rw [hs1, ← hg2] at HO2
      obtain ⟨g1, hg1⟩ : ∃ g, g = wo.heap.size := ⟨_, rfl⟩
      rw [← hg2, ← hg1]
      rw [← hg1] at HO1
      have HXo := Lib.hid (HXA.out.below HB.out)
      have HO2b := Lib.hid (own_base HO2.out (show wo.heap.size ≤ g2 by omega))
      have HG1 := Lib.hid hg1
      have hgz : g1 < g2 := by omega
      have hgw : wo.heap.size ≤ g1 := by omega
      clear hg1 hg2 hs1 hs2
      have HRO := Lib.hid (fun w' (hb : Below wo.heap.size wo w') => HRD.out w' (HBo.out.trans (hb.mono HBo.out.size)))
      have HFZ := Lib.hid (ofFleet_zero fs)
      rw [HN.out] at HFZ
      go_loopw [10] (fun i wr => ∃ (k2 : Nat), k2 ≤ k ∧ i = .int .i64 k2 ∧ Hid (wr.ownsRow wo.heap.size 2 1 (.slice (some ⟨g1, 0, none⟩) k k) k (ints ((rowP s fs).take k2 ++ List.replicate (k - k2) 0))) ∧ Hid (wr.ownsRow wo.heap.size 2 1 (.slice (some ⟨g2, 0, none⟩) k k) k (ints (List.replicate k 0))) ∧ Hid (Below wo.heap.size wo wr)) (fun i _ => k - (intOf i).toNat)
      case atStart => exact ⟨0, Nat.zero_le _, rfl, Lib.hid (by have h := HO1.out; rw [← HG1.out]; simpa using h), HO2b, HB2⟩
      case round =>
        clear HO1 HO2 HO2b HB2
        obtain ⟨k2, hk2, rfl, HP, HS, HB9⟩ := hrel
        obtain ⟨wp, hwp⟩ : ∃ wp : World, wp = wr := ⟨_, rfl⟩
        subst hwp
        have hsp := HB9.out.size
        have FX := (HXo.out.below HB9.out).l1
        by_cases hlt : k2 < k
        · obtain ⟨b, o, x0, x1, x2, rfl, hx, _, hc0, hc1, hc2⟩ := (HRO.out _ HB9.out).fin hlt
          have HNX := Lib.hid (mix_next s hx)
          rw [HN.out] at HNX
          have HX := Lib.hid hx
          have HZR := Lib.hid (show ((rowP s fs).take k2 ++ List.replicate (k - k2) 0)[k2]? = some 0 from by
            have hrl := HRL.out; rw [List.getElem?_append_right (by rw [List.length_take]; omega), List.getElem?_replicate, if_pos (by rw [List.length_take]; omega)])
          obtain ⟨gx, z, hgx, hgb, hgl, _, hzc, hzf⟩ := own_int_at HP.out hlt
          obtain rfl : g1 = gx := by injection hgx with e; injection e
          clear hx hgx
          by_cases e0 : x1 = 0
          · subst e0
            have HPL := Lib.hid (fun w' (hb : Below wo.heap.size wo w') (hr : Rd w' 1 (some ⟨g2, 0, none⟩) k (ints (List.replicate k 0))) => l26Place_any (some ⟨b, o, none⟩) k c fs (some ⟨g2, 0, none⟩) k k (List.replicate k 0) k2 x0 0 x2 0 w' (HRO.out w' hb) hr HX.out (by rw [List.getElem?_replicate, if_pos hlt]) rfl hn)
            rw [HFZ.out] at HPL
            have h1 := ltN_le x2 fs
            have h2 := eqN_le x2 fs
            have HV := Lib.hid (show ptS s fs (x0, 0, x2) = 5 * (2 * (1 + (ltN x2 fs : Int)) + (eqN x2 fs : Int) - 1) from rfl)
            have hfl := HN.out
            generalize ltN x2 fs = p at *
            generalize eqN x2 fs = q at *
            obtain ⟨v, hv⟩ : ∃ v, v = 5 * (2 * (1 + (p : Int)) + (q : Int) - 1) := ⟨_, rfl⟩
            rw [← hv] at HV
            have HWR := Lib.hid (show IntKind.i64.wrap (5 * IntKind.i64.wrap (IntKind.i64.wrap (IntKind.i64.wrap (2 * (1 + (p : Int))) + (q : Int)) - 1)) = v from by rw [IntWalk.i64_in (2 * (1 + (p : Int))) (by omega), IntWalk.i64_in (2 * (1 + (p : Int)) + (q : Int)) (by omega), IntWalk.i64_in (2 * (1 + (p : Int)) + (q : Int) - 1) (by omega), IntWalk.i64_in _ (by omega)]; exact hv.symm)
            have HVE := Lib.hid hv
            have hp16 : p ≤ 16 := by omega
            have hq16 : q ≤ 16 := by omega
            clear hv hfl
            go_wp2_with fail
            refine (HPL.out _ HB9.out (own_rd HS.out)).mono ?_
            rintro e w5 ⟨rfl, hb5⟩
            have HB5 := Lib.hid (HB9.out.trans (hb5.mono hsp))
            have HP5 := Lib.hid (own_below HP.out hb5); have HS5 := Lib.hid (own_below HS.out hb5)
            have hs5 := hb5.size
            clear hb5 HPL hzc hzf FX hc0 hc1 hc2
            obtain ⟨gx, z, hgx, _, hgl5, _, hzc, hzf⟩ := own_int_at HP5.out hlt
            obtain rfl : g1 = gx := by injection hgx with e; injection e
            clear hgx
            go_wp2_with fail
            rw [show (5 * (2 * (1 + (p : Int)) + (q : Int) - 1)) = v from HVE.out.symm]
            have HON := Lib.hid (own_set (k := k2) HP5.out v)
            have HBN := Lib.hid (HB5.out.setCell (p := ⟨g1, k2, none⟩) (show wo.heap.size ≤ g1 by omega) (.int .i64 v))
            have HSN := Lib.hid (own_chg HS5.out (put_chg (g := g1) [.int .i64 v] k2 (Chg.refl g1 (g1 + 1) w5) (Nat.le_refl _) (by omega)) (fun b hb => by (have h9 : g2 = b := (by simpa [Value.ownBlock] using hb)); omega))
            go_roundw
            case rel => exact ⟨k2 + 1, by omega, by go_num, Lib.hid (by rw [HNX.out, HV.out]; exact HON.out), HSN, HBN⟩
            case measure => simp [intOf] <;> omega
          · have e0b : (x1 == 0) = false := by simp [e0]
            by_cases e9 : x1 = 9
            · subst e9
              have HV := Lib.hid (show ptS s fs (x0, 9, x2) = 0 from rfl)
              go_wp2_with fail
              go_roundw
              case rel => exact ⟨k2 + 1, by omega, by go_num, Lib.hid (by rw [HNX.out, HV.out, set_same HZR.out]; exact HP.out), HS, HB9⟩
              case measure => simp [intOf] <;> omega
            · have e9b : (x1 == 9) = false := by simp [e9]
              by_cases e1 : x1 = 1 ∨ s = 0
              · have e1b : (if (x1 == 1) = true then true else (s == 0)) = true := by rcases e1 with rfl | rfl <;> simp
                obtain ⟨v, hv⟩ : ∃ v, v = 10 * ((k : Int) + 1) := ⟨_, rfl⟩
                have HV := Lib.hid (show ptS s fs (x0, x1, x2) = v from by unfold ptS; rw [if_neg e0, if_neg e9, if_pos e1, HN.out, hv])
                have HVE := Lib.hid hv
                clear hv
                rcases (Classical.em (x1 = 1)) with e2 | e2
                · subst e2
                  go_wp2_with fail
                  rw [show (10 * ((k : Int) + 1)) = v from HVE.out.symm]
                  have HON := Lib.hid (own_set (k := k2) HP.out v)
                  have HBN := Lib.hid (HB9.out.setCell (p := ⟨g1, k2, none⟩) (show wo.heap.size ≤ g1 by omega) (.int .i64 v))
                  have HSN := Lib.hid (own_chg HS.out (put_chg (g := g1) [.int .i64 v] k2 (Chg.refl g1 (g1 + 1) wp) (Nat.le_refl _) (by omega)) (fun b hb => by (have h9 : g2 = b := (by simpa [Value.ownBlock] using hb)); omega))
                  go_roundw
                  case rel => exact ⟨k2 + 1, by omega, by go_num, Lib.hid (by rw [HNX.out, HV.out]; exact HON.out), HSN, HBN⟩
                  case measure => simp [intOf] <;> omega
                · have e2b : (x1 == 1) = false := by simp [e2]
                  obtain rfl : s = 0 := e1.resolve_left e2
                  go_wp2_with fail
                  rw [show (10 * ((k : Int) + 1)) = v from HVE.out.symm]
                  have HON := Lib.hid (own_set (k := k2) HP.out v)
                  have HBN := Lib.hid (HB9.out.setCell (p := ⟨g1, k2, none⟩) (show wo.heap.size ≤ g1 by omega) (.int .i64 v))
                  have HSN := Lib.hid (own_chg HS.out (put_chg (g := g1) [.int .i64 v] k2 (Chg.refl g1 (g1 + 1) wp) (Nat.le_refl _) (by omega)) (fun b hb => by (have h9 : g2 = b := (by simpa [Value.ownBlock] using hb)); omega))
                  go_roundw
                  case rel => exact ⟨k2 + 1, by omega, by go_num, Lib.hid (by rw [HNX.out, HV.out]; exact HON.out), HSN, HBN⟩
                  case measure => simp [intOf] <;> omega
              · have e2b : (x1 == 1) = false := by simp; intro e; exact e1 (.inl e)
                have e3b : (s == 0) = false := by simp; intro e; exact e1 (.inr e)
                obtain ⟨v, hv⟩ : ∃ v, v = 10 * ((cm : Int) + 1) := ⟨_, rfl⟩
                have HV := Lib.hid (show ptS s fs (x0, x1, x2) = v from by unfold ptS; rw [if_neg e0, if_neg e9, if_neg e1, HCM.out, hv])
                have HVE := Lib.hid hv
                have hcm16 := HQ0.out
                clear hv
                go_wp2_with fail
                rw [show (10 * ((cm : Int) + 1)) = v from HVE.out.symm]
                have HON := Lib.hid (own_set (k := k2) HP.out v)
                have HBN := Lib.hid (HB9.out.setCell (p := ⟨g1, k2, none⟩) (show wo.heap.size ≤ g1 by omega) (.int .i64 v))
                have HSN := Lib.hid (own_chg HS.out (put_chg (g := g1) [.int .i64 v] k2 (Chg.refl g1 (g1 + 1) wp) (Nat.le_refl _) (by omega)) (fun b hb => by (have h9 : g2 = b := (by simpa [Value.ownBlock] using hb)); omega))
                go_roundw
                case rel => exact ⟨k2 + 1, by omega, by go_num, Lib.hid (by rw [HNX.out, HV.out]; exact HON.out), HSN, HBN⟩
                case measure => simp [intOf] <;> omega
        · obtain rfl : k2 = k := by omega
          have ho := HP.out
          rw [Nat.sub_self, List.take_of_length_le (by rw [HRL.out]; exact Nat.le_refl _)] at ho
          simp only [List.replicate_zero, List.append_nil] at ho
          have HOZ := Lib.hid ho
          have HBF := Lib.hid (HBo.out.trans (HB9.out.mono HBo.out.size))
          have hwo0 := HBo.out.size
          clear ho
          go_wp2_with fail
          go_ret
          refine ⟨g1, k2, ?_, ?_, by omega, HBF.out⟩
          · rw [HRL.out]; rfl
          · rw [HRL.out]; exact own_base HOZ.out hwo0
end Go.Proofs.Ytmgkoldipchljaa

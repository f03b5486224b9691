/- General and plain lemmas, and light walks (merged): Jm Jn Ya Zp Zh Zj Ms2. -/
import Derived.Test.YtalgdeieejpelaaGreatZmf
import Derived.Test.YtalgdeieejpelaaGreatZma
import Derived.Test.YtalgdeieejpelaaGreatZmh
import Derived.Test.YtalgdeieejpelaaGreatZf
import Derived.Test.YtalgdeieejpelaaGreatZe
import Derived.Test.YtalgdeieejpelaaGreatZmk
import Derived.IntWalk
/- Walks: two registers are merged (chapter 33), the program. -/
namespace Go.Proofs.YtalgdeieejpelaaGreat
open Go.RowKit Go.Sort Go.Lib
set_option linter.unusedVariables false
set_option maxRecDepth 100000

theorem mrg_post (w : World) {a s : Int} {xs : List EntryT} {b t : Int} {ys : List EntryT} {k : Int} (h : mrgC a s xs b t ys = k) (hk : k ≠ 0) : RetReg2 w (mrgB a s xs b t ys) (mrgS a s xs b t ys) (mrgL a s xs b t ys) (mrgC a s xs b t ys) = RetReg2 w 0 0 [] k := by
  obtain ⟨h1, h2, h3⟩ := mrg_bad h hk
  rw [h1, h2, h3, h]
theorem mrg_post0 (w : World) {a s : Int} {xs : List EntryT} {b t : Int} {ys : List EntryT} (h : mrgC a s xs b t ys = 0) : RetReg2 w (mrgB a s xs b t ys) (mrgS a s xs b t ys) (mrgL a s xs b t ys) (mrgC a s xs b t ys) = RetReg2 w a s (xs ++ newE xs ys) 0 := by
  obtain ⟨h1, h2, h3⟩ := mrg_good h
  rw [h1, h2, h3, h]
end Go.Proofs.YtalgdeieejpelaaGreat

/- Walks: two registers are merged (chapter 33), the reference. -/
namespace Go.Proofs.YtalgdeieejpelaaGreat
open Go.RowKit Go.Sort Go.Lib
set_option linter.unusedVariables false
set_option maxRecDepth 100000

theorem own_ne_box {w : World} {base e s n g : Nat} {v : Value} {xs : List Value} {vs : Array Value} {t : TypeId} (h : w.ownsRow base e s v n xs) (X : Box w g vs t) (hne : e ≠ t) : ∀ b, v.ownBlock = some b → b ≠ g := by
  intro b hb
  rcases h.2 with ⟨rfl, _⟩ | ⟨g1, cap, cur, rfl, _, hh, _⟩
  · simp [Value.ownBlock] at hb
  · simp [Value.ownBlock] at hb
    subst hb
    rintro rfl
    unfold Box at X
    rw [hh] at X
    injection X with X
    injection X with _ ht
    exact hne ht
/-- The state of the register that grows: its box at g, its entries. -/
structure OutS (w0 w : World) (g : Nat) (a s : Int) (A : Option Addr) (q c : Nat) (l : List EntryT) : Prop where
  box : Box w g #[.int .i64 a, .int .i64 s, .slice A q c] 31
  own : w.ownsRow w0.heap.size 50 7 (.slice A q c) q (ents l)
  ge : w0.heap.size ≤ g
  below : Below w0.heap.size w0 w
theorem OutS.step {w0 w w' : World} {g q c : Nat} {a s : Int} {A : Option Addr} {l : List EntryT} (h : OutS w0 w g a s A q c l) (k : Below w.heap.size w w') : OutS w0 w' g a s A q c l :=
  ⟨h.box.below k, own_below h.own k, h.ge, h.below.trans (k.mono h.below.size)⟩
theorem OutS.make {w0 w : World} {g q c : Nat} {a s : Int} {A : Option Addr} {l : List EntryT} {v0 v1 v2 : Value} (X : Box w g #[v0, v1, v2] 31) (ho : w.ownsRow w0.heap.size 50 7 (.slice A q c) q (ents l))
    (hg : w0.heap.size ≤ g) (hb : Below w0.heap.size w0 w) : OutS w0 (((w.setCell ⟨g, 0, none⟩ (.int .i64 a)).setCell ⟨g, 1, none⟩ (.int .i64 s)).setCell ⟨g, 2, none⟩ (.slice A q c)) g a s A q c l := by
  have hch := put_chg (g := g) [.int .i64 a, .int .i64 s, .slice A q c] 0 (Chg.refl g (g + 1) w) (by omega) (by omega)
  have hne := own_ne_box ho X (by decide)
  have hsz := hb.size
  refine ⟨?_, own_chg ho hch (fun b hb => by have := hne b hb; omega), hg, below_chg hb hch (by omega) (by omega)⟩
  have := ((X.set 0 (.int .i64 a)).set 1 (.int .i64 s)).set 2 (.slice A q c)
  simpa using this
end Go.Proofs.YtalgdeieejpelaaGreat

/- Plain: the table of a register's series and its redress. -/
namespace Go.Proofs.YtalgdeieejpelaaGreat
open Go.RowKit
set_option linter.unusedVariables false

/-! ### Points of a race -/
/-- How many came. -/
def cameN (fs : List FinishT) : Nat := (fs.filter fun g => !(g.2.1 == 1)).length
def ptS (s : Int) (fs : List FinishT) (f : FinishT) : Int :=
  if f.2.1 = 0 then 5 * (2 * (placeF fs f).1 + (placeF fs f).2 - 1)
  else if f.2.1 = 9 then 0
  else if f.2.1 = 1 ∨ s = 0 then 10 * ((fs.length : Int) + 1)
  else 10 * ((cameN fs : Int) + 1)
def rowP (s : Int) (fs : List FinishT) : List Int := fs.map (ptS s fs)
def rowK (fs : List FinishT) : List Int := fs.map fun f => f.2.1
def tabS (b s : Int) (rows : List (List FinishT)) : Tb := ⟨b, rows.map (rowP s), rows.map rowK⟩
theorem cameN_le (fs : List FinishT) : cameN fs ≤ fs.length := List.length_filter_le _ _
theorem ptS_bd (s : Int) (fs : List FinishT) (f : FinishT) (h : fs.length ≤ 16) : 0 ≤ ptS s fs f ∧ ptS s fs f ≤ 10000 := by
  have h1 := cameN_le fs
  have h2 := ltN_le f.2.2 fs
  have h3 := eqN_le f.2.2 fs
  unfold ptS
  split
  · rename_i h0
    unfold placeF
    rw [if_pos h0]
    simp only
    omega
  · split
    · omega
    · split <;> omega
/-- All finishes of all races fit. -/
def FinsOk (rows : List (List FinishT)) : Prop := ∀ r ∈ rows, ∀ (k : Nat) (f : FinishT), r[k]? = some f → f.1 = (k : Int) ∧ finB f = true
theorem tabS_ok {b s : Int} {rows : List (List FinishT)} (h1 : 1 ≤ b) (h2 : b ≤ 16) (hg : GoodR b.toNat rows) (hf : FinsOk rows) : TabOk (tabS b s rows) := by
  refine ⟨h1, h2, by simp [tabS]; exact hg.1, by simp [tabS], fun k p c hp hc => ?_⟩
  simp only [tabS, List.getElem?_map] at hp hc
  cases hr : rows[k]? with
  | none => rw [hr] at hp; cases hp
  | some fs =>
    rw [hr] at hp hc
    simp only [Option.map_some, Option.some.injEq] at hp hc
    subst hp; subst hc
    have hm := List.mem_of_getElem? hr
    have hl := hg.2 fs hm
    refine ⟨⟨by simp only [rowP, List.length_map, tabS]; omega, fun x hx => ?_⟩, by simp only [rowK, List.length_map, tabS]; omega, fun x hx => ?_⟩
    · obtain ⟨f, _, rfl⟩ := List.mem_map.1 hx
      exact ptS_bd s fs f (by omega)
    · obtain ⟨f, hfm, rfl⟩ := List.mem_map.1 hx
      obtain ⟨q, hq⟩ := List.mem_iff_getElem?.1 hfm
      have := finB_ok (hf fs hm q f hq).2
      exact ⟨this.1, this.2.1⟩
theorem dncRow_at {b k : Nat} {f : FinishT} (h : (dncRow b)[k]? = some f) : f = ((k : Int), (1 : Int), (0 : Int)) := by
  unfold dncRow at h
  rw [List.getElem?_map] at h
  cases hr : (List.range b)[k]? with
  | none => rw [hr] at h; cases h
  | some q =>
    rw [hr] at h
    have : q = k := by
      have := List.getElem?_eq_some_iff.1 hr
      obtain ⟨h1, h2⟩ := this
      simpa using h2.symm
    subst this
    simpa using h.symm
theorem FinsOk.pad {b : Nat} {rows : List (List FinishT)} (h : FinsOk rows) (m : Nat) : FinsOk (padR b rows m) := by
  intro r hr k f hf
  unfold padR at hr
  rcases List.mem_append.1 hr with hr | hr
  · exact h r hr k f hf
  · rw [List.eq_of_mem_replicate hr] at hf
    rw [dncRow_at hf]
    exact ⟨rfl, by simp [finB, withinB]⟩
theorem FinsOk.put {b : Nat} {rows : List (List FinishT)} (h : FinsOk rows) {x : EntryT} (h0 : 0 ≤ E.boat x) (hx : finB (E.boat x, E.code x, E.time x) = true) : FinsOk (putR b rows x) := by
  intro r hr k f hf
  unfold putR at hr
  have hp := h.pad (b := b) ((E.race x).toNat + 1)
  have hold : ∀ q ∈ padR b rows ((E.race x).toNat + 1), ∀ (k : Nat) (f : FinishT), q[k]? = some f → f.1 = (k : Int) ∧ finB f = true := hp
  generalize padR b rows ((E.race x).toNat + 1) = pr at *
  rcases List.mem_or_eq_of_mem_set hr with hr | rfl
  · exact hold r hr k f hf
  · by_cases hk : (E.boat x).toNat = k
    · rw [List.getElem?_set] at hf
      rw [if_pos hk] at hf
      split at hf
      · injection hf with hf; subst hf; exact ⟨by show E.boat x = (k : Int); omega, hx⟩
      · cases hf
    · rw [List.getElem?_set_ne hk] at hf
      by_cases hl : (E.race x).toNat < pr.length
      · rw [List.getD_eq_getElem?_getD, List.getElem?_eq_getElem hl] at hf
        exact hold _ (List.getElem_mem hl) k f hf
      · rw [List.getD_eq_getElem?_getD, List.getElem?_eq_none (Nat.le_of_not_lt hl)] at hf
        simp at hf
/-! ### Where an entry lies in the series -/
def cellR (rows : List (List FinishT)) (r k : Nat) : Option FinishT := (rows.getD r [])[k]?
theorem cellR_lt {rows : List (List FinishT)} {r k : Nat} {f : FinishT} (h : cellR rows r k = some f) : r < rows.length := by
  false_or_by_contra
  rename_i hn
  unfold cellR at h
  rw [List.getD_eq_getElem?_getD, List.getElem?_eq_none (Nat.le_of_not_lt hn)] at h
  simp at h
theorem padR_getD {b : Nat} {rows : List (List FinishT)} {m r : Nat} (h : r < rows.length) : (padR b rows m).getD r [] = rows.getD r [] := by
  unfold padR
  rw [List.getD_eq_getElem?_getD, List.getD_eq_getElem?_getD, List.getElem?_append_left h]
theorem put_same {b : Nat} {rows : List (List FinishT)} (hg : GoodR b rows) {x : EntryT} (h0 : 0 ≤ E.race x) (h1 : E.race x ≤ 11) (h2 : 0 ≤ E.boat x) (h3 : E.boat x < b) :
    cellR (putR b rows x) (E.race x).toNat (E.boat x).toNat = some (E.boat x, E.code x, E.time x) := by
  have hp := hg.pad (m := (E.race x).toNat + 1) (by omega)
  have hlt : (E.race x).toNat < (padR b rows ((E.race x).toNat + 1)).length := by rw [padR_len]; omega
  unfold putR
  generalize padR b rows ((E.race x).toNat + 1) = pr at *
  have hl : (pr.getD (E.race x).toNat []).length = b := by
    rw [List.getD_eq_getElem?_getD, List.getElem?_eq_getElem hlt]; exact hp.2 _ (List.getElem_mem hlt)
  unfold cellR
  generalize pr.getD (E.race x).toNat [] = q at hl
  rw [List.getD_eq_getElem?_getD, List.getElem?_set_self hlt, Option.getD_some, List.getElem?_set_self (by omega)]
theorem put_other {b : Nat} {rows : List (List FinishT)} {x : EntryT} {r k : Nat} {f : FinishT} (h : cellR rows r k = some f) (hne : ¬ ((E.race x).toNat = r ∧ (E.boat x).toNat = k)) : cellR (putR b rows x) r k = some f := by
  have hr := cellR_lt h
  have hpr := padR_getD (b := b) (m := (E.race x).toNat + 1) hr
  have hlt : r < (padR b rows ((E.race x).toNat + 1)).length := by rw [padR_len]; omega
  unfold cellR at h
  rw [← hpr] at h
  unfold putR cellR
  generalize padR b rows ((E.race x).toNat + 1) = pr at *
  by_cases e : (E.race x).toNat = r
  · subst e
    have hk : (E.boat x).toNat ≠ k := fun e => hne ⟨rfl, e⟩
    generalize hq : pr.getD (E.race x).toNat [] = q at h
    rw [List.getD_eq_getElem?_getD, List.getElem?_set_self hlt, Option.getD_some, List.getElem?_set_ne hk]
    exact h
  · rw [List.getD_eq_getElem?_getD, List.getElem?_set_ne e, ← List.getD_eq_getElem?_getD]
    exact h
/-- Entries by race, then by boat. -/
def ltK (x y : EntryT) : Prop := E.race x < E.race y ∨ (E.race x = E.race y ∧ E.boat x < E.boat y)
/-- An entry lies within b boats and 12 races. -/
def InK (b : Nat) (x : EntryT) : Prop := 0 ≤ E.race x ∧ E.race x ≤ 11 ∧ 0 ≤ E.boat x ∧ E.boat x < b
theorem serGo_keep {b : Nat} : ∀ {l : List EntryT} {rows : List (List FinishT)} {r k : Nat} {f : FinishT}, cellR rows r k = some f → (∀ x ∈ l, ¬ ((E.race x).toNat = r ∧ (E.boat x).toNat = k)) → cellR (serGo b rows l) r k = some f := by
  intro l
  induction l with
  | nil => intro rows r k f h _; exact h
  | cons x q ih => intro rows r k f h hn; exact ih (put_other h (hn x (.head _))) (fun y hy => hn y (.tail _ hy))
theorem serGo_at {b : Nat} : ∀ {l : List EntryT} {rows : List (List FinishT)}, GoodR b rows → (∀ x ∈ l, InK b x) → l.Pairwise ltK → ∀ x ∈ l, cellR (serGo b rows l) (E.race x).toNat (E.boat x).toNat = some (E.boat x, E.code x, E.time x) := by
  intro l
  induction l with
  | nil => intro rows _ _ _ x hx; cases hx
  | cons y q ih =>
    intro rows hg hin hp x hx
    obtain ⟨hy, hp'⟩ := List.pairwise_cons.1 hp
    obtain ⟨i0, i1, i2, i3⟩ := hin y (.head _)
    show cellR (serGo b (putR b rows y) q) (E.race x).toNat (E.boat x).toNat = _
    rcases List.mem_cons.1 hx with rfl | hx
    · refine serGo_keep (put_same hg i0 i1 i2 i3) (fun z hz e => ?_)
      have hl := hy z hz
      obtain ⟨j0, j1, j2, j3⟩ := hin z (.tail _ hz)
      unfold ltK at hl
      omega
    · exact ih (hg.put i0 i1) (fun z hz => hin z (.tail _ hz)) hp' x hx
theorem serGo_fins {b : Nat} : ∀ {l : List EntryT} {rows : List (List FinishT)}, FinsOk rows → (∀ x ∈ l, 0 ≤ E.boat x ∧ finB (E.boat x, E.code x, E.time x) = true) → FinsOk (serGo b rows l) := by
  intro l
  induction l with
  | nil => intro rows h _; exact h
  | cons x q ih => intro rows h hx; exact ih (h.put (hx x (.head _)).1 (hx x (.head _)).2) (fun y hy => hx y (.tail _ hy))
/-! ### Current entries are sorted -/
theorem lastL_mem {xs : List EntryT} {race boat : Int} {x : EntryT} (h : x ∈ lastL (histF xs race boat)) : x ∈ xs ∧ E.race x = race ∧ E.boat x = boat := by
  unfold lastL at h
  exact hist_mem.1 (List.mem_of_getLast? (Option.mem_toList.1 h))
theorem rowC_mem {xs : List EntryT} {race : Int} {k : Nat} {x : EntryT} (h : x ∈ rowC xs race k) : x ∈ xs ∧ E.race x = race ∧ 0 ≤ E.boat x ∧ E.boat x < k := by
  unfold rowC at h
  simp only [List.mem_flatMap, List.mem_range] at h
  obtain ⟨b, hb, hx⟩ := h
  obtain ⟨h1, h2, h3⟩ := lastL_mem hx
  exact ⟨h1, h2, by omega, by omega⟩
theorem lastL_pair (l : List EntryT) : (lastL l).Pairwise ltK := by
  unfold lastL
  cases l.getLast? <;> simp
theorem rowC_sorted (xs : List EntryT) (race : Int) (k : Nat) : (rowC xs race k).Pairwise ltK := by
  induction k with
  | zero => simp [rowC]
  | succ k ih =>
    rw [rowC_succ, List.pairwise_append]
    refine ⟨ih, lastL_pair _, fun a ha c hc => ?_⟩
    have h1 := rowC_mem ha
    have h2 := lastL_mem hc
    right
    omega
theorem currC_sorted (xs : List EntryT) (b r : Nat) : (currC xs b r).Pairwise ltK := by
  induction r with
  | zero => simp [currC]
  | succ r ih =>
    rw [currC_succ, List.pairwise_append]
    refine ⟨ih, rowC_sorted _ _ _, fun a ha c hc => ?_⟩
    have h1 := currC_mem ha
    have h2 := rowC_mem hc
    left
    omega
theorem currF_inK {b : Int} {xs : List EntryT} {x : EntryT} (h : x ∈ currF b xs) : InK b.toNat x := by
  obtain ⟨_, h1, h2, h3, h4⟩ := currF_mem h
  exact ⟨h1, h2, h3, by omega⟩
theorem entB_fin {b : Int} {x : EntryT} (h : entB b x = true) : finB (E.boat x, E.code x, E.time x) = true := by
  unfold entB at h
  simp only [Bool.and_eq_true] at h
  exact h.1.2
theorem serF_fins {b s : Int} {xs : List EntryT} (h : RegOk b s xs) : FinsOk (serF b xs) := by
  refine serGo_fins (fun r hr => by cases hr) (fun x hx => ?_)
  obtain ⟨hm, _, _, h3, _⟩ := currF_mem hx
  exact ⟨h3, entB_fin (h.ent x hm).1⟩
theorem serF_at {b : Int} {xs : List EntryT} {x : EntryT} (h : x ∈ currF b xs) : cellR (serF b xs) (E.race x).toNat (E.boat x).toNat = some (E.boat x, E.code x, E.time x) :=
  serGo_at (GoodR.nil _) (fun y hy => currF_inK hy) (currC_sorted _ _ _) x h
/-- The series of a valid register is valid, race by race. -/
theorem serF_race {b s : Int} {xs : List EntryT} (h : RegOk b s xs) : ∀ r ∈ serF b xs, raceB b r = true := by
  intro r hr
  have hg := serF_good b xs
  have hl := hg.2 r hr
  have hf := serF_fins h r hr
  have hb := h.b1
  unfold raceB
  rw [withinB_iff.2 ⟨h.b1, h.b2⟩]
  have hgo : ∀ (fs : List FinishT) (i : Nat), (∀ (k : Nat) (f : FinishT), fs[k]? = some f → f.1 = ((i + k : Nat) : Int) ∧ finB f = true) → finsGo i fs = true := by
    intro fs
    induction fs with
    | nil => intro i _; rfl
    | cons f q ih =>
      intro i hq
      have h0 := hq 0 f rfl
      unfold finsGo
      rw [h0.2, ih (i + 1) (fun k g hg => by have := hq (k + 1) g (by simpa using hg); rw [show i + 1 + k = i + (k + 1) by omega]; exact this)]
      simp [h0.1]
  rw [hgo r 0 (fun k f hk => by simpa using hf k f hk)]
  have : ((r.length : Int) == b) = true := by rw [beq_iff_eq]; omega
  rw [this]; rfl
/-! ### Redress of a register -/
def redE (x : EntryT) : RedT := (E.race x, E.boat x, E.kind x, E.points x)
def keepB (t : Tb) (x : EntryT) : Bool := !(E.kind x == 0) && (E.kind x == 3 || (avgF t (E.race x) (E.boat x) (E.kind x)).2)
def redsOf (t : Tb) (l : List EntryT) : List RedT := (l.filter (keepB t)).map redE
theorem redsOf_snoc (t : Tb) (l : List EntryT) (x : EntryT) : redsOf t (l ++ [x]) = if keepB t x = true then redsOf t l ++ [redE x] else redsOf t l := by
  unfold redsOf
  rw [List.filter_append, List.map_append]
  cases h : keepB t x <;> simp [h]
theorem redsOf_len (t : Tb) (l : List EntryT) : (redsOf t l).length ≤ l.length := by
  unfold redsOf
  rw [List.length_map]
  exact List.length_filter_le _ _
/-- The table of a valid register before redress. -/
def tab0 (b s : Int) (xs : List EntryT) : Tb := tabS b s (serF b xs)
def tabR (b s : Int) (xs : List EntryT) : Tb := applyF (tab0 b s xs) (redsOf (tab0 b s xs) (currF b xs))
theorem tab0_ok {b s : Int} {xs : List EntryT} (h : RegOk b s xs) : TabOk (tab0 b s xs) := tabS_ok h.b1 h.b2 (serF_good b xs) (serF_fins h)
theorem tab0_code {b s : Int} {xs : List EntryT} {x : EntryT} (h : x ∈ currF b xs) : codeAt (tab0 b s xs) (E.race x) (E.boat x) = E.code x ∧ E.race x ≤ ((tab0 b s xs).pts.length : Int) - 1 := by
  have hc := serF_at h
  have hlt := cellR_lt hc
  have hin := currF_inK h
  refine ⟨?_, by simp only [tab0, tabS, List.length_map]; unfold InK at hin; omega⟩
  unfold codeAt tab0 tabS
  simp only
  unfold cellR at hc
  generalize serF b xs = rows at *
  rw [List.getD_eq_getElem?_getD, List.getElem?_eq_getElem hlt, Option.getD_some] at hc
  rw [List.getD_eq_getElem?_getD, List.getD_eq_getElem?_getD, List.getElem?_map, List.getElem?_eq_getElem hlt, Option.map_some, Option.getD_some]
  unfold rowK
  rw [List.getElem?_map, hc]
  rfl
theorem keep_red {b s : Int} {xs : List EntryT} (h : RegOk b s xs) {x : EntryT} (hx : x ∈ currF b xs) (hk : keepB (tab0 b s xs) x = true) : redB (tab0 b s xs) (redE x) = true := by
  obtain ⟨hc, hr⟩ := tab0_code (s := s) hx
  obtain ⟨hm, i0, i1, i2, i3⟩ := currF_mem hx
  have he := (h.ent x hm).1
  unfold keepB at hk
  rw [Bool.and_eq_true] at hk
  have hk0 : ¬ E.kind x = 0 := by have := hk.1; simpa using this
  unfold entB at he
  simp only [Bool.and_eq_true] at he
  have he2 := he.2
  rw [if_neg hk0, Bool.and_eq_true] at he2
  have h9 : E.code x = 9 := by have := he2.1; simpa using this
  unfold redB redE
  simp only
  rw [withinB_iff.2 ⟨i0, hr⟩, withinB_iff.2 ⟨i2, (by show E.boat x ≤ b - 1; omega)⟩, hc, h9, hk.2]
  have : isRedBT (E.kind x) (E.points x) = true := he2.2
  rw [this]
  rfl
theorem redsGo_of (t : Tb) : ∀ (xs : List RedT) (p : Option RedT), (∀ x ∈ xs, redB t x = true) → (∀ y, p = some y → ∀ x ∈ xs, ltRB y x = true) → xs.Pairwise (fun y x => ltRB y x = true) → redsGo t p xs = true := by
  intro xs
  induction xs with
  | nil => intro p _ _ _; cases p <;> rfl
  | cons x r ih =>
    intro p h1 h2 h3
    obtain ⟨h4, h5⟩ := List.pairwise_cons.1 h3
    have hr := ih (some x) (fun y hy => h1 y (.tail _ hy)) (fun y e z hz => by injection e with e; subst e; exact h4 z hz) h5
    cases p with
    | none => unfold redsGo; rw [h1 x (.head _), hr]; rfl
    | some y => unfold redsGo; rw [h1 x (.head _), h2 y rfl x (.head _), hr]; rfl
theorem reds_ok {b s : Int} {xs : List EntryT} (h : RegOk b s xs) : redsB (tab0 b s xs) (redsOf (tab0 b s xs) (currF b xs)) = true := by
  refine redsGo_of _ _ none (fun x hx => ?_) (fun y e => by cases e) ?_
  · unfold redsOf at hx
    obtain ⟨e, he, rfl⟩ := List.mem_map.1 hx
    obtain ⟨h1, h2⟩ := List.mem_filter.1 he
    exact keep_red h h1 h2
  · unfold redsOf
    rw [List.pairwise_map]
    refine ((currC_sorted xs b.toNat 12).filter _).imp (fun {x y} hl => ?_)
    unfold ltK at hl
    unfold ltRB redE
    simp only [Bool.or_eq_true, Bool.and_eq_true, decide_eq_true_eq, beq_iff_eq]
    exact hl
def regTabC (b s : Int) (xs : List EntryT) : Tb × Int := if regB b s xs = true then (tabR b s xs, 0) else (noT, 1)
end Go.Proofs.YtalgdeieejpelaaGreat

/- Walks: a discard rule is drawn (chapter 27). -/
namespace Go.Proofs.YtalgdeieejpelaaGreat
open Go.RowKit Go.Sort
set_option linter.unusedVariables false
set_option maxRecDepth 100000

def rlGo (code : List Int) : Nat → Int → List Int → St → (List Int × Int) × St
  | 0, a, out, s => ((out, a), s)
  | k + 1, a, out, s => rlGo code k (a + 1 + (nextF code s 4).1) (out ++ [a + 1 + (nextF code s 4).1]) (nextF code s 4).2
def ruleX (code : List Int) (q : (List Int × Int) × St) : List Int × St :=
  if (nextF code q.2 30).1 = 0 then (q.1.1 ++ [q.1.2], (nextF code q.2 30).2)
  else if (nextF code q.2 30).1 = 1 then ([13 * (nextF code (nextF code q.2 30).2 2).1], (nextF code (nextF code q.2 30).2 2).2)
  else if (nextF code q.2 30).1 = 2 then ([1, 2, 3, 4], (nextF code q.2 30).2)
  else (q.1.1, (nextF code q.2 30).2)
def ruleD (code : List Int) (s : St) : List Int × St := ruleX code (rlGo code (nextF code s 4).1.toNat 0 [] (nextF code s 4).2)
theorem own_lits (w : World) (base : Nat) (xs : List Int) (hb : base ≤ w.heap.size) (hn : xs.length ≤ 100) :
    (w.alloc (.cells (ints xs).toArray 2)).ownsRow base 2 1 (.slice (some ⟨w.heap.size, 0, none⟩) xs.length xs.length) xs.length (ints xs) := by
  have := World.ownsRow_lit (base := base) (e := 2) (size := 1) w (ints xs).toArray xs.length hb (by unfold maxLen; omega) (by simp [ints_length])
  simpa using this
set_option maxHeartbeats 4000000 in
theorem ruleD_any (w0 : World) (A : Option Addr) (n cap : Nat) (code : List Int) (hcode : Code0 w0 A n code) (g : Nat) (s : St) (w : World) (h : Src w0 w A n cap code g s) :
    Calls Tryz.prog 48 #[.pointer (some ⟨g, 0, none⟩)] w (RetO w0 w A n cap code g (ruleD code s)) := by
  have hgl := h.lt
  have HNX := Lib.hid (fun s k hk w' h => next_any w0 A n cap code hcode g s k hk w' h)
  have hex : ruleX code (rlGo code (nextF code s 4).1.toNat 0 [] (nextF code s 4).2) = ruleD code s := rfl
  generalize ruleD code s = X at *
  have q0 := nextF_bd code s 4 (by omega)
  have H0 := Lib.hid (HNX.out s 4 (by omega))
  generalize nextF code s 4 = r0 at *
  obtain ⟨v0, s0⟩ := r0
  simp only at hex q0
  obtain ⟨K, rfl⟩ := int_up v0 q0.1
  rw [Int.toNat_natCast] at hex
  have hK : K ≤ 3 := by omega
  generalize hq : rlGo code K 0 [] s0 = q at *
  have HQ := Lib.hid hq
  have HEX := Lib.hid hex
  have HS := Lib.hid h
  obtain ⟨wb, hwb⟩ : ∃ wb, wb = w.alloc (.cells #[] 2) := ⟨_, rfl⟩
  have HSB := Lib.hid (show Src w0 wb A n cap code g s from by rw [hwb]; exact h.alloc _)
  have HOB := Lib.hid (show wb.ownsRow w.heap.size 2 1 (.slice (some ⟨w.heap.size, 0, none⟩) 0 0) 0 (ints []) from by rw [hwb]; exact own_empty _ _ _ (Nat.le_refl _))
  have HCB := Lib.hid (show Chg g (g + 1) w wb from by rw [hwb]; exact chg_alloc (Chg.refl _ _ _) _)
  have HWB := Lib.hid hwb
  clear hq hex h hwb q0
  go_enter Tryz.func48, Tryz.ntmps48
  go_wp2_with fail
  rw [← HWB.out]
  clear HWB
  go_wp2_with fail
  refine (H0.out _ HSB.out).mono ?_
  rintro e w1 ⟨rfl, hs1, hc1⟩
  have HO1 := Lib.hid (own_ne_chg HOB.out hc1 (by omega))
  have HS1 := Lib.hid hs1
  have HC1 := Lib.hid (HCB.out.trans hc1)
  clear hs1 hc1 HOB HCB HSB H0
  go_wp2_with fail
  go_loopw [3, 4, 5] (fun v a i wr => ∃ (k m c' : Nat) (A' : Option Addr) (out : List Int) (z : Int) (s' : St), k + m = K ∧ i = .int .i64 k ∧ a = .int .i64 z ∧ v = .slice A' m c' ∧ 0 ≤ z ∧ z ≤ 4 * (m : Int) ∧ Hid (wr.ownsRow w.heap.size 2 1 (.slice A' m c') m (ints out)) ∧ Hid (rlGo code k z out s' = q) ∧ Hid (Src w0 wr A n cap code g s') ∧ Hid (Chg g (g + 1) w wr)) (fun _ _ i _ => (intOf i).toNat)
  case atStart => exact ⟨K, 0, _, _, [], 0, s0, rfl, rfl, rfl, rfl, by omega, by omega, HO1, HQ, HS1, HC1⟩
  case round =>
    clear HO1 HQ HS1 HC1
    obtain ⟨k, m, c', A', out, z, s', hkm, rfl, rfl, rfl, hz0, hz1, O, HR, HSS, C⟩ := hrel
    have hsz := C.out.size
    by_cases hk : k = 0
    · subst hk
      obtain rfl : m = K := by omega
      have hqe := HR.out
      rw [rlGo] at hqe
      subst hqe
      have ex := HEX.out
      have hkd : decide ((0 : Int) > ((0 : Nat) : Int)) = false := by simp
      have hkd2 : decide (((0 : Nat) : Int) > 0) = false := by simp
      have H30 := Lib.hid (HNX.out s' 30 (by omega) wr HSS.out)
      unfold ruleX at ex
      simp only at ex
      generalize nextF code s' 30 = r30 at *
      obtain ⟨e30, s30⟩ := r30
      simp only at ex
      have HEX2 := Lib.hid ex
      clear ex HEX HR
      by_cases h0 : e30 = 0
      · have d0 : (e30 == 0) = true := by simp [h0]
        have ex := HEX2.out
        rw [if_pos h0] at ex
        have HEX3 := Lib.hid ex
        clear ex HEX2 h0
        go_wp2_with fail
        refine H30.out.mono ?_
        rintro e w4 ⟨rfl, hs4, hc4⟩
        have O4 := Lib.hid (own_ne_chg O.out hc4 (by omega))
        have HS4 := Lib.hid hs4
        have HC4 := Lib.hid (C.out.trans hc4)
        have hsz4 := hc4.size
        clear hs4 hc4 O C HSS H30
        have tok1 : True := trivial
        go_wp2_with (first | (at_builtin; have _t := tok1; refine app_i64 _ rfl _ _ rfl rfl (O4.out.alloc _) rfl (cell_new1 _ _ _) (by omega) (by simp; omega) ?_; intro A5 c5 w5 ho5 hgr5; clear tok1))
        have hrow : ∀ q, (Value.slice A' m c').ownBlock = some q → w.heap.size ≤ q := fun q e => (O4.out.lt q e).1
        have S5 := Lib.hid ((HS4.out.alloc (.cells #[.int .i64 z] 2)).grown hgr5 (fun q e => by have := hrow q e; omega))
        have T5 := Lib.hid (chg_grown (chg_alloc HC4.out (.cells #[.int .i64 z] 2)) hgr5 (fun q e => by have := hrow q e; omega))
        have O5 := Lib.hid ho5
        clear ho5 hgr5 hrow
        go_wp2_with fail
        go_ret
        rw [← HEX3.out]
        exact ⟨_, _, _, rfl, O5.out, S5.out, T5.out⟩
      · have d0 : (e30 == 0) = false := by simp [h0]
        by_cases h1 : e30 = 1
        · have d1 : (e30 == 1) = true := by simp [h1]
          have ex := HEX2.out
          rw [if_neg h0, if_pos h1] at ex
          have H2 := Lib.hid (HNX.out s30 2 (by omega))
          have hb2 := nextF_bd code s30 2 (by omega)
          generalize nextF code s30 2 = r2 at *
          obtain ⟨e2, s2⟩ := r2
          simp only at ex hb2
          have HEX3 := Lib.hid ex
          have hw1 : IntKind.i64.wrap (13 * e2) = 13 * e2 := IntWalk.i64_in _ (by omega)
          clear ex HEX2 h0 h1
          go_wp2_with fail
          refine H30.out.mono ?_
          rintro e w4 ⟨rfl, hs4, hc4⟩
          have HS4 := Lib.hid hs4
          have HC4 := Lib.hid (C.out.trans hc4)
          clear hs4 hc4 O C HSS H30
          go_wp2_with fail
          refine (H2.out _ HS4.out).mono ?_
          rintro e w5 ⟨rfl, hs5, hc5⟩
          have HS5 := Lib.hid hs5
          have HC5 := Lib.hid (HC4.out.trans hc5)
          clear hs5 hc5 HS4 HC4 H2
          go_wp2_with fail
          go_ret
          rw [← HEX3.out]
          have := HC5.out.size
          exact ⟨_, 1, 1, rfl, own_lits w5 w.heap.size [13 * e2] (by omega) (by simp), HS5.out.alloc _, chg_alloc HC5.out _⟩
        · have d1 : (e30 == 1) = false := by simp [h1]
          by_cases h2 : e30 = 2
          · have d2 : (e30 == 2) = true := by simp [h2]
            have ex := HEX2.out
            rw [if_neg h0, if_neg h1, if_pos h2] at ex
            have HEX3 := Lib.hid ex
            clear ex HEX2 h0 h1 h2
            go_wp2_with fail
            refine H30.out.mono ?_
            rintro e w4 ⟨rfl, hs4, hc4⟩
            have HS4 := Lib.hid hs4
            have HC4 := Lib.hid (C.out.trans hc4)
            clear hs4 hc4 O C HSS H30
            go_wp2_with fail
            go_ret
            rw [← HEX3.out]
            have := HC4.out.size
            exact ⟨_, 4, 4, rfl, own_lits w4 w.heap.size [1, 2, 3, 4] (by omega) (by simp), HS4.out.alloc _, chg_alloc HC4.out _⟩
          · have d2 : (e30 == 2) = false := by simp [h2]
            have ex := HEX2.out
            rw [if_neg h0, if_neg h1, if_neg h2] at ex
            have HEX3 := Lib.hid ex
            clear ex HEX2 h0 h1 h2
            go_wp2_with fail
            refine H30.out.mono ?_
            rintro e w4 ⟨rfl, hs4, hc4⟩
            have O4 := Lib.hid (own_ne_chg O.out hc4 (by omega))
            have HS4 := Lib.hid hs4
            have HC4 := Lib.hid (C.out.trans hc4)
            clear hs4 hc4 O C HSS H30
            go_wp2_with fail
            go_ret
            rw [← HEX3.out]
            exact ⟨_, _, _, rfl, O4.out, HS4.out, HC4.out⟩
    · obtain ⟨k', rfl⟩ : ∃ k', k = k' + 1 := ⟨k - 1, by omega⟩
      have hr := HR.out
      rw [rlGo] at hr
      have hkd : decide ((((k' + 1 : Nat) : Int)) > 0) = true := decide_eq_true (by omega)
      have hkd2 : decide ((0 : Int) < ((k' + 1 : Nat) : Int)) = true := decide_eq_true (by omega)
      have hkd3 : decide ((0 : Int) < (k' : Int) + 1) = true := decide_eq_true (by omega)
      have H4 := Lib.hid (HNX.out s' 4 (by omega) wr HSS.out)
      have hb4 := nextF_bd code s' 4 (by omega)
      generalize nextF code s' 4 = r4 at *
      obtain ⟨e4, s4⟩ := r4
      simp only at hr hb4
      have HR2 := Lib.hid hr
      have hw1 : IntKind.i64.wrap (z + 1) = z + 1 := IntWalk.i64_in _ (by omega)
      have hw2 : IntKind.i64.wrap (z + 1 + e4) = z + 1 + e4 := IntWalk.i64_in _ (by omega)
      clear hr HR hk HEX
      go_wp2_with fail
      refine H4.out.mono ?_
      rintro e w4 ⟨rfl, hs4, hc4⟩
      have O4 := Lib.hid (own_ne_chg O.out hc4 (by omega))
      have HS4 := Lib.hid hs4
      have HC4 := Lib.hid (C.out.trans hc4)
      have hsz4 := hc4.size
      clear hs4 hc4 O C HSS H4
      have tok1 : True := trivial
      go_wp2_with (first | (at_builtin; have _t := tok1; refine app_i64 _ rfl _ _ rfl rfl (O4.out.alloc _) rfl (cell_new1 _ _ _) (by omega) (by simp; omega) ?_; intro A5 c5 w5 ho5 hgr5; clear tok1))
      have hrow : ∀ q, (Value.slice A' m c').ownBlock = some q → w.heap.size ≤ q := fun q e => (O4.out.lt q e).1
      have S5 := Lib.hid ((HS4.out.alloc (.cells #[.int .i64 (z + 1 + e4)] 2)).grown hgr5 (fun q e => by have := hrow q e; omega))
      have T5 := Lib.hid (chg_grown (chg_alloc HC4.out (.cells #[.int .i64 (z + 1 + e4)] 2)) hgr5 (fun q e => by have := hrow q e; omega))
      have O5 := Lib.hid ho5
      clear ho5 hgr5 hrow
      go_wp2_with fail
      go_roundw
      case rel => exact ⟨k', m + 1, c5, A5, _, z + 1 + e4, s4, by omega, by go_num, rfl, rfl, by omega, by omega, O5, HR2, S5, T5⟩
      case measure => simp [intOf] <;> omega
end Go.Proofs.YtalgdeieejpelaaGreat

/- Walks: a boat's rank of the reference, all ranks of the program (chapter 28). -/
namespace Go.Proofs.YtalgdeieejpelaaGreat
open Go.RowKit Go.Sort
set_option linter.unusedVariables false
set_option maxRecDepth 100000

/-- How many of the first j boats are ahead of a boat. -/
def beatN (t : Tb) (rule : List Int) (j : Nat) (b : Int) : Int := ((idx j).countP (fun k => ltT t rule k b) : Nat)
theorem beat_zero (t : Tb) (rule : List Int) (b : Int) : beatN t rule 0 b = 0 := rfl
theorem beat_succ (t : Tb) (rule : List Int) (j : Nat) (b : Int) : beatN t rule (j + 1) b = beatN t rule j b + (if (cmpT t rule (j : Int) b).1 < 0 then 1 else 0) := by
  unfold beatN
  have e : idx (j + 1) = idx j ++ [(j : Int)] := by unfold idx; rw [List.range_succ, List.map_append]; rfl
  rw [e, List.countP_append]
  by_cases hc : (cmpT t rule (j : Int) b).1 < 0
  · have hl : ltT t rule (j : Int) b = true := by unfold ltT; simpa using hc
    rw [if_pos hc, List.countP_cons, List.countP_nil, if_pos hl]
    omega
  · have hl : ¬ ltT t rule (j : Int) b = true := by unfold ltT; simpa using hc
    rw [if_neg hc, List.countP_cons, List.countP_nil, if_neg hl]
    omega
theorem beat_bd (t : Tb) (rule : List Int) (j : Nat) (b : Int) : 0 ≤ beatN t rule j b ∧ beatN t rule j b ≤ j := by
  unfold beatN
  have h := List.countP_le_length (p := fun k => ltT t rule k b) (l := idx j)
  rw [idx_length] at h
  omega
theorem rank_beat {t : Tb} {N : Nat} (h : t.boats = (N : Int)) (rule : List Int) (b : Int) : rankT t rule b = 1 + beatN t rule N b := by
  unfold rankT rankL beatN
  rw [h, Int.toNat_natCast]
  omega
/-- The ranks of all boats. -/
def rkL (t : Tb) (rule : List Int) : List Int := (idx t.boats.toNat).map (rankT t rule)
theorem rkL_get {t : Tb} {N : Nat} (h : t.boats = (N : Int)) (rule : List Int) {j : Nat} (hj : j < N) : (rkL t rule)[j]? = some (rankT t rule (j : Int)) := by
  unfold rkL
  rw [h, Int.toNat_natCast, List.getElem?_map, idx_get hj]
  rfl
theorem rkL_len {t : Tb} {N : Nat} (h : t.boats = (N : Int)) (rule : List Int) : (rkL t rule).length = N := by
  unfold rkL
  rw [List.length_map, idx_length, h, Int.toNat_natCast]
set_option maxHeartbeats 8000000 in
theorem specRank_any (P : Option Addr) (n c : Nat) (C : Option Addr) (m d : Nat) (t : Tb) (ok : TabOk t) (A : Option Addr) (l cl : Nat) (rule : List Int) (hrule : rule.length ≤ 3) (bt : Nat) (hbt : (bt : Int) < t.boats) (w : World) (h : RdT w P n C m t) (hl : Rd w 1 A l (ints rule)) :
    Calls Tryz.prog 67 #[.agg #[.int .i64 t.boats, .slice P n c, .slice C m d], .slice A l cl, .int .i64 bt] w fun e w' => e = .returned (.int .i64 (rankT t rule bt)) ∧ Below w.heap.size w w' := by
  obtain rfl : n = m := by have := h.cds.len; have := h.pts.len; have := ok.same; omega
  obtain ⟨N, hN⟩ : ∃ N : Nat, t.boats = (N : Int) := ⟨t.boats.toNat, by have := ok.b1; omega⟩
  have hN16 : N ≤ 16 := by have := ok.b2; omega
  have HR := Lib.hid (rank_beat hN rule (bt : Int))
  have HCM := Lib.hid (fun (k : Nat) (hk : (k : Int) < t.boats) w' (hq : Below w.heap.size w w') => specCmp_any P n c C n d t ok A l cl rule hrule k bt hk hbt w' (h.below hq) (hl.below hq))
  rw [hN] at HCM
  rw [hN]
  obtain ⟨wa, hwa, XT, hba, hsa⟩ := one_box w #[.int .i64 (N : Int), .slice P n c, .slice C n d] 53
  have HWA := Lib.hid hwa
  have HBA := Lib.hid hba
  have HXT := Lib.hid XT
  clear hwa XT hba h hl ok hbt hrule hN
  go_enter Tryz.func67, Tryz.ntmps67
  go_wp2_with fail
  rw [← HWA.out]
  clear HWA
  go_wp2_with fail
  go_loopw [7, 8] (fun v i wr => ∃ (k : Nat) (r : Int), k ≤ N ∧ i = .int .i64 k ∧ v = .int .i64 r ∧ r = 1 + beatN t rule k bt ∧ Hid (Below wa.heap.size wa wr)) (fun _ i _ => N - (intOf i).toNat)
  case atStart => exact ⟨0, 1, Nat.zero_le _, rfl, rfl, by rw [beat_zero]; rfl, Lib.hid (Below.refl _ _)⟩
  case round =>
    obtain ⟨k, r, hk, rfl, rfl, hr, HB⟩ := hrel
    have hbd := beat_bd t rule k bt
    have hr0 : 0 ≤ r := by omega
    have hr1 : r ≤ 20 := by omega
    have HRR := Lib.hid hr
    have FX := (HXT.out.below HB.out).f3
    clear hbd hr
    by_cases hlt : k < N
    · have hkd : decide ((k : Int) < (N : Int)) = true := by simpa using hlt
      have HC := Lib.hid (HCM.out k (by omega) wr (HBA.out.trans (HB.out.mono HBA.out.size)))
      have HS := Lib.hid (beat_succ t rule k bt)
      generalize cmpT t rule (k : Int) (bt : Int) = q at *
      by_cases hq : q.1 < 0
      · have hqd : decide (q.1 < 0) = true := by simpa using hq
        have hs := HS.out
        rw [if_pos hq] at hs
        have HS2 := Lib.hid (show r + 1 = 1 + beatN t rule (k + 1) bt from by rw [hs, HRR.out]; omega)
        clear hs HS hq HRR
        go_wp2_with fail
        refine HC.out.mono ?_
        rintro e w3 ⟨rfl, hb3⟩
        have HB3 := Lib.hid (HB.out.trans (hb3.mono HB.out.size))
        clear hb3 HB FX HC
        go_wp2_with fail
        go_roundw
        case rel => exact ⟨k + 1, r + 1, by omega, by go_num, by go_num, HS2.out, HB3⟩
        case measure => simp [intOf] <;> omega
      · have hqd : decide (q.1 < 0) = false := by simpa using hq
        have hs := HS.out
        rw [if_neg hq] at hs
        have HS2 := Lib.hid (show r = 1 + beatN t rule (k + 1) bt from by rw [hs, HRR.out]; omega)
        clear hs HS hq HRR
        go_wp2_with fail
        refine HC.out.mono ?_
        rintro e w3 ⟨rfl, hb3⟩
        have HB3 := Lib.hid (HB.out.trans (hb3.mono HB.out.size))
        clear hb3 HB FX HC
        go_wp2_with fail
        go_roundw
        case rel => exact ⟨k + 1, r, by omega, by go_num, rfl, HS2.out, HB3⟩
        case measure => simp [intOf] <;> omega
    · obtain rfl : k = N := by omega
      have hkd : decide ((k : Int) < (k : Int)) = false := by simp
      have HB3 := Lib.hid (HBA.out.trans (HB.out.mono HBA.out.size))
      clear HCM
      go_wp2_with fail
      go_ret
      exact ⟨by rw [HR.out, ← HRR.out]; rfl, HB3.out⟩
end Go.Proofs.YtalgdeieejpelaaGreat

/- Walks: the standing, both sides (chapter 28). -/
namespace Go.Proofs.YtalgdeieejpelaaGreat
open Go.RowKit Go.Sort
set_option linter.unusedVariables false
set_option maxRecDepth 100000

set_option maxHeartbeats 2000000 in
theorem standClo_any (P : Option Addr) (n c : Nat) (C : Option Addr) (m d : Nat) (t : Tb) (ok : TabOk t) (A : Option Addr) (l cl : Nat) (rule : List Int) (hrule : rule.length ≤ 3) (b1 b2 : Nat) (w : World) (h : RdT w P n C m t) (hl : Rd w 1 A l (ints rule)) (hx1 : Box w b1 #[.int .i64 t.boats, .slice P n c, .slice C m d] 53) (hx2 : Box w b2 #[.slice A l cl] 25) (i j : Int) (hi0 : 0 ≤ i) (hi1 : i < t.boats) (hj0 : 0 ≤ j) (hj1 : j < t.boats) :
    Calls Tryz.prog 78 #[.int .i64 i, .int .i64 j, .pointer (some ⟨b1, 0, none⟩), .pointer (some ⟨b2, 0, none⟩)] w fun e w' => e = .returned (.int .i64 (cmpT t rule i j).1) ∧ Below w.heap.size w w' := by
  obtain ⟨a, rfl⟩ := int_up i hi0
  obtain ⟨b, rfl⟩ := int_up j hj0
  have HC := Lib.hid (fun w' (hb : w = w') => (implCmp_any P n c C m d t ok A l cl rule hrule a b hi1 hj1 w' (hb ▸ h) (hb ▸ hl)))
  have HC := Lib.hid (HC.out w rfl)
  have F1 := hx1.f3
  have F2 := hx2.cell (i := 0) rfl
  generalize cmpT t rule (a : Int) (b : Int) = q at *
  clear h hl ok hrule hx1 hx2
  go_enter Tryz.func78, Tryz.ntmps78
  go_wp2_with fail
  refine HC.out.mono ?_
  rintro e w3 ⟨rfl, hb3⟩
  have HB3 := Lib.hid hb3
  clear hb3 HC F1 F2
  go_wp2_with fail
  go_ret
  exact ⟨rfl, HB3.out⟩
set_option maxHeartbeats 2000000 in
theorem implStanding_any (P : Option Addr) (n c : Nat) (C : Option Addr) (m d : Nat) (t : Tb) (ok : TabOk t) (A : Option Addr) (l cl : Nat) (rule : List Int) (hrule : rule.length ≤ 3) (w : World) (h : RdT w P n C m t) (hl : Rd w 1 A l (ints rule)) :
    Calls Tryz.prog 42 #[.agg #[.int .i64 t.boats, .slice P n c, .slice C m d], .slice A l cl] w (RetCopy w (standT t rule)) := by
  obtain ⟨N, hN⟩ : ∃ N : Nat, t.boats = (N : Int) := ⟨t.boats.toNat, by have := ok.b1; omega⟩
  have hN16 : N ≤ 16 := by have := ok.b2; omega
  obtain ⟨w1, hw1, X0, X1, hb1, hs1⟩ := two_boxes w #[.int .i64 t.boats, .slice P n c, .slice C m d] #[.slice A l cl] 53 25
  have HW1 := Lib.hid hw1
  have HS := Lib.hid (sortedIndicesS_any N hN16 (some ⟨w.heap.size, 0, none⟩) (some ⟨w.heap.size + 1, 0, none⟩) (fun a b => (cmpT t rule a b).1) (ltT t rule) (fun a b => rfl) w1 (fun W hW a b ha0 ha1 hb0 hb1' =>
    standClo_any P n c C m d t ok A l cl rule hrule w.heap.size (w.heap.size + 1) W (h.below (hb1.trans (hW.mono hb1.size))) (hl.below (hb1.trans (hW.mono hb1.size))) (X0.below hW) (X1.below hW) a b ha0 (by omega) hb0 (by omega)))
  have HD := Lib.hid (show standT t rule = insSort (ltT t rule) (idx N) from by unfold standT; rw [hN, Int.toNat_natCast])
  have HB1 := Lib.hid hb1
  have F0 := X0.f3
  rw [HD.out]
  rw [hN] at F0 X0 hw1 ⊢
  have HW1 := Lib.hid hw1
  generalize insSort (ltT t rule) (idx N) = D at *
  clear hw1 X0 X1 h hl ok hrule hN hb1 HD
  go_enter Tryz.func42, Tryz.ntmps42
  go_wp2_with fail
  rw [← HW1.out]
  clear HW1
  go_wp2_with fail
  refine HS.out.mono ?_
  rintro e w2 ⟨A2, n2, c2, rfl, ho2, hn2, hb2⟩
  have HO2 := Lib.hid (own_base ho2 HB1.out.size)
  have HB2 := Lib.hid (HB1.out.trans (hb2.mono HB1.out.size))
  clear ho2 hb2 F0
  go_wp2_with fail
  go_ret
  exact ⟨A2, n2, c2, rfl, HO2.out, hn2, HB2.out⟩

theorem idx_drop {N k : Nat} (h : k < N) : (idx N).drop k = (k : Int) :: (idx N).drop (k + 1) := by
  rw [List.drop_eq_getElem_cons (by rw [idx_length]; exact h)]
  congr 1
  unfold idx
  simp
/-- The boats of one rank, from boat k on. -/
def atRk (t : Tb) (rule : List Int) (N k r : Nat) : List Int := ((idx N).drop k).filter fun x => decide (rankT t rule x = (r : Int))
/-- What comes at rank r and behind it. -/
def fromRk (t : Tb) (rule : List Int) (N r : Nat) : List Int := (List.range' r (N + 1 - r)).flatMap fun q => atRk t rule N 0 q
theorem atRk_step {t : Tb} {rule : List Int} {N k r : Nat} (h : k < N) : atRk t rule N k r = if rankT t rule (k : Int) = (r : Int) then (k : Int) :: atRk t rule N (k + 1) r else atRk t rule N (k + 1) r := by
  unfold atRk
  rw [idx_drop h, List.filter_cons]
  by_cases e : rankT t rule (k : Int) = (r : Int)
  · rw [if_pos (by simpa using e), if_pos e]
  · rw [if_neg (by simpa using e), if_neg e]
theorem atRk_end {t : Tb} {rule : List Int} {N r : Nat} : atRk t rule N N r = [] := by
  unfold atRk
  rw [List.drop_eq_nil_of_le (by rw [idx_length]; exact Nat.le_refl _)]
  rfl
theorem fromRk_step {t : Tb} {rule : List Int} {N r : Nat} (h : r ≤ N) : fromRk t rule N r = atRk t rule N 0 r ++ fromRk t rule N (r + 1) := by
  unfold fromRk
  rw [show N + 1 - r = (N + 1 - (r + 1)) + 1 by omega, List.range'_succ, List.flatMap_cons]
theorem fromRk_end {t : Tb} {rule : List Int} {N : Nat} : fromRk t rule N (N + 1) = [] := by
  unfold fromRk
  rw [Nat.sub_self]
  rfl
theorem stand_from {t : Tb} (ok : TabOk t) (rule : List Int) {N : Nat} (hN : t.boats = (N : Int)) : standT t rule = fromRk t rule N 1 := by
  rw [standT_eq ok, hN, Int.toNat_natCast]
  unfold standL fromRk
  rw [show N + 1 - 1 = N by omega]
  congr 1
  funext q
  unfold atRk
  rw [List.drop_zero]
  congr 1
  funext x
  unfold rankT
  rw [hN, Int.toNat_natCast]
  have e : (((rankL (ltT t rule) N x : Nat) : Int) = (q : Int)) ↔ (rankL (ltT t rule) N x = q) := by omega
  simp only [e]
set_option maxHeartbeats 8000000 in
theorem specStanding_any (P : Option Addr) (n c : Nat) (C : Option Addr) (m d : Nat) (t : Tb) (ok : TabOk t) (A : Option Addr) (l cl : Nat) (rule : List Int) (hrule : rule.length ≤ 3) (w : World) (h : RdT w P n C m t) (hl : Rd w 1 A l (ints rule)) :
    Calls Tryz.prog 37 #[.agg #[.int .i64 t.boats, .slice P n c, .slice C m d], .slice A l cl] w (RetCopy w (standT t rule)) := by
  obtain rfl : n = m := by have := h.cds.len; have := h.pts.len; have := ok.same; omega
  obtain ⟨N, hN⟩ : ∃ N : Nat, t.boats = (N : Int) := ⟨t.boats.toNat, by have := ok.b1; omega⟩
  have hN16 : N ≤ 16 := by have := ok.b2; omega
  have HRK := Lib.hid (fun (k : Nat) (hk : (k : Int) < t.boats) w' (hb : Below w.heap.size w w') => specRank_any P n c C n d t ok A l cl rule hrule k hk w' (h.below hb) (hl.below hb))
  have hdl := standT_len t rule
  rw [hN, Int.toNat_natCast] at hdl
  obtain ⟨D, hD⟩ : ∃ D, D = standT t rule := ⟨_, rfl⟩
  have HD0 := Lib.hid (show D = [] ++ fromRk t rule N 1 from by rw [hD, stand_from ok rule hN]; rfl)
  rw [← hD] at hdl ⊢
  have HDL := Lib.hid hdl
  rw [hN] at HRK ⊢
  obtain ⟨wa, hwa, XT, hba, hsa⟩ := one_box w #[.int .i64 (N : Int), .slice P n c, .slice C n d] 53
  have HWA := Lib.hid hwa
  obtain ⟨wb, hwb⟩ : ∃ wb, wb = wa.alloc (.cells #[] 2) := ⟨_, rfl⟩
  have hoe := own_empty wa wa.heap.size 2 (Nat.le_refl _)
  rw [← hwb, hsa] at hoe
  have hbb : Below wa.heap.size wa wb := by rw [hwb]; exact (Below.refl _ _).alloc (Nat.le_refl _) _
  have hsb : wb.heap.size = wa.heap.size + 1 := by rw [hwb]; simp
  have HWB := Lib.hid hwb
  have HBB := Lib.hid (hba.trans (hbb.mono hba.size))
  have HXT := Lib.hid (XT.below hbb)
  have HOE := Lib.hid hoe
  have hsz : w.heap.size + 1 + 1 ≤ wb.heap.size := by omega
  have HC0 := Lib.hid (Chg.refl (w.heap.size + 1) (w.heap.size + 1 + 1) wb)
  clear hwa XT hba hwb hbb hoe hsa hsb h hl ok hrule hN hdl hD
  go_enter Tryz.func37, Tryz.ntmps37
  go_wp2_with fail
  rw [← HWA.out]
  clear HWA
  go_wp2_with fail
  rw [← HWB.out]
  clear HWB
  go_wp2_with fail
  go_loopw [5, 6] (fun v i wr => ∃ (r g' c' : Nat) (out : List Int), 1 ≤ r ∧ r ≤ N + 1 ∧ i = .int .i64 r ∧ v = .slice (some ⟨g', 0, none⟩) out.length c' ∧ (g' = w.heap.size + 1 ∨ wb.heap.size ≤ g') ∧ Hid (D = out ++ fromRk t rule N r) ∧ Hid (wr.ownsRow (w.heap.size + 1) 2 1 (.slice (some ⟨g', 0, none⟩) out.length c') out.length (ints out)) ∧ Hid (Chg (w.heap.size + 1) (w.heap.size + 1 + 1) wb wr)) (fun _ i _ => N + 1 - (intOf i).toNat)
  case atStart => exact ⟨1, _, 0, [], Nat.le_refl _, by omega, rfl, rfl, .inl rfl, HD0, HOE, HC0⟩
  case round =>
    clear HOE HC0 HD0
    obtain ⟨r, g', c', out, hr1, hrN, rfl, rfl, hg', HI, HO, HC⟩ := hrel
    obtain ⟨wo, hwo⟩ : ∃ wo : World, wo = wr := ⟨_, rfl⟩
    subst hwo
    have HG := Lib.hid hg'
    clear hg'
    have FX := (HXT.out.chg HC.out (.inl (by omega))).f3
    by_cases hrr : r ≤ N
    · have hrd : decide ((r : Int) ≤ (N : Int)) = true := by simpa using hrr
      have hi := HI.out
      rw [fromRk_step hrr] at hi
      have HI0 := Lib.hid (show D = out ++ (atRk t rule N 0 r ++ fromRk t rule N (r + 1)) from hi)
      clear hi HI
      go_wp2_with fail
      clear FX hrd
      go_loopw [5, 7] (fun v i wr => ∃ (k g' c' : Nat) (out : List Int), k ≤ N ∧ i = .int .i64 k ∧ v = .slice (some ⟨g', 0, none⟩) out.length c' ∧ (g' = w.heap.size + 1 ∨ wb.heap.size ≤ g') ∧ Hid (D = out ++ (atRk t rule N k r ++ fromRk t rule N (r + 1))) ∧ Hid (wr.ownsRow (w.heap.size + 1) 2 1 (.slice (some ⟨g', 0, none⟩) out.length c') out.length (ints out)) ∧ Hid (Chg (w.heap.size + 1) (w.heap.size + 1 + 1) wb wr)) (fun _ i _ => N - (intOf i).toNat)
      case atStart => exact ⟨0, g', c', out, Nat.zero_le _, rfl, rfl, HG.out, HI0, HO, HC⟩
      case round =>
        clear HI0 HO HC HG
        obtain ⟨k, g', c', out, hk, rfl, rfl, hg', HI, HO, HC⟩ := hrel
        obtain ⟨wp, hwp⟩ : ∃ wp : World, wp = wr := ⟨_, rfl⟩
        subst hwp
        have HG := Lib.hid hg'
        clear hg'
        have hout : out.length ≤ 16 := by have := HDL.out; have := congrArg List.length HI.out; rw [List.length_append] at this; omega
        have FX := (HXT.out.chg HC.out (.inl (by omega))).f3
        by_cases hlt : k < N
        · have hkd : decide ((k : Int) < (N : Int)) = true := by simpa using hlt
          have HCL := Lib.hid (HRK.out k (by omega) wp (below_chg HBB.out HC.out (by omega) (by omega)))
          have hi := HI.out
          rw [atRk_step hlt] at hi
          have HI1 := Lib.hid hi
          clear hi HI
          generalize rankT t rule (k : Int) = q at *
          by_cases hq : q = (r : Int)
          · have hqd : (q == (r : Int)) = true := by simp [hq]
            have hI2 := HI1.out
            rw [if_pos hq] at hI2
            have HI2 := Lib.hid (show D = (out ++ [(k : Int)]) ++ (atRk t rule N (k + 1) r ++ fromRk t rule N (r + 1)) from by rw [hI2]; simp)
            clear hI2 HI1 hq
            go_wp2_with fail
            refine HCL.out.mono ?_
            rintro e w3 ⟨rfl, hb3⟩
            have HO3 := Lib.hid (own_below HO.out hb3)
            have HC3 := Lib.hid (chg_bel HC.out hb3)
            have hs3 := hb3.size
            have hcs := HC3.out.size
            clear hb3 HO HC HCL FX
            go_wp2_with (at_builtin; refine app_num (y := (k : Int)) _ rfl _ _ rfl rfl (own_below HO3.out ((Below.refl _ _).alloc (Nat.le_refl _) _)) rfl (heap_alloc_new _ _) (by omega) ?cBb ?_; rotate_left; intro g9 c9 w9 hown9 hgr9 hor9 hlt9)
            · have HC9 := Lib.hid (chg_grow1 (chg_bel HC3.out ((Below.refl _ _).alloc (Nat.le_refl _) _)) hgr9 rfl HG.out)
              have HO9 := Lib.hid (show w9.ownsRow (w.heap.size + 1) 2 1 (.slice (some ⟨g9, 0, none⟩) (out ++ [(k : Int)]).length c9) (out ++ [(k : Int)]).length (ints (out ++ [(k : Int)])) from by rw [List.length_append]; exact hown9)
              have HG9 := Lib.hid (show g9 = w.heap.size + 1 ∨ wb.heap.size ≤ g9 from by
                rcases hor9 with e | e
                · have e2 : g' = g9 := by simpa [Value.ownBlock] using e
                  rw [← e2]; exact HG.out
                · rw [e]
                  have h1 := HC3.out.size
                  simp
                  omega)
              clear hown9 hgr9 hor9
              go_roundw
              case rel => exact ⟨k + 1, g9, c9, out ++ [(k : Int)], by omega, by go_num, by rw [List.length_append]; rfl, HG9.out, HI2, HO9, HC9⟩
              case measure => simp [intOf] <;> omega
            · first | omega | (simp; omega)
          · have hqd : (q == (r : Int)) = false := by simp [hq]
            have hI2 := HI1.out
            rw [if_neg hq] at hI2
            have HI2 := Lib.hid hI2
            clear hI2 HI1 hq
            go_wp2_with fail
            refine HCL.out.mono ?_
            rintro e w3 ⟨rfl, hb3⟩
            have HO3 := Lib.hid (own_below HO.out hb3)
            have HC3 := Lib.hid (chg_bel HC.out hb3)
            clear hb3 HO HC HCL FX
            go_wp2_with fail
            go_roundw
            case rel => exact ⟨k + 1, g', c', out, by omega, by go_num, rfl, HG.out, HI2, HO3, HC3⟩
            case measure => simp [intOf] <;> omega
        · obtain rfl : k = N := by omega
          have hkd : decide ((k : Int) < (k : Int)) = false := by simp
          have hi := HI.out
          rw [atRk_end, List.nil_append] at hi
          have HI2 := Lib.hid hi
          clear hi HI HRK
          go_wp2_with fail
          go_roundw
          case rel => exact ⟨r + 1, g', c', out, by omega, by omega, by go_num, rfl, HG.out, HI2, HO, HC⟩
          case measure => simp [intOf] <;> omega
    · obtain rfl : r = N + 1 := by omega
      have hrd : decide ((((N + 1 : Nat) : Int)) ≤ (N : Int)) = false := decide_eq_false (by omega)
      have hrd2 : decide ((N : Int) + 1 ≤ (N : Int)) = false := decide_eq_false (by omega)
      have hi := HI.out
      rw [fromRk_end, List.append_nil] at hi
      have HI2 := Lib.hid hi
      have HO3 := Lib.hid (own_base HO.out (show w.heap.size ≤ w.heap.size + 1 by omega))
      have HBo := Lib.hid (below_chg HBB.out HC.out (by omega) (by omega))
      have hol : out.length ≤ 16 := by have := HDL.out; rw [hi] at this; omega
      clear hi HI HO HRK
      go_wp2_with fail
      go_ret
      exact ⟨_, out.length, c', rfl, by rw [HI2.out]; exact HO3.out, by omega, HBo.out⟩
end Go.Proofs.YtalgdeieejpelaaGreat

/- Plain: an added entry stands in its boat's history; current entries are the last of their histories; corrections. -/
namespace Go.Proofs.YtalgdeieejpelaaGreat
open Go.RowKit
set_option linter.unusedVariables false

theorem currC_hist {xs : List EntryT} {b r : Nat} {x : EntryT} (h : x ∈ currC xs b r) : (histF xs (E.race x) (E.boat x)).getLast? = some x ∧ 0 ≤ E.race x ∧ E.race x < r ∧ 0 ≤ E.boat x ∧ E.boat x < b := by
  have hm := currC_mem h
  unfold currC rowC at h
  simp only [List.mem_flatMap, List.mem_range] at h
  obtain ⟨race, hr, boat, hb, h⟩ := h
  unfold lastL at h
  have hl := Option.mem_toList.1 h
  have hx := hist_mem.1 (List.mem_of_getLast? hl)
  rw [hx.2.1, hx.2.2]
  exact ⟨hl, by omega, by omega, by omega, by omega⟩
theorem currF_hist {b : Int} {xs : List EntryT} {x : EntryT} (h : x ∈ currF b xs) : ∃ m, (histF xs (E.race x) (E.boat x)).length = m + 1 ∧ (histF xs (E.race x) (E.boat x))[m]? = some x := by
  obtain ⟨hl, _⟩ := currC_hist h
  rw [List.getLast?_eq_getElem?] at hl
  have hlt := (List.getElem?_eq_some_iff.1 hl).1
  exact ⟨(histF xs (E.race x) (E.boat x)).length - 1, by omega, hl⟩
theorem curL_ok {b s : Int} {xs : List EntryT} {x : EntryT} (h : x ∈ curL b s xs) : histC b s xs (E.race x) (E.boat x) = 0 ∧ ∃ m, (histL b s xs (E.race x) (E.boat x)).length = m + 1 ∧ (histL b s xs (E.race x) (E.boat x))[m]? = some x := by
  unfold curL at h
  by_cases hg : regB b s xs = true
  · rw [if_pos hg] at h
    obtain ⟨_, h1, h2, h3, h4⟩ := currF_mem h
    have hc : histC b s xs (E.race x) (E.boat x) = 0 := by
      unfold histC
      rw [if_pos hg, if_pos]
      rw [withinB_iff.2 ⟨h1, h2⟩, withinB_iff.2 ⟨h3, by omega⟩]; rfl
    refine ⟨hc, ?_⟩
    unfold histL
    rw [if_pos hc]
    exact currF_hist h
  · rw [if_neg hg] at h; cases h
/-- What an entry added without fault is. -/
theorem add_ok {b s : Int} {xs : List EntryT} {x : EntryT} (h : addC b s xs x = 0) : RegOk b s xs ∧ entB b x = true ∧ revB (E.rev x) = true ∧ hasB xs x = false ∧ xs.length < 400 := by
  unfold addC at h
  by_cases h1 : regB b s xs = true
  · rw [if_pos h1] at h
    by_cases h2 : (entB b x && revB (E.rev x)) = true
    · rw [if_pos h2] at h
      by_cases h3 : hasB xs x = true
      · rw [if_pos h3] at h; cases h
      · rw [if_neg h3] at h
        by_cases h4 : xs.length = 400
        · rw [if_pos h4] at h; cases h
        · have hok := regB_ok h1
          have := hok.len
          rw [Bool.and_eq_true] at h2
          exact ⟨hok, h2.1, h2.2, by simpa using h3, by omega⟩
    · rw [if_neg h2] at h; cases h
  · rw [if_neg h1] at h; cases h
theorem add_reg {b s : Int} {xs : List EntryT} {x : EntryT} (h : addC b s xs x = 0) : RegOk b s (xs ++ [x]) := by
  obtain ⟨hok, h1, h2, h3, h4⟩ := add_ok h
  refine ⟨hok.b1, hok.b2, hok.s0, hok.s1, by simp; omega, fun y hy => ?_, ?_⟩
  · rcases List.mem_append.1 hy with hy | hy
    · exact hok.ent y hy
    · rw [List.mem_singleton.1 hy]
      have := withinB_iff.1 h2
      exact ⟨h1, this.1, this.2⟩
  · rw [List.pairwise_append]
    refine ⟨hok.key, by simp, fun a ha c hc => ?_⟩
    rw [List.mem_singleton.1 hc]
    unfold hasB at h3
    rw [List.any_eq_false] at h3
    simpa using h3 a ha
theorem entB_win {b : Int} {x : EntryT} (h : entB b x = true) : (withinB (E.race x) 0 11 && withinB (E.boat x) 0 (b - 1)) = true := by
  unfold entB at h
  simp only [Bool.and_eq_true] at h
  rw [h.1.1.1, h.1.1.2]; rfl
theorem add_hist {b s : Int} {xs : List EntryT} {x : EntryT} (h : addC b s xs x = 0) : histC b s (xs ++ [x]) (E.race x) (E.boat x) = 0 := by
  unfold histC
  rw [if_pos (add_reg h).regB, if_pos (entB_win (add_ok h).2.1)]
/-- How often an entry stands in a list. -/
def cntE (x : EntryT) : List EntryT → Nat
  | [] => 0
  | y :: r => (if y = x then 1 else 0) + cntE x r
theorem cntE_snoc (x : EntryT) (l : List EntryT) (y : EntryT) : cntE x (l ++ [y]) = cntE x l + (if y = x then 1 else 0) := by
  induction l with
  | nil => simp [cntE]
  | cons z r ih => simp only [List.cons_append, cntE, ih]; omega
theorem cntE_le (x : EntryT) (l : List EntryT) : cntE x l ≤ l.length := by
  induction l with
  | nil => exact Nat.le_refl _
  | cons z r ih => simp only [cntE, List.length_cons]; split <;> omega
theorem cntE_none {x : EntryT} {l : List EntryT} (h : ¬ x ∈ l) : cntE x l = 0 := by
  induction l with
  | nil => rfl
  | cons z r ih =>
    unfold cntE
    rw [if_neg (fun e => h (by rw [e]; exact .head _)), ih (fun hm => h (.tail _ hm))]
theorem cntE_one {x : EntryT} {l : List EntryT} (hs : l.Pairwise fun x y => E.rev x < E.rev y) (h : x ∈ l) : cntE x l = 1 := by
  induction l with
  | nil => cases h
  | cons z r ih =>
    have hz := (List.pairwise_cons.1 hs).1
    unfold cntE
    by_cases e : z = x
    · subst e
      rw [if_pos rfl, cntE_none (fun hm => by have := hz z hm; omega)]
    · rw [if_neg e, ih (List.pairwise_cons.1 hs).2 (by rcases List.mem_cons.1 h with h | h; exact absurd h.symm e; exact h)]
theorem add_once {b s : Int} {xs : List EntryT} {x : EntryT} (h : addC b s xs x = 0) : cntE x (histL b s (xs ++ [x]) (E.race x) (E.boat x)) = 1 := by
  unfold histL
  rw [if_pos (add_hist h)]
  exact cntE_one (hist_sorted (add_reg h).key _ _) (hist_mem.2 ⟨by simp, rfl, rfl⟩)
theorem add_vals {b s : Int} {xs : List EntryT} {x : EntryT} (h : addC b s xs x = 0) : addB b s xs x = b ∧ addS b s xs x = s ∧ addL b s xs x = xs ++ [x] := by
  unfold addB addS addL
  exact ⟨if_pos h, if_pos h, if_pos h⟩
end Go.Proofs.YtalgdeieejpelaaGreat

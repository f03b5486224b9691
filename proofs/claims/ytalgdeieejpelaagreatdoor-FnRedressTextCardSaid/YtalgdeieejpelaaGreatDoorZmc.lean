/- General and plain lemmas, and light walks (merged): Za Zb Ta Wr Tc Zc Td Rs. -/
import Derived.Test.YtalgdeieejpelaaGreatDoorZmb
import Derived.Test.YtalgdeieejpelaaGreatDoorZma
import Derived.IntWalk
import Derived.Deep.QuietTactic
import Derived.BigQuiet
import Derived.Lib.QuietBelow
import Derived.Lib.Hide
import Derived.StillTailTactics
import Derived.Deep.RegionHeld3
/- Plain: discard rules, discards, counted points (chapter 27). -/
namespace Go.Proofs.YtalgdeieejpelaaGreatDoor
open Go.RowKit
set_option linter.unusedVariables false
set_option maxRecDepth 100000

/-! ### Rules -/
def incGo : Int → List Int → Bool
  | _, [] => true
  | p, n :: r => withinB n 1 12 && decide (p < n) && incGo n r
def ruleB (rule : List Int) : Bool := decide (rule.length ≤ 3) && incGo 0 rule
theorem ruleB_len {rule : List Int} (h : ruleB rule = true) : rule.length ≤ 3 := by
  unfold ruleB at h
  rw [Bool.and_eq_true, decide_eq_true_eq] at h
  exact h.1
def leN (races : Int) : List Int → Nat
  | [] => 0
  | n :: r => (if n ≤ races then 1 else 0) + leN races r
theorem leN_le (races : Int) (l : List Int) : leN races l ≤ l.length := by
  induction l with
  | nil => exact Nat.le_refl _
  | cons n r ih => rw [leN, List.length_cons]; split <;> omega
theorem leN_snoc (races : Int) (l : List Int) (n : Int) : leN races (l ++ [n]) = leN races l + (if n ≤ races then 1 else 0) := by
  induction l with
  | nil => simp [leN]
  | cons a r ih => rw [List.cons_append, leN, leN, ih]; omega
/-! ### A stable sort by a comparison is a sort by the comparison and the index -/
def tieL (lt : Int → Int → Bool) (a b : Int) : Bool := lt a b || (!lt b a && decide (a < b))
theorem insRev_congr {lt lt' : Int → Int → Bool} {x : Int} : ∀ {r acc : List Int}, (∀ y ∈ r, lt x y = lt' x y) → insRev lt x r acc = insRev lt' x r acc := by
  intro r
  induction r with
  | nil => intro acc _; rfl
  | cons y r ih =>
    intro acc h
    unfold insRev
    rw [h y List.mem_cons_self, ih (fun z hz => h z (List.mem_cons_of_mem _ hz))]
theorem insIn_app (lt : Int → Int → Bool) (x : Int) (p q : List Int) : insIn lt p.length (p ++ x :: q) = insRev lt x p.reverse [] ++ q := by
  have h1 : ∀ (r acc : List Int), insRev lt x r (acc ++ q) = insRev lt x r acc ++ q := by
    intro r
    induction r with
    | nil => intro acc; rfl
    | cons y r ih' =>
      intro acc
      unfold insRev
      split
      · exact ih' (y :: acc)
      · simp
  have h2 := insIn_rev lt x p.reverse q
  rw [List.length_reverse, List.reverse_reverse] at h2
  rw [h2]
  exact h1 p.reverse []
theorem insOut_congr {lt lt' : Int → Int → Bool} : ∀ (m : Nat) (p q : List Int), q.length = m → (∀ x ∈ q, ∀ y ∈ p, lt x y = lt' x y) → q.Pairwise (fun y x => lt x y = lt' x y) → insOut lt m p.length (p ++ q) = insOut lt' m p.length (p ++ q) := by
  intro m
  induction m with
  | zero => intro p q _ _ _; rfl
  | succ m ih =>
    intro p q hm h hp
    cases q with
    | nil => simp at hm
    | cons x q =>
      unfold insOut
      rw [insIn_app, insIn_app, insRev_congr (fun y hy => h x List.mem_cons_self y (by simpa using hy))]
      have hperm := insRev_perm lt' x p.reverse []
      rw [List.reverse_reverse, List.append_nil] at hperm
      have hlen : (insRev lt' x p.reverse []).length = p.length + 1 := by rw [hperm.length_eq]; simp
      have h3 := ih (insRev lt' x p.reverse []) q (by simpa using hm) (fun z hz y hy => by
        rcases List.mem_cons.1 (hperm.mem_iff.1 hy) with rfl | hy
        · exact (List.pairwise_cons.1 hp).1 z hz
        · exact h z (List.mem_cons_of_mem _ hz) y hy) (List.pairwise_cons.1 hp).2
      rw [hlen] at h3
      exact h3
theorem idx_inc (n : Nat) : (idx n).Pairwise (fun a b => a < b) := by
  unfold idx
  rw [List.pairwise_map]
  exact List.Pairwise.imp (fun {a b} h => by omega) List.pairwise_lt_range
theorem sort_tie (lt : Int → Int → Bool) (n : Nat) : insSort lt (idx n) = insSort (tieL lt) (idx n) := by
  have hi := idx_inc n
  unfold insSort
  generalize idx n = l at *
  cases l with
  | nil => rfl
  | cons x r =>
    have key : ∀ a b : Int, a < b → lt b a = tieL lt b a := by
      intro a b h
      unfold tieL
      rw [decide_eq_false (by omega : ¬ b < a), Bool.and_false, Bool.or_false]
    have h1 := List.pairwise_cons.1 hi
    exact insOut_congr (lt := lt) (lt' := tieL lt) r.length [x] r rfl (fun z hz y hy => by
      rw [List.mem_singleton.1 hy]
      exact key x z (h1.1 z hz)) (h1.2.imp (fun {a b} h => key a b h))
/-- A comparison by a key of integers. -/
structure Weak (lt : Int → Int → Bool) : Prop where
  irr : ∀ x, lt x x = false
  asy : ∀ x y, lt x y = true → lt y x = false
  tr : ∀ x y z, lt x y = true → lt y z = true → lt x z = true
  eqv : ∀ x y z, lt x y = false → lt y x = false → lt y z = false → lt z y = false → lt x z = false ∧ lt z x = false
theorem Weak.left {lt : Int → Int → Bool} (h : Weak lt) {x y z : Int} (h1 : lt x y = true) (h2 : lt y z = false) (h3 : lt z y = false) : lt x z = true := by
  cases h4 : lt x z with
  | true => rfl
  | false =>
    cases h5 : lt z x with
    | true => rw [h.tr _ _ _ h5 h1] at h3; cases h3
    | false =>
      have := (h.eqv x z y h4 h5 h3 h2).1
      rw [this] at h1
      cases h1
theorem Weak.right {lt : Int → Int → Bool} (h : Weak lt) {x y z : Int} (h1 : lt x y = false) (h2 : lt y x = false) (h3 : lt y z = true) : lt x z = true := by
  cases h4 : lt x z with
  | true => rfl
  | false =>
    cases h5 : lt z x with
    | true => have := h.tr _ _ _ h3 h5; rw [this] at h2; cases h2
    | false =>
      have := (h.eqv y x z h2 h1 h4 h5).1
      rw [this] at h3
      cases h3
theorem tie_strict {lt : Int → Int → Bool} (h : Weak lt) (l : List Int) : Strict (tieL lt) l := by
  constructor
  · intro x _
    unfold tieL
    rw [h.irr x, decide_eq_false (by omega : ¬ x < x)]
    rfl
  · intro x _ y _ hne hf
    unfold tieL at hf ⊢
    cases h1 : lt x y with
    | true => rw [h1] at hf; cases hf
    | false =>
      cases h2 : lt y x with
      | true => rfl
      | false =>
        rw [h1, h2] at hf
        have : ¬ x < y := by simpa using hf
        simp
        omega
  · intro x _ y _ ht
    unfold tieL at ht ⊢
    cases h1 : lt x y with
    | true => rw [h.asy _ _ h1]; rfl
    | false =>
      cases h2 : lt y x with
      | true => rw [h1, h2] at ht; cases ht
      | false =>
        rw [h1, h2] at ht
        have : x < y := by simpa using ht
        simp
        omega
  · intro x _ y _ z _ ha hb
    unfold tieL at ha hb ⊢
    cases h1 : lt x y with
    | true =>
      cases h2 : lt y z with
      | true => rw [h.tr _ _ _ h1 h2]; rfl
      | false =>
        cases h3 : lt z y with
        | true => rw [h2, h3] at hb; cases hb
        | false => rw [h.left h1 h2 h3]; rfl
    | false =>
      cases h4 : lt y x with
      | true => rw [h1, h4] at ha; cases ha
      | false =>
        cases h2 : lt y z with
        | true => rw [h.right h1 h4 h2]; rfl
        | false =>
          cases h3 : lt z y with
          | true => rw [h2, h3] at hb; cases hb
          | false =>
            obtain ⟨h5, h6⟩ := h.eqv _ _ _ h1 h4 h2 h3
            rw [h1, h4] at ha
            rw [h2, h3] at hb
            have ha' : x < y := by simpa using ha
            have hb' : y < z := by simpa using hb
            rw [h5, h6]
            simp
            omega
/-! ### The discards of a column of points and codes -/
def atI (l : List Int) (k : Int) : Int := l.getD k.toNat 0
/-- Race a has more points than race b. -/
def moreL (P : List Int) (a b : Int) : Bool := decide (atI P b - atI P a < 0)
theorem more_weak (P : List Int) : Weak (moreL P) := by
  constructor
  · intro x; unfold moreL; simp
  · intro x y; unfold moreL; simp; omega
  · intro x y z; unfold moreL; simp; omega
  · intro x y z; unfold moreL; simp; omega
def okC (K : List Int) (k : Int) : Bool := !(atI K k == 7)
/-- The races that may be discarded, worst first. -/
def worst (P K : List Int) : List Int := (insSort (moreL P) (idx P.length)).filter (okC K)
def goneL (P K : List Int) (left : Nat) : List Int := (worst P K).take left
def cntP (P : List Int) (gone : List Int) : List Int := ((idx P.length).filter fun k => !decide (k ∈ gone)).map (atI P)
theorem worst_facts (P K : List Int) : (worst P K).Pairwise (fun a b => tieL (moreL P) a b = true) ∧ ∀ k : Int, k ∈ worst P K ↔ 0 ≤ k ∧ k < P.length ∧ okC K k = true := by
  unfold worst
  rw [sort_tie]
  obtain ⟨h1, h2⟩ := insSort_sorts (tie_strict (more_weak P) (idx P.length)) (idx_nodup P.length)
  refine ⟨h2.filter _, fun k => ?_⟩
  rw [List.mem_filter, h1.mem_iff, idx_mem]
  constructor
  · rintro ⟨⟨a, b⟩, c⟩; exact ⟨a, b, c⟩
  · rintro ⟨a, b, c⟩; exact ⟨⟨a, b⟩, c⟩
theorem worst_nodup (P K : List Int) : (worst P K).Nodup := by
  refine (worst_facts P K).1.imp (fun {a b} h e => ?_)
  subst e
  rw [(tie_strict (more_weak P) [a]).irr a (List.mem_singleton.2 rfl)] at h
  cases h
theorem worst_len (P K : List Int) : (worst P K).length ≤ P.length := by
  unfold worst
  have h := List.length_filter_le (okC K) (insSort (moreL P) (idx P.length))
  rw [insSort_length, idx_length] at h
  exact h
/-! ### The program: a walk over the sorted races -/
/-- What the program's loop makes of the rest of the order. -/
def takeOk (K : List Int) : Nat → List Int → List Int
  | _, [] => []
  | left, k :: r => if (decide (0 < left) && okC K k) = true then k :: takeOk K (left - 1) r else takeOk K left r
theorem takeOk_eq (K : List Int) : ∀ (l : List Int) (left : Nat), takeOk K left l = (l.filter (okC K)).take left := by
  intro l
  induction l with
  | nil => intro left; simp [takeOk]
  | cons k r ih =>
    intro left
    rw [takeOk, List.filter_cons]
    cases hk : okC K k with
    | false => simp [ih]
    | true =>
      cases left with
      | zero => simp [ih]
      | succ m => simp [ih]
/-! ### The reference: marks, the worst race that is left first -/
/-- What one scan finds: the best index so far (-1: none). -/
def bestGo (P K : List Int) (out : List Bool) : Nat → Nat → Int → Int
  | 0, _, best => best
  | m + 1, i, best => bestGo P K out m (i + 1) (if (!out.getD i false && okC K i && (decide (best < 0) || decide (atI P best < atI P i))) = true then (i : Int) else best)
def bestF (P K : List Int) (out : List Bool) : Int := bestGo P K out out.length 0 (-1)
def markF (out : List Bool) (best : Int) : List Bool := if 0 ≤ best then out.set best.toNat true else out
def outGo (P K : List Int) : Nat → List Bool → List Bool
  | 0, out => out
  | m + 1, out => outGo P K m (markF out (bestF P K out))
def outF (P K : List Int) (left : Nat) : List Bool := outGo P K left (List.replicate P.length false)
theorem bestGo_spec (P K : List Int) (out : List Bool) (hl : out.length = P.length) : ∀ (m i : Nat) (best : Int), i + m = out.length →
    ((best = -1 ∧ ∀ j : Nat, j < i → (out.getD j false = true ∨ okC K j = false)) ∨ (∃ b : Nat, best = (b : Int) ∧ b < i ∧ out.getD b false = false ∧ okC K b = true ∧ ∀ j : Nat, j < i → out.getD j false = false → okC K j = true → j ≠ b → tieL (moreL P) b j = true)) →
    ((bestGo P K out m i best = -1 ∧ ∀ j : Nat, j < out.length → (out.getD j false = true ∨ okC K j = false)) ∨ (∃ b : Nat, bestGo P K out m i best = (b : Int) ∧ b < out.length ∧ out.getD b false = false ∧ okC K b = true ∧ ∀ j : Nat, j < out.length → out.getD j false = false → okC K j = true → j ≠ b → tieL (moreL P) b j = true)) := by
  intro m
  induction m with
  | zero =>
    intro i best hi h
    have : i = out.length := by omega
    subst this
    exact h
  | succ m ih =>
    intro i best hi h
    rw [bestGo]
    refine ih (i + 1) _ (by omega) ?_
    cases hb : (!out.getD i false && okC K i && (decide (best < 0) || decide (atI P best < atI P i))) with
    | true =>
      rw [if_pos rfl]
      simp only [Bool.and_eq_true, Bool.not_eq_true', Bool.or_eq_true, decide_eq_true_eq] at hb
      obtain ⟨⟨h1, h2⟩, h3⟩ := hb
      refine .inr ⟨i, rfl, by omega, h1, h2, fun j hj hoj hkj hne => ?_⟩
      rcases h with ⟨rfl, hall⟩ | ⟨b, rfl, hb1, hb2, hb3, hb4⟩
      · rcases hall j (by omega) with h | h
        · rw [h] at hoj; cases hoj
        · rw [h] at hkj; cases hkj
      · have h4 : atI P b < atI P i := by
          rcases h3 with h3 | h3
          · omega
          · exact h3
        have hib : tieL (moreL P) i b = true := by
          unfold tieL moreL
          rw [decide_eq_true (by omega : atI P b - atI P i < 0)]
          rfl
        by_cases hjb : j = b
        · subst hjb; exact hib
        · exact (tie_strict (more_weak P) [(i : Int), b, j]).tr i (by simp) b (by simp) j (by simp) hib (hb4 j (by omega) hoj hkj hjb)
    | false =>
      rw [if_neg (by simp)]
      rcases h with ⟨rfl, hall⟩ | ⟨b, rfl, hb1, hb2, hb3, hb4⟩
      · refine .inl ⟨rfl, fun j hj => ?_⟩
        by_cases hji : j = i
        · subst hji
          cases h1 : out.getD j false with
          | true => exact .inl rfl
          | false =>
            cases h2 : okC K j with
            | false => exact .inr rfl
            | true => rw [h1, h2] at hb; simp at hb
        · exact hall j (by omega)
      · refine .inr ⟨b, rfl, by omega, hb2, hb3, fun j hj hoj hkj hne => ?_⟩
        by_cases hji : j = i
        · subst hji
          rw [hoj, hkj] at hb
          have h5 : ¬ atI P b < atI P j := by
            intro h6
            rw [decide_eq_true h6] at hb
            simp at hb
          unfold tieL moreL
          by_cases h6 : atI P j - atI P b < 0
          · rw [decide_eq_true h6]; rfl
          · rw [decide_eq_false h6, decide_eq_false (by omega : ¬ atI P b - atI P j < 0), decide_eq_true (by omega : (b : Int) < (j : Int))]
            rfl
        · exact hb4 j (by omega) hoj hkj hne
/-- The marks are those of a part of the order. -/
def MarksOf (P K : List Int) (out : List Bool) (r : Nat) : Prop := out.length = P.length ∧ ∀ j : Nat, j < P.length → out.getD j false = decide ((j : Int) ∈ (worst P K).take r)
theorem marks_step {P K : List Int} {out : List Bool} {r : Nat} (h : MarksOf P K out r) : MarksOf P K (markF out (bestF P K out)) (r + 1) := by
  obtain ⟨hl, hm⟩ := h
  obtain ⟨hw1, hw2⟩ := worst_facts P K
  have hs := bestGo_spec P K out hl out.length 0 (-1) (by omega) (.inl ⟨rfl, fun j hj => by omega⟩)
  unfold bestF
  rcases hs with ⟨e, hall⟩ | ⟨b, e, hb1, hb2, hb3, hb4⟩
  · rw [e]
    unfold markF
    rw [if_neg (by omega)]
    refine ⟨hl, fun j hj => ?_⟩
    rw [hm j hj]
    have hsame : ∀ x, x ∈ (worst P K).take (r + 1) ↔ x ∈ (worst P K).take r := by
      intro x
      constructor
      · intro hx
        have hx2 := (hw2 x).1 (List.mem_of_mem_take hx)
        obtain ⟨k, rfl⟩ : ∃ k : Nat, x = k := ⟨x.toNat, by omega⟩
        rcases hall k (by omega) with h | h
        · rw [hm k (by omega)] at h
          simpa using h
        · rw [hx2.2.2] at h; cases h
      · intro hx
        rw [List.take_add_one]
        exact List.mem_append_left _ hx
    simp only [hsame]
  · rw [e]
    unfold markF
    rw [if_pos (by omega)]
    -- the best one stands next in the order
    have hbn : (b : Int) ∉ (worst P K).take r := by
      have := hm b (by omega)
      rw [hb2] at this
      simpa using this.symm
    have hbw : (b : Int) ∈ worst P K := (hw2 b).2 ⟨by omega, by omega, hb3⟩
    have hnext : (worst P K)[r]? = some (b : Int) := by
      have hd : (b : Int) ∈ (worst P K).drop r := by
        rw [← List.take_append_drop r (worst P K)] at hbw
        rcases List.mem_append.1 hbw with h | h
        · exact absurd h hbn
        · exact h
      cases hdr : (worst P K).drop r with
      | nil => rw [hdr] at hd; simp at hd
      | cons x rest =>
        have hx0 : (worst P K)[r]? = some x := by
          have : ((worst P K).drop r)[0]? = some x := by rw [hdr]; rfl
          rwa [List.getElem?_drop, Nat.add_zero] at this
        rw [hx0]
        by_cases hxb : x = b
        · rw [hxb]
        · exfalso
          have hp := hw1
          rw [← List.take_append_drop r (worst P K), List.pairwise_append] at hp
          have hp2 := hp.2.1
          rw [hdr, List.pairwise_cons] at hp2
          have hbr : (b : Int) ∈ rest := by
            rw [hdr] at hd
            rcases List.mem_cons.1 hd with h | h
            · exact absurd h.symm hxb
            · exact h
          have hxlt := hp2.1 b hbr
          have hxw := (hw2 x).1 (List.mem_of_getElem? hx0)
          obtain ⟨k, rfl⟩ : ∃ k : Nat, x = k := ⟨x.toNat, by omega⟩
          have hxn : (k : Int) ∉ (worst P K).take r := by
            intro hin
            have hn := worst_nodup P K
            rw [← List.take_append_drop r (worst P K), List.nodup_append] at hn
            exact hn.2.2 k hin k (by rw [hdr]; exact List.mem_cons_self) rfl
          have hok : out.getD k false = false := by rw [hm k (by omega)]; simpa using hxn
          have := hb4 k (by omega) hok hxw.2.2 (fun e => hxb (by rw [e]))
          rw [(tie_strict (more_weak P) [(k : Int), b]).asy k (by simp) b (by simp) hxlt] at this
          cases this
    refine ⟨by rw [List.length_set]; exact hl, fun j hj => ?_⟩
    rw [List.take_add_one, hnext]
    show (out.set b true).getD j false = _
    rw [List.getD_eq_getElem?_getD]
    by_cases hjb : b = j
    · subst hjb
      rw [List.getElem?_set_self (by omega)]
      simp
    · rw [List.getElem?_set_ne hjb, ← List.getD_eq_getElem?_getD, hm j hj]
      have : ∀ x : Int, x ∈ (worst P K).take r ++ (some (b : Int)).toList ↔ x ∈ (worst P K).take r ∨ x = b := by
        intro x; simp
      simp only [this]
      have hne : ¬ ((j : Int) = (b : Int)) := by omega
      simp [hne]
theorem marks_go {P K : List Int} : ∀ (m r : Nat) (out : List Bool), MarksOf P K out r → MarksOf P K (outGo P K m out) (r + m) := by
  intro m
  induction m with
  | zero => intro r out h; exact h
  | succ m ih =>
    intro r out h
    have := ih (r + 1) _ (marks_step h)
    rw [show r + 1 + m = r + (m + 1) by omega] at this
    exact this
theorem marks_all (P K : List Int) (left : Nat) : MarksOf P K (outF P K left) left := by
  have := marks_go (P := P) (K := K) left 0 (List.replicate P.length false) ⟨by simp, fun j hj => by simp [List.getD_eq_getElem?_getD, hj]⟩
  rw [Nat.zero_add] at this
  exact this
/-- The points that are counted, by marks. -/
def cntM : Nat → List Int → List Bool → List Int
  | k, p :: P, b :: out => (if b = true then [] else [p]) ++ cntM (k + 1) P out
  | _, _, _ => []
theorem cntM_nil (k : Nat) (out : List Bool) : cntM k [] out = [] := by cases out <;> rfl
theorem cntM_eq (P : List Int) (out : List Bool) (gone : List Int) (hl : out.length = P.length) (h : ∀ j : Nat, j < P.length → out.getD j false = decide ((j : Int) ∈ gone)) : cntM 0 P out = cntP P gone := by
  have key : ∀ (m k : Nat), k + m = P.length → cntM k (P.drop k) (out.drop k) = (((List.range' k m).map fun (i : Nat) => (i : Int)).filter fun k => !decide (k ∈ gone)).map (atI P) := by
    intro m
    induction m with
    | zero =>
      intro k hk
      rw [List.drop_eq_nil_of_le (by omega : P.length ≤ k), cntM_nil]
      rfl
    | succ m ih =>
      intro k hk
      have hkP : k < P.length := by omega
      have hkO : k < out.length := by omega
      rw [List.drop_eq_getElem_cons hkP, List.drop_eq_getElem_cons hkO, cntM, ih (k + 1) (by omega), List.range'_succ, List.map_cons, List.filter_cons]
      have hj := h k hkP
      rw [List.getD_eq_getElem?_getD, List.getElem?_eq_getElem hkO] at hj
      have hj2 : out[k] = decide ((k : Int) ∈ gone) := hj
      rw [hj2]
      have ha : atI P (k : Int) = P[k] := by
        unfold atI
        rw [Int.toNat_natCast, List.getD_eq_getElem?_getD, List.getElem?_eq_getElem hkP]
        rfl
      by_cases hg : (k : Int) ∈ gone
      · simp [hg]
      · simp [hg, ha]
  have := key P.length 0 (by omega)
  rw [List.drop_zero, List.drop_zero] at this
  rw [this]
  unfold cntP idx
  rw [List.range_eq_range']
end Go.Proofs.YtalgdeieejpelaaGreatDoor

/- Plain: comparing boats, ranks, the standing (chapter 28). -/
namespace Go.Proofs.YtalgdeieejpelaaGreatDoor
open Go.RowKit
set_option linter.unusedVariables false
set_option maxRecDepth 100000

def sumI : List Int → Int
  | [] => 0
  | x :: r => x + sumI r
theorem sumI_app (a b : List Int) : sumI (a ++ b) = sumI a + sumI b := by
  induction a with
  | nil => simp [sumI]
  | cons x a ih => rw [List.cons_append, sumI, sumI, ih]; omega
theorem sumI_bd {l : List Int} {m : Int} (h : ∀ x ∈ l, 0 ≤ x ∧ x ≤ m) : 0 ≤ sumI l ∧ sumI l ≤ m * l.length := by
  induction l with
  | nil => simp [sumI]
  | cons x r ih =>
    have h1 := h x List.mem_cons_self
    have h2 := ih (fun y hy => h y (List.mem_cons_of_mem _ hy))
    rw [sumI, List.length_cons, Int.natCast_add, Int.mul_add]
    omega
theorem sumI_zero {l : List Int} (h : ∀ x ∈ l, 0 ≤ x) (hs : sumI l = 0) : l = List.replicate l.length 0 := by
  induction l with
  | nil => rfl
  | cons x r ih =>
    have h1 := h x List.mem_cons_self
    have h2 : 0 ≤ sumI r := by
      clear ih hs
      have h3 : ∀ y ∈ r, 0 ≤ y := fun y hy => h y (List.mem_cons_of_mem _ hy)
      clear h
      induction r with
      | nil => simp [sumI]
      | cons z r ih2 =>
        have := h3 z List.mem_cons_self
        have := ih2 (fun y hy => h3 y (List.mem_cons_of_mem _ hy))
        rw [sumI]; omega
    rw [sumI] at hs
    have hx : x = 0 := by omega
    have hr := ih (fun y hy => h y (List.mem_cons_of_mem _ hy)) (by omega)
    rw [List.length_cons, List.replicate_succ, hx]
    rw [← hr]
theorem sumI_perm {a b : List Int} (h : a.Perm b) : sumI a = sumI b := by
  induction h with
  | nil => rfl
  | cons x _ ih => rw [sumI, sumI, ih]
  | swap x y l => simp only [sumI]; omega
  | trans _ _ h1 h2 => rw [h1, h2]
/-! ### The first difference -/
def lexC : List Int → List Int → Int
  | x :: xs, y :: ys => if x = y then lexC xs ys else x - y
  | _, _ => 0
theorem lexC_nil (b : List Int) : lexC [] b = 0 := by cases b <;> rfl
theorem lexC_nil2 (a : List Int) : lexC a [] = 0 := by cases a <;> rfl
theorem lexC_self (a : List Int) : lexC a a = 0 := by
  induction a with
  | nil => rfl
  | cons x a ih => rw [lexC, if_pos rfl, ih]
theorem lexC_anti : ∀ (a b : List Int), lexC a b = - lexC b a := by
  intro a
  induction a with
  | nil => intro b; rw [lexC_nil, lexC_nil2]; rfl
  | cons x a ih =>
    intro b
    cases b with
    | nil => rfl
    | cons y b =>
      rw [lexC, lexC]
      by_cases h : x = y
      · rw [if_pos h, if_pos h.symm, ih]
      · rw [if_neg h, if_neg (fun e => h e.symm)]
        omega
theorem lexC_tr : ∀ (a b c : List Int), a.length = b.length → b.length = c.length → lexC a b ≤ 0 → lexC b c ≤ 0 → lexC a c ≤ 0 ∧ ((lexC a b < 0 ∨ lexC b c < 0) → lexC a c < 0) := by
  intro a
  induction a with
  | nil =>
    intro b c h1 h2
    cases b with
    | nil =>
      cases c with
      | nil => simp [lexC]
      | cons z c => simp at h2
    | cons y b => simp at h1
  | cons x a ih =>
    intro b c h1 h2
    cases b with
    | nil => simp at h1
    | cons y b =>
      cases c with
      | nil => simp at h2
      | cons z c =>
        have h3 := ih b c (by simpa using h1) (by simpa using h2)
        rw [lexC, lexC, lexC]
        by_cases e1 : x = y
        · subst e1
          by_cases e2 : x = z
          · subst e2
            simpa using h3
          · rw [if_pos rfl, if_neg e2]
            intro h4 h5
            omega
        · by_cases e2 : y = z
          · subst e2
            rw [if_neg e1, if_pos rfl]
            intro h4 h5
            omega
          · rw [if_neg e1, if_neg e2]
            intro h4 h5
            rw [if_neg (by omega)]
            omega
theorem weak_lex (f : Int → List Int) (L : Nat) (hL : ∀ a, (f a).length = L) : Weak (fun a b => decide (lexC (f a) (f b) < 0)) := by
  have hl : ∀ a b, (f a).length = (f b).length := fun a b => by rw [hL, hL]
  constructor
  · intro x
    show decide (lexC (f x) (f x) < 0) = false
    rw [lexC_self]
    rfl
  · intro x y
    show decide (lexC (f x) (f y) < 0) = true → decide (lexC (f y) (f x) < 0) = false
    rw [lexC_anti (f y) (f x)]
    simp
    omega
  · intro x y z
    show decide (lexC (f x) (f y) < 0) = true → decide (lexC (f y) (f z) < 0) = true → decide (lexC (f x) (f z) < 0) = true
    simp only [decide_eq_true_eq]
    intro h1 h2
    exact (lexC_tr _ _ _ (hl x y) (hl y z) (by omega) (by omega)).2 (.inl h1)
  · intro x y z
    show decide (lexC (f x) (f y) < 0) = false → decide (lexC (f y) (f x) < 0) = false → decide (lexC (f y) (f z) < 0) = false → decide (lexC (f z) (f y) < 0) = false → decide (lexC (f x) (f z) < 0) = false ∧ decide (lexC (f z) (f x) < 0) = false
    simp only [decide_eq_false_iff_not]
    have a1 := lexC_anti (f x) (f y)
    have a2 := lexC_anti (f y) (f z)
    have a3 := lexC_anti (f x) (f z)
    intro h1 h2 h3 h4
    have h5 := (lexC_tr _ _ _ (hl x y) (hl y z) (by omega) (by omega)).1
    have h6 := (lexC_tr _ _ _ (hl z y) (hl y x) (by omega) (by omega)).1
    omega
theorem lexC_app_ne : ∀ (a b u v : List Int), lexC a b ≠ 0 → lexC (a ++ u) (b ++ v) = lexC a b := by
  intro a
  induction a with
  | nil => intro b u v h; rw [lexC_nil] at h; exact absurd rfl h
  | cons x a ih =>
    intro b u v h
    cases b with
    | nil => exact absurd rfl h
    | cons y b =>
      rw [lexC] at h ⊢
      rw [List.cons_append, List.cons_append, lexC]
      by_cases e : x = y
      · rw [if_pos e] at h ⊢
        rw [if_pos e]
        exact ih b u v h
      · rw [if_neg e, if_neg e]
theorem lexC_app_eq (a b : List Int) : ∀ (u v : List Int), a = b → lexC (a ++ u) (b ++ v) = lexC u v := by
  intro u v h
  subst h
  induction a with
  | nil => rfl
  | cons x a ih => rw [List.cons_append, List.cons_append, lexC, if_pos rfl, ih]
theorem lexC_zero : ∀ (a b : List Int), lexC a b = 0 → a.length ≤ b.length → b = a ++ b.drop a.length := by
  intro a
  induction a with
  | nil => intro b _ _; simp
  | cons x a ih =>
    intro b h hl
    cases b with
    | nil => simp at hl
    | cons y b =>
      rw [lexC] at h
      by_cases e : x = y
      · rw [if_pos e] at h
        have := ih b h (by simpa using hl)
        rw [List.length_cons, List.drop_succ_cons, List.cons_append, ← this, e]
      · rw [if_neg e] at h
        omega
def padZ (l : List Int) : List Int := l ++ List.replicate (12 - l.length) 0
theorem padZ_len {l : List Int} (h : l.length ≤ 12) : (padZ l).length = 12 := by unfold padZ; rw [List.length_append, List.length_replicate]; omega
theorem padZ_pre {x y : List Int} (hx : ∀ z ∈ x, 0 ≤ z) (hy : ∀ z ∈ y, 0 ≤ z) (h2 : y.length ≤ 12) (hs : sumI x = sumI y) (h : lexC x y = 0) (hl : x.length ≤ y.length) : padZ x = padZ y := by
  have e := lexC_zero x y h hl
  have hd : y.drop x.length = List.replicate (y.length - x.length) 0 := by
    have hs2 : sumI (y.drop x.length) = 0 := by
      rw [e, sumI_app] at hs
      omega
    have := sumI_zero (fun z hz => hy z (List.mem_of_mem_drop hz)) hs2
    rw [List.length_drop] at this
    exact this
  rw [hd] at e
  unfold padZ
  have e2 : y ++ List.replicate (12 - y.length) 0 = x ++ (List.replicate (y.length - x.length) 0 ++ List.replicate (12 - y.length) 0) := by
    rw [← List.append_assoc, ← e]
  rw [e2, List.replicate_append_replicate, show y.length - x.length + (12 - y.length) = 12 - x.length by omega]
theorem lexC_pad {x y : List Int} (hx : ∀ z ∈ x, 0 ≤ z) (hy : ∀ z ∈ y, 0 ≤ z) (h1 : x.length ≤ 12) (h2 : y.length ≤ 12) (hs : sumI x = sumI y) : lexC (padZ x) (padZ y) = lexC x y := by
  by_cases h : lexC x y = 0
  · have : padZ x = padZ y := by
      rcases Nat.le_total x.length y.length with hl | hl
      · exact padZ_pre hx hy h2 hs h hl
      · exact (padZ_pre hy hx h1 hs.symm (by rw [lexC_anti, h]; rfl) hl).symm
    rw [this, lexC_self, h]
  · exact lexC_app_ne _ _ _ _ h
/-! ### Boats -/
def colOf (rows : List (List Int)) (b : Int) : List Int := rows.map fun r => atI r b
theorem colOf_len (rows : List (List Int)) (b : Int) : (colOf rows b).length = rows.length := by unfold colOf; rw [List.length_map]
def cntT (t : Tb) (rule : List Int) (b : Int) : List Int := cntP (colOf t.pts b) (goneL (colOf t.pts b) (colOf t.cds b) (leN t.pts.length rule))
def netT (t : Tb) (rule : List Int) (b : Int) : Int := sumI (cntT t rule b)
def ltI (a b : Int) : Bool := decide (a < b)
def srtT (t : Tb) (rule : List Int) (b : Int) : List Int := insSort ltI (cntT t rule b)
def sgnZ (x : Int) : Int := if x < 0 then -1 else if 0 < x then 1 else 0
theorem sgnZ_neg (x : Int) : (sgnZ x < 0) = (x < 0) := by
  unfold sgnZ
  split
  · simp; omega
  · split <;> simp <;> omega
theorem sgnZ_zero (x : Int) : (sgnZ x = 0) ↔ (x = 0) := by
  unfold sgnZ
  split
  · omega
  · split <;> omega
/-- The last race that differs. -/
def lastGoR (P Q : List Int) : Nat → Int × Int
  | 0 => (0, -1)
  | k + 1 => if atI P k = atI Q k then lastGoR P Q k else (atI P k - atI Q k, (k : Int))
def cmpT (t : Tb) (rule : List Int) (a b : Int) : Int × Int × Int :=
  if netT t rule a ≠ netT t rule b then (sgnZ (netT t rule a - netT t rule b), 1, 0)
  else if lexC (srtT t rule a) (srtT t rule b) ≠ 0 then (sgnZ (lexC (srtT t rule a) (srtT t rule b)), 2, 0)
  else if (lastGoR (colOf t.pts a) (colOf t.pts b) t.pts.length).1 ≠ 0 then (sgnZ (lastGoR (colOf t.pts a) (colOf t.pts b) t.pts.length).1, 3, (lastGoR (colOf t.pts a) (colOf t.pts b) t.pts.length).2)
  else (0, 0, 0)
def ltT (t : Tb) (rule : List Int) (a b : Int) : Bool := decide ((cmpT t rule a b).1 < 0)
def keyT (t : Tb) (rule : List Int) (a : Int) : List Int := netT t rule a :: (padZ (srtT t rule a) ++ (colOf t.pts a).reverse)
theorem last_lex (P Q : List Int) : ∀ k, k ≤ P.length → k ≤ Q.length → (lastGoR P Q k).1 = lexC (P.take k).reverse (Q.take k).reverse := by
  intro k
  induction k with
  | zero => intro _ _; rfl
  | succ k ih =>
    intro h1 h2
    have e1 : P.take (k + 1) = P.take k ++ [atI P k] := by
      rw [List.take_add_one, List.getElem?_eq_getElem (by omega)]
      unfold atI
      rw [Int.toNat_natCast, List.getD_eq_getElem?_getD, List.getElem?_eq_getElem (by omega)]
      rfl
    have e2 : Q.take (k + 1) = Q.take k ++ [atI Q k] := by
      rw [List.take_add_one, List.getElem?_eq_getElem (by omega)]
      unfold atI
      rw [Int.toNat_natCast, List.getD_eq_getElem?_getD, List.getElem?_eq_getElem (by omega)]
      rfl
    rw [lastGoR, e1, e2, List.reverse_append, List.reverse_append]
    show _ = lexC (atI P k :: (P.take k).reverse) (atI Q k :: (Q.take k).reverse)
    rw [lexC]
    by_cases h : atI P k = atI Q k
    · rw [if_pos h, if_pos h]
      exact ih (by omega) (by omega)
    · rw [if_neg h, if_neg h]
theorem cntP_len (P gone : List Int) : (cntP P gone).length ≤ P.length := by
  unfold cntP
  rw [List.length_map]
  have := List.length_filter_le (fun k => !decide (k ∈ gone)) (idx P.length)
  rw [idx_length] at this
  exact this
theorem atI_mem {l : List Int} {k : Int} : atI l k = 0 ∨ atI l k ∈ l := by
  unfold atI
  rw [List.getD_eq_getElem?_getD]
  cases h : l[k.toNat]? with
  | none => exact .inl rfl
  | some x => exact .inr (List.mem_of_getElem? h)
theorem cntP_mem {P gone : List Int} {x : Int} (h : x ∈ cntP P gone) : x = 0 ∨ x ∈ P := by
  unfold cntP at h
  obtain ⟨k, -, rfl⟩ := List.mem_map.1 h
  exact atI_mem
theorem colOf_bd {t : Tb} (ok : TabOk t) {b : Int} {x : Int} (h : x ∈ colOf t.pts b) : 0 ≤ x ∧ x ≤ 10000 := by
  unfold colOf at h
  obtain ⟨r, hr, rfl⟩ := List.mem_map.1 h
  obtain ⟨k, hk⟩ := List.getElem?_of_mem hr
  have hk2 := (List.getElem?_eq_some_iff.1 hk).1
  have hc : t.cds[k]? = some (t.cds[k]'(by rw [← ok.same]; exact hk2)) := List.getElem?_eq_getElem _
  have h1 := (ok.row k r _ hk hc).1.2
  rcases atI_mem (l := r) (k := b) with h2 | h2
  · rw [h2]; omega
  · exact h1 _ h2
theorem cntT_bd {t : Tb} (ok : TabOk t) {rule : List Int} {b : Int} {x : Int} (h : x ∈ cntT t rule b) : 0 ≤ x ∧ x ≤ 10000 := by
  rcases cntP_mem h with h | h
  · rw [h]; omega
  · exact colOf_bd ok h
theorem cntT_len {t : Tb} (ok : TabOk t) (rule : List Int) (b : Int) : (cntT t rule b).length ≤ 12 := by
  have := cntP_len (colOf t.pts b) (goneL (colOf t.pts b) (colOf t.cds b) (leN t.pts.length rule))
  rw [colOf_len] at this
  have := ok.many
  unfold cntT
  omega
theorem netT_bd {t : Tb} (ok : TabOk t) (rule : List Int) (b : Int) : 0 ≤ netT t rule b ∧ netT t rule b ≤ 120000 := by
  have h1 := sumI_bd (l := cntT t rule b) (m := 10000) (fun x hx => cntT_bd ok hx)
  have h2 := cntT_len ok rule b
  unfold netT
  omega
/-! ### Sorting with ties -/
theorem insOut_perm (lt : Int → Int → Bool) : ∀ (m : Nat) (p q : List Int), q.length = m → (insOut lt m p.length (p ++ q)).Perm (p ++ q) := by
  intro m
  induction m with
  | zero => intro p q _; exact List.Perm.refl _
  | succ m ih =>
    intro p q hm
    cases q with
    | nil => simp at hm
    | cons x q =>
      unfold insOut
      rw [insIn_app]
      have hperm := insRev_perm lt x p.reverse []
      rw [List.reverse_reverse, List.append_nil] at hperm
      have hlen : (insRev lt x p.reverse []).length = p.length + 1 := by rw [hperm.length_eq]; simp
      have h3 := ih (insRev lt x p.reverse []) q (by simpa using hm)
      rw [hlen] at h3
      refine h3.trans ((hperm.append_right q).trans ?_)
      exact (List.perm_middle (a := x) (l₁ := p) (l₂ := q)).symm
theorem insSort_perm (lt : Int → Int → Bool) (l : List Int) : (insSort lt l).Perm l := by
  unfold insSort
  cases l with
  | nil => exact List.Perm.refl _
  | cons x r => exact insOut_perm lt r.length [x] r rfl
theorem insRev_le (x : Int) : ∀ (r acc : List Int), (r.reverse ++ acc).Pairwise (fun a b => a ≤ b) → (∀ y ∈ acc, x ≤ y) → (insRev ltI x r acc).Pairwise (fun a b => a ≤ b) := by
  intro r
  induction r with
  | nil =>
    intro acc hs hx
    unfold insRev
    exact List.pairwise_cons.2 ⟨hx, by simpa using hs⟩
  | cons y r ih =>
    intro acc hs hx
    have e : (y :: r).reverse ++ acc = r.reverse ++ y :: acc := by simp
    rw [e] at hs
    unfold insRev
    by_cases h : x < y
    · rw [if_pos (by unfold ltI; exact decide_eq_true h)]
      refine ih (y :: acc) hs (fun z hz => ?_)
      rcases List.mem_cons.1 hz with rfl | hz
      · omega
      · exact hx z hz
    · rw [if_neg (by unfold ltI; simp [h])]
      rw [List.pairwise_append] at hs ⊢
      obtain ⟨h1, h2, h3⟩ := hs
      rw [List.pairwise_cons] at h2
      refine ⟨h1, List.pairwise_cons.2 ⟨fun z hz => ?_, List.pairwise_cons.2 ⟨hx, h2.2⟩⟩, fun a ha b hb => ?_⟩
      · rcases List.mem_cons.1 hz with rfl | hz
        · omega
        · exact h2.1 z hz
      · rcases List.mem_cons.1 hb with rfl | hb
        · exact h3 a ha b List.mem_cons_self
        · rcases List.mem_cons.1 hb with rfl | hb
          · have := h3 a ha y List.mem_cons_self; omega
          · exact h3 a ha b (List.mem_cons_of_mem _ hb)
theorem insOut_le : ∀ (m : Nat) (p q : List Int), q.length = m → p.Pairwise (fun a b => a ≤ b) → (insOut ltI m p.length (p ++ q)).Pairwise (fun a b => a ≤ b) := by
  intro m
  induction m with
  | zero =>
    intro p q hm hp
    obtain rfl := List.eq_nil_of_length_eq_zero hm
    simpa [insOut] using hp
  | succ m ih =>
    intro p q hm hp
    cases q with
    | nil => simp at hm
    | cons x q =>
      unfold insOut
      rw [insIn_app]
      have hperm := insRev_perm ltI x p.reverse []
      rw [List.reverse_reverse, List.append_nil] at hperm
      have hlen : (insRev ltI x p.reverse []).length = p.length + 1 := by rw [hperm.length_eq]; simp
      have h3 := ih (insRev ltI x p.reverse []) q (by simpa using hm) (insRev_le x p.reverse [] (by simpa using hp) (fun y hy => by cases hy))
      rw [hlen] at h3
      exact h3
theorem insSort_le (l : List Int) : (insSort ltI l).Pairwise (fun a b => a ≤ b) := by
  unfold insSort
  cases l with
  | nil => exact List.Pairwise.nil
  | cons x r => exact insOut_le r.length [x] r rfl (by simp)
/-- A sorted list that holds the same is the sorted list. -/
theorem sorted_eq {a l : List Int} (hp : a.Perm l) (hs : a.Pairwise (fun x y => x ≤ y)) : a = insSort ltI l :=
  (hp.trans (insSort_perm ltI l).symm).eq_of_pairwise (fun x y _ _ h h' => by omega) hs (insSort_le l)
theorem srtT_mem {t : Tb} {rule : List Int} {b x : Int} : x ∈ srtT t rule b ↔ x ∈ cntT t rule b := (insSort_perm _ _).mem_iff
theorem srtT_len (t : Tb) (rule : List Int) (b : Int) : (srtT t rule b).length = (cntT t rule b).length := insSort_length _ _
theorem srtT_sum (t : Tb) (rule : List Int) (b : Int) : sumI (srtT t rule b) = netT t rule b := sumI_perm (insSort_perm _ _)
/-! ### The comparison is one of keys -/
theorem cmp_key {t : Tb} (ok : TabOk t) (rule : List Int) (a b : Int) : (cmpT t rule a b).1 = sgnZ (lexC (keyT t rule a) (keyT t rule b)) := by
  have hl := last_lex (colOf t.pts a) (colOf t.pts b) t.pts.length (by rw [colOf_len]; exact Nat.le_refl _) (by rw [colOf_len]; exact Nat.le_refl _)
  rw [List.take_of_length_le (by rw [colOf_len]; exact Nat.le_refl _), List.take_of_length_le (by rw [colOf_len]; exact Nat.le_refl _)] at hl
  unfold cmpT keyT
  rw [hl, lexC]
  by_cases h1 : netT t rule a = netT t rule b
  · rw [if_neg (fun h => h h1), if_pos h1]
    have hp := lexC_pad (x := srtT t rule a) (y := srtT t rule b) (fun z hz => (cntT_bd ok (srtT_mem.1 hz)).1) (fun z hz => (cntT_bd ok (srtT_mem.1 hz)).1) (by rw [srtT_len]; exact cntT_len ok rule a) (by rw [srtT_len]; exact cntT_len ok rule b) (by rw [srtT_sum, srtT_sum, h1])
    by_cases h2 : lexC (srtT t rule a) (srtT t rule b) = 0
    · rw [if_neg (fun h => h h2)]
      rw [h2] at hp
      have he : padZ (srtT t rule a) = padZ (srtT t rule b) := by
        have h3 := lexC_zero _ _ hp (by rw [padZ_len (by rw [srtT_len]; exact cntT_len ok rule a), padZ_len (by rw [srtT_len]; exact cntT_len ok rule b)]; exact Nat.le_refl _)
        rw [List.drop_eq_nil_of_le (by rw [padZ_len (by rw [srtT_len]; exact cntT_len ok rule b), padZ_len (by rw [srtT_len]; exact cntT_len ok rule a)]; exact Nat.le_refl _), List.append_nil] at h3
        exact h3.symm
      rw [lexC_app_eq _ _ _ _ he]
      by_cases h3 : lexC (colOf t.pts a).reverse (colOf t.pts b).reverse = 0
      · rw [if_neg (fun h => h h3), h3]
        rfl
      · rw [if_pos h3]
    · rw [if_pos h2, lexC_app_ne _ _ _ _ (by rw [hp]; exact h2), hp]
  · rw [if_pos h1, if_neg h1]
theorem cmp_step (t : Tb) (rule : List Int) (a b : Int) : (cmpT t rule a b).1 = 0 ↔ (cmpT t rule a b).2.1 = 0 := by
  unfold cmpT
  split
  · rename_i h
    simp only [sgnZ_zero]
    omega
  · split
    · rename_i h
      simp only [sgnZ_zero]
      omega
    · split
      · rename_i h
        simp only [sgnZ_zero]
        omega
      · simp
theorem cmp_bd (t : Tb) (rule : List Int) (a b : Int) : -1 ≤ (cmpT t rule a b).1 ∧ (cmpT t rule a b).1 ≤ 1 := by
  have h : ∀ x, -1 ≤ sgnZ x ∧ sgnZ x ≤ 1 := by intro x; unfold sgnZ; split; omega; split <;> omega
  unfold cmpT
  split
  · exact h _
  · split
    · exact h _
    · split
      · exact h _
      · exact ⟨by omega, by omega⟩
theorem ltT_key {t : Tb} (ok : TabOk t) (rule : List Int) : ltT t rule = fun a b => decide (lexC (keyT t rule a) (keyT t rule b) < 0) := by
  funext a b
  unfold ltT
  rw [cmp_key ok]
  simp only [sgnZ_neg]
theorem ltT_weak {t : Tb} (ok : TabOk t) (rule : List Int) : Weak (ltT t rule) := by
  rw [ltT_key ok]
  refine weak_lex (keyT t rule) (13 + t.pts.length) (fun a => ?_)
  unfold keyT
  rw [List.length_cons, List.length_append, List.length_reverse, colOf_len, padZ_len (by rw [srtT_len]; exact cntT_len ok rule a)]
  omega
/-! ### Ranks and the standing -/
def rankL (lt : Int → Int → Bool) (n : Nat) (a : Int) : Nat := 1 + (idx n).countP (fun k => lt k a)
def standL (lt : Int → Int → Bool) (n : Nat) : List Int := (List.range' 1 n).flatMap fun r => (idx n).filter fun k => decide (rankL lt n k = r)
theorem countP_lt {l : List Int} {p q : Int → Bool} (h : ∀ x ∈ l, p x = true → q x = true) {a : Int} (ha : a ∈ l) (h1 : p a = false) (h2 : q a = true) : l.countP p < l.countP q := by
  induction l with
  | nil => cases ha
  | cons x r ih =>
    rw [List.countP_cons, List.countP_cons]
    have hle : r.countP p ≤ r.countP q := List.countP_mono_left (fun y hy => h y (List.mem_cons_of_mem _ hy))
    rcases List.mem_cons.1 ha with rfl | ha
    · rw [h1, h2]
      simp
      omega
    · have h3 := ih (fun y hy => h y (List.mem_cons_of_mem _ hy)) ha
      have h4 := h x List.mem_cons_self
      cases hp : p x with
      | true => rw [h4 hp]; simp; omega
      | false => cases q x <;> simp <;> omega
theorem rank_lt {lt : Int → Int → Bool} (hw : Weak lt) {n : Nat} {a b : Int} (ha : a ∈ idx n) (h : lt a b = true) : rankL lt n a < rankL lt n b := by
  unfold rankL
  have := countP_lt (l := idx n) (p := fun k => lt k a) (q := fun k => lt k b) (fun x _ hx => hw.tr _ _ _ hx h) ha (hw.irr a) h
  omega
theorem rank_eq {lt : Int → Int → Bool} (hw : Weak lt) {n : Nat} {a b : Int} (h1 : lt a b = false) (h2 : lt b a = false) : rankL lt n a = rankL lt n b := by
  unfold rankL
  congr 1
  refine List.countP_congr (fun x _ => ?_)
  constructor
  · intro h; exact hw.left h h1 h2
  · intro h; exact hw.left h h2 h1
theorem rank_bd {lt : Int → Int → Bool} (hw : Weak lt) {n : Nat} {a : Int} (ha : a ∈ idx n) : 1 ≤ rankL lt n a ∧ rankL lt n a ≤ n := by
  unfold rankL
  have h1 := countP_lt (l := idx n) (p := fun k => lt k a) (q := fun _ => true) (fun _ _ _ => rfl) ha (hw.irr a) rfl
  have h2 : (idx n).countP (fun _ => true) = n := by rw [List.countP_true, idx_length]
  omega
theorem stand_pair {lt : Int → Int → Bool} (hw : Weak lt) (n : Nat) : (standL lt n).Pairwise (fun a b => tieL lt a b = true) := by
  unfold standL
  rw [List.pairwise_flatMap]
  constructor
  · intro r hr
    refine List.Pairwise.imp_of_mem (fun {a b} ha hb h => ?_) ((idx_inc n).filter _)
    have ha2 := List.mem_filter.1 ha
    have hb2 := List.mem_filter.1 hb
    simp only [decide_eq_true_eq] at ha2 hb2
    unfold tieL
    cases h1 : lt a b with
    | true => rfl
    | false =>
      cases h2 : lt b a with
      | true => have := rank_lt hw hb2.1 h2; omega
      | false => simp; exact h
  · refine List.Pairwise.imp (fun {r s} hrs a ha b hb => ?_) List.pairwise_lt_range'
    have ha2 := List.mem_filter.1 ha
    have hb2 := List.mem_filter.1 hb
    simp only [decide_eq_true_eq] at ha2 hb2
    unfold tieL
    cases h1 : lt a b with
    | true => rfl
    | false =>
      exfalso
      cases h2 : lt b a with
      | true => have := rank_lt hw hb2.1 h2; omega
      | false => have := rank_eq hw (n := n) h1 h2; omega
theorem stand_mem {lt : Int → Int → Bool} (hw : Weak lt) (n : Nat) (a : Int) : a ∈ standL lt n ↔ a ∈ idx n := by
  unfold standL
  rw [List.mem_flatMap]
  constructor
  · rintro ⟨r, -, h⟩; exact (List.mem_filter.1 h).1
  · intro h
    have := rank_bd hw h
    exact ⟨rankL lt n a, by rw [List.mem_range'_1]; omega, List.mem_filter.2 ⟨h, by simp⟩⟩
/-- The stable sort is the order by ranks. -/
theorem stand_eq {lt : Int → Int → Bool} (hw : Weak lt) (n : Nat) : insSort lt (idx n) = standL lt n := by
  rw [sort_tie]
  obtain ⟨h1, h2⟩ := insSort_sorts (tie_strict hw (idx n)) (idx_nodup n)
  have h3 := stand_pair hw n
  have hn : (standL lt n).Nodup := h3.imp (fun {a b} h e => by
    subst e
    rw [(tie_strict hw [a]).irr a (List.mem_singleton.2 rfl)] at h
    cases h)
  have hp : (standL lt n).Perm (idx n) := (List.perm_ext_iff_of_nodup hn (idx_nodup n)).2 (stand_mem hw n)
  refine (h1.trans hp.symm).eq_of_pairwise (fun a b _ _ h h' => ?_) h2 h3
  rw [(tie_strict hw [a, b]).asy a (by simp) b (by simp) h] at h'
  cases h'
def rankT (t : Tb) (rule : List Int) (a : Int) : Int := (rankL (ltT t rule) t.boats.toNat a : Nat)
def standT (t : Tb) (rule : List Int) : List Int := insSort (ltT t rule) (idx t.boats.toNat)
theorem standT_eq {t : Tb} (ok : TabOk t) (rule : List Int) : standT t rule = standL (ltT t rule) t.boats.toNat := stand_eq (ltT_weak ok rule) _
theorem standT_len (t : Tb) (rule : List Int) : (standT t rule).length = t.boats.toNat := by unfold standT; rw [insSort_length, idx_length]
theorem standT_mem {t : Tb} {rule : List Int} {x : Int} : x ∈ standT t rule ↔ 0 ≤ x ∧ x < t.boats.toNat := (insSort_perm _ _).mem_iff.trans idx_mem
end Go.Proofs.YtalgdeieejpelaaGreatDoor

/- Walks: the laws' helpers on tables: size, copy, compare, mark, hold. -/
namespace Go.Proofs.YtalgdeieejpelaaGreatDoor
open Go.RowKit
set_option linter.unusedVariables false
set_option maxRecDepth 100000

def szTabF (left : Int) (t : Tb) : Int := if szRowsF left t.pts < 0 then -1 else if szRowsF (szRowsF left t.pts) t.cds < 0 then -1 else szRowsF (szRowsF left t.pts) t.cds
theorem szRowsF_mono {left : Int} {rows : List (List Int)} (h : 0 ≤ szRowsF left rows) : szRowsF left rows ≤ left := by
  unfold szRowsF at h ⊢
  split at h
  · omega
  · rename_i hn
    rw [if_neg hn]
    have := (szGo_le h (by omega)).1
    omega
theorem szTabF_le {left : Int} {t : Tb} (h : 0 ≤ szTabF left t) (h0 : 0 ≤ left) (h1 : left ≤ 1048576) :
    (t.pts.length ≤ 1048576 ∧ ∀ x ∈ t.pts, x.length ≤ 1048576) ∧ (t.cds.length ≤ 1048576 ∧ ∀ x ∈ t.cds, x.length ≤ 1048576) ∧ szTabF left t ≤ 1048576 := by
  unfold szTabF at h ⊢
  split at h
  · omega
  · rename_i hn
    rw [if_neg hn]
    split at h
    · omega
    · rename_i hn2
      rw [if_neg hn2]
      have a := szRowsF_le (by omega : 0 ≤ szRowsF left t.pts) h0
      have m := szRowsF_mono (by omega : 0 ≤ szRowsF left t.pts)
      have b := szRowsF_le h (by omega)
      have m2 := szRowsF_mono h
      exact ⟨⟨by omega, fun x hx => by have := a.2 x hx; omega⟩, ⟨by omega, fun x hx => by have := b.2 x hx; omega⟩, by omega⟩
theorem set_chg {b i lo hi : Nat} {v : Value} (w : World) (h1 : lo ≤ b) (h2 : b < hi) : Chg lo hi w (w.setCell ⟨b, i, none⟩ v) := put_chg (g := b) [v] i (Chg.refl _ _ _) h1 h2
theorem OwnRows.setU {w : World} {base eo ei n c b i : Nat} {A : Option Addr} {vs : List Value} {rows : List (List Int)} {v : Value} (h : OwnRows w base eo ei A n c vs rows) (hb : b < base) : OwnRows (w.setCell ⟨b, i, none⟩ v) base eo ei A n c vs rows :=
  h.chg (set_chg w (Nat.le_refl b) (Nat.lt_succ_self b)) h.in_ (.inr hb)
theorem OwnT.setU {w : World} {base n c m d b i : Nat} {P C : Option Addr} {vs us : List Value} {t : Tb} {v : Value} (h : OwnT w base P n c vs C m d us t) (hb : b < base) : OwnT (w.setCell ⟨b, i, none⟩ v) base P n c vs C m d us t :=
  ⟨h.pts.setU hb, h.cds.setU hb, h.apO, h.apR⟩
/-- The blocks of a set may have been written; all others of w are as they were. -/
structure ChgS (S : Nat → Prop) (w w' : World) : Prop where
  os : w'.os = w.os
  tape : w'.tape = w.tape
  output : w'.output = w.output
  size : w.heap.size ≤ w'.heap.size
  block : ∀ k, k < w.heap.size → ¬ S k → w'.heap[k]? = w.heap[k]?
theorem ChgS.refl (S : Nat → Prop) (w : World) : ChgS S w w := ⟨rfl, rfl, rfl, Nat.le_refl _, fun _ _ _ => rfl⟩
theorem ChgS.trans {S : Nat → Prop} {a b c : World} (h : ChgS S a b) (k : ChgS S b c) : ChgS S a c :=
  ⟨k.os.trans h.os, k.tape.trans h.tape, k.output.trans h.output, Nat.le_trans h.size k.size, fun i hi hn => (k.block i (Nat.lt_of_lt_of_le hi h.size) hn).trans (h.block i hi hn)⟩
theorem ChgS.mono {S T : Nat → Prop} {a b : World} (h : ChgS S a b) (k : ∀ i, S i → T i) : ChgS T a b :=
  ⟨h.os, h.tape, h.output, h.size, fun i hi hn => h.block i hi (fun hs => hn (k i hs))⟩
theorem ChgS.of_grown {S : Nat → Prop} {w w' : World} {row : Option Nat} (h : w.grownBy w' row) (hr : ∀ k, row = some k → S k) : ChgS S w w' :=
  ⟨h.os, h.tape, h.output, h.size, fun k hk hn => h.block k hk (fun e => hn (hr k e.symm))⟩
theorem ChgS.of_below {S : Nat → Prop} {w w' : World} (h : Below w.heap.size w w') : ChgS S w w' := ⟨h.os, h.tape, h.output, h.size, fun k hk _ => h.block k hk⟩
theorem ChgS.chg {S : Nat → Prop} {lo hi : Nat} {w w' : World} (h : ChgS S w w') (k : ∀ i, S i → lo ≤ i ∧ i < hi) : Chg lo hi w w' :=
  ⟨h.os, h.tape, h.output, h.size, fun i hi' hn => h.block i hi' (fun hs => by have := k i hs; omega)⟩
theorem own_chgS {S : Nat → Prop} {w w' : World} {base e s n : Nat} {v : Value} {xs : List Value} (h : w.ownsRow base e s v n xs) (k : ChgS S w w') (hv : ∀ b, v.ownBlock = some b → ¬ S b) : w'.ownsRow base e s v n xs := by
  refine ⟨h.1, ?_⟩
  rcases h.2 with hn | ⟨g, cap, cur, rfl, hb, hgg, rest⟩
  · exact .inl hn
  · exact .inr ⟨g, cap, cur, rfl, hb, (k.block g (Array.getElem?_eq_some_iff.1 hgg).1 (hv g rfl)).trans hgg, rest⟩
theorem OwnRows.chgS {S : Nat → Prop} {w w' : World} {base eo ei n c : Nat} {A : Option Addr} {vs : List Value} {rows : List (List Int)} (h : OwnRows w base eo ei A n c vs rows) (k : ChgS S w w')
    (h1 : ∀ b, (Value.slice A n c).ownBlock = some b → ¬ S b) (h2 : ∀ v ∈ vs, ∀ b, v.ownBlock = some b → ¬ S b) : OwnRows w' base eo ei A n c vs rows :=
  ⟨own_chgS h.outer k h1, h.len, fun i v xs e1 e2 => by obtain ⟨A', c', e, ho⟩ := h.row i v xs e1 e2; exact ⟨A', c', e, own_chgS ho k (h2 v (List.mem_of_getElem? e1))⟩, h.apart⟩
theorem Box.chgS {S : Nat → Prop} {w w' : World} {b : Nat} {vs : Array Value} {t : TypeId} (h : Box w b vs t) (k : ChgS S w w') (hb : ¬ S b) : Box w' b vs t := (k.block b h.lt hb).trans h
/-- The outer block of slices of slices is none of any rows. -/
theorem OwnRows.outer_ne {w : World} {base eo ei base' eo' n c n' c' : Nat} {A A' : Option Addr} {vs vs' : List Value} {rows rows' : List (List Int)} (h : OwnRows w base eo ei A n c vs rows) (h' : OwnRows w base' eo' ei A' n' c' vs' rows') (hne : eo ≠ ei) :
    ∀ b, (Value.slice A n c).ownBlock = some b → ¬ ∃ v ∈ vs', v.ownBlock = some b := by
  rintro b hb ⟨v, hv, hvb⟩
  obtain ⟨k, hk⟩ := List.mem_iff_getElem?.1 hv
  have hkn : k < n' := by have := (List.getElem?_eq_some_iff.1 hk).1; rw [h'.vlen] at this; exact this
  obtain ⟨u, A2, c2, xs, h1, h2, _, e, ho⟩ := h'.get hkn
  obtain rfl : v = u := by rw [hk] at h1; injection h1
  rw [e] at hvb
  exact own_type_ne h.outer ho hne b hb hvb
end Go.Proofs.YtalgdeieejpelaaGreatDoor

/- Walks: a row of numbers. -/
namespace Go.Proofs.YtalgdeieejpelaaGreatDoor
open Go.RowKit
set_option linter.unusedVariables false

theorem areRow_any (A : Option Addr) (n c : Nat) (xs : List Int) (many most : Int) (w : World) (h : Rd w 1 A n (ints xs)) :
    Calls Tryz.prog 58 #[.slice A n c, .int .i64 many, .int .i64 most] w fun e w' => e = .returned (.bool (rowB xs many most)) ∧ w = w' := by
  have HN := Lib.hid h.len_int
  have hm := h.le
  go_enter Tryz.func58, Tryz.ntmps58
  go_wp2
  go_loop [8, 11] (fun _ i => ∃ k : Nat, k ≤ n ∧ i = .int .i64 k ∧ (xs.drop k).all (fun x => withinB x 0 most) = xs.all (fun x => withinB x 0 most)) (fun _ i => n - (intOf i).toNat)
  case atStart => exact ⟨0, Nat.zero_le _, rfl, rfl⟩
  case round =>
    obtain ⟨k, hk, rfl, hall⟩ := hrel
    have HA := Lib.hid hall; clear hall
    by_cases hlt : k < n
    · obtain ⟨b, o, x, rfl, hx, hd, hc⟩ := h.int hlt
      have HX := Lib.hid hx; clear hx
      have HD := Lib.hid hd; clear hd
      go_wp2_with (go_at_call 17; refine (within_any _ _ _ _).mono ?_; rintro e w' ⟨rfl, rfl⟩)
      · have hw : (!withinB x 0 most) = true := by assumption
        go_ret
        exact ⟨ret_bool (by unfold rowB; rw [← HA.out, HD.out]; simp at hw; simp [hw]), rfl⟩
      · have hw : (!withinB x 0 most) = false := by assumption
        go_round
        case rel => exact ⟨k + 1, by omega, by go_num, by rw [← HA.out, HD.out]; simp at hw; simp [hw]⟩
        case measure => simp [intOf]; omega
    · obtain rfl : k = n := by omega
      go_wp2
      go_ret
      exact ⟨ret_bool (by unfold rowB; rw [← HA.out, List.drop_eq_nil_of_le (by rw [HN.out]; omega), HN.out]; simp), rfl⟩


end Go.Proofs.YtalgdeieejpelaaGreatDoor

/- Walks: valid tables (chapter 26), both sides. -/
namespace Go.Proofs.YtalgdeieejpelaaGreatDoor
open Go.RowKit
set_option linter.unusedVariables false
set_option maxRecDepth 100000

theorem areRow_q (A : Option Addr) (n c : Nat) (xs : List Int) (many most : Int) (w : World) (b : Bool) (hb : rowB xs many most = b) (h : Rd w 1 A n (ints xs)) (q : Nat) :
    Calls Tryz.prog 58 #[.slice A n c, .int .i64 many, .int .i64 most] (w.drewN q) fun e w' => e = .returned (.bool b) ∧ ∃ m, w' = (w.drewN q).drewN m := by
  subst hb
  exact (areRow_any A n c xs many most (w.drewN q) (h.drewN q)).mono fun _ _ ⟨a, b⟩ => ⟨a, 0, by rw [← b]; rfl⟩
set_option maxHeartbeats 1000000 in
theorem implIsTable_any (P : Option Addr) (n c : Nat) (C : Option Addr) (m d : Nat) (t : Tb) (w : World) (h : RdT w P n C m t) :
    Calls Tryz.prog 44 #[.agg #[.int .i64 t.boats, .slice P n c, .slice C m d]] w fun e w' => e = .returned (.bool (tableB t)) ∧ Below w.heap.size w w' := by
  have hn := h.pts.le
  have hm := h.cds.le
  have HN := Lib.hid h.pts.len
  have HM := Lib.hid h.cds.len
  have E := Lib.hid (show tableB t = (withinB t.boats 1 16 && decide (t.pts.length ≤ 12) && decide (t.pts.length = t.cds.length) && zipB t.boats t.pts t.cds) from rfl)
  have HB := Lib.hid (show ∀ o, Below w.heap.size w (w.alloc o) from fun o => (Below.refl _ _).alloc (Nat.le_refl _) o)
  cases h1 : withinB t.boats 1 16 with
  | false =>
    go_enter Tryz.func44, Tryz.ntmps44
    go_wp2_with (go_at_call 17; refine (within_any _ _ _ _).mono ?_; rintro e w' ⟨rfl, rfl⟩)
    go_ret
    exact ⟨ret_bool (by rw [E.out, h1]; rfl), HB.out _⟩
  | true =>
    by_cases h2 : n ≤ 12
    · by_cases h3 : n = m
      · subst h3
        go_enter Tryz.func44, Tryz.ntmps44
        go_wp2_with (go_at_call 17; refine (within_any _ _ _ _).mono ?_; rintro e w' ⟨rfl, rfl⟩)
        obtain ⟨w1, hw1, X0, hb1, hs1⟩ := one_box w #[.int .i64 t.boats, .slice P n c, .slice C n d] 33
        rw [← hw1]
        have HH1 := Lib.hid h1
        clear hw1 hs1 h1
        have hsb := X0.lt
        go_loopw [26] (fun i wr => ∃ k : Nat, k ≤ n ∧ i = .int .i64 k ∧ Hid (zipB t.boats (t.pts.drop k) (t.cds.drop k) = zipB t.boats t.pts t.cds) ∧ Below w1.heap.size w1 wr) (fun i _ => n - (intOf i).toNat)
        case atStart => exact ⟨0, Nat.zero_le _, rfl, Lib.hid rfl, Below.refl _ _⟩
        case round =>
          obtain ⟨k, hk, rfl, HR, hb⟩ := hrel
          have F0 := (X0.below hb).f3
          by_cases hlt : k < n
          · obtain ⟨b, o, A', c', p, rfl, _, hd, hc, hrd⟩ := ((h.pts.below hb1).below hb).row hlt
            obtain ⟨b', o', A2, c2, q, rfl, _, hd', hc', hrd'⟩ := ((h.cds.below hb1).below hb).row hlt
            have HD := Lib.hid hd; have HD' := Lib.hid hd'
            clear hd hd'
            have HB3 := Lib.hid hb
            clear hb
            cases hp : rowB p t.boats 10000 with
            | false =>
              have HP := Lib.hid (areRow_q _ _ c' _ _ _ wr _ hp hrd)
              clear hrd hrd' X0
              have HPE := Lib.hid hp; clear hp
              go_wp2_with fail
              go_quiet ((go_at_call 58; exact Calls.quiet_of (HP.out _)))
              go_wp2_with fail
              go_ret
              exact ⟨ret_bool (by rw [E.out, ← HR.out, HD.out, HD'.out, zipB, HPE.out]; simp), hb1.trans ((HB3.out.trans (below_drewN' _ _ _)).mono hb1.size)⟩
            | true =>
              have HP := Lib.hid (areRow_q _ _ c' _ _ _ wr _ hp hrd)
              have HPE := Lib.hid hp; clear hp
              cases hq : rowB q t.boats 9 with
              | false =>
                have HQ := Lib.hid (areRow_q _ _ c2 _ _ _ wr _ hq hrd')
                clear hrd hrd' X0
                have HQE := Lib.hid hq; clear hq
                go_wp2_with fail
                go_quiet ((go_at_call 58; first | (with_reducible exact Calls.quiet_of (HP.out _)) | (with_reducible exact Calls.quiet_of (HQ.out _))))
                go_wp2_with fail
                go_ret
                exact ⟨ret_bool (by rw [E.out, ← HR.out, HD.out, HD'.out, zipB, HQE.out]; simp), hb1.trans ((HB3.out.trans (below_drewN' _ _ _)).mono hb1.size)⟩
              | true =>
                have HQ := Lib.hid (areRow_q _ _ c2 _ _ _ wr _ hq hrd')
                clear hrd hrd' X0
                have HQE := Lib.hid hq; clear hq
                go_wp2_with fail
                go_quiet ((go_at_call 58; first | (with_reducible exact Calls.quiet_of (HP.out _)) | (with_reducible exact Calls.quiet_of (HQ.out _))))
                go_wp2_with fail
                go_roundw
                case rel => exact ⟨k + 1, by omega, by go_num, Lib.hid (by rw [← HR.out, HD.out, HD'.out, zipB, HPE.out, HQE.out]; rfl), HB3.out.trans (below_drewN' _ _ _)⟩
                case measure => simp [intOf] <;> omega
          · obtain rfl : k = n := by omega
            go_wp2_with fail
            go_ret
            exact ⟨ret_bool (by rw [E.out, ← HR.out, HH1.out, List.drop_eq_nil_of_le (by rw [HN.out]; omega), HN.out, HM.out, decide_eq_true h2]; simp [zipB]), hb1.trans (hb.mono hb1.size)⟩
      · have hne : ((n : Int) != m) = true := by simp; omega
        go_enter Tryz.func44, Tryz.ntmps44
        go_wp2_with (go_at_call 17; refine (within_any _ _ _ _).mono ?_; rintro e w' ⟨rfl, rfl⟩)
        go_ret
        exact ⟨ret_bool (by rw [E.out, HN.out, HM.out, decide_eq_false h3]; simp), HB.out _⟩
    · go_enter Tryz.func44, Tryz.ntmps44
      go_wp2_with (go_at_call 17; refine (within_any _ _ _ _).mono ?_; rintro e w' ⟨rfl, rfl⟩)
      go_ret
      exact ⟨ret_bool (by rw [E.out, HN.out, decide_eq_false h2]; simp), HB.out _⟩
theorem l26Code_anyT (x : Int) (w : World) :
    Calls Tryz.prog 57 #[.int .i64 x] w fun e w' => e = .returned (.bool (withinB x 0 9)) ∧ w = w' := by
  go_enter Tryz.func57, Tryz.ntmps57
  go_wp2_with (go_at_call 25; refine (l01In_any _ _ _ _).mono ?_; rintro e w' ⟨rfl, rfl⟩)
  go_ret
  exact ⟨rfl, rfl⟩
set_option maxHeartbeats 2000000 in
theorem specIsTable_any (P : Option Addr) (n c : Nat) (C : Option Addr) (m d : Nat) (t : Tb) (w : World) (h : RdT w P n C m t) :
    Calls Tryz.prog 42 #[.agg #[.int .i64 t.boats, .slice P n c, .slice C m d]] w fun e w' => e = .returned (.bool (tableB t)) ∧ Below w.heap.size w w' := by
  have hn := h.pts.le
  have hm := h.cds.le
  have HN := Lib.hid h.pts.len
  have HM := Lib.hid h.cds.len
  have E := Lib.hid (show tableB t = (withinB t.boats 1 16 && decide (t.pts.length ≤ 12) && decide (t.pts.length = t.cds.length) && zipB t.boats t.pts t.cds) from rfl)
  have HB := Lib.hid (show ∀ o, Below w.heap.size w (w.alloc o) from fun o => (Below.refl _ _).alloc (Nat.le_refl _) o)
  cases h1 : withinB t.boats 1 16 with
  | false =>
    go_enter Tryz.func42, Tryz.ntmps42
    go_wp2_with (go_at_call 25; refine (l01In_any _ _ _ _).mono ?_; rintro e w' ⟨rfl, rfl⟩)
    go_ret
    exact ⟨ret_bool (by rw [E.out, h1]; rfl), HB.out _⟩
  | true =>
    by_cases h2 : n ≤ 12
    · by_cases h3 : m = n
      · subst h3
        have hB := withinB_iff.1 h1
        obtain ⟨bo, hbo⟩ := int_up t.boats (by omega)
        have HR0 := Lib.hid (show (true && decide (t.pts.length ≤ 12) && decide (t.pts.length = t.cds.length) && zipB t.boats t.pts t.cds) = zipB t.boats t.pts t.cds from by rw [HN.out, HM.out, decide_eq_true h2]; simp)
        rw [h1] at E
        unfold Hid at E HR0
        rw [hbo] at E HR0 h1 hB ⊢
        replace E := Lib.hid E
        replace HR0 := Lib.hid HR0
        clear hbo
        go_enter Tryz.func42, Tryz.ntmps42
        go_wp2_with (go_at_call 25; refine (l01In_any _ _ _ _).mono ?_; rintro e w' ⟨rfl, rfl⟩)
        clear h1
        obtain ⟨w1, hw1, X0, hb1, hs1⟩ := one_box w #[.int .i64 bo, .slice P m c, .slice C m d] 33
        rw [← hw1]
        clear hw1 hs1
        have hsb := X0.lt
        go_loopw [3] (fun i wr => ∃ k : Nat, k ≤ m ∧ i = .int .i64 k ∧ Hid (zipB bo (t.pts.drop k) (t.cds.drop k) = zipB bo t.pts t.cds) ∧ Below w1.heap.size w1 wr) (fun i _ => m - (intOf i).toNat)
        case atStart => exact ⟨0, Nat.zero_le _, rfl, Lib.hid rfl, Below.refl _ _⟩
        case round =>
          obtain ⟨k, hk, rfl, HR, hb⟩ := hrel
          have X1 := X0.below hb
          have F0 := X1.f3
          by_cases hlt : k < m
          · obtain ⟨b, o, A', c', p, rfl, _, hd, hc, hrd⟩ := ((h.pts.below hb1).below hb).row hlt
            obtain ⟨b', o', A2, c2, q, rfl, _, hd', hc', hrd'⟩ := ((h.cds.below hb1).below hb).row hlt
            have HD := Lib.hid hd; have HD' := Lib.hid hd'
            clear hd hd' X0
            have HB3 := Lib.hid hb
            clear hb
            by_cases hp : p.length = bo
            · by_cases hq : q.length = bo
              · have HPQ := Lib.hid (pairB_eq (bo : Int) p q (by omega) (by omega))
                have e1 : ((p.length : Int) != bo) = false := by simp; omega
                have e2 : ((q.length : Int) != bo) = false := by simp; omega
                have HP := Lib.hid hp; have HQ := Lib.hid hq
                clear hp hq
                go_wp2_with fail
                go_quiet (fail)
                clear e1 e2 F0
                obtain ⟨wo, hwo, hbo⟩ : ∃ wo, wo = wr.drewN nq ∧ Below wr.heap.size wr wo := ⟨_, rfl, below_drewN' _ _ _⟩
                rw [← hwo]
                have F0 := (X1.below hbo).f3
                have hc := (hbo.cell (p := ⟨b, o + k, none⟩) (cell_lt hc)).trans hc
                have hc' := (hbo.cell (p := ⟨b', o' + k, none⟩) (cell_lt hc')).trans hc'
                have hrd := hrd.below hbo
                have hrd' := hrd'.below hbo
                have HBO := Lib.hid (hb1.trans ((HB3.out.trans (hbo.mono HB3.out.size)).mono hb1.size))
                have HBW := Lib.hid (HB3.out.trans (hbo.mono HB3.out.size))
                clear hwo hbo X1 hb1 HB3
                have hpl := hrd.le
                have hql := hrd'.le
                rw [HP.out] at hrd hpl hc
                rw [HQ.out] at hrd' hql hc'
                go_wp2_with fail
                go_loop [4] (fun i => ∃ j : Nat, j ≤ bo ∧ i = .int .i64 j ∧ Hid (pairB (p.drop j) (q.drop j) = pairB p q)) (fun i => bo - (intOf i).toNat)
                case atStart => exact ⟨0, Nat.zero_le _, rfl, Lib.hid rfl⟩
                case round =>
                  obtain ⟨j, hj, rfl, HJ⟩ := hrel
                  by_cases hjl : j < bo
                  · obtain ⟨b2, o2, x, rfl, _, hxd, hxc⟩ := hrd.int hjl
                    obtain ⟨b3, o3, y, rfl, _, hyd, hyc⟩ := hrd'.int hjl
                    have HXD := Lib.hid hxd; have HYD := Lib.hid hyd
                    clear hxd hyd
                    cases hx : withinB x 0 10000 with
                    | false =>
                      go_wp2_with (first | (go_at_call 25; refine (l01In_any _ _ _ _).mono ?_; rintro e w' ⟨rfl, rfl⟩) | (go_at_call 57; refine (l26Code_anyT _ _).mono ?_; rintro e w' ⟨rfl, rfl⟩))
                      have HXE := Lib.hid hx
                      go_ret
                      exact ⟨ret_bool (by rw [E.out, HR0.out, ← HR.out, HD.out, HD'.out, zipB, HPQ.out, ← HJ.out, HXD.out, HYD.out, pairB, HXE.out]; simp), HBO.out⟩
                    | true =>
                      cases hy : withinB y 0 9 with
                      | false =>
                        go_wp2_with (first | (go_at_call 25; refine (l01In_any _ _ _ _).mono ?_; rintro e w' ⟨rfl, rfl⟩) | (go_at_call 57; refine (l26Code_anyT _ _).mono ?_; rintro e w' ⟨rfl, rfl⟩))
                        have HXE := Lib.hid hx; have HYE := Lib.hid hy
                        go_ret
                        exact ⟨ret_bool (by rw [E.out, HR0.out, ← HR.out, HD.out, HD'.out, zipB, HPQ.out, ← HJ.out, HXD.out, HYD.out, pairB, HXE.out, HYE.out]; simp), HBO.out⟩
                      | true =>
                        go_wp2_with (first | (go_at_call 25; refine (l01In_any _ _ _ _).mono ?_; rintro e w' ⟨rfl, rfl⟩) | (go_at_call 57; refine (l26Code_anyT _ _).mono ?_; rintro e w' ⟨rfl, rfl⟩))
                        have HXE := Lib.hid hx; have HYE := Lib.hid hy
                        go_round
                        case rel => exact ⟨j + 1, by omega, by go_num, Lib.hid (by rw [← HJ.out, HXD.out, HYD.out, pairB, HXE.out, HYE.out]; rfl)⟩
                        case measure => simp [intOf] <;> omega
                  · obtain rfl : j = bo := by omega
                    have HT := Lib.hid (show pairB p q = true from by rw [← HJ.out, List.drop_eq_nil_of_le (by rw [HP.out]; omega), pairB_nil])
                    go_wp2_with fail
                    go_roundw
                    case rel => exact ⟨k + 1, by omega, by go_num, Lib.hid (by rw [← HR.out, HD.out, HD'.out, zipB, HPQ.out, HT.out]; rfl), HBW.out⟩
                    case measure => simp [intOf] <;> omega
              · have e1 : ((p.length : Int) != bo) = false := by simp; omega
                have e2 : ((q.length : Int) != bo) = true := by simp; omega
                go_wp2_with fail
                go_quiet (fail)
                go_wp2_with fail
                go_ret
                exact ⟨ret_bool (by rw [E.out, HR0.out, ← HR.out, HD.out, HD'.out, zipB, rowB_false (xs := q) (by omega)]; simp), hb1.trans ((HB3.out.trans (below_drewN' _ _ _)).mono hb1.size)⟩
            · have e1 : ((p.length : Int) != bo) = true := by simp; omega
              go_wp2_with fail
              go_quiet (fail)
              go_wp2_with fail
              go_ret
              exact ⟨ret_bool (by rw [E.out, HR0.out, ← HR.out, HD.out, HD'.out, zipB, rowB_false (xs := p) (by omega)]; simp), hb1.trans ((HB3.out.trans (below_drewN' _ _ _)).mono hb1.size)⟩
          · obtain rfl : k = m := by omega
            go_wp2_with fail
            go_ret
            exact ⟨ret_bool (by rw [E.out, HR0.out, ← HR.out, List.drop_eq_nil_of_le (by rw [HN.out]; omega), zipB_nil]), hb1.trans (hb.mono hb1.size)⟩
      · have hne : ((m : Int) != n) = true := by simp; omega
        go_enter Tryz.func42, Tryz.ntmps42
        go_wp2_with (go_at_call 25; refine (l01In_any _ _ _ _).mono ?_; rintro e w' ⟨rfl, rfl⟩)
        go_ret
        exact ⟨ret_bool (by rw [E.out, HN.out, HM.out, decide_eq_false (show ¬ n = m from fun e => h3 e.symm)]; simp), HB.out _⟩
    · go_enter Tryz.func42, Tryz.ntmps42
      go_wp2_with (go_at_call 25; refine (l01In_any _ _ _ _).mono ?_; rintro e w' ⟨rfl, rfl⟩)
      go_ret
      exact ⟨ret_bool (by rw [E.out, HN.out, decide_eq_false h2]; simp), HB.out _⟩
end Go.Proofs.YtalgdeieejpelaaGreatDoor

/- Walks: discard rules, codes of a table, a rule and a boat (chapter 27), both sides. -/
namespace Go.Proofs.YtalgdeieejpelaaGreatDoor
open Go.RowKit Go.Sort
set_option linter.unusedVariables false
set_option maxRecDepth 100000

theorem l01In_qz (n a b : Int) (w : World) :
    Calls Tryz.prog 25 #[.int .i64 n, .int .i64 a, .int .i64 b] w fun e w' => e = .returned (.bool (withinB n a b)) ∧ w' = w :=
  (l01In_any n a b w).mono fun _ _ ⟨h1, h2⟩ => ⟨h1, h2.symm⟩
/-- What stands before place k of a rule. -/
def prevI (rule : List Int) (k : Nat) : Int := if k = 0 then 0 else rule.getD (k - 1) 0
theorem prevI_succ {rule : List Int} {k : Nat} {x : Int} (h : rule[k]? = some x) : prevI rule (k + 1) = x := by
  unfold prevI
  rw [if_neg (by omega), Nat.add_sub_cancel, List.getD_eq_getElem?_getD, h]
  rfl
theorem inc_no_in {p x : Int} {r : List Int} (h : withinB x 1 12 = false) : incGo p (x :: r) = false := by rw [incGo, h]; rfl
theorem inc_no_lt {p x : Int} {r : List Int} (h : ¬ p < x) : incGo p (x :: r) = false := by rw [incGo, decide_eq_false h]; simp
theorem inc_yes {p x : Int} {r : List Int} (h : withinB x 1 12 = true) (h2 : p < x) : incGo p (x :: r) = incGo x r := by rw [incGo, h, decide_eq_true h2]; rfl
theorem ruleB_no {rule : List Int} (h : incGo 0 rule = false) : ruleB rule = false := by unfold ruleB; rw [h, Bool.and_false]
theorem ruleB_yes {rule : List Int} (h : incGo 0 rule = true) : ruleB rule = decide (rule.length ≤ 3) := by unfold ruleB; rw [h, Bool.and_true]
def codeT (t : Tb) (rule : List Int) (boat : Int) : Int := if tableB t = true then (if ruleB rule = true ∧ withinB boat 0 (t.boats - 1) = true then 0 else 2) else 1
set_option maxHeartbeats 2000000 in
theorem implRule_any (A : Option Addr) (n c : Nat) (rule : List Int) (w : World) (h : Rd w 1 A n (ints rule)) :
    Calls Tryz.prog 46 #[.slice A n c] w fun e w' => e = .returned (.bool (ruleB rule)) ∧ Below w.heap.size w w' := by
  have HN := Lib.hid h.len_int
  have hm := h.le
  have HR0 := Lib.hid (show incGo (prevI rule 0) (rule.drop 0) = incGo 0 rule from rfl)
  go_enter Tryz.func46, Tryz.ntmps46
  go_wp2_with fail
  go_loop [7] (fun i => ∃ k : Nat, k ≤ n ∧ i = .int .i64 k ∧ Hid (incGo (prevI rule k) (rule.drop k) = incGo 0 rule)) (fun i => n - (intOf i).toNat)
  case atStart => exact ⟨0, Nat.zero_le _, rfl, HR0⟩
  case round =>
    clear HR0
    obtain ⟨k, hk, rfl, HI⟩ := hrel
    by_cases hlt : k < n
    · have hkd : decide ((k : Int) < (n : Int)) = true := by simpa using hlt
      obtain ⟨b, o, x, rfl, hx, hd, hc⟩ := h.int hlt
      have hi := HI.out
      rw [hd] at hi
      have HX := Lib.hid hx
      have HI2 := Lib.hid hi
      have HW := Lib.hid (within_any x 1 12)
      clear hi HI hx hd
      cases hw : withinB x 1 12 with
      | false =>
        rw [hw] at HW
        have HF := Lib.hid (show ruleB rule = false from ruleB_no (by rw [← HI2.out, inc_no_in hw]))
        clear hw
        go_wp2_with fail
        refine (HW.out _).mono ?_
        rintro e w' ⟨rfl, rfl⟩
        go_wp2_with fail
        go_ret
        exact ⟨ret_bool HF.out.symm, Below.refl _ _⟩
      | true =>
        rw [hw] at HW
        have hwb := withinB_iff.1 hw
        rcases Nat.eq_zero_or_pos k with hk0 | hk0
        · subst hk0
          have HI3 := Lib.hid (show incGo (prevI rule 1) (rule.drop 1) = incGo 0 rule from by
            rw [prevI_succ HX.out, ← HI2.out]
            exact (inc_yes hw (show (0 : Int) < x by omega)).symm)
          simp only [Nat.add_zero] at hc
          clear hw hwb
          go_wp2_with fail
          refine (HW.out _).mono ?_
          rintro e w' ⟨rfl, rfl⟩
          go_wp2_with fail
          go_round
          case rel => exact ⟨1, by omega, by go_num, HI3⟩
          case measure => simp [intOf] <;> omega
        · obtain ⟨j, rfl⟩ : ∃ j, k = j + 1 := ⟨k - 1, by omega⟩
          obtain ⟨b2, o2, y, hA, hy, -, hcy⟩ := h.int (k := j) (by omega)
          injection hA with hA
          injection hA with h1 h2
          subst h1 h2
          have e0 : decide (0 < j + 1) = true := by simp
          have e1 : IntKind.i64.wrap (((j + 1 : Nat) : Int) - 1) = (j : Int) := by rw [IntWalk.i64_in _ (by omega)]; omega
          have HP := Lib.hid (prevI_succ hy)
          rw [HP.out] at HI2
          have HY := Lib.hid hy
          clear hy
          by_cases hyx : x ≤ y
          · have e2 : decide (x ≤ y) = true := by simpa using hyx
            have HF := Lib.hid (show ruleB rule = false from ruleB_no (by rw [← HI2.out, inc_no_lt (by omega)]))
            clear hw hwb hyx
            go_wp2_with fail
            refine (HW.out _).mono ?_
            rintro e w' ⟨rfl, rfl⟩
            go_wp2_with fail
            go_ret
            exact ⟨ret_bool HF.out.symm, Below.refl _ _⟩
          · have e2 : decide (x ≤ y) = false := by simpa using hyx
            have HI3 := Lib.hid (show incGo (prevI rule (j + 1 + 1)) (rule.drop (j + 1 + 1)) = incGo 0 rule from by
              rw [prevI_succ HX.out, ← HI2.out]
              exact (inc_yes hw (by omega)).symm)
            clear hw hwb hyx
            go_wp2_with fail
            refine (HW.out _).mono ?_
            rintro e w' ⟨rfl, rfl⟩
            go_wp2_with fail
            go_round
            case rel => exact ⟨j + 1 + 1, by omega, by go_num, HI3⟩
            case measure => simp [intOf] <;> omega
    · obtain rfl : k = n := by omega
      have hi := HI.out
      rw [List.drop_eq_nil_of_le (by rw [HN.out]; omega)] at hi
      have HF := Lib.hid (ruleB_yes (rule := rule) (by rw [← hi]; rfl))
      clear hi HI
      have hkd : decide ((k : Int) < (k : Int)) = false := by simp
      by_cases h3 : k ≤ 3
      · have e3 : decide ((k : Int) ≤ 3) = true := by simp; omega
        go_wp2_with fail
        go_ret
        exact ⟨ret_bool (by rw [HF.out, HN.out]; simp [h3]), Below.refl _ _⟩
      · have e3 : decide ((k : Int) ≤ 3) = false := by simp; omega
        go_wp2_with fail
        go_ret
        exact ⟨ret_bool (by rw [HF.out, HN.out]; simp [h3]), Below.refl _ _⟩
set_option maxHeartbeats 2000000 in
theorem specRule_any (A : Option Addr) (n c : Nat) (rule : List Int) (w : World) (h : Rd w 1 A n (ints rule)) :
    Calls Tryz.prog 50 #[.slice A n c] w fun e w' => e = .returned (.bool (ruleB rule)) ∧ Below w.heap.size w w' := by
  have HN := Lib.hid h.len_int
  have hm := h.le
  have HR0 := Lib.hid (show incGo (prevI rule 0) (rule.drop 0) = incGo 0 rule from rfl)
  by_cases hn3 : 3 < n
  · have e3 : decide ((3 : Int) < (n : Int)) = true := by simp; omega
    have HF := Lib.hid (show ruleB rule = false from by unfold ruleB; rw [HN.out, decide_eq_false (by omega)]; rfl)
    clear hn3 h
    go_enter Tryz.func50, Tryz.ntmps50
    go_wp2_with fail
    go_ret
    exact ⟨ret_bool HF.out.symm, Below.refl _ _⟩
  have e3 : decide ((3 : Int) < (n : Int)) = false := by simp; omega
  go_enter Tryz.func50, Tryz.ntmps50
  go_wp2_with fail
  clear e3
  go_loopw [3] (fun i wr => ∃ k : Nat, k ≤ n ∧ i = .int .i64 k ∧ Hid (incGo (prevI rule k) (rule.drop k) = incGo 0 rule) ∧ Hid (Drawn w wr)) (fun i _ => n - (intOf i).toNat)
  case atStart => exact ⟨0, Nat.zero_le _, rfl, HR0, Lib.hid (Drawn.refl _)⟩
  case round =>
    clear HR0
    obtain ⟨k, hk, rfl, HI, HQ⟩ := hrel
    obtain ⟨wo, hwo⟩ : ∃ wo : World, wo = wr := ⟨_, rfl⟩
    subst hwo
    by_cases hlt : k < n
    · have hkd : decide ((k : Int) < (n : Int)) = true := by simpa using hlt
      have hr := h.drawn HQ.out
      obtain ⟨b, o, x, rfl, hx, hd, hc⟩ := hr.int hlt
      have hi := HI.out
      rw [hd] at hi
      have HX := Lib.hid hx
      have HI2 := Lib.hid hi
      clear hi HI hx hd
      cases hw : withinB x 1 12 with
      | false =>
        have HF := Lib.hid (show ruleB rule = false from ruleB_no (by rw [← HI2.out, inc_no_in hw]))
        clear hr
        go_wp2_with fail
        go_quiet ((go_at_call 25; exact Calls.quiet_of_same (l01In_qz _ _ _ _)))
        go_wp2_with fail
        go_ret
        exact ⟨ret_bool HF.out.symm, (HQ.out.step _).below⟩
      | true =>
        have hwb := withinB_iff.1 hw
        rcases Nat.eq_zero_or_pos k with hk0 | hk0
        · subst hk0
          have HI3 := Lib.hid (show incGo (prevI rule 1) (rule.drop 1) = incGo 0 rule from by
            rw [prevI_succ HX.out, ← HI2.out]
            exact (inc_yes hw (show (0 : Int) < x by omega)).symm)
          simp only [Nat.add_zero] at hc
          clear hr hwb
          go_wp2_with fail
          go_quiet ((go_at_call 25; exact Calls.quiet_of_same (l01In_qz _ _ _ _)))
          go_wp2_with fail
          go_roundw
          case rel => exact ⟨1, by omega, by go_num, HI3, Lib.hid (HQ.out.step _)⟩
          case measure => simp [intOf] <;> omega
        · obtain ⟨j, hj⟩ : ∃ j, k = j + 1 := ⟨k - 1, by omega⟩
          obtain ⟨b2, o2, y, hA, hy, -, hcy⟩ := hr.int (k := j) (by omega)
          injection hA with hA
          injection hA with h1 h2
          subst h1 h2
          have HS := Lib.hid (show IntKind.i64.wrap ((k : Int) - 1) = (j : Int) by rw [IntWalk.i64_in _ (by omega)]; omega)
          have hjn : j < n := by omega
          have HJ := Lib.hid hj
          rw [hj, prevI_succ hy, ← hj] at HI2
          have HY := Lib.hid hy
          clear hy hj hr
          by_cases hyx : x ≤ y
          · have e2 : decide (x ≤ y) = true := by simpa using hyx
            have HF := Lib.hid (show ruleB rule = false from ruleB_no (by rw [← HI2.out, inc_no_lt (by omega)]))
            clear hwb hyx
            go_wp2_with fail
            have hs := HS.out
            go_quiet ((go_at_call 25; exact Calls.quiet_of_same (l01In_qz _ _ _ _)))
            clear hs
            go_wp2_with fail
            go_ret
            exact ⟨ret_bool HF.out.symm, (HQ.out.step _).below⟩
          · have e2 : decide (x ≤ y) = false := by simpa using hyx
            have HI3 := Lib.hid (show incGo (prevI rule (k + 1)) (rule.drop (k + 1)) = incGo 0 rule from by
              rw [prevI_succ HX.out, ← HI2.out]
              exact (inc_yes hw (by omega)).symm)
            clear hwb hyx
            go_wp2_with fail
            have hs := HS.out
            go_quiet ((go_at_call 25; exact Calls.quiet_of_same (l01In_qz _ _ _ _)))
            clear hs
            go_wp2_with fail
            go_roundw
            case rel => exact ⟨k + 1, by omega, by go_num, HI3, Lib.hid (HQ.out.step _)⟩
            case measure => simp [intOf] <;> omega
    · obtain rfl : k = n := by omega
      have hi := HI.out
      rw [List.drop_eq_nil_of_le (by rw [HN.out]; omega)] at hi
      have HF := Lib.hid (ruleB_yes (rule := rule) (by rw [← hi]; rfl))
      clear hi HI
      have hkd : decide ((k : Int) < (k : Int)) = false := by simp
      go_wp2_with fail
      go_ret
      exact ⟨ret_bool (by rw [HF.out, HN.out]; simp; omega), HQ.out.below⟩
set_option maxHeartbeats 2000000 in
theorem implCount_any (A : Option Addr) (n c : Nat) (rule : List Int) (races : Int) (w : World) (h : Rd w 1 A n (ints rule)) :
    Calls Tryz.prog 121 #[.slice A n c, .int .i64 races] w fun e w' => e = .returned (.int .i64 (leN races rule : Nat)) ∧ w = w' := by
  have HN := Lib.hid h.len_int
  have hm := h.le
  go_enter Tryz.func121, Tryz.ntmps121
  go_wp2_with fail
  go_loop [5, 10] (fun m i => ∃ k q : Nat, k ≤ n ∧ i = .int .i64 k ∧ m = .int .i64 q ∧ q ≤ k ∧ Hid (leN races (rule.take k) = q)) (fun _ i => n - (intOf i).toNat)
  case atStart => exact ⟨0, 0, Nat.zero_le _, rfl, rfl, Nat.le_refl _, Lib.hid (by rw [List.take_zero]; rfl)⟩
  case round =>
    obtain ⟨k, q, hk, rfl, rfl, hq, HI⟩ := hrel
    by_cases hlt : k < n
    · have hkd : decide ((k : Int) < (n : Int)) = true := by simpa using hlt
      obtain ⟨b, o, x, rfl, hx, hd, hc⟩ := h.int hlt
      have ht := take_snoc_get hx
      have HT := Lib.hid (show leN races (rule.take (k + 1)) = q + (if x ≤ races then 1 else 0) from by rw [ht, leN_snoc, HI.out])
      clear ht hx hd HI
      by_cases hxr : x ≤ races
      · have hxd : decide (x ≤ races) = true := by simpa using hxr
        rw [if_pos hxr] at HT
        clear hxr
        go_wp2_with fail
        go_round
        case rel => exact ⟨k + 1, q + 1, by omega, by go_num, by go_num, by omega, HT⟩
        case measure => simp [intOf] <;> omega
      · have hxd : decide (x ≤ races) = false := by simpa using hxr
        rw [if_neg hxr] at HT
        clear hxr
        go_wp2_with fail
        go_round
        case rel => exact ⟨k + 1, q, by omega, by go_num, rfl, by omega, HT⟩
        case measure => simp [intOf] <;> omega
    · obtain rfl : k = n := by omega
      have hkd : decide ((k : Int) < (k : Int)) = false := by simp
      have hi := HI.out
      rw [List.take_of_length_le (by rw [HN.out]; omega)] at hi
      have HI2 := Lib.hid hi
      clear hi HI
      go_wp2_with fail
      go_ret
      exact ⟨ret_int (by rw [HI2.out]), rfl⟩
set_option maxHeartbeats 2000000 in
theorem specCount_any (A : Option Addr) (n c : Nat) (rule : List Int) (races : Int) (w : World) (h : Rd w 1 A n (ints rule)) :
    Calls Tryz.prog 106 #[.slice A n c, .int .i64 races] w fun e w' => e = .returned (.int .i64 (leN races rule : Nat)) ∧ w = w' := by
  have HN := Lib.hid h.len_int
  have hm := h.le
  go_enter Tryz.func106, Tryz.ntmps106
  go_wp2_with fail
  go_loop [5, 6] (fun m i => ∃ k q : Nat, k ≤ n ∧ i = .int .i64 k ∧ m = .int .i64 q ∧ q ≤ k ∧ Hid (leN races (rule.take k) = q)) (fun _ i => n - (intOf i).toNat)
  case atStart => exact ⟨0, 0, Nat.zero_le _, rfl, rfl, Nat.le_refl _, Lib.hid (by rw [List.take_zero]; rfl)⟩
  case round =>
    obtain ⟨k, q, hk, rfl, rfl, hq, HI⟩ := hrel
    by_cases hlt : k < n
    · have hkd : decide ((k : Int) < (n : Int)) = true := by simpa using hlt
      obtain ⟨b, o, x, rfl, hx, hd, hc⟩ := h.int hlt
      have ht := take_snoc_get hx
      have HT := Lib.hid (show leN races (rule.take (k + 1)) = q + (if x ≤ races then 1 else 0) from by rw [ht, leN_snoc, HI.out])
      clear ht hx hd HI
      by_cases hxr : x ≤ races
      · have hxd : decide (x ≤ races) = true := by simpa using hxr
        rw [if_pos hxr] at HT
        clear hxr
        go_wp2_with fail
        go_round
        case rel => exact ⟨k + 1, q + 1, by omega, by go_num, by go_num, by omega, HT⟩
        case measure => simp [intOf] <;> omega
      · have hxd : decide (x ≤ races) = false := by simpa using hxr
        rw [if_neg hxr] at HT
        clear hxr
        go_wp2_with fail
        go_round
        case rel => exact ⟨k + 1, q, by omega, by go_num, rfl, by omega, HT⟩
        case measure => simp [intOf] <;> omega
    · obtain rfl : k = n := by omega
      have hkd : decide ((k : Int) < (k : Int)) = false := by simp
      have hi := HI.out
      rw [List.take_of_length_le (by rw [HN.out]; omega)] at hi
      have HI2 := Lib.hid hi
      clear hi HI
      go_wp2_with fail
      go_ret
      exact ⟨ret_int (by rw [HI2.out]), rfl⟩
set_option maxHeartbeats 2000000 in
theorem implCode_any (P : Option Addr) (n c : Nat) (C : Option Addr) (m d : Nat) (t : Tb) (A : Option Addr) (l cl : Nat) (rule : List Int) (boat : Int) (w : World) (h : RdT w P n C m t) (hl : Rd w 1 A l (ints rule)) :
    Calls Tryz.prog 31 #[.agg #[.int .i64 t.boats, .slice P n c, .slice C m d], .slice A l cl, .int .i64 boat] w fun e w' => e = .returned (.int .i64 (codeT t rule boat)) ∧ Below w.heap.size w w' := by
  obtain ⟨w1, hw1, X0, hb1, hs1⟩ := one_box w #[.int .i64 t.boats, .slice P n c, .slice C m d] 33
  have HT := Lib.hid (implIsTable_any P n c C m d t w1 (h.below hb1))
  have HB1 := Lib.hid hb1
  have HX := Lib.hid X0
  have HW1 := Lib.hid hw1
  have HL := Lib.hid hl
  have hok := fun e => tableB_ok (t := t) e
  unfold codeT
  generalize tableB t = tb at *
  have FX := X0.f3
  clear X0 hb1 hs1 hw1 h hl
  cases tb with
  | false =>
    clear hok
    show Calls Tryz.prog _ _ w fun e w' => e = .returned (.int .i64 1) ∧ Below w.heap.size w w'
    go_enter Tryz.func31, Tryz.ntmps31
    go_wp2_with fail
    rw [← HW1.out]
    clear HW1 FX
    go_wp2_with fail
    refine HT.out.mono ?_
    rintro e w2 ⟨rfl, hb⟩
    have HB2 := Lib.hid (HB1.out.trans (hb.mono HB1.out.size))
    clear hb
    go_wp2_with fail
    go_ret
    exact ⟨rfl, HB2.out⟩
  | true =>
    have ok := hok rfl
    have hb1 := ok.b1
    have hb2 := ok.b2
    rw [if_pos rfl]
    clear hok ok
    have HR := Lib.hid (fun w' hb => implRule_any A l cl rule w' (HL.out.below (w' := w') hb))
    have HWI := Lib.hid (fun w' => within_any boat 0 (t.boats - 1) w')
    cases hr : ruleB rule with
    | false =>
      rw [hr] at HR
      rw [if_neg (by simp)]
      clear hr
      go_enter Tryz.func31, Tryz.ntmps31
      go_wp2_with fail
      rw [← HW1.out]
      clear HW1
      go_wp2_with fail
      refine HT.out.mono ?_
      rintro e w2 ⟨rfl, hb⟩
      have HB2 := Lib.hid (HB1.out.trans (hb.mono HB1.out.size))
      have HX2 := Lib.hid (HX.out.below hb)
      clear hb FX
      go_wp2_with fail
      refine (HR.out _ HB2.out).mono ?_
      rintro e w3 ⟨rfl, hb⟩
      have HB3 := Lib.hid (HB2.out.trans (hb.mono HB2.out.size))
      have FX := (HX2.out.below hb).f3
      clear hb
      go_wp2_with fail
      go_ret
      exact ⟨rfl, HB3.out⟩
    | true =>
      rw [hr] at HR
      cases hwi : withinB boat 0 (t.boats - 1) with
      | false =>
        rw [hwi] at HWI
        rw [if_neg (by simp)]
        clear hr hwi
        go_enter Tryz.func31, Tryz.ntmps31
        go_wp2_with fail
        rw [← HW1.out]
        clear HW1
        go_wp2_with fail
        refine HT.out.mono ?_
        rintro e w2 ⟨rfl, hb⟩
        have HB2 := Lib.hid (HB1.out.trans (hb.mono HB1.out.size))
        have HX2 := Lib.hid (HX.out.below hb)
        clear hb FX
        go_wp2_with fail
        refine (HR.out _ HB2.out).mono ?_
        rintro e w3 ⟨rfl, hb⟩
        have HB3 := Lib.hid (HB2.out.trans (hb.mono HB2.out.size))
        have FX := (HX2.out.below hb).f3
        clear hb
        go_wp2_with fail
        refine (HWI.out _).mono ?_
        rintro e w4 ⟨rfl, rfl⟩
        go_wp2_with fail
        go_ret
        exact ⟨rfl, HB3.out⟩
      | true =>
        rw [hwi] at HWI
        rw [if_pos ⟨rfl, rfl⟩]
        clear hr hwi
        go_enter Tryz.func31, Tryz.ntmps31
        go_wp2_with fail
        rw [← HW1.out]
        clear HW1
        go_wp2_with fail
        refine HT.out.mono ?_
        rintro e w2 ⟨rfl, hb⟩
        have HB2 := Lib.hid (HB1.out.trans (hb.mono HB1.out.size))
        have HX2 := Lib.hid (HX.out.below hb)
        clear hb FX
        go_wp2_with fail
        refine (HR.out _ HB2.out).mono ?_
        rintro e w3 ⟨rfl, hb⟩
        have HB3 := Lib.hid (HB2.out.trans (hb.mono HB2.out.size))
        have FX := (HX2.out.below hb).f3
        clear hb
        go_wp2_with fail
        refine (HWI.out _).mono ?_
        rintro e w4 ⟨rfl, rfl⟩
        go_wp2_with fail
        go_ret
        exact ⟨rfl, HB3.out⟩
set_option maxHeartbeats 2000000 in
theorem specCode_any (P : Option Addr) (n c : Nat) (C : Option Addr) (m d : Nat) (t : Tb) (A : Option Addr) (l cl : Nat) (rule : List Int) (boat : Int) (w : World) (h : RdT w P n C m t) (hl : Rd w 1 A l (ints rule)) :
    Calls Tryz.prog 34 #[.agg #[.int .i64 t.boats, .slice P n c, .slice C m d], .slice A l cl, .int .i64 boat] w fun e w' => e = .returned (.int .i64 (codeT t rule boat)) ∧ Below w.heap.size w w' := by
  obtain ⟨w1, hw1, X0, hb1, hs1⟩ := one_box w #[.int .i64 t.boats, .slice P n c, .slice C m d] 33
  have HT := Lib.hid (specIsTable_any P n c C m d t w1 (h.below hb1))
  have HB1 := Lib.hid hb1
  have HX := Lib.hid X0
  have HW1 := Lib.hid hw1
  have HL := Lib.hid hl
  have hok := fun e => tableB_ok (t := t) e
  unfold codeT
  generalize tableB t = tb at *
  have FX := X0.f3
  clear X0 hb1 hs1 hw1 h hl
  cases tb with
  | false =>
    clear hok
    show Calls Tryz.prog _ _ w fun e w' => e = .returned (.int .i64 1) ∧ Below w.heap.size w w'
    go_enter Tryz.func34, Tryz.ntmps34
    go_wp2_with fail
    rw [← HW1.out]
    clear HW1 FX
    go_wp2_with fail
    refine HT.out.mono ?_
    rintro e w2 ⟨rfl, hb⟩
    have HB2 := Lib.hid (HB1.out.trans (hb.mono HB1.out.size))
    clear hb
    go_wp2_with fail
    go_ret
    exact ⟨rfl, HB2.out⟩
  | true =>
    have ok := hok rfl
    have hb1 := ok.b1
    have hb2 := ok.b2
    rw [if_pos rfl]
    clear hok ok
    have HR := Lib.hid (fun w' hb => specRule_any A l cl rule w' (HL.out.below (w' := w') hb))
    have HWI := Lib.hid (fun w' => l01In_any boat 0 (t.boats - 1) w')
    cases hr : ruleB rule with
    | false =>
      rw [hr] at HR
      rw [if_neg (by simp)]
      clear hr
      go_enter Tryz.func34, Tryz.ntmps34
      go_wp2_with fail
      rw [← HW1.out]
      clear HW1
      go_wp2_with fail
      refine HT.out.mono ?_
      rintro e w2 ⟨rfl, hb⟩
      have HB2 := Lib.hid (HB1.out.trans (hb.mono HB1.out.size))
      have HX2 := Lib.hid (HX.out.below hb)
      clear hb FX
      go_wp2_with fail
      refine (HR.out _ HB2.out).mono ?_
      rintro e w3 ⟨rfl, hb⟩
      have HB3 := Lib.hid (HB2.out.trans (hb.mono HB2.out.size))
      have FX := (HX2.out.below hb).f3
      clear hb
      go_wp2_with fail
      go_ret
      exact ⟨rfl, HB3.out⟩
    | true =>
      rw [hr] at HR
      cases hwi : withinB boat 0 (t.boats - 1) with
      | false =>
        rw [hwi] at HWI
        rw [if_neg (by simp)]
        clear hr hwi
        go_enter Tryz.func34, Tryz.ntmps34
        go_wp2_with fail
        rw [← HW1.out]
        clear HW1
        go_wp2_with fail
        refine HT.out.mono ?_
        rintro e w2 ⟨rfl, hb⟩
        have HB2 := Lib.hid (HB1.out.trans (hb.mono HB1.out.size))
        have HX2 := Lib.hid (HX.out.below hb)
        clear hb FX
        go_wp2_with fail
        refine (HR.out _ HB2.out).mono ?_
        rintro e w3 ⟨rfl, hb⟩
        have HB3 := Lib.hid (HB2.out.trans (hb.mono HB2.out.size))
        have FX := (HX2.out.below hb).f3
        clear hb
        go_wp2_with fail
        refine (HWI.out _).mono ?_
        rintro e w4 ⟨rfl, rfl⟩
        go_wp2_with fail
        go_ret
        exact ⟨rfl, HB3.out⟩
      | true =>
        rw [hwi] at HWI
        rw [if_pos ⟨rfl, rfl⟩]
        clear hr hwi
        go_enter Tryz.func34, Tryz.ntmps34
        go_wp2_with fail
        rw [← HW1.out]
        clear HW1
        go_wp2_with fail
        refine HT.out.mono ?_
        rintro e w2 ⟨rfl, hb⟩
        have HB2 := Lib.hid (HB1.out.trans (hb.mono HB1.out.size))
        have HX2 := Lib.hid (HX.out.below hb)
        clear hb FX
        go_wp2_with fail
        refine (HR.out _ HB2.out).mono ?_
        rintro e w3 ⟨rfl, hb⟩
        have HB3 := Lib.hid (HB2.out.trans (hb.mono HB2.out.size))
        have FX := (HX2.out.below hb).f3
        clear hb
        go_wp2_with fail
        refine (HWI.out _).mono ?_
        rintro e w4 ⟨rfl, rfl⟩
        go_wp2_with fail
        go_ret
        exact ⟨rfl, HB3.out⟩
end Go.Proofs.YtalgdeieejpelaaGreatDoor

/- Walks: averages of points (chapter 29), both sides. -/
namespace Go.Proofs.YtalgdeieejpelaaGreatDoor
open Go.RowKit
set_option linter.unusedVariables false
set_option maxRecDepth 100000

theorem getD_of_drop {α : Type} {xs r : List α} {k : Nat} {x d : α} (h : xs.drop k = x :: r) : xs.getD k d = x := by
  have h0 : (xs.drop k)[0]? = some x := by rw [h]; rfl
  have : xs[k]? = some x := by rw [List.getElem?_drop] at h0; simpa using h0
  simp [List.getD, this]
theorem tab_row {w : World} {P C : Option Addr} {n m k : Nat} {t : Tb} (h : RdT w P n C m t) (ok : TabOk t) (hk : k < n) {bt : Nat} (hb : (bt : Int) < t.boats) :
    ∃ b o A' c' p b' o' A2 c2 q x y b3 o3 b4 o4, P = some ⟨b, o, none⟩ ∧ C = some ⟨b', o', none⟩ ∧ t.pts.drop k = p :: t.pts.drop (k + 1) ∧ t.cds.drop k = q :: t.cds.drop (k + 1) ∧
      w.cell? ⟨b, o + k, none⟩ = some (.slice A' p.length c') ∧ w.cell? ⟨b', o' + k, none⟩ = some (.slice A2 q.length c2) ∧ A' = some ⟨b3, o3, none⟩ ∧ A2 = some ⟨b4, o4, none⟩ ∧
      bt < p.length ∧ bt < q.length ∧ p.length ≤ 16 ∧ q.length ≤ 16 ∧ p.getD bt 0 = x ∧ q.getD bt 0 = y ∧ 0 ≤ x ∧ x ≤ 10000 ∧ w.cell? ⟨b3, o3 + bt, none⟩ = some (.int .i64 x) ∧ w.cell? ⟨b4, o4 + bt, none⟩ = some (.int .i64 y) := by
  have hl := ok.same
  have hpl := h.pts.len
  have hcl := h.cds.len
  have hkm : k < m := by omega
  obtain ⟨b, o, A', c', p, rfl, hp, hd, hc, hrd⟩ := h.pts.row hk
  obtain ⟨b', o', A2, c2, q, rfl, hq, hd', hc', hrd'⟩ := h.cds.row hkm
  obtain ⟨⟨r1, r2⟩, r3, r4⟩ := ok.row k p q hp hq
  have h2 := ok.b2
  obtain ⟨b3, o3, x, rfl, hx, _, hxc⟩ := hrd.int (k := bt) (by omega)
  obtain ⟨b4, o4, y, rfl, hy, _, hyc⟩ := hrd'.int (k := bt) (by omega)
  have hxm := r2 x (List.mem_of_getElem? hx)
  exact ⟨b, o, _, c', p, b', o', _, c2, q, x, y, b3, o3, b4, o4, rfl, rfl, hd, hd', hc, hc', rfl, rfl, by omega, by omega, by omega, by omega, by simp [List.getD, hx], by simp [List.getD, hy], hxm.1, hxm.2, hxc, hyc⟩
theorem ret_two {a a' : Int} {b b' : Bool} (h : (a, b) = (a', b')) : Ending.returned (.tuple #[.int .i64 a, .bool b]) = .returned (.tuple #[.int .i64 a', .bool b']) := by
  injection h with h1 h2; rw [h1, h2]
set_option maxHeartbeats 2000000 in
theorem implAvg_any (P : Option Addr) (n c : Nat) (C : Option Addr) (m d : Nat) (t : Tb) (race : Int) (bt : Nat) (kind : Int) (hkind : kind = 1 ∨ kind = 2) (ok : TabOk t) (hbt : (bt : Int) < t.boats) (w : World) (h : RdT w P n C m t) :
    Calls Tryz.prog 64 #[.agg #[.int .i64 t.boats, .slice P n c, .slice C m d], .int .i64 race, .int .i64 bt, .int .i64 kind] w fun e w' => e = .returned (.tuple #[.int .i64 (avgF t race bt kind).1, .bool (avgF t race bt kind).2]) ∧ Below w.heap.size w w' := by
  have hn := h.pts.le
  have hm := h.cds.le
  have hn12 : n ≤ 12 := by have := ok.many; have := h.pts.len; omega
  have HN := Lib.hid h.pts.len
  have hnm : n = m := by have := ok.same; have := h.pts.len; have := h.cds.len; omega
  subst hnm
  have E := Lib.hid (show avgF t race bt kind = avgOf (avgGo race kind bt 0 t.pts t.cds 0 0) from rfl)
  generalize avgF t race bt kind = R at *
  have HB := Lib.hid (show ∀ o, Below w.heap.size w (w.alloc o) from fun o => (Below.refl _ _).alloc (Nat.le_refl _) o)
  have HOK := Lib.hid ok; have HBT := Lib.hid hbt
  clear ok hbt
  go_enter Tryz.func64, Tryz.ntmps64
  go_wp2_with fail
  obtain ⟨w1, hw1, X0, hb1, hs1⟩ := one_box w #[.int .i64 t.boats, .slice P n c, .slice C n d] 33
  rw [← hw1]
  clear hw1 hs1
  have F0 := X0.f3
  have h1 := h.below hb1
  have HB1 := Lib.hid hb1
  clear h hb1 X0
  go_loop [10, 11, 18] (fun s m i => ∃ (k : Nat) (S M : Int), k ≤ n ∧ i = .int .i64 k ∧ s = .int .i64 S ∧ m = .int .i64 M ∧ 0 ≤ S ∧ S ≤ 10000 * k ∧ 0 ≤ M ∧ M ≤ k ∧ Hid (avgGo race kind bt k (t.pts.drop k) (t.cds.drop k) S M = avgGo race kind bt 0 t.pts t.cds 0 0)) (fun _ _ i => n - (intOf i).toNat)
  case atStart => exact ⟨0, 0, 0, Nat.zero_le _, rfl, rfl, rfl, by omega, by omega, by omega, by omega, Lib.hid rfl⟩
  case round =>
    obtain ⟨k, S, M, hk, rfl, rfl, rfl, hS0, hS1, hM0, hM1, HR⟩ := hrel
    by_cases hlt : k < n
    · obtain ⟨b, o, A', c', p, b', o', A2, c2, q, x, y, b3, o3, b4, o4, rfl, rfl, hd, hd', hc, hc', rfl, rfl, hbp, hbq, hp16, hq16, hx, hy, hx0, hx1, hxc, hyc⟩ := tab_row h1 HOK.out hlt HBT.out
      have HD := Lib.hid hd; have HD' := Lib.hid hd'; have HX := Lib.hid hx; have HY := Lib.hid hy
      clear hd hd' hx hy h1
      by_cases hr : (k : Int) < race
      · have HOT := Lib.hid (show otherB race kind k = true by rw [otherB_all k hkind]; simp [hr])
        by_cases h9 : y = 9
        · have HO := Lib.hid (show ¬ ((otherB race kind k && !(y == 9)) = true) by simp [h9])
          subst h9
          go_wp2_with fail
          go_round
          case rel => exact ⟨k + 1, S, M, by omega, by go_num, rfl, rfl, by omega, by omega, by omega, by omega, Lib.hid (by rw [← HR.out, HD.out, HD'.out, avgGo, HX.out, HY.out, if_neg HO.out])⟩
          case measure => simp [intOf] <;> omega
        · have HO := Lib.hid (show (otherB race kind k && !(y == 9)) = true by rw [HOT.out]; simp [h9])
          have e9 : (y == 9) = false := by simp [h9]
          have e9' : (y != 9) = true := by simp [h9]
          go_wp2_with fail
          go_round
          case rel => exact ⟨k + 1, S + x, M + 1, by omega, by go_num, by go_num, by go_num, by omega, by omega, by omega, by omega, Lib.hid (by rw [← HR.out, HD.out, HD'.out, avgGo, HX.out, HY.out, if_pos HO.out])⟩
          case measure => simp [intOf] <;> omega
      · by_cases hr2 : race < (k : Int)
        · rcases hkind with rfl | rfl
          · have HOT := Lib.hid (show otherB race 1 k = true by rw [otherB_all k (.inl rfl)]; simp [hr, hr2])
            by_cases h9 : y = 9
            · have HO := Lib.hid (show ¬ ((otherB race 1 k && !(y == 9)) = true) by simp [h9])
              subst h9
              go_wp2_with fail
              go_round
              case rel => exact ⟨k + 1, S, M, by omega, by go_num, rfl, rfl, by omega, by omega, by omega, by omega, Lib.hid (by rw [← HR.out, HD.out, HD'.out, avgGo, HX.out, HY.out, if_neg HO.out])⟩
              case measure => simp [intOf] <;> omega
            · have HO := Lib.hid (show (otherB race 1 k && !(y == 9)) = true by rw [HOT.out]; simp [h9])
              have e9 : (y == 9) = false := by simp [h9]
              have e9' : (y != 9) = true := by simp [h9]
              go_wp2_with fail
              go_round
              case rel => exact ⟨k + 1, S + x, M + 1, by omega, by go_num, by go_num, by go_num, by omega, by omega, by omega, by omega, Lib.hid (by rw [← HR.out, HD.out, HD'.out, avgGo, HX.out, HY.out, if_pos HO.out])⟩
              case measure => simp [intOf] <;> omega
          · have HOF := Lib.hid (show otherB race 2 k = false by rw [otherB_all k (.inr rfl)]; simp [hr])
            have HO := Lib.hid (show ¬ ((otherB race 2 k && !(y == 9)) = true) by rw [HOF.out]; simp)
            go_wp2_with fail
            go_round
            case rel => exact ⟨k + 1, S, M, by omega, by go_num, rfl, rfl, by omega, by omega, by omega, by omega, Lib.hid (by rw [← HR.out, HD.out, HD'.out, avgGo, HX.out, HY.out, if_neg HO.out])⟩
            case measure => simp [intOf] <;> omega
        · have HOF := Lib.hid (show otherB race kind k = false by rw [otherB_all k hkind]; simp [hr]; omega)
          have HO := Lib.hid (show ¬ ((otherB race kind k && !(y == 9)) = true) by rw [HOF.out]; simp)
          go_wp2_with fail
          go_round
          case rel => exact ⟨k + 1, S, M, by omega, by go_num, rfl, rfl, by omega, by omega, by omega, by omega, Lib.hid (by rw [← HR.out, HD.out, HD'.out, avgGo, HX.out, HY.out, if_neg HO.out])⟩
          case measure => simp [intOf] <;> omega
    · obtain rfl : k = n := by omega
      rw [List.drop_eq_nil_of_le (by rw [HN.out]; omega), avgGo_nil] at HR
      rw [← HR.out] at E
      clear HR h1
      by_cases hM : M = 0
      · subst hM
        go_wp2_with fail
        go_ret2
        exact ⟨ret_two (by rw [E.out]; rfl), HB1.out⟩
      · have e0 : (M == 0) = false := by simp [hM]
        have hMp : 0 < M := by omega
        go_wp2_with fail
        go_ret2
        exact ⟨ret_two (by rw [E.out]; unfold avgOf; rw [if_neg hM]), HB1.out⟩
set_option maxHeartbeats 2000000 in
theorem specAvg_any (P : Option Addr) (n c : Nat) (C : Option Addr) (m d : Nat) (t : Tb) (race : Int) (bt : Nat) (kind : Int) (ok : TabOk t) (hbt : (bt : Int) < t.boats) (w : World) (h : RdT w P n C m t) :
    Calls Tryz.prog 43 #[.agg #[.int .i64 t.boats, .slice P n c, .slice C m d], .int .i64 race, .int .i64 bt, .int .i64 kind] w fun e w' => e = .returned (.tuple #[.int .i64 (avgF t race bt kind).1, .bool (avgF t race bt kind).2]) ∧ Below w.heap.size w w' := by
  have hn := h.pts.le
  have hm := h.cds.le
  have hn12 : n ≤ 12 := by have := ok.many; have := h.pts.len; omega
  have HN := Lib.hid h.pts.len
  have hnm : n = m := by have := ok.same; have := h.pts.len; have := h.cds.len; omega
  subst hnm
  have E := Lib.hid (show avgF t race bt kind = avgOf (avgGo race kind bt 0 t.pts t.cds 0 0) from rfl)
  generalize avgF t race bt kind = R at *
  have HB := Lib.hid (show ∀ o, Below w.heap.size w (w.alloc o) from fun o => (Below.refl _ _).alloc (Nat.le_refl _) o)
  have HOK := Lib.hid ok; have HBT := Lib.hid hbt
  clear ok hbt
  go_enter Tryz.func43, Tryz.ntmps43
  go_wp2_with fail
  obtain ⟨w1, hw1, X0, hb1, hs1⟩ := one_box w #[.int .i64 t.boats, .slice P n c, .slice C n d] 33
  rw [← hw1]
  clear hw1 hs1
  have F0 := X0.f3
  have h1 := h.below hb1
  have HB1 := Lib.hid hb1
  clear h hb1 X0
  go_loop [10, 11, 12] (fun s m i => ∃ (k : Nat) (S M : Int), k ≤ n ∧ i = .int .i64 k ∧ s = .int .i64 S ∧ m = .int .i64 M ∧ 0 ≤ S ∧ S ≤ 10000 * k ∧ 0 ≤ M ∧ M ≤ k ∧ Hid (avgGo race kind bt k (t.pts.drop k) (t.cds.drop k) S M = avgGo race kind bt 0 t.pts t.cds 0 0)) (fun _ _ i => n - (intOf i).toNat)
  case atStart => exact ⟨0, 0, 0, Nat.zero_le _, rfl, rfl, rfl, by omega, by omega, by omega, by omega, Lib.hid rfl⟩
  case round =>
    obtain ⟨k, S, M, hk, rfl, rfl, rfl, hS0, hS1, hM0, hM1, HR⟩ := hrel
    by_cases hlt : k < n
    · obtain ⟨b, o, A', c', p, b', o', A2, c2, q, x, y, b3, o3, b4, o4, rfl, rfl, hd, hd', hc, hc', rfl, rfl, hbp, hbq, hp16, hq16, hx, hy, hx0, hx1, hxc, hyc⟩ := tab_row h1 HOK.out hlt HBT.out
      have HD := Lib.hid hd; have HD' := Lib.hid hd'; have HX := Lib.hid hx; have HY := Lib.hid hy
      clear hd hd' hx hy h1
      by_cases hr : (k : Int) = race
      · have er : ((k : Int) == race) = true := by simp [hr]
        have HOF := Lib.hid (show otherB race kind k = false by unfold otherB; simp [hr])
        have HO := Lib.hid (show ¬ ((otherB race kind k && !(y == 9)) = true) by rw [HOF.out]; simp)
        go_wp2_with fail
        go_round
        case rel => exact ⟨k + 1, S, M, by omega, by go_num, rfl, rfl, by omega, by omega, by omega, by omega, Lib.hid (by rw [← HR.out, HD.out, HD'.out, avgGo, HX.out, HY.out, if_neg HO.out])⟩
        case measure => simp [intOf] <;> omega
      · have er : ((k : Int) == race) = false := by simp [hr]
        by_cases hk2 : kind = 2
        · subst hk2
          by_cases hr2 : race < (k : Int)
          · have HOF := Lib.hid (show otherB race 2 k = false by unfold otherB; simp [hr2])
            have HO := Lib.hid (show ¬ ((otherB race 2 k && !(y == 9)) = true) by rw [HOF.out]; simp)
            go_wp2_with fail
            go_round
            case rel => exact ⟨k + 1, S, M, by omega, by go_num, rfl, rfl, by omega, by omega, by omega, by omega, Lib.hid (by rw [← HR.out, HD.out, HD'.out, avgGo, HX.out, HY.out, if_neg HO.out])⟩
            case measure => simp [intOf] <;> omega
          · have HOT := Lib.hid (show otherB race 2 k = true by unfold otherB; simp [hr, hr2] <;> omega)
            by_cases h9 : y = 9
            · have HO := Lib.hid (show ¬ ((otherB race 2 k && !(y == 9)) = true) by simp [h9])
              subst h9
              go_wp2_with fail
              go_round
              case rel => exact ⟨k + 1, S, M, by omega, by go_num, rfl, rfl, by omega, by omega, by omega, by omega, Lib.hid (by rw [← HR.out, HD.out, HD'.out, avgGo, HX.out, HY.out, if_neg HO.out])⟩
              case measure => simp [intOf] <;> omega
            · have HO := Lib.hid (show (otherB race 2 k && !(y == 9)) = true by rw [HOT.out]; simp [h9])
              have e9 : (y == 9) = false := by simp [h9]
              have e9' : (y != 9) = true := by simp [h9]
              go_wp2_with fail
              go_round
              case rel => exact ⟨k + 1, S + x, M + 1, by omega, by go_num, by go_num, by go_num, by omega, by omega, by omega, by omega, Lib.hid (by rw [← HR.out, HD.out, HD'.out, avgGo, HX.out, HY.out, if_pos HO.out])⟩
              case measure => simp [intOf] <;> omega
        · have e2 : (kind == 2) = false := by simp [hk2]
          have HOT := Lib.hid (show otherB race kind k = true by unfold otherB; simp [hr, hk2])
          by_cases h9 : y = 9
          · have HO := Lib.hid (show ¬ ((otherB race kind k && !(y == 9)) = true) by simp [h9])
            subst h9
            go_wp2_with fail
            go_round
            case rel => exact ⟨k + 1, S, M, by omega, by go_num, rfl, rfl, by omega, by omega, by omega, by omega, Lib.hid (by rw [← HR.out, HD.out, HD'.out, avgGo, HX.out, HY.out, if_neg HO.out])⟩
            case measure => simp [intOf] <;> omega
          · have HO := Lib.hid (show (otherB race kind k && !(y == 9)) = true by rw [HOT.out]; simp [h9])
            have e9 : (y == 9) = false := by simp [h9]
            have e9' : (y != 9) = true := by simp [h9]
            go_wp2_with fail
            go_round
            case rel => exact ⟨k + 1, S + x, M + 1, by omega, by go_num, by go_num, by go_num, by omega, by omega, by omega, by omega, Lib.hid (by rw [← HR.out, HD.out, HD'.out, avgGo, HX.out, HY.out, if_pos HO.out])⟩
            case measure => simp [intOf] <;> omega
    · obtain rfl : k = n := by omega
      rw [List.drop_eq_nil_of_le (by rw [HN.out]; omega), avgGo_nil] at HR
      rw [← HR.out] at E
      clear HR h1
      by_cases hM : M = 0
      · subst hM
        go_wp2_with fail
        go_ret2
        exact ⟨ret_two (by rw [E.out]; rfl), HB1.out⟩
      · have e0 : (M == 0) = false := by simp [hM]
        have hMp : 0 < M := by omega
        go_wp2_with fail
        go_ret2
        exact ⟨ret_two (by rw [E.out]; unfold avgOf; rw [if_neg hM]), HB1.out⟩
end Go.Proofs.YtalgdeieejpelaaGreatDoor

/- Walks: the laws' helpers on slices of Redress. -/
namespace Go.Proofs.YtalgdeieejpelaaGreatDoor
open Go.RowKit
set_option linter.unusedVariables false
set_option maxRecDepth 100000

abbrev RedressT := Int × Int × Int × Int
def redC (p : RedressT) : List Value := [.int .i64 p.1, .int .i64 p.2.1, .int .i64 p.2.2.1, .int .i64 p.2.2.2]
theorem redC_len (p : RedressT) : (redC p).length = 4 := rfl
def reds (xs : List RedressT) : List Value := xs.flatMap redC
theorem zeroS4 (v : Value) (i : Nat) (h : i < (#[v, v, v, v] : Array Value).size) : (#[v, v, v, v] : Array Value)[i]! = v := by
  have : i = 0 ∨ i = 1 ∨ i = 2 ∨ i = 3 := by simp at h; omega
  rcases this with rfl | rfl | rfl | rfl <;> rfl
theorem Rd.red {w : World} {A : Option Addr} {n k : Nat} {xs : List RedressT} (h : Rd w 4 A n (reds xs)) (hk : k < n) :
    ∃ b o x0 x1 x2 x3, A = some ⟨b, o, none⟩ ∧ xs[k]? = some (x0, x1, x2, x3) ∧ xs.drop k = (x0, x1, x2, x3) :: xs.drop (k + 1) ∧ w.cell? ⟨b, o + k * 4, none⟩ = some (.int .i64 x0) ∧ w.cell? ⟨b, o + k * 4 + 1, none⟩ = some (.int .i64 x1) ∧ w.cell? ⟨b, o + k * 4 + 2, none⟩ = some (.int .i64 x2) ∧ w.cell? ⟨b, o + k * 4 + 3, none⟩ = some (.int .i64 x3) := by
  obtain ⟨b, o, ⟨x0, x1, x2, x3⟩, e, h1, h2, h3⟩ := Rd.flat redC_len (by decide) h hk
  exact ⟨b, o, x0, x1, x2, x3, e, h1, h2, h3 0 _ rfl, h3 1 _ rfl, h3 2 _ rfl, h3 3 _ rfl⟩
theorem Rd.len_red {w : World} {A : Option Addr} {n : Nat} {xs : List RedressT} (h : Rd w 4 A n (reds xs)) : xs.length = n := Rd.len_flat redC_len (by decide) h
theorem own_red_at {w : World} {base e n c k : Nat} {A : Option Addr} {xs : List RedressT} (h : w.ownsRow base e 4 (.slice A n c) n (reds xs)) (hk : k < n) :
    ∃ g x0 x1 x2 x3, A = some ⟨g, 0, none⟩ ∧ base ≤ g ∧ g < w.heap.size ∧ xs[k]? = some (x0, x1, x2, x3) ∧ xs.drop k = (x0, x1, x2, x3) :: xs.drop (k + 1) ∧ w.cell? ⟨g, k * 4, none⟩ = some (.int .i64 x0) ∧ w.cell? ⟨g, k * 4 + 1, none⟩ = some (.int .i64 x1) ∧ w.cell? ⟨g, k * 4 + 2, none⟩ = some (.int .i64 x2) ∧ w.cell? ⟨g, k * 4 + 3, none⟩ = some (.int .i64 x3) ∧ w.frozen? ⟨g, k * 4, none⟩ = false ∧ w.frozen? ⟨g, k * 4 + 1, none⟩ = false ∧ w.frozen? ⟨g, k * 4 + 2, none⟩ = false ∧ w.frozen? ⟨g, k * 4 + 3, none⟩ = false := by
  obtain ⟨g, ⟨x0, x1, x2, x3⟩, e, h1, h2, h3, h4, h5, h6⟩ := own_flat redC_len (by decide) h hk
  exact ⟨g, x0, x1, x2, x3, e, h1, h2, h3, h4, h5 0 _ rfl, h5 1 _ rfl, h5 2 _ rfl, h5 3 _ rfl, h6 _, h6 _, h6 _, h6 _⟩
theorem own_red_set {w : World} {base e g n c k : Nat} {xs : List RedressT} (h : w.ownsRow base e 4 (.slice (some ⟨g, 0, none⟩) n c) n (reds xs)) (hk : k < n) (x0 x1 x2 x3 : Int) :
    ((((w.setCell ⟨g, k * 4, none⟩ (.int .i64 x0)).setCell ⟨g, k * 4 + 1, none⟩ (.int .i64 x1)).setCell ⟨g, k * 4 + 2, none⟩ (.int .i64 x2)).setCell ⟨g, k * 4 + 3, none⟩ (.int .i64 x3)).ownsRow base e 4 (.slice (some ⟨g, 0, none⟩) n c) n (reds (xs.set k (x0, x1, x2, x3))) := by
  have h1 := own_put (redC (x0, x1, x2, x3)) (k * 4) h
  unfold reds at h1
  rw [flat_put redC_len xs k (x0, x1, x2, x3) (by rw [own_len_flat redC_len (by decide) h]; exact hk)] at h1
  exact h1
theorem Tryz.info_red : (Tryz.prog.info? 25).map (fun i => (i.zero, i.size, i.bytes)) = some (some (.agg #[.int .i64 0, .int .i64 0, .int .i64 0, .int .i64 0]), 4, 32) := by kernel_rfl
theorem run_make_red (n : Nat) (h : n ≤ 1048576) (w : World) :
    (Instr.makeSlice 34 (.int .i64 (n : Int)) (.int .i64 (n : Int))).run Tryz.prog w = .ok (.slice (some ⟨w.heap.size, 0, none⟩) n n) (w.alloc (.cells (madeCells #[.int .i64 0, .int .i64 0, .int .i64 0, .int .i64 0] (n * 4)) 25)) := by
  obtain ⟨i, hi, hz, hs, hb⟩ := info_parts Tryz.info_red
  have hr := run_make (P := Tryz.prog) w 34 25 i (.agg #[.int .i64 0, .int .i64 0, .int .i64 0, .int .i64 0]) Tryz.underlying34 hi hz .i64 .i64 n n (by omega) (by omega) (by rw [hb]; omega) (by omega)
  rw [hs, Int.toNat_natCast] at hr
  exact hr
/-- The copy of such a slice. -/
def RetRedressS (w : World) (xs : List RedressT) (e : Ending) (w' : World) : Prop :=
  ∃ A n c, e = .returned (.slice A n c) ∧ w'.ownsRow w.heap.size 25 4 (.slice A n c) n (reds xs) ∧ n ≤ 1048576 ∧ Below w.heap.size w w'
end Go.Proofs.YtalgdeieejpelaaGreatDoor

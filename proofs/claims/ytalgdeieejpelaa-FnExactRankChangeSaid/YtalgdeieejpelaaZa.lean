/- Plain: discard rules, discards, counted points (chapter 27). -/
import Derived.Test.YtalgdeieejpelaaMs
import Derived.Test.YtalgdeieejpelaaTp
namespace Go.Proofs.Ytalgdeieejpelaa
open Go.RowKit
set_option linter.unusedVariables false
set_option maxRecDepth 100000

/-! ### Rules -/
def incGo : Int → List Int → Bool
  | _, [] => true
  | p, n :: r => withinB n 1 12 && decide (p < n) && incGo n r
def ruleB (rule : List Int) : Bool := decide (rule.length ≤ 3) && incGo 0 rule
theorem ruleB_len {rule : List Int} (h : ruleB rule = true) : rule.length ≤ 3 := by
  unfold ruleB at h
  rw [Bool.and_eq_true, decide_eq_true_eq] at h
  exact h.1
def leN (races : Int) : List Int → Nat
  | [] => 0
  | n :: r => (if n ≤ races then 1 else 0) + leN races r
theorem leN_le (races : Int) (l : List Int) : leN races l ≤ l.length := by
  induction l with
  | nil => exact Nat.le_refl _
  | cons n r ih => rw [leN, List.length_cons]; split <;> omega
theorem leN_snoc (races : Int) (l : List Int) (n : Int) : leN races (l ++ [n]) = leN races l + (if n ≤ races then 1 else 0) := by
  induction l with
  | nil => simp [leN]
  | cons a r ih => rw [List.cons_append, leN, leN, ih]; omega
/-! ### A stable sort by a comparison is a sort by the comparison and the index -/
def tieL (lt : Int → Int → Bool) (a b : Int) : Bool := lt a b || (!lt b a && decide (a < b))
theorem insRev_congr {lt lt' : Int → Int → Bool} {x : Int} : ∀ {r acc : List Int}, (∀ y ∈ r, lt x y = lt' x y) → insRev lt x r acc = insRev lt' x r acc := by
  intro r
  induction r with
  | nil => intro acc _; rfl
  | cons y r ih =>
    intro acc h
    unfold insRev
    rw [h y List.mem_cons_self, ih (fun z hz => h z (List.mem_cons_of_mem _ hz))]
theorem insIn_app (lt : Int → Int → Bool) (x : Int) (p q : List Int) : insIn lt p.length (p ++ x :: q) = insRev lt x p.reverse [] ++ q := by
  have h1 : ∀ (r acc : List Int), insRev lt x r (acc ++ q) = insRev lt x r acc ++ q := by
    intro r
    induction r with
    | nil => intro acc; rfl
    | cons y r ih' =>
      intro acc
      unfold insRev
      split
      · exact ih' (y :: acc)
      · simp
  have h2 := insIn_rev lt x p.reverse q
  rw [List.length_reverse, List.reverse_reverse] at h2
  rw [h2]
  exact h1 p.reverse []
theorem insOut_congr {lt lt' : Int → Int → Bool} : ∀ (m : Nat) (p q : List Int), q.length = m → (∀ x ∈ q, ∀ y ∈ p, lt x y = lt' x y) → q.Pairwise (fun y x => lt x y = lt' x y) → insOut lt m p.length (p ++ q) = insOut lt' m p.length (p ++ q) := by
  intro m
  induction m with
  | zero => intro p q _ _ _; rfl
  | succ m ih =>
    intro p q hm h hp
    cases q with
    | nil => simp at hm
    | cons x q =>
      unfold insOut
      rw [insIn_app, insIn_app, insRev_congr (fun y hy => h x List.mem_cons_self y (by simpa using hy))]
      have hperm := insRev_perm lt' x p.reverse []
      rw [List.reverse_reverse, List.append_nil] at hperm
      have hlen : (insRev lt' x p.reverse []).length = p.length + 1 := by rw [hperm.length_eq]; simp
      have h3 := ih (insRev lt' x p.reverse []) q (by simpa using hm) (fun z hz y hy => by
        rcases List.mem_cons.1 (hperm.mem_iff.1 hy) with rfl | hy
        · exact (List.pairwise_cons.1 hp).1 z hz
        · exact h z (List.mem_cons_of_mem _ hz) y hy) (List.pairwise_cons.1 hp).2
      rw [hlen] at h3
      exact h3
theorem idx_inc (n : Nat) : (idx n).Pairwise (fun a b => a < b) := by
  unfold idx
  rw [List.pairwise_map]
  exact List.Pairwise.imp (fun {a b} h => by omega) List.pairwise_lt_range
theorem sort_tie (lt : Int → Int → Bool) (n : Nat) : insSort lt (idx n) = insSort (tieL lt) (idx n) := by
  have hi := idx_inc n
  unfold insSort
  generalize idx n = l at *
  cases l with
  | nil => rfl
  | cons x r =>
    have key : ∀ a b : Int, a < b → lt b a = tieL lt b a := by
      intro a b h
      unfold tieL
      rw [decide_eq_false (by omega : ¬ b < a), Bool.and_false, Bool.or_false]
    have h1 := List.pairwise_cons.1 hi
    exact insOut_congr (lt := lt) (lt' := tieL lt) r.length [x] r rfl (fun z hz y hy => by
      rw [List.mem_singleton.1 hy]
      exact key x z (h1.1 z hz)) (h1.2.imp (fun {a b} h => key a b h))
/-- A comparison by a key of integers. -/
structure Weak (lt : Int → Int → Bool) : Prop where
  irr : ∀ x, lt x x = false
  asy : ∀ x y, lt x y = true → lt y x = false
  tr : ∀ x y z, lt x y = true → lt y z = true → lt x z = true
  eqv : ∀ x y z, lt x y = false → lt y x = false → lt y z = false → lt z y = false → lt x z = false ∧ lt z x = false
theorem Weak.left {lt : Int → Int → Bool} (h : Weak lt) {x y z : Int} (h1 : lt x y = true) (h2 : lt y z = false) (h3 : lt z y = false) : lt x z = true := by
  cases h4 : lt x z with
  | true => rfl
  | false =>
    cases h5 : lt z x with
    | true => rw [h.tr _ _ _ h5 h1] at h3; cases h3
    | false =>
      have := (h.eqv x z y h4 h5 h3 h2).1
      rw [this] at h1
      cases h1
theorem Weak.right {lt : Int → Int → Bool} (h : Weak lt) {x y z : Int} (h1 : lt x y = false) (h2 : lt y x = false) (h3 : lt y z = true) : lt x z = true := by
  cases h4 : lt x z with
  | true => rfl
  | false =>
    cases h5 : lt z x with
    | true => have := h.tr _ _ _ h3 h5; rw [this] at h2; cases h2
    | false =>
      have := (h.eqv y x z h2 h1 h4 h5).1
      rw [this] at h3
      cases h3
theorem tie_strict {lt : Int → Int → Bool} (h : Weak lt) (l : List Int) : Strict (tieL lt) l := by
  constructor
  · intro x _
    unfold tieL
    rw [h.irr x, decide_eq_false (by omega : ¬ x < x)]
    rfl
  · intro x _ y _ hne hf
    unfold tieL at hf ⊢
    cases h1 : lt x y with
    | true => rw [h1] at hf; cases hf
    | false =>
      cases h2 : lt y x with
      | true => rfl
      | false =>
        rw [h1, h2] at hf
        have : ¬ x < y := by simpa using hf
        simp
        omega
  · intro x _ y _ ht
    unfold tieL at ht ⊢
    cases h1 : lt x y with
    | true => rw [h.asy _ _ h1]; rfl
    | false =>
      cases h2 : lt y x with
      | true => rw [h1, h2] at ht; cases ht
      | false =>
        rw [h1, h2] at ht
        have : x < y := by simpa using ht
        simp
        omega
  · intro x _ y _ z _ ha hb
    unfold tieL at ha hb ⊢
    cases h1 : lt x y with
    | true =>
      cases h2 : lt y z with
      | true => rw [h.tr _ _ _ h1 h2]; rfl
      | false =>
        cases h3 : lt z y with
        | true => rw [h2, h3] at hb; cases hb
        | false => rw [h.left h1 h2 h3]; rfl
    | false =>
      cases h4 : lt y x with
      | true => rw [h1, h4] at ha; cases ha
      | false =>
        cases h2 : lt y z with
        | true => rw [h.right h1 h4 h2]; rfl
        | false =>
          cases h3 : lt z y with
          | true => rw [h2, h3] at hb; cases hb
          | false =>
            obtain ⟨h5, h6⟩ := h.eqv _ _ _ h1 h4 h2 h3
            rw [h1, h4] at ha
            rw [h2, h3] at hb
            have ha' : x < y := by simpa using ha
            have hb' : y < z := by simpa using hb
            rw [h5, h6]
            simp
            omega
/-! ### The discards of a column of points and codes -/
def atI (l : List Int) (k : Int) : Int := l.getD k.toNat 0
/-- Race a has more points than race b. -/
def moreL (P : List Int) (a b : Int) : Bool := decide (atI P b - atI P a < 0)
theorem more_weak (P : List Int) : Weak (moreL P) := by
  constructor
  · intro x; unfold moreL; simp
  · intro x y; unfold moreL; simp; omega
  · intro x y z; unfold moreL; simp; omega
  · intro x y z; unfold moreL; simp; omega
def okC (K : List Int) (k : Int) : Bool := !(atI K k == 7)
/-- The races that may be discarded, worst first. -/
def worst (P K : List Int) : List Int := (insSort (moreL P) (idx P.length)).filter (okC K)
def goneL (P K : List Int) (left : Nat) : List Int := (worst P K).take left
def cntP (P : List Int) (gone : List Int) : List Int := ((idx P.length).filter fun k => !decide (k ∈ gone)).map (atI P)
theorem worst_facts (P K : List Int) : (worst P K).Pairwise (fun a b => tieL (moreL P) a b = true) ∧ ∀ k : Int, k ∈ worst P K ↔ 0 ≤ k ∧ k < P.length ∧ okC K k = true := by
  unfold worst
  rw [sort_tie]
  obtain ⟨h1, h2⟩ := insSort_sorts (tie_strict (more_weak P) (idx P.length)) (idx_nodup P.length)
  refine ⟨h2.filter _, fun k => ?_⟩
  rw [List.mem_filter, h1.mem_iff, idx_mem]
  constructor
  · rintro ⟨⟨a, b⟩, c⟩; exact ⟨a, b, c⟩
  · rintro ⟨a, b, c⟩; exact ⟨⟨a, b⟩, c⟩
theorem worst_nodup (P K : List Int) : (worst P K).Nodup := by
  refine (worst_facts P K).1.imp (fun {a b} h e => ?_)
  subst e
  rw [(tie_strict (more_weak P) [a]).irr a (List.mem_singleton.2 rfl)] at h
  cases h
theorem worst_len (P K : List Int) : (worst P K).length ≤ P.length := by
  unfold worst
  have h := List.length_filter_le (okC K) (insSort (moreL P) (idx P.length))
  rw [insSort_length, idx_length] at h
  exact h
/-! ### The program: a walk over the sorted races -/
/-- What the program's loop makes of the rest of the order. -/
def takeOk (K : List Int) : Nat → List Int → List Int
  | _, [] => []
  | left, k :: r => if (decide (0 < left) && okC K k) = true then k :: takeOk K (left - 1) r else takeOk K left r
theorem takeOk_eq (K : List Int) : ∀ (l : List Int) (left : Nat), takeOk K left l = (l.filter (okC K)).take left := by
  intro l
  induction l with
  | nil => intro left; simp [takeOk]
  | cons k r ih =>
    intro left
    rw [takeOk, List.filter_cons]
    cases hk : okC K k with
    | false => simp [ih]
    | true =>
      cases left with
      | zero => simp [ih]
      | succ m => simp [ih]
/-! ### The reference: marks, the worst race that is left first -/
/-- What one scan finds: the best index so far (-1: none). -/
def bestGo (P K : List Int) (out : List Bool) : Nat → Nat → Int → Int
  | 0, _, best => best
  | m + 1, i, best => bestGo P K out m (i + 1) (if (!out.getD i false && okC K i && (decide (best < 0) || decide (atI P best < atI P i))) = true then (i : Int) else best)
def bestF (P K : List Int) (out : List Bool) : Int := bestGo P K out out.length 0 (-1)
def markF (out : List Bool) (best : Int) : List Bool := if 0 ≤ best then out.set best.toNat true else out
def outGo (P K : List Int) : Nat → List Bool → List Bool
  | 0, out => out
  | m + 1, out => outGo P K m (markF out (bestF P K out))
def outF (P K : List Int) (left : Nat) : List Bool := outGo P K left (List.replicate P.length false)
theorem bestGo_spec (P K : List Int) (out : List Bool) (hl : out.length = P.length) : ∀ (m i : Nat) (best : Int), i + m = out.length →
    ((best = -1 ∧ ∀ j : Nat, j < i → (out.getD j false = true ∨ okC K j = false)) ∨ (∃ b : Nat, best = (b : Int) ∧ b < i ∧ out.getD b false = false ∧ okC K b = true ∧ ∀ j : Nat, j < i → out.getD j false = false → okC K j = true → j ≠ b → tieL (moreL P) b j = true)) →
    ((bestGo P K out m i best = -1 ∧ ∀ j : Nat, j < out.length → (out.getD j false = true ∨ okC K j = false)) ∨ (∃ b : Nat, bestGo P K out m i best = (b : Int) ∧ b < out.length ∧ out.getD b false = false ∧ okC K b = true ∧ ∀ j : Nat, j < out.length → out.getD j false = false → okC K j = true → j ≠ b → tieL (moreL P) b j = true)) := by
  intro m
  induction m with
  | zero =>
    intro i best hi h
    have : i = out.length := by omega
    subst this
    exact h
  | succ m ih =>
    intro i best hi h
    rw [bestGo]
    refine ih (i + 1) _ (by omega) ?_
    cases hb : (!out.getD i false && okC K i && (decide (best < 0) || decide (atI P best < atI P i))) with
    | true =>
      rw [if_pos rfl]
      simp only [Bool.and_eq_true, Bool.not_eq_true', Bool.or_eq_true, decide_eq_true_eq] at hb
      obtain ⟨⟨h1, h2⟩, h3⟩ := hb
      refine .inr ⟨i, rfl, by omega, h1, h2, fun j hj hoj hkj hne => ?_⟩
      rcases h with ⟨rfl, hall⟩ | ⟨b, rfl, hb1, hb2, hb3, hb4⟩
      · rcases hall j (by omega) with h | h
        · rw [h] at hoj; cases hoj
        · rw [h] at hkj; cases hkj
      · have h4 : atI P b < atI P i := by
          rcases h3 with h3 | h3
          · omega
          · exact h3
        have hib : tieL (moreL P) i b = true := by
          unfold tieL moreL
          rw [decide_eq_true (by omega : atI P b - atI P i < 0)]
          rfl
        by_cases hjb : j = b
        · subst hjb; exact hib
        · exact (tie_strict (more_weak P) [(i : Int), b, j]).tr i (by simp) b (by simp) j (by simp) hib (hb4 j (by omega) hoj hkj hjb)
    | false =>
      rw [if_neg (by simp)]
      rcases h with ⟨rfl, hall⟩ | ⟨b, rfl, hb1, hb2, hb3, hb4⟩
      · refine .inl ⟨rfl, fun j hj => ?_⟩
        by_cases hji : j = i
        · subst hji
          cases h1 : out.getD j false with
          | true => exact .inl rfl
          | false =>
            cases h2 : okC K j with
            | false => exact .inr rfl
            | true => rw [h1, h2] at hb; simp at hb
        · exact hall j (by omega)
      · refine .inr ⟨b, rfl, by omega, hb2, hb3, fun j hj hoj hkj hne => ?_⟩
        by_cases hji : j = i
        · subst hji
          rw [hoj, hkj] at hb
          have h5 : ¬ atI P b < atI P j := by
            intro h6
            rw [decide_eq_true h6] at hb
            simp at hb
          unfold tieL moreL
          by_cases h6 : atI P j - atI P b < 0
          · rw [decide_eq_true h6]; rfl
          · rw [decide_eq_false h6, decide_eq_false (by omega : ¬ atI P b - atI P j < 0), decide_eq_true (by omega : (b : Int) < (j : Int))]
            rfl
        · exact hb4 j (by omega) hoj hkj hne
/-- The marks are those of a part of the order. -/
def MarksOf (P K : List Int) (out : List Bool) (r : Nat) : Prop := out.length = P.length ∧ ∀ j : Nat, j < P.length → out.getD j false = decide ((j : Int) ∈ (worst P K).take r)
theorem marks_step {P K : List Int} {out : List Bool} {r : Nat} (h : MarksOf P K out r) : MarksOf P K (markF out (bestF P K out)) (r + 1) := by
  obtain ⟨hl, hm⟩ := h
  obtain ⟨hw1, hw2⟩ := worst_facts P K
  have hs := bestGo_spec P K out hl out.length 0 (-1) (by omega) (.inl ⟨rfl, fun j hj => by omega⟩)
  unfold bestF
  rcases hs with ⟨e, hall⟩ | ⟨b, e, hb1, hb2, hb3, hb4⟩
  · rw [e]
    unfold markF
    rw [if_neg (by omega)]
    refine ⟨hl, fun j hj => ?_⟩
    rw [hm j hj]
    have hsame : ∀ x, x ∈ (worst P K).take (r + 1) ↔ x ∈ (worst P K).take r := by
      intro x
      constructor
      · intro hx
        have hx2 := (hw2 x).1 (List.mem_of_mem_take hx)
        obtain ⟨k, rfl⟩ : ∃ k : Nat, x = k := ⟨x.toNat, by omega⟩
        rcases hall k (by omega) with h | h
        · rw [hm k (by omega)] at h
          simpa using h
        · rw [hx2.2.2] at h; cases h
      · intro hx
        rw [List.take_add_one]
        exact List.mem_append_left _ hx
    simp only [hsame]
  · rw [e]
    unfold markF
    rw [if_pos (by omega)]
    -- the best one stands next in the order
    have hbn : (b : Int) ∉ (worst P K).take r := by
      have := hm b (by omega)
      rw [hb2] at this
      simpa using this.symm
    have hbw : (b : Int) ∈ worst P K := (hw2 b).2 ⟨by omega, by omega, hb3⟩
    have hnext : (worst P K)[r]? = some (b : Int) := by
      have hd : (b : Int) ∈ (worst P K).drop r := by
        rw [← List.take_append_drop r (worst P K)] at hbw
        rcases List.mem_append.1 hbw with h | h
        · exact absurd h hbn
        · exact h
      cases hdr : (worst P K).drop r with
      | nil => rw [hdr] at hd; simp at hd
      | cons x rest =>
        have hx0 : (worst P K)[r]? = some x := by
          have : ((worst P K).drop r)[0]? = some x := by rw [hdr]; rfl
          rwa [List.getElem?_drop, Nat.add_zero] at this
        rw [hx0]
        by_cases hxb : x = b
        · rw [hxb]
        · exfalso
          have hp := hw1
          rw [← List.take_append_drop r (worst P K), List.pairwise_append] at hp
          have hp2 := hp.2.1
          rw [hdr, List.pairwise_cons] at hp2
          have hbr : (b : Int) ∈ rest := by
            rw [hdr] at hd
            rcases List.mem_cons.1 hd with h | h
            · exact absurd h.symm hxb
            · exact h
          have hxlt := hp2.1 b hbr
          have hxw := (hw2 x).1 (List.mem_of_getElem? hx0)
          obtain ⟨k, rfl⟩ : ∃ k : Nat, x = k := ⟨x.toNat, by omega⟩
          have hxn : (k : Int) ∉ (worst P K).take r := by
            intro hin
            have hn := worst_nodup P K
            rw [← List.take_append_drop r (worst P K), List.nodup_append] at hn
            exact hn.2.2 k hin k (by rw [hdr]; exact List.mem_cons_self) rfl
          have hok : out.getD k false = false := by rw [hm k (by omega)]; simpa using hxn
          have := hb4 k (by omega) hok hxw.2.2 (fun e => hxb (by rw [e]))
          rw [(tie_strict (more_weak P) [(k : Int), b]).asy k (by simp) b (by simp) hxlt] at this
          cases this
    refine ⟨by rw [List.length_set]; exact hl, fun j hj => ?_⟩
    rw [List.take_add_one, hnext]
    show (out.set b true).getD j false = _
    rw [List.getD_eq_getElem?_getD]
    by_cases hjb : b = j
    · subst hjb
      rw [List.getElem?_set_self (by omega)]
      simp
    · rw [List.getElem?_set_ne hjb, ← List.getD_eq_getElem?_getD, hm j hj]
      have : ∀ x : Int, x ∈ (worst P K).take r ++ (some (b : Int)).toList ↔ x ∈ (worst P K).take r ∨ x = b := by
        intro x; simp
      simp only [this]
      have hne : ¬ ((j : Int) = (b : Int)) := by omega
      simp [hne]
theorem marks_go {P K : List Int} : ∀ (m r : Nat) (out : List Bool), MarksOf P K out r → MarksOf P K (outGo P K m out) (r + m) := by
  intro m
  induction m with
  | zero => intro r out h; exact h
  | succ m ih =>
    intro r out h
    have := ih (r + 1) _ (marks_step h)
    rw [show r + 1 + m = r + (m + 1) by omega] at this
    exact this
theorem marks_all (P K : List Int) (left : Nat) : MarksOf P K (outF P K left) left := by
  have := marks_go (P := P) (K := K) left 0 (List.replicate P.length false) ⟨by simp, fun j hj => by simp [List.getD_eq_getElem?_getD, hj]⟩
  rw [Nat.zero_add] at this
  exact this
/-- The points that are counted, by marks. -/
def cntM : Nat → List Int → List Bool → List Int
  | k, p :: P, b :: out => (if b = true then [] else [p]) ++ cntM (k + 1) P out
  | _, _, _ => []
theorem cntM_nil (k : Nat) (out : List Bool) : cntM k [] out = [] := by cases out <;> rfl
theorem cntM_eq (P : List Int) (out : List Bool) (gone : List Int) (hl : out.length = P.length) (h : ∀ j : Nat, j < P.length → out.getD j false = decide ((j : Int) ∈ gone)) : cntM 0 P out = cntP P gone := by
  have key : ∀ (m k : Nat), k + m = P.length → cntM k (P.drop k) (out.drop k) = (((List.range' k m).map fun (i : Nat) => (i : Int)).filter fun k => !decide (k ∈ gone)).map (atI P) := by
    intro m
    induction m with
    | zero =>
      intro k hk
      rw [List.drop_eq_nil_of_le (by omega : P.length ≤ k), cntM_nil]
      rfl
    | succ m ih =>
      intro k hk
      have hkP : k < P.length := by omega
      have hkO : k < out.length := by omega
      rw [List.drop_eq_getElem_cons hkP, List.drop_eq_getElem_cons hkO, cntM, ih (k + 1) (by omega), List.range'_succ, List.map_cons, List.filter_cons]
      have hj := h k hkP
      rw [List.getD_eq_getElem?_getD, List.getElem?_eq_getElem hkO] at hj
      have hj2 : out[k] = decide ((k : Int) ∈ gone) := hj
      rw [hj2]
      have ha : atI P (k : Int) = P[k] := by
        unfold atI
        rw [Int.toNat_natCast, List.getD_eq_getElem?_getD, List.getElem?_eq_getElem hkP]
        rfl
      by_cases hg : (k : Int) ∈ gone
      · simp [hg]
      · simp [hg, ha]
  have := key P.length 0 (by omega)
  rw [List.drop_zero, List.drop_zero] at this
  rw [this]
  unfold cntP idx
  rw [List.range_eq_range']
end Go.Proofs.Ytalgdeieejpelaa

/- Plain: comparing boats, ranks, the standing (chapter 28). -/
import Derived.Test.YtalgdeieejpelaaZa
namespace Go.Proofs.Ytalgdeieejpelaa
open Go.RowKit
set_option linter.unusedVariables false
set_option maxRecDepth 100000

def sumI : List Int → Int
  | [] => 0
  | x :: r => x + sumI r
theorem sumI_app (a b : List Int) : sumI (a ++ b) = sumI a + sumI b := by
  induction a with
  | nil => simp [sumI]
  | cons x a ih => rw [List.cons_append, sumI, sumI, ih]; omega
theorem sumI_bd {l : List Int} {m : Int} (h : ∀ x ∈ l, 0 ≤ x ∧ x ≤ m) : 0 ≤ sumI l ∧ sumI l ≤ m * l.length := by
  induction l with
  | nil => simp [sumI]
  | cons x r ih =>
    have h1 := h x List.mem_cons_self
    have h2 := ih (fun y hy => h y (List.mem_cons_of_mem _ hy))
    rw [sumI, List.length_cons, Int.natCast_add, Int.mul_add]
    omega
theorem sumI_zero {l : List Int} (h : ∀ x ∈ l, 0 ≤ x) (hs : sumI l = 0) : l = List.replicate l.length 0 := by
  induction l with
  | nil => rfl
  | cons x r ih =>
    have h1 := h x List.mem_cons_self
    have h2 : 0 ≤ sumI r := by
      clear ih hs
      have h3 : ∀ y ∈ r, 0 ≤ y := fun y hy => h y (List.mem_cons_of_mem _ hy)
      clear h
      induction r with
      | nil => simp [sumI]
      | cons z r ih2 =>
        have := h3 z List.mem_cons_self
        have := ih2 (fun y hy => h3 y (List.mem_cons_of_mem _ hy))
        rw [sumI]; omega
    rw [sumI] at hs
    have hx : x = 0 := by omega
    have hr := ih (fun y hy => h y (List.mem_cons_of_mem _ hy)) (by omega)
    rw [List.length_cons, List.replicate_succ, hx]
    rw [← hr]
theorem sumI_perm {a b : List Int} (h : a.Perm b) : sumI a = sumI b := by
  induction h with
  | nil => rfl
  | cons x _ ih => rw [sumI, sumI, ih]
  | swap x y l => simp only [sumI]; omega
  | trans _ _ h1 h2 => rw [h1, h2]
/-! ### The first difference -/
def lexC : List Int → List Int → Int
  | x :: xs, y :: ys => if x = y then lexC xs ys else x - y
  | _, _ => 0
theorem lexC_nil (b : List Int) : lexC [] b = 0 := by cases b <;> rfl
theorem lexC_nil2 (a : List Int) : lexC a [] = 0 := by cases a <;> rfl
theorem lexC_self (a : List Int) : lexC a a = 0 := by
  induction a with
  | nil => rfl
  | cons x a ih => rw [lexC, if_pos rfl, ih]
theorem lexC_anti : ∀ (a b : List Int), lexC a b = - lexC b a := by
  intro a
  induction a with
  | nil => intro b; rw [lexC_nil, lexC_nil2]; rfl
  | cons x a ih =>
    intro b
    cases b with
    | nil => rfl
    | cons y b =>
      rw [lexC, lexC]
      by_cases h : x = y
      · rw [if_pos h, if_pos h.symm, ih]
      · rw [if_neg h, if_neg (fun e => h e.symm)]
        omega
theorem lexC_tr : ∀ (a b c : List Int), a.length = b.length → b.length = c.length → lexC a b ≤ 0 → lexC b c ≤ 0 → lexC a c ≤ 0 ∧ ((lexC a b < 0 ∨ lexC b c < 0) → lexC a c < 0) := by
  intro a
  induction a with
  | nil =>
    intro b c h1 h2
    cases b with
    | nil =>
      cases c with
      | nil => simp [lexC]
      | cons z c => simp at h2
    | cons y b => simp at h1
  | cons x a ih =>
    intro b c h1 h2
    cases b with
    | nil => simp at h1
    | cons y b =>
      cases c with
      | nil => simp at h2
      | cons z c =>
        have h3 := ih b c (by simpa using h1) (by simpa using h2)
        rw [lexC, lexC, lexC]
        by_cases e1 : x = y
        · subst e1
          by_cases e2 : x = z
          · subst e2
            simpa using h3
          · rw [if_pos rfl, if_neg e2]
            intro h4 h5
            omega
        · by_cases e2 : y = z
          · subst e2
            rw [if_neg e1, if_pos rfl]
            intro h4 h5
            omega
          · rw [if_neg e1, if_neg e2]
            intro h4 h5
            rw [if_neg (by omega)]
            omega
theorem weak_lex (f : Int → List Int) (L : Nat) (hL : ∀ a, (f a).length = L) : Weak (fun a b => decide (lexC (f a) (f b) < 0)) := by
  have hl : ∀ a b, (f a).length = (f b).length := fun a b => by rw [hL, hL]
  constructor
  · intro x
    show decide (lexC (f x) (f x) < 0) = false
    rw [lexC_self]
    rfl
  · intro x y
    show decide (lexC (f x) (f y) < 0) = true → decide (lexC (f y) (f x) < 0) = false
    rw [lexC_anti (f y) (f x)]
    simp
    omega
  · intro x y z
    show decide (lexC (f x) (f y) < 0) = true → decide (lexC (f y) (f z) < 0) = true → decide (lexC (f x) (f z) < 0) = true
    simp only [decide_eq_true_eq]
    intro h1 h2
    exact (lexC_tr _ _ _ (hl x y) (hl y z) (by omega) (by omega)).2 (.inl h1)
  · intro x y z
    show decide (lexC (f x) (f y) < 0) = false → decide (lexC (f y) (f x) < 0) = false → decide (lexC (f y) (f z) < 0) = false → decide (lexC (f z) (f y) < 0) = false → decide (lexC (f x) (f z) < 0) = false ∧ decide (lexC (f z) (f x) < 0) = false
    simp only [decide_eq_false_iff_not]
    have a1 := lexC_anti (f x) (f y)
    have a2 := lexC_anti (f y) (f z)
    have a3 := lexC_anti (f x) (f z)
    intro h1 h2 h3 h4
    have h5 := (lexC_tr _ _ _ (hl x y) (hl y z) (by omega) (by omega)).1
    have h6 := (lexC_tr _ _ _ (hl z y) (hl y x) (by omega) (by omega)).1
    omega
theorem lexC_app_ne : ∀ (a b u v : List Int), lexC a b ≠ 0 → lexC (a ++ u) (b ++ v) = lexC a b := by
  intro a
  induction a with
  | nil => intro b u v h; rw [lexC_nil] at h; exact absurd rfl h
  | cons x a ih =>
    intro b u v h
    cases b with
    | nil => exact absurd rfl h
    | cons y b =>
      rw [lexC] at h ⊢
      rw [List.cons_append, List.cons_append, lexC]
      by_cases e : x = y
      · rw [if_pos e] at h ⊢
        rw [if_pos e]
        exact ih b u v h
      · rw [if_neg e, if_neg e]
theorem lexC_app_eq (a b : List Int) : ∀ (u v : List Int), a = b → lexC (a ++ u) (b ++ v) = lexC u v := by
  intro u v h
  subst h
  induction a with
  | nil => rfl
  | cons x a ih => rw [List.cons_append, List.cons_append, lexC, if_pos rfl, ih]
theorem lexC_zero : ∀ (a b : List Int), lexC a b = 0 → a.length ≤ b.length → b = a ++ b.drop a.length := by
  intro a
  induction a with
  | nil => intro b _ _; simp
  | cons x a ih =>
    intro b h hl
    cases b with
    | nil => simp at hl
    | cons y b =>
      rw [lexC] at h
      by_cases e : x = y
      · rw [if_pos e] at h
        have := ih b h (by simpa using hl)
        rw [List.length_cons, List.drop_succ_cons, List.cons_append, ← this, e]
      · rw [if_neg e] at h
        omega
def padZ (l : List Int) : List Int := l ++ List.replicate (12 - l.length) 0
theorem padZ_len {l : List Int} (h : l.length ≤ 12) : (padZ l).length = 12 := by unfold padZ; rw [List.length_append, List.length_replicate]; omega
theorem padZ_pre {x y : List Int} (hx : ∀ z ∈ x, 0 ≤ z) (hy : ∀ z ∈ y, 0 ≤ z) (h2 : y.length ≤ 12) (hs : sumI x = sumI y) (h : lexC x y = 0) (hl : x.length ≤ y.length) : padZ x = padZ y := by
  have e := lexC_zero x y h hl
  have hd : y.drop x.length = List.replicate (y.length - x.length) 0 := by
    have hs2 : sumI (y.drop x.length) = 0 := by
      rw [e, sumI_app] at hs
      omega
    have := sumI_zero (fun z hz => hy z (List.mem_of_mem_drop hz)) hs2
    rw [List.length_drop] at this
    exact this
  rw [hd] at e
  unfold padZ
  have e2 : y ++ List.replicate (12 - y.length) 0 = x ++ (List.replicate (y.length - x.length) 0 ++ List.replicate (12 - y.length) 0) := by
    rw [← List.append_assoc, ← e]
  rw [e2, List.replicate_append_replicate, show y.length - x.length + (12 - y.length) = 12 - x.length by omega]
theorem lexC_pad {x y : List Int} (hx : ∀ z ∈ x, 0 ≤ z) (hy : ∀ z ∈ y, 0 ≤ z) (h1 : x.length ≤ 12) (h2 : y.length ≤ 12) (hs : sumI x = sumI y) : lexC (padZ x) (padZ y) = lexC x y := by
  by_cases h : lexC x y = 0
  · have : padZ x = padZ y := by
      rcases Nat.le_total x.length y.length with hl | hl
      · exact padZ_pre hx hy h2 hs h hl
      · exact (padZ_pre hy hx h1 hs.symm (by rw [lexC_anti, h]; rfl) hl).symm
    rw [this, lexC_self, h]
  · exact lexC_app_ne _ _ _ _ h
/-! ### Boats -/
def colOf (rows : List (List Int)) (b : Int) : List Int := rows.map fun r => atI r b
theorem colOf_len (rows : List (List Int)) (b : Int) : (colOf rows b).length = rows.length := by unfold colOf; rw [List.length_map]
def cntT (t : Tb) (rule : List Int) (b : Int) : List Int := cntP (colOf t.pts b) (goneL (colOf t.pts b) (colOf t.cds b) (leN t.pts.length rule))
def netT (t : Tb) (rule : List Int) (b : Int) : Int := sumI (cntT t rule b)
def ltI (a b : Int) : Bool := decide (a < b)
def srtT (t : Tb) (rule : List Int) (b : Int) : List Int := insSort ltI (cntT t rule b)
def sgnZ (x : Int) : Int := if x < 0 then -1 else if 0 < x then 1 else 0
theorem sgnZ_neg (x : Int) : (sgnZ x < 0) = (x < 0) := by
  unfold sgnZ
  split
  · simp; omega
  · split <;> simp <;> omega
theorem sgnZ_zero (x : Int) : (sgnZ x = 0) ↔ (x = 0) := by
  unfold sgnZ
  split
  · omega
  · split <;> omega
/-- The last race that differs. -/
def lastGoR (P Q : List Int) : Nat → Int × Int
  | 0 => (0, -1)
  | k + 1 => if atI P k = atI Q k then lastGoR P Q k else (atI P k - atI Q k, (k : Int))
def cmpT (t : Tb) (rule : List Int) (a b : Int) : Int × Int × Int :=
  if netT t rule a ≠ netT t rule b then (sgnZ (netT t rule a - netT t rule b), 1, 0)
  else if lexC (srtT t rule a) (srtT t rule b) ≠ 0 then (sgnZ (lexC (srtT t rule a) (srtT t rule b)), 2, 0)
  else if (lastGoR (colOf t.pts a) (colOf t.pts b) t.pts.length).1 ≠ 0 then (sgnZ (lastGoR (colOf t.pts a) (colOf t.pts b) t.pts.length).1, 3, (lastGoR (colOf t.pts a) (colOf t.pts b) t.pts.length).2)
  else (0, 0, 0)
def ltT (t : Tb) (rule : List Int) (a b : Int) : Bool := decide ((cmpT t rule a b).1 < 0)
def keyT (t : Tb) (rule : List Int) (a : Int) : List Int := netT t rule a :: (padZ (srtT t rule a) ++ (colOf t.pts a).reverse)
theorem last_lex (P Q : List Int) : ∀ k, k ≤ P.length → k ≤ Q.length → (lastGoR P Q k).1 = lexC (P.take k).reverse (Q.take k).reverse := by
  intro k
  induction k with
  | zero => intro _ _; rfl
  | succ k ih =>
    intro h1 h2
    have e1 : P.take (k + 1) = P.take k ++ [atI P k] := by
      rw [List.take_add_one, List.getElem?_eq_getElem (by omega)]
      unfold atI
      rw [Int.toNat_natCast, List.getD_eq_getElem?_getD, List.getElem?_eq_getElem (by omega)]
      rfl
    have e2 : Q.take (k + 1) = Q.take k ++ [atI Q k] := by
      rw [List.take_add_one, List.getElem?_eq_getElem (by omega)]
      unfold atI
      rw [Int.toNat_natCast, List.getD_eq_getElem?_getD, List.getElem?_eq_getElem (by omega)]
      rfl
    rw [lastGoR, e1, e2, List.reverse_append, List.reverse_append]
    show _ = lexC (atI P k :: (P.take k).reverse) (atI Q k :: (Q.take k).reverse)
    rw [lexC]
    by_cases h : atI P k = atI Q k
    · rw [if_pos h, if_pos h]
      exact ih (by omega) (by omega)
    · rw [if_neg h, if_neg h]
theorem cntP_len (P gone : List Int) : (cntP P gone).length ≤ P.length := by
  unfold cntP
  rw [List.length_map]
  have := List.length_filter_le (fun k => !decide (k ∈ gone)) (idx P.length)
  rw [idx_length] at this
  exact this
theorem atI_mem {l : List Int} {k : Int} : atI l k = 0 ∨ atI l k ∈ l := by
  unfold atI
  rw [List.getD_eq_getElem?_getD]
  cases h : l[k.toNat]? with
  | none => exact .inl rfl
  | some x => exact .inr (List.mem_of_getElem? h)
theorem cntP_mem {P gone : List Int} {x : Int} (h : x ∈ cntP P gone) : x = 0 ∨ x ∈ P := by
  unfold cntP at h
  obtain ⟨k, -, rfl⟩ := List.mem_map.1 h
  exact atI_mem
theorem colOf_bd {t : Tb} (ok : TabOk t) {b : Int} {x : Int} (h : x ∈ colOf t.pts b) : 0 ≤ x ∧ x ≤ 10000 := by
  unfold colOf at h
  obtain ⟨r, hr, rfl⟩ := List.mem_map.1 h
  obtain ⟨k, hk⟩ := List.getElem?_of_mem hr
  have hk2 := (List.getElem?_eq_some_iff.1 hk).1
  have hc : t.cds[k]? = some (t.cds[k]'(by rw [← ok.same]; exact hk2)) := List.getElem?_eq_getElem _
  have h1 := (ok.row k r _ hk hc).1.2
  rcases atI_mem (l := r) (k := b) with h2 | h2
  · rw [h2]; omega
  · exact h1 _ h2
theorem cntT_bd {t : Tb} (ok : TabOk t) {rule : List Int} {b : Int} {x : Int} (h : x ∈ cntT t rule b) : 0 ≤ x ∧ x ≤ 10000 := by
  rcases cntP_mem h with h | h
  · rw [h]; omega
  · exact colOf_bd ok h
theorem cntT_len {t : Tb} (ok : TabOk t) (rule : List Int) (b : Int) : (cntT t rule b).length ≤ 12 := by
  have := cntP_len (colOf t.pts b) (goneL (colOf t.pts b) (colOf t.cds b) (leN t.pts.length rule))
  rw [colOf_len] at this
  have := ok.many
  unfold cntT
  omega
theorem netT_bd {t : Tb} (ok : TabOk t) (rule : List Int) (b : Int) : 0 ≤ netT t rule b ∧ netT t rule b ≤ 120000 := by
  have h1 := sumI_bd (l := cntT t rule b) (m := 10000) (fun x hx => cntT_bd ok hx)
  have h2 := cntT_len ok rule b
  unfold netT
  omega
/-! ### Sorting with ties -/
theorem insOut_perm (lt : Int → Int → Bool) : ∀ (m : Nat) (p q : List Int), q.length = m → (insOut lt m p.length (p ++ q)).Perm (p ++ q) := by
  intro m
  induction m with
  | zero => intro p q _; exact List.Perm.refl _
  | succ m ih =>
    intro p q hm
    cases q with
    | nil => simp at hm
    | cons x q =>
      unfold insOut
      rw [insIn_app]
      have hperm := insRev_perm lt x p.reverse []
      rw [List.reverse_reverse, List.append_nil] at hperm
      have hlen : (insRev lt x p.reverse []).length = p.length + 1 := by rw [hperm.length_eq]; simp
      have h3 := ih (insRev lt x p.reverse []) q (by simpa using hm)
      rw [hlen] at h3
      refine h3.trans ((hperm.append_right q).trans ?_)
      exact (List.perm_middle (a := x) (l₁ := p) (l₂ := q)).symm
theorem insSort_perm (lt : Int → Int → Bool) (l : List Int) : (insSort lt l).Perm l := by
  unfold insSort
  cases l with
  | nil => exact List.Perm.refl _
  | cons x r => exact insOut_perm lt r.length [x] r rfl
theorem insRev_le (x : Int) : ∀ (r acc : List Int), (r.reverse ++ acc).Pairwise (fun a b => a ≤ b) → (∀ y ∈ acc, x ≤ y) → (insRev ltI x r acc).Pairwise (fun a b => a ≤ b) := by
  intro r
  induction r with
  | nil =>
    intro acc hs hx
    unfold insRev
    exact List.pairwise_cons.2 ⟨hx, by simpa using hs⟩
  | cons y r ih =>
    intro acc hs hx
    have e : (y :: r).reverse ++ acc = r.reverse ++ y :: acc := by simp
    rw [e] at hs
    unfold insRev
    by_cases h : x < y
    · rw [if_pos (by unfold ltI; exact decide_eq_true h)]
      refine ih (y :: acc) hs (fun z hz => ?_)
      rcases List.mem_cons.1 hz with rfl | hz
      · omega
      · exact hx z hz
    · rw [if_neg (by unfold ltI; simp [h])]
      rw [List.pairwise_append] at hs ⊢
      obtain ⟨h1, h2, h3⟩ := hs
      rw [List.pairwise_cons] at h2
      refine ⟨h1, List.pairwise_cons.2 ⟨fun z hz => ?_, List.pairwise_cons.2 ⟨hx, h2.2⟩⟩, fun a ha b hb => ?_⟩
      · rcases List.mem_cons.1 hz with rfl | hz
        · omega
        · exact h2.1 z hz
      · rcases List.mem_cons.1 hb with rfl | hb
        · exact h3 a ha b List.mem_cons_self
        · rcases List.mem_cons.1 hb with rfl | hb
          · have := h3 a ha y List.mem_cons_self; omega
          · exact h3 a ha b (List.mem_cons_of_mem _ hb)
theorem insOut_le : ∀ (m : Nat) (p q : List Int), q.length = m → p.Pairwise (fun a b => a ≤ b) → (insOut ltI m p.length (p ++ q)).Pairwise (fun a b => a ≤ b) := by
  intro m
  induction m with
  | zero =>
    intro p q hm hp
    obtain rfl := List.eq_nil_of_length_eq_zero hm
    simpa [insOut] using hp
  | succ m ih =>
    intro p q hm hp
    cases q with
    | nil => simp at hm
    | cons x q =>
      unfold insOut
      rw [insIn_app]
      have hperm := insRev_perm ltI x p.reverse []
      rw [List.reverse_reverse, List.append_nil] at hperm
      have hlen : (insRev ltI x p.reverse []).length = p.length + 1 := by rw [hperm.length_eq]; simp
      have h3 := ih (insRev ltI x p.reverse []) q (by simpa using hm) (insRev_le x p.reverse [] (by simpa using hp) (fun y hy => by cases hy))
      rw [hlen] at h3
      exact h3
theorem insSort_le (l : List Int) : (insSort ltI l).Pairwise (fun a b => a ≤ b) := by
  unfold insSort
  cases l with
  | nil => exact List.Pairwise.nil
  | cons x r => exact insOut_le r.length [x] r rfl (by simp)
/-- A sorted list that holds the same is the sorted list. -/
theorem sorted_eq {a l : List Int} (hp : a.Perm l) (hs : a.Pairwise (fun x y => x ≤ y)) : a = insSort ltI l :=
  (hp.trans (insSort_perm ltI l).symm).eq_of_pairwise (fun x y _ _ h h' => by omega) hs (insSort_le l)
theorem srtT_mem {t : Tb} {rule : List Int} {b x : Int} : x ∈ srtT t rule b ↔ x ∈ cntT t rule b := (insSort_perm _ _).mem_iff
theorem srtT_len (t : Tb) (rule : List Int) (b : Int) : (srtT t rule b).length = (cntT t rule b).length := insSort_length _ _
theorem srtT_sum (t : Tb) (rule : List Int) (b : Int) : sumI (srtT t rule b) = netT t rule b := sumI_perm (insSort_perm _ _)
/-! ### The comparison is one of keys -/
theorem cmp_key {t : Tb} (ok : TabOk t) (rule : List Int) (a b : Int) : (cmpT t rule a b).1 = sgnZ (lexC (keyT t rule a) (keyT t rule b)) := by
  have hl := last_lex (colOf t.pts a) (colOf t.pts b) t.pts.length (by rw [colOf_len]; exact Nat.le_refl _) (by rw [colOf_len]; exact Nat.le_refl _)
  rw [List.take_of_length_le (by rw [colOf_len]; exact Nat.le_refl _), List.take_of_length_le (by rw [colOf_len]; exact Nat.le_refl _)] at hl
  unfold cmpT keyT
  rw [hl, lexC]
  by_cases h1 : netT t rule a = netT t rule b
  · rw [if_neg (fun h => h h1), if_pos h1]
    have hp := lexC_pad (x := srtT t rule a) (y := srtT t rule b) (fun z hz => (cntT_bd ok (srtT_mem.1 hz)).1) (fun z hz => (cntT_bd ok (srtT_mem.1 hz)).1) (by rw [srtT_len]; exact cntT_len ok rule a) (by rw [srtT_len]; exact cntT_len ok rule b) (by rw [srtT_sum, srtT_sum, h1])
    by_cases h2 : lexC (srtT t rule a) (srtT t rule b) = 0
    · rw [if_neg (fun h => h h2)]
      rw [h2] at hp
      have he : padZ (srtT t rule a) = padZ (srtT t rule b) := by
        have h3 := lexC_zero _ _ hp (by rw [padZ_len (by rw [srtT_len]; exact cntT_len ok rule a), padZ_len (by rw [srtT_len]; exact cntT_len ok rule b)]; exact Nat.le_refl _)
        rw [List.drop_eq_nil_of_le (by rw [padZ_len (by rw [srtT_len]; exact cntT_len ok rule b), padZ_len (by rw [srtT_len]; exact cntT_len ok rule a)]; exact Nat.le_refl _), List.append_nil] at h3
        exact h3.symm
      rw [lexC_app_eq _ _ _ _ he]
      by_cases h3 : lexC (colOf t.pts a).reverse (colOf t.pts b).reverse = 0
      · rw [if_neg (fun h => h h3), h3]
        rfl
      · rw [if_pos h3]
    · rw [if_pos h2, lexC_app_ne _ _ _ _ (by rw [hp]; exact h2), hp]
  · rw [if_pos h1, if_neg h1]
theorem cmp_step (t : Tb) (rule : List Int) (a b : Int) : (cmpT t rule a b).1 = 0 ↔ (cmpT t rule a b).2.1 = 0 := by
  unfold cmpT
  split
  · rename_i h
    simp only [sgnZ_zero]
    omega
  · split
    · rename_i h
      simp only [sgnZ_zero]
      omega
    · split
      · rename_i h
        simp only [sgnZ_zero]
        omega
      · simp
theorem cmp_bd (t : Tb) (rule : List Int) (a b : Int) : -1 ≤ (cmpT t rule a b).1 ∧ (cmpT t rule a b).1 ≤ 1 := by
  have h : ∀ x, -1 ≤ sgnZ x ∧ sgnZ x ≤ 1 := by intro x; unfold sgnZ; split; omega; split <;> omega
  unfold cmpT
  split
  · exact h _
  · split
    · exact h _
    · split
      · exact h _
      · exact ⟨by omega, by omega⟩
theorem ltT_key {t : Tb} (ok : TabOk t) (rule : List Int) : ltT t rule = fun a b => decide (lexC (keyT t rule a) (keyT t rule b) < 0) := by
  funext a b
  unfold ltT
  rw [cmp_key ok]
  simp only [sgnZ_neg]
theorem ltT_weak {t : Tb} (ok : TabOk t) (rule : List Int) : Weak (ltT t rule) := by
  rw [ltT_key ok]
  refine weak_lex (keyT t rule) (13 + t.pts.length) (fun a => ?_)
  unfold keyT
  rw [List.length_cons, List.length_append, List.length_reverse, colOf_len, padZ_len (by rw [srtT_len]; exact cntT_len ok rule a)]
  omega
/-! ### Ranks and the standing -/
def rankL (lt : Int → Int → Bool) (n : Nat) (a : Int) : Nat := 1 + (idx n).countP (fun k => lt k a)
def standL (lt : Int → Int → Bool) (n : Nat) : List Int := (List.range' 1 n).flatMap fun r => (idx n).filter fun k => decide (rankL lt n k = r)
theorem countP_lt {l : List Int} {p q : Int → Bool} (h : ∀ x ∈ l, p x = true → q x = true) {a : Int} (ha : a ∈ l) (h1 : p a = false) (h2 : q a = true) : l.countP p < l.countP q := by
  induction l with
  | nil => cases ha
  | cons x r ih =>
    rw [List.countP_cons, List.countP_cons]
    have hle : r.countP p ≤ r.countP q := List.countP_mono_left (fun y hy => h y (List.mem_cons_of_mem _ hy))
    rcases List.mem_cons.1 ha with rfl | ha
    · rw [h1, h2]
      simp
      omega
    · have h3 := ih (fun y hy => h y (List.mem_cons_of_mem _ hy)) ha
      have h4 := h x List.mem_cons_self
      cases hp : p x with
      | true => rw [h4 hp]; simp; omega
      | false => cases q x <;> simp <;> omega
theorem rank_lt {lt : Int → Int → Bool} (hw : Weak lt) {n : Nat} {a b : Int} (ha : a ∈ idx n) (h : lt a b = true) : rankL lt n a < rankL lt n b := by
  unfold rankL
  have := countP_lt (l := idx n) (p := fun k => lt k a) (q := fun k => lt k b) (fun x _ hx => hw.tr _ _ _ hx h) ha (hw.irr a) h
  omega
theorem rank_eq {lt : Int → Int → Bool} (hw : Weak lt) {n : Nat} {a b : Int} (h1 : lt a b = false) (h2 : lt b a = false) : rankL lt n a = rankL lt n b := by
  unfold rankL
  congr 1
  refine List.countP_congr (fun x _ => ?_)
  constructor
  · intro h; exact hw.left h h1 h2
  · intro h; exact hw.left h h2 h1
theorem rank_bd {lt : Int → Int → Bool} (hw : Weak lt) {n : Nat} {a : Int} (ha : a ∈ idx n) : 1 ≤ rankL lt n a ∧ rankL lt n a ≤ n := by
  unfold rankL
  have h1 := countP_lt (l := idx n) (p := fun k => lt k a) (q := fun _ => true) (fun _ _ _ => rfl) ha (hw.irr a) rfl
  have h2 : (idx n).countP (fun _ => true) = n := by rw [List.countP_true, idx_length]
  omega
theorem stand_pair {lt : Int → Int → Bool} (hw : Weak lt) (n : Nat) : (standL lt n).Pairwise (fun a b => tieL lt a b = true) := by
  unfold standL
  rw [List.pairwise_flatMap]
  constructor
  · intro r hr
    refine List.Pairwise.imp_of_mem (fun {a b} ha hb h => ?_) ((idx_inc n).filter _)
    have ha2 := List.mem_filter.1 ha
    have hb2 := List.mem_filter.1 hb
    simp only [decide_eq_true_eq] at ha2 hb2
    unfold tieL
    cases h1 : lt a b with
    | true => rfl
    | false =>
      cases h2 : lt b a with
      | true => have := rank_lt hw hb2.1 h2; omega
      | false => simp; exact h
  · refine List.Pairwise.imp (fun {r s} hrs a ha b hb => ?_) List.pairwise_lt_range'
    have ha2 := List.mem_filter.1 ha
    have hb2 := List.mem_filter.1 hb
    simp only [decide_eq_true_eq] at ha2 hb2
    unfold tieL
    cases h1 : lt a b with
    | true => rfl
    | false =>
      exfalso
      cases h2 : lt b a with
      | true => have := rank_lt hw hb2.1 h2; omega
      | false => have := rank_eq hw (n := n) h1 h2; omega
theorem stand_mem {lt : Int → Int → Bool} (hw : Weak lt) (n : Nat) (a : Int) : a ∈ standL lt n ↔ a ∈ idx n := by
  unfold standL
  rw [List.mem_flatMap]
  constructor
  · rintro ⟨r, -, h⟩; exact (List.mem_filter.1 h).1
  · intro h
    have := rank_bd hw h
    exact ⟨rankL lt n a, by rw [List.mem_range'_1]; omega, List.mem_filter.2 ⟨h, by simp⟩⟩
/-- The stable sort is the order by ranks. -/
theorem stand_eq {lt : Int → Int → Bool} (hw : Weak lt) (n : Nat) : insSort lt (idx n) = standL lt n := by
  rw [sort_tie]
  obtain ⟨h1, h2⟩ := insSort_sorts (tie_strict hw (idx n)) (idx_nodup n)
  have h3 := stand_pair hw n
  have hn : (standL lt n).Nodup := h3.imp (fun {a b} h e => by
    subst e
    rw [(tie_strict hw [a]).irr a (List.mem_singleton.2 rfl)] at h
    cases h)
  have hp : (standL lt n).Perm (idx n) := (List.perm_ext_iff_of_nodup hn (idx_nodup n)).2 (stand_mem hw n)
  refine (h1.trans hp.symm).eq_of_pairwise (fun a b _ _ h h' => ?_) h2 h3
  rw [(tie_strict hw [a, b]).asy a (by simp) b (by simp) h] at h'
  cases h'
def rankT (t : Tb) (rule : List Int) (a : Int) : Int := (rankL (ltT t rule) t.boats.toNat a : Nat)
def standT (t : Tb) (rule : List Int) : List Int := insSort (ltT t rule) (idx t.boats.toNat)
theorem standT_eq {t : Tb} (ok : TabOk t) (rule : List Int) : standT t rule = standL (ltT t rule) t.boats.toNat := stand_eq (ltT_weak ok rule) _
theorem standT_len (t : Tb) (rule : List Int) : (standT t rule).length = t.boats.toNat := by unfold standT; rw [insSort_length, idx_length]
theorem standT_mem {t : Tb} {rule : List Int} {x : Int} : x ∈ standT t rule ↔ 0 ≤ x ∧ x < t.boats.toNat := (insSort_perm _ _).mem_iff.trans idx_mem
end Go.Proofs.Ytalgdeieejpelaa

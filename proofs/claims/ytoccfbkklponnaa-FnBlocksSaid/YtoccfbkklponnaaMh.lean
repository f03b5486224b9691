/- Plain law: fleets by blocks, and their drawing: no Go in sight. -/
import Derived.Test.YtoccfbkklponnaaMg
import Derived.Test.YtoccfbkklponnaaMe
namespace Go.Proofs.Ytoccfbkklponnaa
open Go.RowKit
set_option linter.unusedVariables false

def blockAt : Nat → List Int → Nat → Int
  | f, [], _ => f
  | f, s :: r, i => if i < s.toNat then f else blockAt (f + 1) r (i - s.toNat)
theorem blockAt_ge (f : Nat) (ss : List Int) (i : Nat) : (f : Int) ≤ blockAt f ss i ∧ blockAt f ss i ≤ f + ss.length := by
  induction ss generalizing f i with
  | nil => simp [blockAt]
  | cons s r ih =>
    unfold blockAt
    split
    · simp only [List.length_cons]; omega
    · have := ih (f + 1) (i - s.toNat)
      simp only [List.length_cons]; omega
theorem blockAt_mono (f : Nat) (ss : List Int) (i j : Nat) (h : i ≤ j) : blockAt f ss i ≤ blockAt f ss j := by
  induction ss generalizing f i j with
  | nil => simp [blockAt]
  | cons s r ih =>
    unfold blockAt
    by_cases hj : j < s.toNat
    · rw [if_pos hj, if_pos (by omega)]; exact Int.le_refl _
    · rw [if_neg hj]
      split
      · have := blockAt_ge (f + 1) r (j - s.toNat); omega
      · exact ih _ _ _ (by omega)
theorem scatterF_congr' (f g : Nat → Int) (i : Nat) (xs out : List Int) (h : ∀ j, j < xs.length → f (i + j) = g (i + j)) : scatterF f i xs out = scatterF g i xs out := by
  induction xs generalizing i out with
  | nil => rfl
  | cons x r ih =>
    unfold scatterF
    have h0 := h 0 (by simp)
    simp only [Nat.add_zero] at h0
    rw [h0]
    refine ih _ _ (fun j hj => ?_)
    have := h (j + 1) (by simpa using hj)
    rw [show i + 1 + j = i + (j + 1) from by omega]
    exact this
theorem scatterF_append (f : Nat → Int) (i : Nat) (a b out : List Int) : scatterF f i (a ++ b) out = scatterF f (i + a.length) b (scatterF f i a out) := by
  induction a generalizing i out with
  | nil => rfl
  | cons x r ih =>
    simp only [List.cons_append, scatterF, List.length_cons]
    rw [ih]
    congr 1
    omega
theorem fillF_scatter (xs : List Int) (f : Int) (at_ m : Nat) (out : List Int) (h : at_ + m ≤ xs.length) : fillF xs f at_ m out = scatterF (fun _ => f) at_ ((xs.drop at_).take m) out := by
  induction m generalizing at_ out with
  | zero => simp [fillF, scatterF]
  | succ m ih =>
    obtain ⟨x, h1, h2⟩ := drop_cons (xs := xs) (k := at_) (by omega)
    rw [h2]
    simp only [fillF, List.take_succ_cons, scatterF]
    rw [ih _ _ (by omega)]
    congr 2
    rw [List.getD_eq_getElem?_getD, h1]; rfl
def sumN (ss : List Int) : Nat := (ss.map Int.toNat).sum
theorem fillsF_scatter (xs ss : List Int) (f at_ : Nat) (out : List Int) (h : at_ + sumN ss = xs.length) :
    fillsF xs f ss at_ out = scatterF (fun i => blockAt f ss (i - at_)) at_ (xs.drop at_) out := by
  induction ss generalizing f at_ out with
  | nil =>
    simp only [sumN, List.map_nil, List.sum_nil, Nat.add_zero] at h
    rw [List.drop_eq_nil_of_le (by omega)]; rfl
  | cons s r ih =>
    simp only [sumN, List.map_cons, List.sum_cons] at h
    unfold fillsF
    rw [ih _ _ _ (by simp only [sumN]; omega), fillF_scatter _ _ _ _ _ (by omega)]
    have e : xs.drop at_ = (xs.drop at_).take s.toNat ++ xs.drop (at_ + s.toNat) := by
      rw [← List.drop_drop]; exact (List.take_append_drop _ _).symm
    conv => rhs; rw [e]
    rw [scatterF_append]
    have hl : ((xs.drop at_).take s.toNat).length = s.toNat := by simp; omega
    rw [hl]
    have e2 : scatterF (fun i => blockAt f (s :: r) (i - at_)) at_ ((xs.drop at_).take s.toNat) out = scatterF (fun _ => (f : Int)) at_ ((xs.drop at_).take s.toNat) out := by
      refine scatterF_congr' _ _ _ _ _ (fun j hj => ?_)
      rw [hl] at hj
      simp only [blockAt]
      rw [if_pos (by omega)]
    rw [e2]
    refine scatterF_congr' _ _ _ _ _ (fun j hj => ?_)
    simp only [blockAt]
    rw [if_neg (by omega)]
    congr 1
    omega
theorem range'_countP_shift (p : Nat → Bool) (a b n : Nat) : (List.range' (a + b) n).countP p = (List.range' b n).countP (fun j => p (a + j)) := by
  induction n generalizing b with
  | zero => rfl
  | succ n ih =>
    simp only [List.range'_succ, List.countP_cons]
    rw [Nat.add_assoc, ih]
theorem blockAt_count (f v : Nat) (ss : List Int) : (List.range' 0 (sumN ss)).countP (fun j => blockAt f ss j == ((f + v : Nat) : Int)) = (ss.getD v 0).toNat := by
  induction ss generalizing f v with
  | nil => simp [sumN]
  | cons s r ih =>
    have e : List.range' 0 (sumN (s :: r)) = List.range' 0 s.toNat ++ List.range' s.toNat (sumN r) := by
      have := (List.range'_append (s := 0) (m := s.toNat) (n := sumN r) (step := 1)).symm
      simp only [sumN, List.map_cons, List.sum_cons] at this ⊢
      simpa using this
    rw [e, List.countP_append]
    have h2 : (List.range' s.toNat (sumN r)).countP (fun j => blockAt f (s :: r) j == ((f + v : Nat) : Int)) = (List.range' 0 (sumN r)).countP (fun j => blockAt (f + 1) r j == ((f + v : Nat) : Int)) := by
      have := range'_countP_shift (fun j => blockAt f (s :: r) j == ((f + v : Nat) : Int)) s.toNat 0 (sumN r)
      rw [Nat.add_zero] at this
      rw [this]
      refine List.countP_congr (fun j _ => ?_)
      simp only [blockAt]
      rw [if_neg (by omega), show s.toNat + j - s.toNat = j from by omega]
    have h1 : (List.range' 0 s.toNat).countP (fun j => blockAt f (s :: r) j == ((f + v : Nat) : Int)) = if v = 0 then s.toNat else 0 := by
      have h3 : (List.range' 0 s.toNat).countP (fun j => blockAt f (s :: r) j == ((f + v : Nat) : Int)) = (List.range' 0 s.toNat).countP (fun _ => decide (v = 0)) := by
        refine List.countP_congr (fun j hj => ?_)
        simp only [List.mem_range'_1] at hj
        simp only [blockAt]
        rw [if_pos (by omega)]
        simp only [beq_iff_eq, decide_eq_true_eq]
        omega
      rw [h3]
      by_cases hv : v = 0
      · simp [hv]
      · simp [hv]
    rw [h1, h2]
    cases v with
    | zero =>
      simp only [List.getD_cons_zero, Nat.add_zero, if_true]
      have : (List.range' 0 (sumN r)).countP (fun j => blockAt (f + 1) r j == ((f : Nat) : Int)) = 0 := by
        rw [List.countP_eq_zero]
        intro j _
        have := blockAt_ge (f + 1) r j
        simp only [beq_iff_eq]
        omega
      rw [this]
      simp
    | succ v =>
      rw [if_neg (by omega)]
      have := ih (f + 1) v
      rw [show f + 1 + v = f + (v + 1) from by omega] at this
      rw [this]
      simp

theorem scatter_keep (f : Nat → Int) (n : Nat) (xs : List Int) : ∀ (i : Nat) (out : List Int) (seen : List Bool) (p : Nat), permF 0 n xs seen = true → seen[p]? = some true → (scatterF f i xs out)[p]? = out[p]? := by
  induction xs with
  | nil => intros; rfl
  | cons x r ih =>
    intro i out seen p hp hs
    unfold permF at hp
    split at hp
    · rename_i hw
      have hw' := withinB_iff.1 hw
      split at hp
      · cases hp
      · rename_i hsn
        rw [show (x - 0).toNat = x.toNat from by omega] at hp hsn
        have hne : x.toNat ≠ p := by
          rintro rfl
          rw [List.getD_eq_getElem?_getD, hs] at hsn
          exact hsn rfl
        unfold scatterF
        rw [ih _ _ _ p hp (by rw [List.getElem?_set_ne hne]; exact hs), List.getElem?_set_ne hne]
    · cases hp
theorem scatter_get (f : Nat → Int) (n : Nat) (xs : List Int) : ∀ (i : Nat) (out : List Int) (seen : List Bool) (j : Nat) (x : Int), permF 0 n xs seen = true → out.length = n → seen.length = n → xs[j]? = some x → (scatterF f i xs out)[x.toNat]? = some (f (i + j)) := by
  induction xs with
  | nil => intro i out seen j x _ _ _ h; simp at h
  | cons y r ih =>
    intro i out seen j x hp ho hs hx
    unfold permF at hp
    split at hp
    · rename_i hw
      have hw' := withinB_iff.1 hw
      split at hp
      · cases hp
      · rename_i hsn
        rw [show (y - 0).toNat = y.toNat from by omega] at hp hsn
        unfold scatterF
        cases j with
        | zero =>
          simp only [List.getElem?_cons_zero, Option.some.injEq] at hx
          subst hx
          rw [scatter_keep f n r _ _ _ _ hp (by rw [List.getElem?_set_self (by omega)])]
          rw [List.getElem?_set_self (by omega)]; rfl
        | succ j =>
          simp only [List.getElem?_cons_succ] at hx
          rw [ih _ _ _ j x hp (by simpa using ho) (by simpa using hs) hx]
          congr 2; omega
    · cases hp

theorem leftF_zero {ss : List Int} {left : Int} (h : leftF left ss = some 0) : sumN ss = left.toNat ∧ ∀ s ∈ ss, 0 ≤ s := by
  induction ss generalizing left with
  | nil => simp only [leftF, Option.some.injEq] at h; subst h; simp [sumN]
  | cons s r ih =>
    unfold leftF at h
    split at h
    · rename_i hw
      have hw' := withinB_iff.1 hw
      have h1 := ih h
      refine ⟨?_, ?_⟩
      · have := h1.1
        simp only [sumN, List.map_cons, List.sum_cons] at this ⊢
        omega
      · intro x hx
        rcases List.mem_cons.1 hx with rfl | hx
        · exact hw'.1
        · exact h1.2 x hx
    · cases h

/-- What is known of fleets by blocks. -/
structure Blocks (order sizes want : List Int) : Prop where
  n1 : 1 ≤ order.length
  n16 : order.length ≤ 16
  k1 : 1 ≤ sizes.length
  k4 : sizes.length ≤ 4
  len : want.length = order.length
  mem : ∀ (i : Nat) (x : Int), order[i]? = some x → ∃ p : Nat, x = p ∧ p < want.length
  mono : ∀ (i : Nat) (x y : Int), order[i]? = some x → order[i + 1]? = some y → ∃ a b, want[x.toNat]? = some a ∧ want[y.toNat]? = some b ∧ a ≤ b
  code : fleetsCodeF want sizes.length = 0
  cnt : countF want (List.replicate sizes.length 0) = sizes
theorem blocks_of {order sizes : List Int} (h : (blockF order sizes).2 = 0) : Blocks order sizes (blockF order sizes).1 := by
  unfold blockF at h ⊢
  split at h
  case isFalse hn => exact absurd h hn
  rename_i hz
  rw [if_pos hz]
  have hk : 1 ≤ (sizes.length : Int) ∧ (sizes.length : Int) ≤ 4 ∧ orderB order = true := by
    unfold orderCodeF at hz
    split at hz
    · rename_i h1
      split at hz
      · rename_i h2
        exact ⟨(withinB_iff.1 h1).1, (withinB_iff.1 h1).2, h2⟩
      · cases hz
    · cases hz
  obtain ⟨hk1, hk4, ho⟩ := hk
  have hn := orderB_len ho
  have hp : permF 0 order.length order (List.replicate order.length false) = true := by
    unfold orderB at ho
    simp only [Bool.and_eq_true] at ho
    exact ho.2
  clear hz
  cases hl : leftF ((order.length : Int) - (0 : Nat)) sizes with
  | none =>
    rw [goBlock_none order sizes 0 0 _ (Nat.zero_le _) hl] at h
    simp [endBlock] at h
  | some l =>
    rw [goBlock_some order sizes 0 0 _ l (Nat.zero_le _) hl] at h ⊢
    have hnn := leftF_nonneg (by omega) hl
    simp only [endBlock] at h ⊢
    split at h
    · cases h
    rename_i hge
    rw [if_neg hge]
    have hl0 : l = 0 := by omega
    subst hl0
    obtain ⟨hs1, hs2⟩ := leftF_zero hl
    have hsum : sumN sizes = order.length := by omega
    have hf : fillsF order 0 sizes 0 (List.replicate order.length 0) = scatterF (blockAt 0 sizes) 0 order (List.replicate order.length 0) := by
      rw [fillsF_scatter order sizes 0 0 _ (by omega)]; rfl
    rw [hf]
    have hcnt : ∀ v : Nat, v < sizes.length → ((scatterF (blockAt 0 sizes) 0 order (List.replicate order.length 0)).count (v : Int) : Int) = sizes.getD v 0 := by
      intro v hv
      have := scatter_count (blockAt 0 sizes) v order.length order 0 (List.replicate order.length 0) (List.replicate order.length false) hp (by simp) (by simp) (by simp [List.countP_replicate])
      rw [this, zip_rep_false, Nat.zero_add, ← hsum]
      have h2 := blockAt_count 0 v sizes
      rw [Nat.zero_add] at h2
      rw [h2]
      have : 0 ≤ sizes.getD v 0 := by
        rw [List.getD_eq_getElem?_getD, List.getElem?_eq_getElem hv]
        exact hs2 _ (List.getElem_mem hv)
      omega
    have hbd : ∀ j, j < order.length → 0 ≤ blockAt 0 sizes j ∧ blockAt 0 sizes j < sizes.length := by
      intro j hj
      refine ⟨by have := blockAt_ge 0 sizes j; omega, ?_⟩
      have : ∀ (ss : List Int) (f i : Nat), i < sumN ss → blockAt f ss i < f + ss.length := by
        intro ss
        induction ss with
        | nil => intro f i hi; simp [sumN] at hi
        | cons s r ih =>
          intro f i hi
          simp only [sumN, List.map_cons, List.sum_cons] at hi
          unfold blockAt
          split
          · simp only [List.length_cons]; omega
          · have := ih (f + 1) (i - s.toNat) (by simp only [sumN]; omega)
            simp only [List.length_cons]; omega
      have := this sizes 0 j (by omega)
      omega
    have hmem : ∀ y ∈ scatterF (blockAt 0 sizes) 0 order (List.replicate order.length 0), 0 ≤ y ∧ y < sizes.length := by
      intro y hy
      obtain ⟨q, hq⟩ := List.getElem?_of_mem hy
      have : (scatterF (blockAt 0 sizes) 0 order (List.replicate order.length 0)) = scatterF (fun j => if j < order.length then blockAt 0 sizes j else 0) 0 order (List.replicate order.length 0) := by
        refine scatterF_congr' _ _ _ _ _ (fun j hj => ?_)
        simp only [Nat.zero_add]
        rw [if_pos hj]
      rw [this] at hy
      rcases scatterF_mem _ _ _ _ y hy with h | ⟨j, rfl⟩
      · rw [List.mem_replicate] at h; omega
      · split
        · rename_i hj; exact hbd j hj
        · omega
    have hget := fun j x hx => scatter_get (blockAt 0 sizes) order.length order 0 (List.replicate order.length 0) (List.replicate order.length false) j x hp (by simp) (by simp) hx
    generalize hw : scatterF (blockAt 0 sizes) 0 order (List.replicate order.length 0) = want at *
    have hlen : want.length = order.length := by rw [← hw, scatterF_length]; simp
    have hfb : fleetsB want sizes.length = true := by
      unfold fleetsB
      rw [Bool.and_eq_true, withinB_iff, List.all_eq_true]
      refine ⟨by omega, fun x hx => withinB_iff.2 ?_⟩
      have := hmem x hx
      omega
    refine ⟨hn.1, hn.2, by omega, by omega, hlen, ?_, ?_, ?_, ?_⟩
    · intro i x hx
      obtain ⟨j, rfl, hj⟩ := orderB_mem ho hx
      exact ⟨j, rfl, by show j < want.length; omega⟩
    · intro i x y hx hy
      exact ⟨_, _, hget i x hx, hget (i + 1) y hy, blockAt_mono _ _ _ _ (by omega)⟩
    · unfold fleetsCodeF
      rw [if_pos (withinB_iff.2 (by omega)), hfb]; rfl
    · refine List.ext_getElem? (fun v => ?_)
      by_cases hv : v < sizes.length
      · rw [countF_get want _ v _ _ (by simpa using hv)]
        · rw [hcnt v hv]
          simp [List.getD_eq_getElem?_getD, hv]
        · intro y hy
          rw [List.mem_replicate] at hy
          omega
        · intro x hx
          have := hmem x hx
          simpa using this
      · rw [List.getElem?_eq_none (by rw [countF_len]; simp; omega), List.getElem?_eq_none (by omega)]

/-! ### Drawn blocks -/
def blockGo (code : List Int) : Nat → Int → List Int → St → List Int × Int × St
  | 0, left, out, s => (out, left, s)
  | m + 1, left, out, s => blockGo code m (left - (nextF code s (left + 1)).1) (out ++ [(nextF code s (left + 1)).1]) (nextF code s (left + 1)).2
def blockEnd (out : List Int) (v : Int) : List Int :=
  if v = 0 then out.set 0 (wrap64 (out.getD 0 0 + 1)) else if v = 1 then out.set 0 (-1) else if v = 2 then [] else out
def blockD (code : List Int) : List Int × List Int :=
  ((anyD code (fromF code)).1,
   blockEnd ((blockGo code ((kD code (anyD code (fromF code)).2).1.toNat - 1) ((anyD code (fromF code)).1.length : Int) [] (kD code (anyD code (fromF code)).2).2).1 ++ [(blockGo code ((kD code (anyD code (fromF code)).2).1.toNat - 1) ((anyD code (fromF code)).1.length : Int) [] (kD code (anyD code (fromF code)).2).2).2.1])
     (nextF code (blockGo code ((kD code (anyD code (fromF code)).2).1.toNat - 1) ((anyD code (fromF code)).1.length : Int) [] (kD code (anyD code (fromF code)).2).2).2.2 20).1)
end Go.Proofs.Ytoccfbkklponnaa

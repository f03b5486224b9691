/- Plain law: the sizes of fleets that are assigned by turns differ by at most 1, and together they are all boats: no Go in sight. -/
import Derived.Test.YtoccfbkklponnaaMf
namespace Go.Proofs.Ytoccfbkklponnaa
open Go.RowKit
set_option linter.unusedVariables false

theorem scatterF_mem (f : Nat → Int) (i : Nat) (xs out : List Int) : ∀ y ∈ scatterF f i xs out, y ∈ out ∨ ∃ j, y = f j := by
  induction xs generalizing i out with
  | nil => intro y hy; exact .inl hy
  | cons x r ih =>
    intro y hy
    rcases ih _ _ y hy with h | h
    · rcases List.mem_or_eq_of_mem_set h with h | h
      · exact .inl h
      · exact .inr ⟨i, h⟩
    · exact .inr h
theorem snakeSpec_bd (k : Int) (h1 : 1 ≤ k) (h2 : k ≤ 4) (i : Nat) : 0 ≤ snakeSpec k i ∧ snakeSpec k i ≤ k - 1 := by
  unfold snakeSpec
  have hk : k = 1 ∨ k = 2 ∨ k = 3 ∨ k = 4 := by omega
  rcases hk with rfl | rfl | rfl | rfl <;> split <;> omega

theorem zip_set {α β : Type} (l : List α) (m : List β) (k : Nat) (a : α) (b : β) : (l.set k a).zip (m.set k b) = (l.zip m).set k (a, b) := by
  induction l generalizing m k with
  | nil => simp
  | cons x r ih =>
    cases m with
    | nil => simp
    | cons y q =>
      cases k with
      | zero => rfl
      | succ k => simp [ih]

theorem scatter_count (f : Nat → Int) (v : Int) (n : Nat) (xs : List Int) : ∀ (i : Nat) (out : List Int) (seen : List Bool), permF 0 n xs seen = true → out.length = n → seen.length = n → seen.countP (fun b => !b) = xs.length →
    (scatterF f i xs out).count v = (out.zip seen).countP (fun z => z.2 && z.1 == v) + (List.range' i xs.length).countP (fun j => f j == v) := by
  induction xs with
  | nil =>
    intro i out seen _ ho hs hc
    simp only [scatterF, List.length_nil, List.range'_zero, List.countP_nil, Nat.add_zero]
    have hall : ∀ b ∈ seen, b = true := by
      intro b hb
      have h0 := List.countP_eq_zero.1 hc b hb
      simpa using h0
    clear hc
    rw [List.count]
    induction out generalizing seen n with
    | nil => simp
    | cons x r ih =>
      cases seen with
      | nil => simp at ho hs; omega
      | cons b q =>
        have hb := hall b (by simp)
        subst hb
        simp only [List.zip_cons_cons, List.countP_cons, Bool.true_and]
        rw [ih (n := r.length) (seen := q) (by simp [permF]) rfl (by simp at ho hs; omega) (fun b hb => hall b (by simp [hb]))]
  | cons x r ih =>
    intro i out seen hp ho hs hc
    unfold permF at hp
    split at hp
    · rename_i hw
      have hw' := withinB_iff.1 hw
      split at hp
      · cases hp
      · rename_i hsn
        obtain ⟨p, rfl⟩ : ∃ p : Nat, x = p := ⟨x.toNat, by omega⟩
        have hpn : p < n := by omega
        have e0 : ((p : Int) - 0).toNat = p := by omega
        rw [e0] at hp hsn
        have hsp : seen[p]'(by omega) = false := by
          rw [List.getD_eq_getElem?_getD, List.getElem?_eq_getElem (by omega)] at hsn
          simpa using hsn
        have hc' : (seen.set p true).countP (fun b => !b) = r.length := by
          rw [List.countP_set (by omega), hsp, hc]
          simp
        have h := ih (i + 1) (out.set p (f i)) (seen.set p true) hp (by simpa using ho) (by simpa using hs) hc'
        simp only [scatterF, Int.toNat_natCast]
        rw [h, zip_set, List.countP_set (by rw [List.length_zip]; omega)]
        have hz : (out.zip seen)[p]'(by rw [List.length_zip]; omega) = (out[p]'(by omega), false) := by rw [List.getElem_zip, hsp]
        rw [hz]
        simp only [Bool.false_and, Bool.true_and, List.length_cons, List.range'_succ, List.countP_cons]
        simp only [Bool.false_eq_true, if_false, Nat.sub_zero]
        omega
    · cases hp

theorem zip_rep_false (out : List Int) (n : Nat) (v : Int) : (out.zip (List.replicate n false)).countP (fun z => z.2 && z.1 == v) = 0 := by
  rw [List.countP_eq_zero]
  intro z hz
  have := (List.of_mem_zip hz).2
  rw [List.mem_replicate] at this
  simp [this.2]

/-- How many boats of n the fleet v has. -/
def snakeN (n : Nat) (k v : Int) : Nat := (List.range' 0 n).countP fun j => snakeSpec k j == v
theorem snake_count {xs : List Int} {k : Int} (h : orderB xs = true) (v : Int) : (scatterF (snakeSpec k) 0 xs (List.replicate xs.length 0)).count v = snakeN xs.length k v := by
  unfold orderB at h
  simp only [Bool.and_eq_true] at h
  have := scatter_count (snakeSpec k) v xs.length xs 0 (List.replicate xs.length 0) (List.replicate xs.length false) h.2 (by simp) (by simp) (by simp [List.countP_replicate])
  rw [this, zip_rep_false, Nat.zero_add]
  rfl
theorem snake_even : ∀ n : Fin 17, ∀ k : Fin 5, ∀ a b : Fin 4, a.val < k.val → b.val < k.val → snakeN n.val k.val a.val ≤ snakeN n.val k.val b.val + 1 := by decide +kernel

/-! ### Counting -/
theorem countF_len (xs out : List Int) : (countF xs out).length = out.length := by
  induction xs generalizing out with
  | nil => rfl
  | cons x r ih => simp [countF, ih]
theorem countF_get (xs : List Int) : ∀ (out : List Int) (v : Nat), (∀ y ∈ out, 0 ≤ y ∧ y + xs.length ≤ 1000000) → (∀ x ∈ xs, 0 ≤ x ∧ x < out.length) → v < out.length →
    (countF xs out)[v]? = some (out.getD v 0 + (xs.count (v : Int) : Nat)) := by
  induction xs with
  | nil =>
    intro out v _ _ hv
    simp [countF, hv]
  | cons x r ih =>
    intro out v hy hx hv
    obtain ⟨p, rfl⟩ : ∃ p : Nat, x = p := ⟨x.toNat, by have := hx x (by simp); omega⟩
    have hp : p < out.length := by have := hx p (by simp); omega
    have hop : 0 ≤ out.getD p 0 ∧ out.getD p 0 + ((p : Int) :: r).length ≤ 1000000 := by
      rw [List.getD_eq_getElem?_getD, List.getElem?_eq_getElem hp]
      exact hy _ (List.getElem_mem hp)
    simp only [List.length_cons] at hop hy
    have hwrap : wrap64 (out.getD p 0 + 1) = out.getD p 0 + 1 := IntWalk.wrap64_in _ (by omega)
    simp only [countF, Int.toNat_natCast]
    rw [hwrap, ih _ v _ _ (by simpa using hv)]
    · congr 1
      by_cases hpv : p = v
      · subst hpv
        rw [List.getD_eq_getElem?_getD, List.getElem?_set_self hp, List.count_cons_self]
        simp only [Option.getD_some]
        omega
      · rw [List.getD_eq_getElem?_getD, List.getElem?_set_ne hpv, ← List.getD_eq_getElem?_getD, List.count_cons_of_ne (by simp; omega)]
    · intro y hmem
      rcases List.mem_or_eq_of_mem_set hmem with h | h
      · have := hy y h; omega
      · subst h; omega
    · intro z hz
      rw [List.length_set]
      exact hx z (by simp [hz])
theorem boatsF_len (fl : Int) (i : Nat) (xs : List Int) : (boatsF fl i xs).length = xs.count fl := by
  induction xs generalizing i with
  | nil => rfl
  | cons x r ih =>
    unfold boatsF
    by_cases h : x = fl
    · subst h; rw [if_pos rfl, List.length_cons, ih, List.count_cons_self]
    · rw [if_neg h, ih, List.count_cons_of_ne (by simpa using h)]
def sumC (xs : List Int) : Nat → Nat
  | 0 => 0
  | k + 1 => sumC xs k + xs.count (k : Int)
theorem sumC_cons (x : Int) (r : List Int) (k : Nat) (h0 : 0 ≤ x) : sumC (x :: r) k = sumC r k + if x < k then 1 else 0 := by
  induction k with
  | zero => simp [sumC]; omega
  | succ k ih =>
    simp only [sumC]
    rw [ih]
    by_cases hx : x = k
    · subst hx; rw [List.count_cons_self, if_neg (by omega), if_pos (by omega)]; omega
    · rw [List.count_cons_of_ne (by simpa using hx)]
      by_cases h1 : x < k
      · rw [if_pos h1, if_pos (by omega)]; omega
      · rw [if_neg h1, if_neg (by omega)]; omega
theorem sumC_all (xs : List Int) (k : Nat) (h : ∀ x ∈ xs, 0 ≤ x ∧ x < k) : sumC xs k = xs.length := by
  induction xs with
  | nil =>
    induction k with
    | zero => rfl
    | succ k ih => simp only [sumC]; rw [ih (fun x hx => by cases hx)]; simp
  | cons x r ih =>
    have hx := h x (by simp)
    rw [sumC_cons _ _ _ hx.1, ih (fun y hy => h y (by simp [hy])), if_pos hx.2]
    rfl
theorem sumC_le (xs : List Int) (k : Nat) : sumC xs k ≤ k * xs.length := by
  induction k with
  | zero => simp [sumC]
  | succ k ih =>
    simp only [sumC]
    have := @List.count_le_length _ _ (k : Int) xs
    rw [Nat.succ_mul]; omega

/-- What is known of fleets by turns. -/
structure Turns (want : List Int) (n : Nat) (k : Nat) : Prop where
  k1 : 1 ≤ k
  k4 : k ≤ 4
  len : want.length = n
  n1 : 1 ≤ n
  n16 : n ≤ 16
  mem : ∀ x ∈ want, 0 ≤ x ∧ x < k
  even : ∀ a b : Nat, a < k → b < k → want.count (a : Int) ≤ want.count (b : Int) + 1
theorem turns_of {xs : List Int} {k : Int} (h : orderCodeF xs k = 0) : ∃ kn : Nat, k = kn ∧ Turns (snakeF xs k).1 xs.length kn := by
  have hs : (snakeF xs k).1 = scatterF (snakeSpec k) 0 xs (List.replicate xs.length 0) := by unfold snakeF; rw [if_pos h]
  have hk : 1 ≤ k ∧ k ≤ 4 ∧ orderB xs = true := by
    unfold orderCodeF at h
    split at h
    · rename_i h1
      split at h
      · rename_i h2
        exact ⟨(withinB_iff.1 h1).1, (withinB_iff.1 h1).2, h2⟩
      · cases h
    · cases h
  obtain ⟨h1, h2, h3⟩ := hk
  have hl := orderB_len h3
  obtain ⟨kn, rfl⟩ : ∃ kn : Nat, k = kn := ⟨k.toNat, by omega⟩
  refine ⟨kn, rfl, by omega, by omega, ?_, hl.1, hl.2, ?_, ?_⟩
  · rw [hs, scatterF_length]; simp
  · rw [hs]
    intro x hx
    rcases scatterF_mem _ _ _ _ x hx with h | ⟨j, rfl⟩
    · rw [List.mem_replicate] at h; omega
    · have := snakeSpec_bd kn h1 h2 j; omega
  · intro a b ha hb
    rw [hs, snake_count h3, snake_count h3]
    exact snake_even ⟨xs.length, by omega⟩ ⟨kn, by omega⟩ ⟨a, by omega⟩ ⟨b, by omega⟩ ha hb
theorem turns_sizes {want : List Int} {n k : Nat} (h : Turns want n k) : fleetsCodeF want k = 0 ∧ fleetsB want k = true ∧ (countF want (List.replicate k 0)).length = k ∧ ∀ v, v < k → (countF want (List.replicate k 0))[v]? = some ((want.count (v : Int) : Nat) : Int) := by
  have hf : fleetsB want k = true := by
    unfold fleetsB
    rw [Bool.and_eq_true, withinB_iff, List.all_eq_true]
    refine ⟨by have := h.len; have := h.n1; have := h.n16; omega, fun x hx => withinB_iff.2 ?_⟩
    have := h.mem x hx
    omega
  refine ⟨?_, hf, by rw [countF_len]; simp, fun v hv => ?_⟩
  · unfold fleetsCodeF
    rw [if_pos (withinB_iff.2 (by have := h.k1; have := h.k4; omega)), hf]; rfl
  · rw [countF_get want _ v _ _ (by simpa using hv)]
    · simp [List.getD_eq_getElem?_getD, hv]
    · intro y hy
      rw [List.mem_replicate] at hy
      have := h.len; have := h.n16
      omega
    · intro x hx
      have := h.mem x hx
      simpa using this
end Go.Proofs.Ytoccfbkklponnaa

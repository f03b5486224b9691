/- Plain: the lines of a text. -/
import Derived.Test.YtnpldahkhaacnaaGreatDoorZmd
import Derived.Test.YtnpldahkhaacnaaGreatDoorZme
namespace Go.Proofs.YtnpldahkhaacnaaGreatDoor
set_option linter.unusedVariables false

/-- The lines of a text: what stands between single newlines. -/
def linesL : List UInt8 → List (List UInt8)
  | [] => [[]]
  | c :: r => if c = 10 then [] :: linesL r else match linesL r with
    | [] => [[c]]
    | w :: ws => (c :: w) :: ws
theorem linesL_ne (l : List UInt8) : linesL l ≠ [] := by
  cases l with
  | nil => simp [linesL]
  | cons c r =>
    unfold linesL
    split
    · simp
    · split <;> simp
theorem linesL_newline (r : List UInt8) : linesL (10 :: r) = [] :: linesL r := by simp [linesL]
theorem linesL_char {c : UInt8} (h : c ≠ 10) (r : List UInt8) : linesL (c :: r) = ahead [c] (linesL r) := by
  rw [linesL, if_neg h]
  cases hw : linesL r with
  | nil => exact absurd hw (linesL_ne r)
  | cons w ws => rfl
theorem linesL_none : ∀ {a : List UInt8}, (∀ c ∈ a, c ≠ 10) → linesL a = [a] := by
  intro a
  induction a with
  | nil => intro _; rfl
  | cons c a ih =>
    intro h
    rw [linesL_char (h c List.mem_cons_self), ih (fun d hd => h d (List.mem_cons_of_mem _ hd))]
    rfl
theorem linesL_app : ∀ {a : List UInt8} (b : List UInt8), (∀ c ∈ a, c ≠ 10) → linesL (a ++ 10 :: b) = a :: linesL b := by
  intro a
  induction a with
  | nil => intro b _; exact linesL_newline b
  | cons c a ih =>
    intro b h
    rw [List.cons_append, linesL_char (h c List.mem_cons_self), ih b (fun d hd => h d (List.mem_cons_of_mem _ hd))]
    rfl
theorem linesL_len : ∀ (l : List UInt8), (linesL l).length = l.count 10 + 1 := by
  intro l
  induction l with
  | nil => rfl
  | cons c r ih =>
    by_cases h : c = 10
    · subst h; rw [linesL_newline, List.length_cons, ih]; simp
    · rw [linesL_char h]
      have : (ahead [c] (linesL r)).length = (linesL r).length := by
        cases hw : linesL r with
        | nil => exact absurd hw (linesL_ne r)
        | cons w ws => rfl
      rw [this, ih, List.count_cons_of_ne h]
/-- The first newline parts a text. -/
theorem first_newlineN : ∀ (l : List UInt8), (∀ c ∈ l, c ≠ 10) ∨ ∃ a b, l = a ++ 10 :: b ∧ ∀ c ∈ a, c ≠ 10 := by
  intro l
  induction l with
  | nil => exact .inl (by simp)
  | cons c r ih =>
    by_cases h : c = 10
    · subst h; exact .inr ⟨[], r, rfl, by simp⟩
    · rcases ih with h1 | ⟨a, b, rfl, ha⟩
      · exact .inl (by intro d hd; rcases List.mem_cons.1 hd with rfl | hd; exact h; exact h1 d hd)
      · exact .inr ⟨c :: a, b, rfl, by intro d hd; rcases List.mem_cons.1 hd with rfl | hd; exact h; exact ha d hd⟩
theorem occ_atN {s : List UInt8} {j : Nat} (h : s[j]? ≠ some 10) : Lib.occAt s [10] j = false := by
  unfold Lib.occAt
  cases hd : s.drop j with
  | nil => rfl
  | cons c r =>
    have hc : s[j]? = some c := by
      have : (s.drop j)[0]? = some c := by rw [hd]; rfl
      simpa using this
    have hn : c ≠ 10 := fun e => h (by rw [hc, e])
    simp [List.isPrefixOf, beq_eq_false_iff_ne.2 (Ne.symm hn)]
theorem index_noneN {s : List UInt8} (h : ∀ c ∈ s, c ≠ 10) : Lib.index s [10] = -1 := by
  refine Lib.index_past (i := s.length) (by simp) (fun j _ => occ_atN ?_) (by simp)
  intro e
  exact h 10 (List.mem_of_getElem? e) rfl
theorem index_newlineN {a b : List UInt8} (h : ∀ c ∈ a, c ≠ 10) : Lib.index (a ++ 10 :: b) [10] = a.length := by
  refine Lib.index_first (by simp) ?_ ?_
  · unfold Lib.occAt
    rw [List.drop_left]
    simp [List.isPrefixOf]
  · intro j hj
    refine occ_atN ?_
    rw [List.getElem?_append_left hj]
    intro e
    exact h 10 (List.mem_of_getElem? e) rfl
theorem splitK_wordsN : ∀ (k : Nat) (s : List UInt8), s.count 10 = k → Lib.splitK [10] 0 k s = linesL s := by
  intro k
  induction k with
  | zero =>
    intro s h
    rcases first_newlineN s with h1 | ⟨a, b, rfl, _⟩
    · rw [linesL_none h1]; rfl
    · simp at h
  | succ k ih =>
    intro s h
    rcases first_newlineN s with h1 | ⟨a, b, rfl, ha⟩
    · have : s.count 10 = 0 := List.count_eq_zero.2 (fun hm => h1 10 hm rfl)
      omega
    · have hc : b.count 10 = k := by
        have h0 : a.count 10 = 0 := List.count_eq_zero.2 (fun hm => ha 10 hm rfl)
        rw [List.count_append, h0, List.count_cons_self] at h
        omega
      rw [linesL_app b ha, Lib.splitK, index_newlineN ha, if_neg (by simp)]
      simp only [Int.toNat_natCast, Nat.add_zero, List.take_left, List.length_cons, List.length_nil]
      rw [show (a ++ 10 :: b).drop (a.length + (0 + 1)) = b from by rw [← List.drop_drop, List.drop_left]; rfl, ih b hc]
/-- What the library's Split makes are the words. -/
theorem split_wordsN (s : ByteArray) : (Lib.splitB ⟨#[10]⟩ 0 (Lib.countB s ⟨#[10]⟩) s).map (·.data.toList) = linesL s.data.toList := by
  rw [Lib.splitB_data]
  refine splitK_wordsN _ _ ?_
  unfold Lib.countB
  exact (Lib.count_one 10 _).symm

theorem dgB_ne10 {c : UInt8} (h : dgB c = true) : c ≠ 10 := by
  intro e
  subst e
  revert h
  decide
theorem dec_noline (n : Nat) : ∀ c ∈ dec n, c ≠ 10 := fun c hc => dgB_ne10 (dec_digits n c hc)
theorem last_noline : ∀ (k n : Nat) (s : List UInt8), (∀ c ∈ s, c ≠ 10) → ∀ c ∈ lastGo k n s, c ≠ 10 := by
  intro k
  induction k with
  | zero => intro n s h c hc; exact h c hc
  | succ k ih =>
    intro n s h c hc
    rw [lastGo] at hc
    refine ih (n / 10) (dgt n :: s) (fun d hd => ?_) c hc
    rcases List.mem_cons.1 hd with rfl | hd
    · intro e
      have := dgt_nat n
      rw [e] at this
      have h10 : (10 : UInt8).toNat = 10 := by decide
      omega
    · exact h d hd
theorem time_noline (t : Nat) : ∀ c ∈ timeL t, c ≠ 10 := by
  unfold timeL
  intro c hc
  simp only [List.mem_append, List.mem_singleton] at hc
  rcases hc with (((h | rfl) | h) | rfl) | h
  · exact dec_noline _ c h
  · decide
  · exact last_noline _ _ _ (by simp) c h
  · decide
  · exact last_noline _ _ _ (by simp) c h
theorem code_noline (c : Int) : ∀ x ∈ codeL c, x ≠ 10 := by
  intro x hx
  unfold codeL at hx
  split at hx
  · have h : ∀ k < 10, ∀ x ∈ codesL.getD k [], x ≠ 10 := by decide
    exact h c.toNat (by omega) x hx
  · cases hx
theorem enter_noline (r b c t : Int) : ∀ x ∈ enterS r b c t, x ≠ 10 := by
  unfold enterS
  split
  · unfold finL
    intro x hx
    simp only [List.mem_append, List.mem_singleton] at hx
    rcases hx with ((h | h) | rfl) | (((h | rfl) | h) | h)
    · have : ∀ y ∈ ([101, 110, 116, 101, 114, 32] : List UInt8), y ≠ 10 := by decide
      exact this x h
    · exact dec_noline _ x h
    · decide
    · exact dec_noline _ x h
    · decide
    · exact code_noline _ x h
    · split at h
      · rcases List.mem_append.1 h with h | h
        · rw [List.mem_singleton] at h; subst h; decide
        · exact time_noline _ x h
      · cases h
  · intro x hx; cases hx
def openL : List UInt8 := [111, 112, 101, 110, 32, 49, 54, 32, 48]
theorem open_words : wordsL openL = [[111, 112, 101, 110], [49, 54], [48]] := by decide
/-- The two lines of the law's text. -/
theorem lines_two (r b c t : Int) : linesL (openL ++ 10 :: enterS r b c t) = [openL, enterS r b c t] := by
  rw [linesL_app _ (by decide), linesL_none (enter_noline r b c t)]
theorem trim_two (L : List UInt8) : Lib.trimSuffix (openL ++ 10 :: (L ++ [10])) [10] = openL ++ 10 :: L := by
  have e : openL ++ 10 :: (L ++ [10]) = (openL ++ 10 :: L) ++ [10] := by simp
  rw [e]
  generalize openL ++ 10 :: L = M
  unfold Lib.trimSuffix
  have h : Lib.hasSuffix (M ++ [10]) [10] = true := by unfold Lib.hasSuffix; simp
  rw [if_pos h]
  simp
theorem enter_len {r b c t : Int} : (enterS r b c t).length ≤ 60 := by
  unfold enterS
  split
  · rename_i h
    have h1 := finL_len h.2
    have h2 := dec_len 1 r.toNat (by have := withinB_iff.1 h.1; omega)
    simp only [List.length_append, List.length_cons, List.length_nil]
    omega
  · simp
end Go.Proofs.YtnpldahkhaacnaaGreatDoor

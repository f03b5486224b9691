/- Plain: words of a text; decimal words read back. No Go function in sight. -/
import Derived.Test.YthlnoahjfllhfaaGreatDoorQa
import Derived.Lib.Split
import Derived.Lib.SplitLaws
import Derived.Lib.IndexLaws
import Derived.Lib.ParseIntBTie
import Derived.Lib.ParseIntBCases
namespace Go.Proofs.YthlnoahjfllhfaaGreatDoor
set_option linter.unusedVariables false

/-! ### Words -/
/-- The words of a text: what stands between single blanks. -/
def wordsL : List UInt8 → List (List UInt8)
  | [] => [[]]
  | c :: r => if c = 32 then [] :: wordsL r else match wordsL r with
    | [] => [[c]]
    | w :: ws => (c :: w) :: ws
theorem wordsL_ne (l : List UInt8) : wordsL l ≠ [] := by
  cases l with
  | nil => simp [wordsL]
  | cons c r =>
    unfold wordsL
    split
    · simp
    · split <;> simp
/-- A piece ahead of the first word. -/
def ahead (p : List UInt8) : List (List UInt8) → List (List UInt8)
  | [] => [p]
  | w :: ws => (p ++ w) :: ws
theorem wordsL_blank (r : List UInt8) : wordsL (32 :: r) = [] :: wordsL r := by simp [wordsL]
theorem wordsL_char {c : UInt8} (h : c ≠ 32) (r : List UInt8) : wordsL (c :: r) = ahead [c] (wordsL r) := by
  rw [wordsL, if_neg h]
  cases hw : wordsL r with
  | nil => exact absurd hw (wordsL_ne r)
  | cons w ws => rfl
theorem ahead_ahead (a b : List UInt8) {ws : List (List UInt8)} (h : ws ≠ []) : ahead a (ahead b ws) = ahead (a ++ b) ws := by
  cases ws with
  | nil => exact absurd rfl h
  | cons w ws => simp [ahead]
theorem ahead_ne (a : List UInt8) (ws : List (List UInt8)) : ahead a ws ≠ [] := by cases ws <;> simp [ahead]
theorem ahead_nil {ws : List (List UInt8)} (h : ws ≠ []) : ahead [] ws = ws := by
  cases ws with
  | nil => exact absurd rfl h
  | cons w ws => rfl
theorem wordsL_none : ∀ {a : List UInt8}, (∀ c ∈ a, c ≠ 32) → wordsL a = [a] := by
  intro a
  induction a with
  | nil => intro _; rfl
  | cons c a ih =>
    intro h
    rw [wordsL_char (h c List.mem_cons_self), ih (fun d hd => h d (List.mem_cons_of_mem _ hd))]
    rfl
theorem wordsL_app : ∀ {a : List UInt8} (b : List UInt8), (∀ c ∈ a, c ≠ 32) → wordsL (a ++ 32 :: b) = a :: wordsL b := by
  intro a
  induction a with
  | nil => intro b _; exact wordsL_blank b
  | cons c a ih =>
    intro b h
    rw [List.cons_append, wordsL_char (h c List.mem_cons_self), ih b (fun d hd => h d (List.mem_cons_of_mem _ hd))]
    rfl
theorem wordsL_len : ∀ (l : List UInt8), (wordsL l).length = l.count 32 + 1 := by
  intro l
  induction l with
  | nil => rfl
  | cons c r ih =>
    by_cases h : c = 32
    · subst h; rw [wordsL_blank, List.length_cons, ih]; simp
    · rw [wordsL_char h]
      have : (ahead [c] (wordsL r)).length = (wordsL r).length := by
        cases hw : wordsL r with
        | nil => exact absurd hw (wordsL_ne r)
        | cons w ws => rfl
      rw [this, ih, List.count_cons_of_ne h]
/-- The first blank parts a text. -/
theorem first_blank : ∀ (l : List UInt8), (∀ c ∈ l, c ≠ 32) ∨ ∃ a b, l = a ++ 32 :: b ∧ ∀ c ∈ a, c ≠ 32 := by
  intro l
  induction l with
  | nil => exact .inl (by simp)
  | cons c r ih =>
    by_cases h : c = 32
    · subst h; exact .inr ⟨[], r, rfl, by simp⟩
    · rcases ih with h1 | ⟨a, b, rfl, ha⟩
      · exact .inl (by intro d hd; rcases List.mem_cons.1 hd with rfl | hd; exact h; exact h1 d hd)
      · exact .inr ⟨c :: a, b, rfl, by intro d hd; rcases List.mem_cons.1 hd with rfl | hd; exact h; exact ha d hd⟩
theorem occ_at {s : List UInt8} {j : Nat} (h : s[j]? ≠ some 32) : Lib.occAt s [32] j = false := by
  unfold Lib.occAt
  cases hd : s.drop j with
  | nil => rfl
  | cons c r =>
    have hc : s[j]? = some c := by
      have : (s.drop j)[0]? = some c := by rw [hd]; rfl
      simpa using this
    have hn : c ≠ 32 := fun e => h (by rw [hc, e])
    simp [List.isPrefixOf, beq_eq_false_iff_ne.2 (Ne.symm hn)]
theorem index_none {s : List UInt8} (h : ∀ c ∈ s, c ≠ 32) : Lib.index s [32] = -1 := by
  refine Lib.index_past (i := s.length) (by simp) (fun j _ => occ_at ?_) (by simp)
  intro e
  exact h 32 (List.mem_of_getElem? e) rfl
theorem index_blank {a b : List UInt8} (h : ∀ c ∈ a, c ≠ 32) : Lib.index (a ++ 32 :: b) [32] = a.length := by
  refine Lib.index_first (by simp) ?_ ?_
  · unfold Lib.occAt
    rw [List.drop_left]
    simp [List.isPrefixOf]
  · intro j hj
    refine occ_at ?_
    rw [List.getElem?_append_left hj]
    intro e
    exact h 32 (List.mem_of_getElem? e) rfl
theorem splitK_words : ∀ (k : Nat) (s : List UInt8), s.count 32 = k → Lib.splitK [32] 0 k s = wordsL s := by
  intro k
  induction k with
  | zero =>
    intro s h
    rcases first_blank s with h1 | ⟨a, b, rfl, _⟩
    · rw [wordsL_none h1]; rfl
    · simp at h
  | succ k ih =>
    intro s h
    rcases first_blank s with h1 | ⟨a, b, rfl, ha⟩
    · have : s.count 32 = 0 := List.count_eq_zero.2 (fun hm => h1 32 hm rfl)
      omega
    · have hc : b.count 32 = k := by
        have h0 : a.count 32 = 0 := List.count_eq_zero.2 (fun hm => ha 32 hm rfl)
        rw [List.count_append, h0, List.count_cons_self] at h
        omega
      rw [wordsL_app b ha, Lib.splitK, index_blank ha, if_neg (by simp)]
      simp only [Int.toNat_natCast, Nat.add_zero, List.take_left, List.length_cons, List.length_nil]
      rw [show (a ++ 32 :: b).drop (a.length + (0 + 1)) = b from by rw [← List.drop_drop, List.drop_left]; rfl, ih b hc]
/-- What the library's Split makes are the words. -/
theorem split_words (s : ByteArray) : (Lib.splitB ⟨#[32]⟩ 0 (Lib.countB s ⟨#[32]⟩) s).map (·.data.toList) = wordsL s.data.toList := by
  rw [Lib.splitB_data]
  refine splitK_words _ _ ?_
  unfold Lib.countB
  exact (Lib.count_one 32 _).symm
/-! ### Decimal words -/
def dgB (c : UInt8) : Bool := decide (48 ≤ c.toNat) && decide (c.toNat ≤ 57)
theorem dgt_nat (n : Nat) : (dgt n).toNat = 48 + n % 10 := by
  unfold dgt
  rw [UInt8.toNat_ofNat']
  omega
theorem dec_digits : ∀ (n : Nat), ∀ c ∈ dec n, dgB c = true := by
  intro n
  induction n using Nat.strongRecOn with
  | _ n ih =>
    intro c hc
    by_cases h : n < 10
    · rw [dec_small h] at hc
      obtain rfl := List.mem_singleton.1 hc
      unfold dgB
      rw [dgt_nat]
      simp; omega
    · rw [dec_big h] at hc
      rcases List.mem_append.1 hc with hc | hc
      · exact ih (n / 10) (by omega) c hc
      · obtain rfl := List.mem_singleton.1 hc
        unfold dgB
        rw [dgt_nat]
        simp; omega
theorem dec_noblank (n : Nat) : ∀ c ∈ dec n, c ≠ 32 := by
  intro c hc e
  have := dec_digits n c hc
  subst e
  exact absurd this (by decide)
theorem dec_ne (n : Nat) : dec n ≠ [] := by
  by_cases h : n < 10
  · rw [dec_small h]; simp
  · rw [dec_big h]; simp
/-- What digits spell. -/
def stepV (n : Nat) (c : UInt8) : Nat := 10 * n + (c.toNat - 48)
def valL (n : Nat) (l : List UInt8) : Nat := l.foldl stepV n
theorem valL_cons (n : Nat) (c : UInt8) (r : List UInt8) : valL n (c :: r) = valL (stepV n c) r := by unfold valL; rw [List.foldl_cons]
theorem valL_nil (n : Nat) : valL n [] = n := by unfold valL; rw [List.foldl_nil]
theorem valL_app (a b : List UInt8) (n : Nat) : valL n (a ++ b) = valL (valL n a) b := by unfold valL; rw [List.foldl_append]
theorem stepV_dgt (n m : Nat) : stepV n (dgt m) = 10 * n + m % 10 := by
  unfold stepV
  rw [dgt_nat]
  omega
theorem stepV_le (n : Nat) (c : UInt8) : 10 * n ≤ stepV n c := by unfold stepV; omega
theorem valL_dec : ∀ (n : Nat), valL 0 (dec n) = n := by
  intro n
  induction n using Nat.strongRecOn with
  | _ n ih =>
    by_cases h : n < 10
    · rw [dec_small h, valL_cons, valL_nil, stepV_dgt]
      omega
    · rw [dec_big h, valL_app, ih (n / 10) (by omega), valL_cons, valL_nil, stepV_dgt]
      omega
theorem valL_le : ∀ (l : List UInt8) (n : Nat), n ≤ valL n l := by
  intro l
  induction l with
  | nil => intro n; rw [valL_nil]; exact Nat.le_refl _
  | cons d l ih => intro n; rw [valL_cons]; have := ih (stepV n d); have := stepV_le n d; omega
theorem stepV_lt {n : Nat} {c : UInt8} (h : dgB c = true) : stepV n c ≤ 10 * n + 9 := by
  unfold dgB at h
  simp only [Bool.and_eq_true, decide_eq_true_eq] at h
  unfold stepV
  omega
theorem valL_lt : ∀ (l : List UInt8) (n : Nat), (∀ c ∈ l, dgB c = true) → valL n l < (n + 1) * 10 ^ l.length := by
  intro l
  induction l with
  | nil => intro n _; rw [valL_nil]; simp
  | cons c r ih =>
    intro n h
    have hs := stepV_lt (n := n) (h c List.mem_cons_self)
    have h1 := ih (stepV n c) (fun d hd => h d (List.mem_cons_of_mem _ hd))
    rw [valL_cons, List.length_cons, Nat.pow_succ]
    have h2 : (stepV n c + 1) * 10 ^ r.length ≤ (10 * n + 10) * 10 ^ r.length := Nat.mul_le_mul_right _ (by omega)
    have h3 : (10 * n + 10) * 10 ^ r.length = (n + 1) * (10 ^ r.length * 10) := by
      rw [show 10 * n + 10 = (n + 1) * 10 from by omega, Nat.mul_assoc, Nat.mul_comm 10]
    omega
/-- A number that a word of at most twelve digits spells, in its own way; else -1 (the reference's reading). -/
def rdF (w : List UInt8) : Int := if w = [] ∨ 12 < w.length then -1 else if w.all dgB = true then (if dec (valL 0 w) = w then (valL 0 w : Int) else -1) else -1
theorem rdF_dec {n : Nat} (h : n < 10 ^ 12) : rdF (dec n) = n := by
  unfold rdF
  have h1 := dec_len 11 n (by simpa using h)
  rw [if_neg (by rintro (e | e); exact dec_ne n e; omega), if_pos (List.all_eq_true.2 (dec_digits n)), valL_dec, if_pos rfl]
/-- A number that a word spells as the library writes it (the program's reading). -/
def numF (w : List UInt8) : Int × Bool := match Lib.parseIntB 64 w with
  | .ok v => if w.length ≤ 19 ∧ Lib.itoa v = w then (v, true) else (0, false)
  | _ => (0, false)
theorem parse_digits : ∀ (l : List UInt8) (acc : Nat), (∀ c ∈ l, dgB c = true) → valL acc l < 1844674407370955162 → Lib.parseUintM 18446744073709551615 acc l = .ok (valL acc l) := by
  intro l
  induction l with
  | nil => intro acc _ _; rw [valL_nil]; rfl
  | cons c r ih =>
    intro acc h hv
    have hc := h c List.mem_cons_self
    unfold dgB at hc
    simp only [Bool.and_eq_true, decide_eq_true_eq] at hc
    have h1 := valL_le r (stepV acc c)
    have h2 := stepV_le acc c
    have e : acc * 10 + (c.toNat - 48) = stepV acc c := by unfold stepV; omega
    rw [valL_cons] at hv ⊢
    rw [Lib.parseUintM, if_pos hc, e, if_neg (by omega), if_neg (by omega)]
    exact ih _ (fun d hd => h d (List.mem_cons_of_mem _ hd)) hv
theorem numF_dec {n : Nat} (h : n < 10 ^ 15) : numF (dec n) = ((n : Int), true) := by
  have hd := dec_digits n
  have hp : Lib.parseIntB 64 (dec n) = .ok (n : Int) := by
    have hv := valL_dec n
    have hm := parse_digits (dec n) 0 hd (by rw [hv]; omega)
    rw [hv] at hm
    cases hl : dec n with
    | nil => exact absurd hl (dec_ne n)
    | cons c r =>
      rw [hl] at hm hd
      have hc := hd c List.mem_cons_self
      unfold dgB at hc
      simp only [Bool.and_eq_true, decide_eq_true_eq] at hc
      rw [Lib.parseIntB_plain 64 c r (by omega) (by omega)]
      have hB : Lib.parseUintB 64 (c :: r) = .ok n := by
        unfold Lib.parseUintB
        rw [if_neg (by simp)]
        exact hm
      rw [hB]
      unfold Lib.signlessC
      first | (simp only []; rw [if_neg (by omega)]) | (simp; omega)
  unfold numF
  rw [hp]
  have hl := dec_len 14 n (by simpa using h)
  simp only
  rw [Lib.itoa_nonneg, if_pos ⟨by omega, rfl⟩]
end Go.Proofs.YthlnoahjfllhfaaGreatDoor

/- Plain: the words of a line enter; the parts of a time. -/
import Derived.Test.YthlnoahjfllhfaaGreatDoorQt
import Derived.Lib.IndexMore
import Derived.Lib.AtoiAll
namespace Go.Proofs.YthlnoahjfllhfaaGreatDoor
open Go.RowKit Go.Sort
set_option linter.unusedVariables false
set_option maxRecDepth 100000

theorem lastGo_digits : ∀ (k n : Nat) (s : List UInt8), (∀ c ∈ s, dgB c = true) → ∀ c ∈ lastGo k n s, dgB c = true := by
  intro k
  induction k with
  | zero => intro n s h; exact h
  | succ k ih =>
    intro n s h
    refine ih (n / 10) (dgt n :: s) ?_
    intro c hc
    rcases List.mem_cons.1 hc with rfl | hc
    · unfold dgB
      rw [dgt_nat]
      simp; omega
    · exact h c hc
theorem lastGo_val : ∀ (k n : Nat) (s : List UInt8), valL 0 (lastGo k n s) = valL (n % 10 ^ k) s := by
  intro k
  induction k with
  | zero => intro n s; rw [Nat.pow_zero, Nat.mod_one]; rfl
  | succ k ih =>
    intro n s
    show valL 0 (lastGo k (n / 10) (dgt n :: s)) = _
    rw [ih, valL_cons]
    congr 1
    unfold stepV
    rw [dgt_nat]
    have h1 : n % 10 ^ (k + 1) = 10 * (n / 10 % 10 ^ k) + n % 10 := by
      rw [Nat.pow_succ, Nat.mul_comm, Nat.mod_mul]
      omega
    rw [h1]
    omega
theorem dg_ne {c d : UInt8} (h : dgB c = true) (hd : dgB d = false) : c ≠ d := by
  rintro rfl
  rw [h] at hd
  cases hd
theorem time_noblank (t : Nat) : ∀ c ∈ timeL t, c ≠ 32 := by
  intro c hc
  unfold timeL at hc
  simp only [List.mem_append, List.mem_singleton] at hc
  rcases hc with (((h | h) | h) | h) | h
  · exact dec_noblank _ c h
  · rw [h]; decide
  · exact dg_ne (lastGo_digits 2 _ [] (by simp) c h) (by decide)
  · rw [h]; decide
  · exact dg_ne (lastGo_digits 3 _ [] (by simp) c h) (by decide)
theorem code_noblank (c : Int) : ∀ x ∈ codeL c, x ≠ 32 := by
  unfold codeL
  split
  · have h : ∀ k < 10, ∀ x ∈ codesL.getD k [], x ≠ 32 := by decide
    exact h c.toNat (by omega)
  · simp
def enterWord : List UInt8 := [101, 110, 116, 101, 114]
def enterX (r b c t : Int) : List (List UInt8) := [enterWord, dec r.toNat, dec b.toNat, codeL c] ++ (if c = 0 then [timeL t.toNat] else [])
theorem words_enter {r b c t : Int} (h : withinB r 0 11 = true ∧ finB b c t = true) : wordsL (enterS r b c t) = enterX r b c t := by
  unfold enterS
  rw [if_pos h]
  unfold finL enterX
  have e : [101, 110, 116, 101, 114, 32] ++ dec r.toNat ++ [32] ++ (dec b.toNat ++ [32] ++ codeL c ++ (if c = 0 then [32] ++ timeL t.toNat else [])) = enterWord ++ 32 :: (dec r.toNat ++ 32 :: (dec b.toNat ++ 32 :: (codeL c ++ (if c = 0 then [32] ++ timeL t.toNat else [])))) := by simp [enterWord]
  rw [e, wordsL_app _ (by decide), wordsL_app _ (dec_noblank _), wordsL_app _ (dec_noblank _)]
  split
  · show _ :: _ :: _ :: wordsL (codeL c ++ 32 :: timeL t.toNat) = _
    rw [wordsL_app _ (code_noblank c), wordsL_none (time_noblank _)]
    rfl
  · rw [List.append_nil, wordsL_none (code_noblank c)]
    rfl
/-! ### The parts of a time -/
theorem timeL_split (t : Nat) : timeL t = dec (t / 60000) ++ 58 :: (lastGo 2 (t / 1000 % 60) [] ++ 46 :: lastGo 3 t []) := by unfold timeL; simp
theorem decq_len {t : Nat} (h : t ≤ 1000000000) : 1 ≤ (dec (t / 60000)).length ∧ (dec (t / 60000)).length ≤ 5 := by
  refine ⟨?_, dec_len 4 _ (by omega)⟩
  have := dec_ne (t / 60000)
  cases hd : dec (t / 60000) with
  | nil => exact absurd hd this
  | cons c r => simp
theorem timeL_size (t : Nat) : (timeL t).length = (dec (t / 60000)).length + 7 := by
  rw [timeL_split]
  simp [lastGo_len]
theorem take_app {α : Type} {a b : List α} {n : Nat} (h : n = a.length) : (a ++ b).take n = a := by subst h; exact List.take_left
theorem drop_app {α : Type} {a b : List α} {n : Nat} (h : n = a.length) : (a ++ b).drop n = b := by subst h; exact List.drop_left
theorem time_front (t : Nat) : (timeL t).take ((timeL t).length - 7) = dec (t / 60000) := by
  rw [timeL_size, timeL_split]
  exact take_app (by omega)
theorem time_mid (t : Nat) : ((timeL t).drop ((timeL t).length - 6)).take 2 = lastGo 2 (t / 1000 % 60) [] := by
  rw [timeL_size, timeL_split]
  have e : dec (t / 60000) ++ 58 :: (lastGo 2 (t / 1000 % 60) [] ++ 46 :: lastGo 3 t []) = (dec (t / 60000) ++ [58]) ++ (lastGo 2 (t / 1000 % 60) [] ++ 46 :: lastGo 3 t []) := by simp
  rw [e, drop_app (by simp), take_app (by rw [lastGo_len]; rfl)]
theorem time_back (t : Nat) : (timeL t).drop ((timeL t).length - 3) = lastGo 3 t [] := by
  rw [timeL_size]
  unfold timeL
  exact drop_app (by simp [lastGo_len])
theorem time_five (t : Nat) : valL 0 (lastGo 2 (t / 1000 % 60) [] ++ lastGo 3 t []) = t % 60000 := by
  rw [valL_app, lastGo_val, valL_nil]
  have h : ∀ n, valL n (lastGo 3 t []) = 1000 * n + valL 0 (lastGo 3 t []) := by
    intro n
    show valL n [dgt (t / 10 / 10), dgt (t / 10), dgt t] = 1000 * n + valL 0 [dgt (t / 10 / 10), dgt (t / 10), dgt t]
    simp only [valL_cons, valL_nil, stepV]
    omega
  rw [h, lastGo_val, valL_nil]
  omega
/-- What is said of a time that was read. -/
def RTP (L : List UInt8) (t : Int) (ok : Bool) : Prop := (∀ t0 : Nat, t0 ≤ 1000000000 → L = timeL t0 → t = t0 ∧ ok = true) ∧ (ok = true → 0 ≤ t ∧ t ≤ 1000000000 ∧ L = timeL t.toNat)
theorem rtp_none {L : List UInt8} {t : Int} (h : ∀ t0 : Nat, t0 ≤ 1000000000 → L = timeL t0 → False) : RTP L t false := ⟨fun t0 h0 e => (h t0 h0 e).elim, fun h => by cases h⟩
theorem rtp_short {L : List UInt8} (h : L.length < 8 ∨ 12 < L.length) (t : Int) : RTP L t false := by
  refine rtp_none (fun t0 h0 e => ?_)
  have h1 := decq_len h0
  have h2 := timeL_size t0
  rw [← e] at h2
  omega
theorem rtp_digit {L D : List UInt8} (hD : D = (L.drop (L.length - 6)).take 2 ++ L.drop (L.length - 3)) (h : ¬ ∀ c ∈ D, dgB c = true) (t : Int) : RTP L t false := by
  refine rtp_none (fun t0 h0 e => ?_)
  apply h
  rw [hD, e, time_mid, time_back]
  intro c hc
  rcases List.mem_append.1 hc with hc | hc
  · exact lastGo_digits 2 _ [] (by simp) c hc
  · exact lastGo_digits 3 _ [] (by simp) c hc
theorem rtp_value {L : List UInt8} {t0 : Nat} (h0 : t0 ≤ 1000000000) (e : L = timeL t0) : valF (L.take (L.length - 7)) = (((t0 / 60000 : Nat) : Int), true) ∧ valL 0 ((L.drop (L.length - 6)).take 2 ++ L.drop (L.length - 3)) = t0 % 60000 := by
  rw [e, time_front, time_mid, time_back, time_five]
  exact ⟨valF_dec (by omega), rfl⟩
/-! ### The program's cut -/
theorem index_at : ∀ {a : List UInt8} (b : List UInt8), (∀ c ∈ a, c ≠ 58) → Lib.index (a ++ 58 :: b) [58] = a.length := by
  intro a
  induction a with
  | nil => intro b _; rfl
  | cons c a ih =>
    intro b h
    have hc := h c List.mem_cons_self
    show (if [58].isPrefixOf (c :: (a ++ 58 :: b)) then (0 : Int) else if Lib.index (a ++ 58 :: b) [58] == -1 then -1 else Lib.index (a ++ 58 :: b) [58] + 1) = _
    rw [ih b (fun d hd => h d (List.mem_cons_of_mem _ hd))]
    have h1 : [58].isPrefixOf (c :: (a ++ 58 :: b)) = false := by
      show ((58 : UInt8) == c && true) = false
      rw [Bool.and_true, beq_eq_false_iff_ne]
      exact fun e => hc e.symm
    have h2 : ((a.length : Int) == -1) = false := by rw [beq_eq_false_iff_ne]; omega
    rw [h1, h2]
    simp
theorem cut_time (t : Nat) : Lib.cut (timeL t) [58] = (dec (t / 60000), lastGo 2 (t / 1000 % 60) [] ++ 46 :: lastGo 3 t [], true) := by
  have hi : Lib.index (timeL t) [58] = ((dec (t / 60000)).length : Int) := by
    rw [timeL_split]
    exact index_at _ (fun c hc => dg_ne (dec_digits _ c hc) (by decide))
  unfold Lib.cut
  rw [hi, if_pos (by omega), timeL_split]
  have e : dec (t / 60000) ++ 58 :: (lastGo 2 (t / 1000 % 60) [] ++ 46 :: lastGo 3 t []) = (dec (t / 60000) ++ [58]) ++ (lastGo 2 (t / 1000 % 60) [] ++ 46 :: lastGo 3 t []) := by simp
  rw [take_app (by simp), e, drop_app (by simp)]
theorem atoi_two : ∀ k < 60, Lib.atoiAll (lastGo 2 k []) = .ok (k : Int) := by decide
theorem atoi_three (t : Nat) : Lib.atoiAll (lastGo 3 t []) = .ok ((t % 1000 : Nat) : Int) := by
  rw [lastGo_mod]
  have h : ∀ k < 1000, Lib.atoiAll (lastGo 3 k []) = .ok (k : Int) := by decide +kernel
  exact h _ (by omega)
end Go.Proofs.YthlnoahjfllhfaaGreatDoor

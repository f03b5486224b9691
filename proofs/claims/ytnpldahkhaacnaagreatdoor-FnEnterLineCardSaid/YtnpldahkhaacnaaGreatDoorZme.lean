/- General and plain lemmas, and light walks (merged): Qva Qy. -/
import Derived.Test.YtnpldahkhaacnaaGreatDoorQu
import Derived.Test.YtnpldahkhaacnaaGreatDoorQx
/- Plain: both readings of a short number are one. -/
namespace Go.Proofs.YtnpldahkhaacnaaGreatDoor
open Go.RowKit Go.Sort
set_option linter.unusedVariables false
set_option maxRecDepth 100000

theorem itoa_parts (v : Int) : (∃ n : Nat, v = (n : Int) ∧ Lib.itoa v = dec n) ∨ (∃ n : Nat, 1 ≤ n ∧ v = -(n : Int) ∧ Lib.itoa v = 45 :: dec n) := by
  by_cases h : 0 ≤ v
  · obtain ⟨n, rfl⟩ := int_up v h
    exact .inl ⟨n, rfl, Lib.itoa_nonneg n⟩
  · obtain ⟨n, rfl⟩ : ∃ n : Nat, v = -(n : Int) := ⟨v.natAbs, by omega⟩
    exact .inr ⟨n, by omega, rfl, Lib.itoa_neg n (by omega)⟩
theorem dec_head (n : Nat) : ∃ c r, dec n = c :: r ∧ dgB c = true := by
  cases h : dec n with
  | nil => exact absurd h (dec_ne n)
  | cons c r => exact ⟨c, r, rfl, dec_digits n c (by rw [h]; exact List.mem_cons_self)⟩
theorem dgB_45 : dgB 45 = false := by decide
theorem dec_lt {n : Nat} (h : (dec n).length ≤ 15) : n < 10 ^ 15 := by
  have h1 := valL_lt (dec n) 0 (dec_digits n)
  rw [valL_dec] at h1
  have h2 : 10 ^ (dec n).length ≤ 10 ^ 15 := Nat.pow_le_pow_right (by decide) h
  omega
theorem numF_itoa {v : Int} (h : v.natAbs < 10 ^ 15) : numF (Lib.itoa v) = (v, true) := by
  rcases itoa_parts v with ⟨n, rfl, e⟩ | ⟨n, hn, rfl, e⟩
  · rw [e]
    exact numF_dec (by omega)
  · have hd := dec_digits n
    have hv := valL_dec n
    have hm := parse_digits (dec n) 0 hd (by rw [hv]; omega)
    rw [hv] at hm
    have hB : Lib.parseUintB 64 (dec n) = .ok n := by
      unfold Lib.parseUintB
      rw [if_neg (dec_ne n)]
      exact hm
    have hp : Lib.parseIntB 64 (45 :: dec n) = .ok (-(n : Int)) := by
      rw [Lib.parseIntB_minus, hB]
      unfold Lib.signedC
      first | (simp only []; rw [if_neg (by omega)]) | (simp; omega)
    have hl := dec_len 14 n (by omega)
    unfold numF
    rw [e, hp]
    simp only
    rw [if_pos ⟨by simp; omega, e⟩]
theorem valF_itoa {v : Int} (h : v.natAbs < 10 ^ 15) : valF (Lib.itoa v) = (v, true) := by
  rcases itoa_parts v with ⟨n, rfl, e⟩ | ⟨n, hn, rfl, e⟩
  · rw [e]
    exact valF_dec (by omega)
  · have hl := dec_len 14 n (by omega)
    have h1 : ¬ ((dec n).length < 1 ∨ 15 < (dec n).length) := by
      obtain ⟨c, r, hc, -⟩ := dec_head n
      rw [hc] at hl ⊢
      simp at hl ⊢
      omega
    rw [e]
    rw [show valF (45 :: dec n) = valG true (dec n) (45 :: dec n) from by
      show (if (45 : UInt8) = 45 then valG true (dec n) (45 :: dec n) else valG false (45 :: dec n) (45 :: dec n)) = _
      rw [if_pos rfl], valG_yes (neg := true) h1 (List.all_eq_true.2 (dec_digits n)) (by rw [if_pos rfl, valL_dec]; exact e), if_pos rfl, valL_dec]
theorem valG_out {neg : Bool} {D w : List UInt8} {v : Int} (h : valG neg D w = (v, true)) : Lib.itoa v = w ∧ v.natAbs < 10 ^ 15 := by
  by_cases h1 : D.length < 1 ∨ 15 < D.length
  · rw [valG_short h1] at h; cases h
  by_cases h2 : D.all dgB = true
  rotate_left
  · rw [valG_other h2] at h; cases h
  have h5 := valL_lt D 0 (List.all_eq_true.1 h2)
  have h6 : 10 ^ D.length ≤ 10 ^ 15 := Nat.pow_le_pow_right (by decide) (by omega)
  by_cases h3 : Lib.itoa (if neg = true then -(valL 0 D : Int) else (valL 0 D : Int)) = w
  · rw [valG_yes h1 h2 h3] at h
    injection h with h4 _
    rw [← h4]
    refine ⟨h3, ?_⟩
    cases neg <;> simp <;> omega
  · rw [valG_no h1 h2 h3] at h; cases h
theorem valF_out {w : List UInt8} {v : Int} (h : valF w = (v, true)) : Lib.itoa v = w ∧ v.natAbs < 10 ^ 15 := by
  unfold valF at h
  split at h
  · cases h
  · split at h
    · exact valG_out h
    · exact valG_out h
theorem numF_out {w : List UInt8} {v : Int} (h : numF w = (v, true)) : Lib.itoa v = w := by
  unfold numF at h
  split at h
  · split at h
    · rename_i h2
      injection h with h3 _
      rw [← h3]
      exact h2.2
    · cases h
  · cases h
theorem shortF_itoa {v : Int} (h : v.natAbs < 10 ^ 15) : shortF (Lib.itoa v) = (v, true) := by
  unfold shortF
  rw [numF_itoa h]
  have : (Lib.trimPrefix (Lib.itoa v) [45]).length ≤ 15 := by
    rcases itoa_parts v with ⟨n, rfl, e⟩ | ⟨n, hn, rfl, e⟩
    · have hl := dec_len 14 n (by omega)
      rw [e]
      have ht : (Lib.trimPrefix (dec n) [45]).length ≤ (dec n).length := by
        unfold Lib.trimPrefix
        split
        · rw [List.length_drop]; omega
        · exact Nat.le_refl _
      omega
    · have hl := dec_len 14 n (by omega)
      rw [e]
      have ht : Lib.trimPrefix (45 :: dec n) [45] = dec n := by
        unfold Lib.trimPrefix
        rw [if_pos (by rfl)]
        rfl
      rw [ht]
      exact hl
  show (v, (true && decide _)) = _
  rw [decide_eq_true this]
  rfl
theorem shortF_out {w : List UInt8} {v : Int} (h : shortF w = (v, true)) : Lib.itoa v = w ∧ v.natAbs < 10 ^ 15 := by
  unfold shortF at h
  injection h with h1 h2
  rw [Bool.and_eq_true, decide_eq_true_eq] at h2
  have h3 := numF_out (w := w) (v := v) (by rw [← h1, ← h2.1])
  refine ⟨h3, ?_⟩
  have h4 := h2.2
  rcases itoa_parts v with ⟨n, rfl, e⟩ | ⟨n, hn, rfl, e⟩
  · rw [← h3, e] at h4
    have ht : Lib.trimPrefix (dec n) [45] = dec n := by
      obtain ⟨c, r, hc, hd⟩ := dec_head n
      unfold Lib.trimPrefix
      rw [hc, if_neg]
      intro hp
      have : (45 : UInt8) = c := by
        have h9 : ((45 : UInt8) == c && true) = true := hp
        simpa using h9
      rw [← this, dgB_45] at hd
      cases hd
    rw [ht] at h4
    have := dec_lt h4
    omega
  · rw [← h3, e] at h4
    have ht : Lib.trimPrefix (45 :: dec n) [45] = dec n := by
      unfold Lib.trimPrefix
      rw [if_pos (by rfl)]
      rfl
    rw [ht] at h4
    have := dec_lt h4
    omega
theorem val_short {w : List UInt8} {v : Int} : valF w = (v, true) ↔ shortF w = (v, true) := by
  constructor
  · intro h
    obtain ⟨h1, h2⟩ := valF_out h
    rw [← h1]
    exact shortF_itoa h2
  · intro h
    obtain ⟨h1, h2⟩ := shortF_out h
    rw [← h1]
    exact valF_itoa h2
theorem val_short_ok (w : List UInt8) : (valF w).2 = (shortF w).2 := by
  cases h : (valF w).2 with
  | true =>
    have : valF w = ((valF w).1, true) := by rw [← h]
    rw [val_short.1 this]
  | false =>
    cases h2 : (shortF w).2 with
    | false => rfl
    | true =>
      have : shortF w = ((shortF w).1, true) := by rw [← h2]
      rw [val_short.2 this] at h
      cases h
theorem allVal_short (ws : List (List UInt8)) : allVal ws = allShort ws := by
  unfold allVal allShort
  congr 1
  funext w
  exact val_short_ok w
theorem vals_short {ws : List (List UInt8)} (h : allShort ws = true) : (ws.map fun w => (valF w).1) = ws.map fun w => (shortF w).1 := by
  refine List.map_congr_left (fun w hw => ?_)
  unfold allShort at h
  have h1 := List.all_eq_true.1 h w hw
  have : shortF w = ((shortF w).1, true) := by
    show ((shortF w).1, (shortF w).2) = _
    rw [h1]
  rw [val_short.2 this]
end Go.Proofs.YtnpldahkhaacnaaGreatDoor

/- Plain: what is said of an entry that was read; parts of a row of words. -/
namespace Go.Proofs.YtnpldahkhaacnaaGreatDoor
open Go.RowKit Go.Sort
set_option linter.unusedVariables false
set_option maxRecDepth 100000

theorem Rd.takeS {w : World} {b o n : Nat} {ws : List (List UInt8)} (h : Rd w 1 (some ⟨b, o, none⟩) n (strs ws)) (k : Nat) (hk : k ≤ n) : Rd w 1 (some ⟨b, o, none⟩) k (strs (ws.take k)) := by
  have hl := h.len_str
  have hle := h.le
  refine ⟨by rw [strs_len, List.length_take]; omega, by omega, fun hn => ⟨b, o, rfl, fun i u hu => ?_⟩⟩
  obtain ⟨b', o', e, hc⟩ := h.pos (by omega)
  injection e with e
  injection e with e1 e2
  subst e1 e2
  refine hc i u ?_
  unfold strs at hu ⊢
  rw [List.getElem?_map, List.getElem?_take] at hu
  rw [List.getElem?_map]
  split at hu
  · exact hu
  · cases hu
theorem Rd.dropS {w : World} {b o n : Nat} {ws : List (List UInt8)} (h : Rd w 1 (some ⟨b, o, none⟩) n (strs ws)) (k : Nat) (hk : k ≤ n) : Rd w 1 (some ⟨b, o + k, none⟩) (n - k) (strs (ws.drop k)) := by
  have hl := h.len_str
  have hle := h.le
  refine ⟨by rw [strs_len, List.length_drop]; omega, by omega, fun hn => ⟨b, o + k, rfl, fun i u hu => ?_⟩⟩
  obtain ⟨b', o', e, hc⟩ := h.pos (by omega)
  injection e with e
  injection e with e1 e2
  subst e1 e2
  unfold strs at hu hc
  rw [List.getElem?_map, List.getElem?_drop, ← List.getElem?_map] at hu
  have := hc (k + i) u hu
  rwa [show o + (k + i) = o + k + i by omega] at this
/-- The words behind enter. -/
def enterT (r b c t : Int) : List (List UInt8) := [dec r.toNat, dec b.toNat, codeL c] ++ (if c = 0 then [timeL t.toNat] else [])
theorem enterX_eq (r b c t : Int) : enterX r b c t = enterWord :: enterT r b c t := rfl
/-- What an entry is that is read out of the words behind enter. -/
def EntOk (tl : List (List UInt8)) (r b c t : Int) : Prop := (3 ≤ tl.length ∧ tl.length ≤ 4) ∧ shortF (tl.getD 0 []) = (r, true) ∧ shortF (tl.getD 1 []) = (b, true) ∧ codeOf (tl.getD 2 []) = (c, true) ∧ (c = 0 ↔ tl.length = 4) ∧ (tl.length = 4 → 0 ≤ t ∧ t ≤ 1000000000 ∧ tl.getD 3 [] = timeL t.toNat) ∧ (tl.length = 3 → t = 0)
/-- What is said of an entry that was read. -/
def XP (tl : List (List UInt8)) (r b c t : Int) (ok : Bool) : Prop := (ok = true → EntOk tl r b c t) ∧ (ok = false → ∀ r b c t, ¬ EntOk tl r b c t)
theorem xp_no {tl : List (List UInt8)} (r b c t : Int) (h : ∀ r b c t, ¬ EntOk tl r b c t) : XP tl r b c t false := ⟨(fun h => by cases h), fun _ => h⟩
theorem xp_yes {tl : List (List UInt8)} {r b c t : Int} (h : EntOk tl r b c t) : XP tl r b c t true := ⟨fun _ => h, (fun h => by cases h)⟩
theorem xp_len {tl : List (List UInt8)} (h : tl.length < 3 ∨ 4 < tl.length) (r b c t : Int) : XP tl r b c t false := by
  refine xp_no _ _ _ _ (fun r b c t h2 => ?_)
  have := h2.1
  omega
theorem timeL_inj {t u : Nat} (ht : t ≤ 1000000000) (hu : u ≤ 1000000000) (h : timeL t = timeL u) : t = u := by
  obtain ⟨h1, h2⟩ := rtp_value ht rfl
  obtain ⟨h3, h4⟩ := rtp_value hu rfl
  rw [h] at h1 h2
  rw [h1] at h3
  rw [h2] at h4
  injection h3 with h5 _
  omega
theorem ent_unique {tl : List (List UInt8)} {r b c t r' b' c' t' : Int} (h : EntOk tl r b c t) (h' : EntOk tl r' b' c' t') : r = r' ∧ b = b' ∧ c = c' ∧ t = t' := by
  obtain ⟨a1, a2, a3, a4, a5, a6, a7⟩ := h
  obtain ⟨b1, b2, b3, b4, b5, b6, b7⟩ := h'
  rw [a2] at b2
  rw [a3] at b3
  rw [a4] at b4
  injection b2 with b2 _
  injection b3 with b3 _
  injection b4 with b4 _
  refine ⟨b2, b3, b4, ?_⟩
  have : tl.length = 3 ∨ tl.length = 4 := by omega
  rcases this with h | h
  · rw [a7 h, b7 h]
  · obtain ⟨c1, c2, c3⟩ := a6 h
    obtain ⟨d1, d2, d3⟩ := b6 h
    have := timeL_inj (by omega) (by omega) (c3.symm.trans d3)
    omega
theorem xp_both {tl : List (List UInt8)} {r b c t r' b' c' t' : Int} {ok ok' : Bool} (h : XP tl r b c t ok) (h' : XP tl r' b' c' t' ok') : ok = ok' ∧ (ok = true → r = r' ∧ b = b' ∧ c = c' ∧ t = t') := by
  cases ok <;> cases ok'
  · exact ⟨rfl, (fun h => by cases h)⟩
  · exact absurd (h'.1 rfl) (h.2 rfl _ _ _ _)
  · exact absurd (h.1 rfl) (h'.2 rfl _ _ _ _)
  · exact ⟨rfl, fun _ => ent_unique (h.1 rfl) (h'.1 rfl)⟩
theorem shortF_dec {n : Nat} (h : n < 100) : shortF (dec n) = ((n : Int), true) := by
  have hl := dec_len 1 n (by omega)
  have ht : (Lib.trimPrefix (dec n) [45]).length ≤ (dec n).length := by
    unfold Lib.trimPrefix
    split
    · rw [List.length_drop]; omega
    · exact Nat.le_refl _
  unfold shortF
  rw [numF_dec (by omega)]
  have : decide ((Lib.trimPrefix (dec n) [45]).length ≤ 15) = true := by
    rw [decide_eq_true_eq]
    omega
  rw [this]
  rfl
theorem ent_enter {tl : List (List UInt8)} {r0 b0 c0 t0 : Int} (hv : withinB r0 0 11 = true ∧ finW b0 c0 t0 = true) (e : tl = enterT r0 b0 c0 t0) : EntOk tl r0 b0 c0 t0 := by
  obtain ⟨q1, q2, q3, q4⟩ := finW_ok hv.2
  have q0 := withinB_iff.1 hv.1
  obtain ⟨rn, rfl⟩ := int_up r0 q0.1
  obtain ⟨bn, rfl⟩ := int_up b0 q1.1
  subst e
  by_cases h : c0 = 0
  · subst h
    exact ⟨⟨(by show (3 : Nat) ≤ 4; omega), (by show (4 : Nat) ≤ 4; omega)⟩, shortF_dec (by omega), shortF_dec (by omega), codeOf_code q2, ⟨fun _ => rfl, fun _ => rfl⟩, (fun _ => ⟨q3, q4, rfl⟩), (fun h => by cases h)⟩
  · have e : enterT (rn : Int) (bn : Int) c0 t0 = [dec (rn : Int).toNat, dec (bn : Int).toNat, codeL c0] := by unfold enterT; rw [if_neg h]; rfl
    have h2 := hv.2
    rw [finB_else (bn : Int) t0 h] at h2
    simp only [Bool.and_eq_true, beq_iff_eq] at h2
    rw [e]
    exact ⟨⟨(by show (3 : Nat) ≤ 3; omega), (by show (3 : Nat) ≤ 4; omega)⟩, shortF_dec (by omega), shortF_dec (by omega), codeOf_code q2, ⟨(fun hc => absurd hc h), (fun hl => by cases hl)⟩, (fun hl => by cases hl), (fun _ => h2.2)⟩
theorem xp_enter {tl : List (List UInt8)} {r b c t r0 b0 c0 t0 : Int} {ok : Bool} (h : XP tl r b c t ok) (hv : withinB r0 0 11 = true ∧ finW b0 c0 t0 = true) (e : tl = enterT r0 b0 c0 t0) : r = r0 ∧ b = b0 ∧ c = c0 ∧ t = t0 ∧ ok = true := by
  obtain ⟨h1, h2⟩ := xp_both h (xp_yes (ent_enter hv e))
  obtain ⟨h3, h4, h5, h6⟩ := h2 h1
  exact ⟨h3, h4, h5, h6, h1⟩
end Go.Proofs.YtnpldahkhaacnaaGreatDoor

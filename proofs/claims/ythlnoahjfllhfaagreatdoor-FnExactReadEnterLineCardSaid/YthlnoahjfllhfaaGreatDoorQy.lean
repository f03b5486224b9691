/- Plain: what is said of an entry that was read; parts of a row of words. -/
import Derived.Test.YthlnoahjfllhfaaGreatDoorQx
import Derived.Test.YthlnoahjfllhfaaGreatDoorQva
namespace Go.Proofs.YthlnoahjfllhfaaGreatDoor
open Go.RowKit Go.Sort
set_option linter.unusedVariables false
set_option maxRecDepth 100000

theorem Rd.takeS {w : World} {b o n : Nat} {ws : List (List UInt8)} (h : Rd w 1 (some ⟨b, o, none⟩) n (strs ws)) (k : Nat) (hk : k ≤ n) : Rd w 1 (some ⟨b, o, none⟩) k (strs (ws.take k)) := by
  have hl := h.len_str
  have hle := h.le
  refine ⟨by rw [strs_len, List.length_take]; omega, by omega, fun hn => ⟨b, o, rfl, fun i u hu => ?_⟩⟩
  obtain ⟨b', o', e, hc⟩ := h.pos (by omega)
  injection e with e
  injection e with e1 e2
  subst e1 e2
  refine hc i u ?_
  unfold strs at hu ⊢
  rw [List.getElem?_map, List.getElem?_take] at hu
  rw [List.getElem?_map]
  split at hu
  · exact hu
  · cases hu
theorem Rd.dropS {w : World} {b o n : Nat} {ws : List (List UInt8)} (h : Rd w 1 (some ⟨b, o, none⟩) n (strs ws)) (k : Nat) (hk : k ≤ n) : Rd w 1 (some ⟨b, o + k, none⟩) (n - k) (strs (ws.drop k)) := by
  have hl := h.len_str
  have hle := h.le
  refine ⟨by rw [strs_len, List.length_drop]; omega, by omega, fun hn => ⟨b, o + k, rfl, fun i u hu => ?_⟩⟩
  obtain ⟨b', o', e, hc⟩ := h.pos (by omega)
  injection e with e
  injection e with e1 e2
  subst e1 e2
  unfold strs at hu hc
  rw [List.getElem?_map, List.getElem?_drop, ← List.getElem?_map] at hu
  have := hc (k + i) u hu
  rwa [show o + (k + i) = o + k + i by omega] at this
/-- The words behind enter. -/
def enterT (r b c t : Int) : List (List UInt8) := [dec r.toNat, dec b.toNat, codeL c] ++ (if c = 0 then [timeL t.toNat] else [])
theorem enterX_eq (r b c t : Int) : enterX r b c t = enterWord :: enterT r b c t := rfl
/-- What an entry is that is read out of the words behind enter. -/
def EntOk (tl : List (List UInt8)) (r b c t : Int) : Prop := (3 ≤ tl.length ∧ tl.length ≤ 4) ∧ shortF (tl.getD 0 []) = (r, true) ∧ shortF (tl.getD 1 []) = (b, true) ∧ codeOf (tl.getD 2 []) = (c, true) ∧ (c = 0 ↔ tl.length = 4) ∧ (tl.length = 4 → 0 ≤ t ∧ t ≤ 1000000000 ∧ tl.getD 3 [] = timeL t.toNat) ∧ (tl.length = 3 → t = 0)
/-- What is said of an entry that was read. -/
def XP (tl : List (List UInt8)) (r b c t : Int) (ok : Bool) : Prop := (ok = true → EntOk tl r b c t) ∧ (ok = false → ∀ r b c t, ¬ EntOk tl r b c t)
theorem xp_no {tl : List (List UInt8)} (r b c t : Int) (h : ∀ r b c t, ¬ EntOk tl r b c t) : XP tl r b c t false := ⟨(fun h => by cases h), fun _ => h⟩
theorem xp_yes {tl : List (List UInt8)} {r b c t : Int} (h : EntOk tl r b c t) : XP tl r b c t true := ⟨fun _ => h, (fun h => by cases h)⟩
theorem xp_len {tl : List (List UInt8)} (h : tl.length < 3 ∨ 4 < tl.length) (r b c t : Int) : XP tl r b c t false := by
  refine xp_no _ _ _ _ (fun r b c t h2 => ?_)
  have := h2.1
  omega
theorem timeL_inj {t u : Nat} (ht : t ≤ 1000000000) (hu : u ≤ 1000000000) (h : timeL t = timeL u) : t = u := by
  obtain ⟨h1, h2⟩ := rtp_value ht rfl
  obtain ⟨h3, h4⟩ := rtp_value hu rfl
  rw [h] at h1 h2
  rw [h1] at h3
  rw [h2] at h4
  injection h3 with h5 _
  omega
theorem ent_unique {tl : List (List UInt8)} {r b c t r' b' c' t' : Int} (h : EntOk tl r b c t) (h' : EntOk tl r' b' c' t') : r = r' ∧ b = b' ∧ c = c' ∧ t = t' := by
  obtain ⟨a1, a2, a3, a4, a5, a6, a7⟩ := h
  obtain ⟨b1, b2, b3, b4, b5, b6, b7⟩ := h'
  rw [a2] at b2
  rw [a3] at b3
  rw [a4] at b4
  injection b2 with b2 _
  injection b3 with b3 _
  injection b4 with b4 _
  refine ⟨b2, b3, b4, ?_⟩
  have : tl.length = 3 ∨ tl.length = 4 := by omega
  rcases this with h | h
  · rw [a7 h, b7 h]
  · obtain ⟨c1, c2, c3⟩ := a6 h
    obtain ⟨d1, d2, d3⟩ := b6 h
    have := timeL_inj (by omega) (by omega) (c3.symm.trans d3)
    omega
theorem xp_both {tl : List (List UInt8)} {r b c t r' b' c' t' : Int} {ok ok' : Bool} (h : XP tl r b c t ok) (h' : XP tl r' b' c' t' ok') : ok = ok' ∧ (ok = true → r = r' ∧ b = b' ∧ c = c' ∧ t = t') := by
  cases ok <;> cases ok'
  · exact ⟨rfl, (fun h => by cases h)⟩
  · exact absurd (h'.1 rfl) (h.2 rfl _ _ _ _)
  · exact absurd (h.1 rfl) (h'.2 rfl _ _ _ _)
  · exact ⟨rfl, fun _ => ent_unique (h.1 rfl) (h'.1 rfl)⟩
theorem shortF_dec {n : Nat} (h : n < 100) : shortF (dec n) = ((n : Int), true) := by
  have hl := dec_len 1 n (by omega)
  have ht : (Lib.trimPrefix (dec n) [45]).length ≤ (dec n).length := by
    unfold Lib.trimPrefix
    split
    · rw [List.length_drop]; omega
    · exact Nat.le_refl _
  unfold shortF
  rw [numF_dec (by omega)]
  have : decide ((Lib.trimPrefix (dec n) [45]).length ≤ 15) = true := by
    rw [decide_eq_true_eq]
    omega
  rw [this]
  rfl
theorem ent_enter {tl : List (List UInt8)} {r0 b0 c0 t0 : Int} (hv : withinB r0 0 11 = true ∧ finB b0 c0 t0 = true) (e : tl = enterT r0 b0 c0 t0) : EntOk tl r0 b0 c0 t0 := by
  obtain ⟨q1, q2, q3, q4⟩ := finB_ok hv.2
  have q0 := withinB_iff.1 hv.1
  obtain ⟨rn, rfl⟩ := int_up r0 q0.1
  obtain ⟨bn, rfl⟩ := int_up b0 q1.1
  subst e
  by_cases h : c0 = 0
  · subst h
    exact ⟨⟨(by show (3 : Nat) ≤ 4; omega), (by show (4 : Nat) ≤ 4; omega)⟩, shortF_dec (by omega), shortF_dec (by omega), codeOf_code q2, ⟨fun _ => rfl, fun _ => rfl⟩, (fun _ => ⟨q3, q4, rfl⟩), (fun h => by cases h)⟩
  · have e : enterT (rn : Int) (bn : Int) c0 t0 = [dec (rn : Int).toNat, dec (bn : Int).toNat, codeL c0] := by unfold enterT; rw [if_neg h]; rfl
    have h2 := hv.2
    rw [finB_else (bn : Int) t0 h] at h2
    simp only [Bool.and_eq_true, beq_iff_eq] at h2
    rw [e]
    exact ⟨⟨(by show (3 : Nat) ≤ 3; omega), (by show (3 : Nat) ≤ 4; omega)⟩, shortF_dec (by omega), shortF_dec (by omega), codeOf_code q2, ⟨(fun hc => absurd hc h), (fun hl => by cases hl)⟩, (fun hl => by cases hl), (fun _ => h2.2)⟩
theorem xp_enter {tl : List (List UInt8)} {r b c t r0 b0 c0 t0 : Int} {ok : Bool} (h : XP tl r b c t ok) (hv : withinB r0 0 11 = true ∧ finB b0 c0 t0 = true) (e : tl = enterT r0 b0 c0 t0) : r = r0 ∧ b = b0 ∧ c = c0 ∧ t = t0 ∧ ok = true := by
  obtain ⟨h1, h2⟩ := xp_both h (xp_yes (ent_enter hv e))
  obtain ⟨h3, h4, h5, h6⟩ := h2 h1
  exact ⟨h3, h4, h5, h6, h1⟩
end Go.Proofs.YthlnoahjfllhfaaGreatDoor

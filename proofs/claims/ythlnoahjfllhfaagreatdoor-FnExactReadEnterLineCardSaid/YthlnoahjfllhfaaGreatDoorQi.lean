/- Plain: redress as a text, read back in two ways. No Go function in sight. -/
import Derived.Test.YthlnoahjfllhfaaGreatDoorQh
namespace Go.Proofs.YthlnoahjfllhfaaGreatDoor
set_option linter.unusedVariables false

abbrev RdX := Int × Int × Int × Int
def kAll : List UInt8 := [97, 108, 108]
def kBefore : List UInt8 := [98, 101, 102, 111, 114, 101]
def kPoints : List UInt8 := [112, 111, 105, 110, 116, 115]
def rbB (k p : Int) : Bool := if k = 3 then withinB p 0 10000 else withinB k 1 2 && (p == 0)
def rdOk (x : RdX) : Bool := withinB x.1 0 11 && withinB x.2.1 0 15 && rbB x.2.2.1 x.2.2.2
def kw (k : Int) : List UInt8 := if k = 1 then kAll else if k = 2 then kBefore else kPoints
def redL (x : RdX) : List UInt8 := dec x.1.toNat ++ 32 :: (dec x.2.1.toNat ++ 32 :: (kw x.2.2.1 ++ (if x.2.2.1 = 3 then 32 :: dec x.2.2.2.toNat else [])))
def redS (x : RdX) : List UInt8 := if rdOk x = true then redL x else []
theorem redL_ne (x : RdX) : redL x ≠ [] := by unfold redL; simp
theorem redS_ok {x : RdX} {s : List UInt8} (h : redS x = s) (hs : s ≠ []) : rdOk x = true ∧ redL x = s := by
  unfold redS at h
  split at h
  · rename_i hx; exact ⟨hx, h⟩
  · exact absurd h.symm hs
theorem kw_noblank (k : Int) : ∀ c ∈ kw k, c ≠ 32 := by
  intro c hc
  unfold kw at hc
  have : ∀ (l : List UInt8), (l.all fun d => !(d == 32)) = true → c ∈ l → c ≠ 32 := by
    intro l hl hm e
    have := List.all_eq_true.1 hl c hm
    subst e
    simp at this
  split at hc
  · exact this kAll (by decide) hc
  · split at hc
    · exact this kBefore (by decide) hc
    · exact this kPoints (by decide) hc
theorem rd_bounds {x : RdX} (h : rdOk x = true) : (0 ≤ x.1 ∧ x.1 ≤ 11) ∧ (0 ≤ x.2.1 ∧ x.2.1 ≤ 15) ∧ ((x.2.2.1 = 3 ∧ 0 ≤ x.2.2.2 ∧ x.2.2.2 ≤ 10000) ∨ (x.2.2.1 = 1 ∧ x.2.2.2 = 0) ∨ (x.2.2.1 = 2 ∧ x.2.2.2 = 0)) := by
  unfold rdOk rbB at h
  simp only [Bool.and_eq_true] at h
  obtain ⟨⟨h1, h2⟩, h3⟩ := h
  refine ⟨withinB_iff.1 h1, withinB_iff.1 h2, ?_⟩
  split at h3
  · rename_i e; exact .inl ⟨e, withinB_iff.1 h3⟩
  · simp only [Bool.and_eq_true, beq_iff_eq] at h3
    have := withinB_iff.1 h3.1
    have hk : x.2.2.1 = 1 ∨ x.2.2.1 = 2 := by omega
    rcases hk with hk | hk
    · exact .inr (.inl ⟨hk, h3.2⟩)
    · exact .inr (.inr ⟨hk, h3.2⟩)
theorem words_red {x : RdX} : wordsL (redL x) = if x.2.2.1 = 3 then [dec x.1.toNat, dec x.2.1.toNat, kw x.2.2.1, dec x.2.2.2.toNat] else [dec x.1.toNat, dec x.2.1.toNat, kw x.2.2.1] := by
  unfold redL
  rw [wordsL_app _ (dec_noblank _), wordsL_app _ (dec_noblank _)]
  split
  · rw [wordsL_app _ (kw_noblank _), wordsL_none (dec_noblank _)]
  · rw [List.append_nil, wordsL_none (kw_noblank _)]
/-- What the reference reads. -/
def specX (ws : List (List UInt8)) : RdX := (rdF (ws.getD 0 []), rdF (ws.getD 1 []), if ws.length = 4 then 3 else if ws.getD 2 [] = kBefore then 2 else 1, if ws.length = 4 then rdF (ws.getD 3 []) else 0)
def specR (s : List UInt8) : Option RdX := if (wordsL s).length < 3 ∨ 4 < (wordsL s).length then none else if s = [] ∨ redS (specX (wordsL s)) ≠ s then none else some (specX (wordsL s))
/-- What the program reads. -/
def implGo (s : List UInt8) (r b p : Int) : Nat → Int → Option RdX
  | 0, _ => none
  | f + 1, k => if redS (r, b, k, p) ≠ [] ∧ redS (r, b, k, p) = s then some (r, b, k, p) else implGo s r b p f (k + 1)
def implP (ws : List (List UInt8)) : Int := if 3 < ws.length then (numF (ws.getD 3 [])).1 else 0
def implR (s : List UInt8) : Option RdX := if (wordsL s).length < 3 then none else implGo s (numF ((wordsL s).getD 0 [])).1 (numF ((wordsL s).getD 1 [])).1 (implP (wordsL s)) 3 1
theorem spec_red {x : RdX} (h : rdOk x = true) : specR (redL x) = some x := by
  obtain ⟨h1, h2, h3⟩ := rd_bounds h
  have e1 : rdF (dec x.1.toNat) = x.1 := by rw [rdF_dec (by omega)]; omega
  have e2 : rdF (dec x.2.1.toNat) = x.2.1 := by rw [rdF_dec (by omega)]; omega
  have key : specX (wordsL (redL x)) = x ∧ 3 ≤ (wordsL (redL x)).length ∧ (wordsL (redL x)).length ≤ 4 := by
    rw [words_red]
    obtain ⟨r, b, k, p⟩ := x
    simp only at *
    rcases h3 with ⟨rfl, h3⟩ | ⟨rfl, rfl⟩ | ⟨rfl, rfl⟩
    · have e3 : rdF (dec p.toNat) = p := by rw [rdF_dec (by omega)]; omega
      simp [specX, e1, e2, e3]
    · simp [specX, e1, e2, kw, kAll, kBefore]
    · simp [specX, e1, e2, kw, kBefore]
  unfold specR
  rw [if_neg (by omega), key.1, if_neg]
  rintro (e | e)
  · exact redL_ne x e
  · exact e (by unfold redS; rw [if_pos h])
theorem redS_kind {r b k p k' p' r' b' : Int} (hk : k = 1 ∨ k = 2 ∨ k = 3) (hk' : k' = 1 ∨ k' = 2 ∨ k' = 3) (h : redL (r, b, k, p) = redL (r', b', k', p')) : k = k' := by
  have hw := words_red (x := (r, b, k, p))
  rw [h, words_red] at hw
  simp only at hw
  rcases hk with rfl | rfl | rfl <;> rcases hk' with rfl | rfl | rfl <;> first | rfl | (simp [kw, kAll, kBefore, kPoints] at hw)
theorem impl_red {x : RdX} (h : rdOk x = true) : implR (redL x) = some x := by
  obtain ⟨h1, h2, h3⟩ := rd_bounds h
  have e1 : (numF (dec x.1.toNat)).1 = x.1 := by rw [numF_dec (by omega)]; show ((x.1.toNat : Nat) : Int) = x.1; omega
  have e2 : (numF (dec x.2.1.toNat)).1 = x.2.1 := by rw [numF_dec (by omega)]; show ((x.2.1.toNat : Nat) : Int) = x.2.1; omega
  have hsx : redS x = redL x := by unfold redS; rw [if_pos h]
  have hn := redL_ne x
  obtain ⟨r, b, k, p⟩ := x
  have hother : ∀ k', (k' = 1 ∨ k' = 2 ∨ k' = 3) → k' ≠ k → ¬ (redS (r, b, k', p) ≠ [] ∧ redS (r, b, k', p) = redL (r, b, k, p)) := by
    rintro k' hk' hne ⟨ha, hb⟩
    obtain ⟨_, hc⟩ := redS_ok rfl ha
    rw [← hc] at hb
    exact hne (redS_kind hk' (by rcases h3 with ⟨e, _⟩ | ⟨e, _⟩ | ⟨e, _⟩ <;> simp only at e <;> omega) hb)
  have hself : redS (r, b, k, p) ≠ [] ∧ redS (r, b, k, p) = redL (r, b, k, p) := ⟨by rw [hsx]; exact hn, hsx⟩
  have key : (numF ((wordsL (redL (r, b, k, p))).getD 0 [])).1 = r ∧ (numF ((wordsL (redL (r, b, k, p))).getD 1 [])).1 = b ∧ implP (wordsL (redL (r, b, k, p))) = p ∧ 3 ≤ (wordsL (redL (r, b, k, p))).length := by
    rw [words_red]
    simp only at *
    rcases h3 with ⟨rfl, h3⟩ | ⟨rfl, rfl⟩ | ⟨rfl, rfl⟩
    · have e3 : (numF (dec p.toNat)).1 = p := by rw [numF_dec (by omega)]; show ((p.toNat : Nat) : Int) = p; omega
      simp [implP, e1, e2, e3]
    · simp [implP, e1, e2]
    · simp [implP, e1, e2]
  unfold implR
  rw [if_neg (by omega), key.1, key.2.1, key.2.2.1]
  simp only at h3
  rcases h3 with ⟨rfl, _⟩ | ⟨rfl, _⟩ | ⟨rfl, _⟩
  · rw [implGo, if_neg (hother 1 (.inl rfl) (by decide)), implGo, if_neg (hother (1 + 1) (.inr (.inl rfl)) (by decide)), implGo, if_pos (show redS (r, b, 1 + 1 + 1, p) ≠ [] ∧ redS (r, b, 1 + 1 + 1, p) = redL (r, b, 3, p) from hself)]
    rfl
  · rw [implGo, if_pos hself]
  · rw [implGo, if_neg (hother 1 (.inl rfl) (by decide)), implGo, if_pos (show redS (r, b, 1 + 1, p) ≠ [] ∧ redS (r, b, 1 + 1, p) = redL (r, b, 2, p) from hself)]
    rfl
theorem implGo_some {s : List UInt8} {r b p : Int} : ∀ {f : Nat} {k : Int} {x : RdX}, implGo s r b p f k = some x → redS x ≠ [] ∧ redS x = s := by
  intro f
  induction f with
  | zero => intro k x h; cases h
  | succ f ih =>
    intro k x h
    rw [implGo] at h
    split at h
    · rename_i hh
      injection h with h
      rw [← h]
      exact hh
    · exact ih h
theorem impl_spec (s : List UInt8) : implR s = specR s := by
  cases hs : specR s with
  | some x =>
    unfold specR at hs
    split at hs
    · cases hs
    · split at hs
      · cases hs
      · rename_i h
        injection hs with hs
        rw [hs] at h
        have h1 : s ≠ [] := fun e => h (.inl e)
        have h2 : redS x = s := Classical.byContradiction fun e => h (.inr e)
        obtain ⟨ha, hb⟩ := redS_ok h2 h1
        rw [← hb]
        exact impl_red ha
  | none =>
    cases hi : implR s with
    | none => rfl
    | some x =>
      have h := hi
      unfold implR at h
      split at h
      · cases h
      · obtain ⟨h1, h2⟩ := implGo_some h
        obtain ⟨ha, hb⟩ := redS_ok h2 (by rw [← h2]; exact h1)
        rw [← hb, spec_red ha] at hs
        cases hs
end Go.Proofs.YthlnoahjfllhfaaGreatDoor

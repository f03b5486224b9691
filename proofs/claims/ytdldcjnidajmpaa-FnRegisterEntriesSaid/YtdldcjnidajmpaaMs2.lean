/- Plain: an added entry stands in its boat's history; current entries are the last of their histories; corrections. -/
import Derived.Test.YtdldcjnidajmpaaJo
import Derived.Test.YtdldcjnidajmpaaJc
namespace Go.Proofs.Ytdldcjnidajmpaa
open Go.RowKit
set_option linter.unusedVariables false

theorem currC_hist {xs : List EntryT} {b r : Nat} {x : EntryT} (h : x ∈ currC xs b r) : (histF xs (E.race x) (E.boat x)).getLast? = some x ∧ 0 ≤ E.race x ∧ E.race x < r ∧ 0 ≤ E.boat x ∧ E.boat x < b := by
  have hm := currC_mem h
  unfold currC rowC at h
  simp only [List.mem_flatMap, List.mem_range] at h
  obtain ⟨race, hr, boat, hb, h⟩ := h
  unfold lastL at h
  have hl := Option.mem_toList.1 h
  have hx := hist_mem.1 (List.mem_of_getLast? hl)
  rw [hx.2.1, hx.2.2]
  exact ⟨hl, by omega, by omega, by omega, by omega⟩
theorem currF_hist {b : Int} {xs : List EntryT} {x : EntryT} (h : x ∈ currF b xs) : ∃ m, (histF xs (E.race x) (E.boat x)).length = m + 1 ∧ (histF xs (E.race x) (E.boat x))[m]? = some x := by
  obtain ⟨hl, _⟩ := currC_hist h
  rw [List.getLast?_eq_getElem?] at hl
  have hlt := (List.getElem?_eq_some_iff.1 hl).1
  exact ⟨(histF xs (E.race x) (E.boat x)).length - 1, by omega, hl⟩
theorem curL_ok {b s : Int} {xs : List EntryT} {x : EntryT} (h : x ∈ curL b s xs) : histC b s xs (E.race x) (E.boat x) = 0 ∧ ∃ m, (histL b s xs (E.race x) (E.boat x)).length = m + 1 ∧ (histL b s xs (E.race x) (E.boat x))[m]? = some x := by
  unfold curL at h
  by_cases hg : regB b s xs = true
  · rw [if_pos hg] at h
    obtain ⟨_, h1, h2, h3, h4⟩ := currF_mem h
    have hc : histC b s xs (E.race x) (E.boat x) = 0 := by
      unfold histC
      rw [if_pos hg, if_pos]
      rw [withinB_iff.2 ⟨h1, h2⟩, withinB_iff.2 ⟨h3, by omega⟩]; rfl
    refine ⟨hc, ?_⟩
    unfold histL
    rw [if_pos hc]
    exact currF_hist h
  · rw [if_neg hg] at h; cases h
/-- What an entry added without fault is. -/
theorem add_ok {b s : Int} {xs : List EntryT} {x : EntryT} (h : addC b s xs x = 0) : RegOk b s xs ∧ entB b x = true ∧ revB (E.rev x) = true ∧ hasB xs x = false ∧ xs.length < 400 := by
  unfold addC at h
  by_cases h1 : regB b s xs = true
  · rw [if_pos h1] at h
    by_cases h2 : (entB b x && revB (E.rev x)) = true
    · rw [if_pos h2] at h
      by_cases h3 : hasB xs x = true
      · rw [if_pos h3] at h; cases h
      · rw [if_neg h3] at h
        by_cases h4 : xs.length = 400
        · rw [if_pos h4] at h; cases h
        · have hok := regB_ok h1
          have := hok.len
          rw [Bool.and_eq_true] at h2
          exact ⟨hok, h2.1, h2.2, by simpa using h3, by omega⟩
    · rw [if_neg h2] at h; cases h
  · rw [if_neg h1] at h; cases h
theorem add_reg {b s : Int} {xs : List EntryT} {x : EntryT} (h : addC b s xs x = 0) : RegOk b s (xs ++ [x]) := by
  obtain ⟨hok, h1, h2, h3, h4⟩ := add_ok h
  refine ⟨hok.b1, hok.b2, hok.s0, hok.s1, by simp; omega, fun y hy => ?_, ?_⟩
  · rcases List.mem_append.1 hy with hy | hy
    · exact hok.ent y hy
    · rw [List.mem_singleton.1 hy]
      have := withinB_iff.1 h2
      exact ⟨h1, this.1, this.2⟩
  · rw [List.pairwise_append]
    refine ⟨hok.key, by simp, fun a ha c hc => ?_⟩
    rw [List.mem_singleton.1 hc]
    unfold hasB at h3
    rw [List.any_eq_false] at h3
    simpa using h3 a ha
theorem entB_win {b : Int} {x : EntryT} (h : entB b x = true) : (withinB (E.race x) 0 11 && withinB (E.boat x) 0 (b - 1)) = true := by
  unfold entB at h
  simp only [Bool.and_eq_true] at h
  rw [h.1.1.1, h.1.1.2]; rfl
theorem add_hist {b s : Int} {xs : List EntryT} {x : EntryT} (h : addC b s xs x = 0) : histC b s (xs ++ [x]) (E.race x) (E.boat x) = 0 := by
  unfold histC
  rw [if_pos (add_reg h).regB, if_pos (entB_win (add_ok h).2.1)]
/-- How often an entry stands in a list. -/
def cntE (x : EntryT) : List EntryT → Nat
  | [] => 0
  | y :: r => (if y = x then 1 else 0) + cntE x r
theorem cntE_snoc (x : EntryT) (l : List EntryT) (y : EntryT) : cntE x (l ++ [y]) = cntE x l + (if y = x then 1 else 0) := by
  induction l with
  | nil => simp [cntE]
  | cons z r ih => simp only [List.cons_append, cntE, ih]; omega
theorem cntE_le (x : EntryT) (l : List EntryT) : cntE x l ≤ l.length := by
  induction l with
  | nil => exact Nat.le_refl _
  | cons z r ih => simp only [cntE, List.length_cons]; split <;> omega
theorem cntE_none {x : EntryT} {l : List EntryT} (h : ¬ x ∈ l) : cntE x l = 0 := by
  induction l with
  | nil => rfl
  | cons z r ih =>
    unfold cntE
    rw [if_neg (fun e => h (by rw [e]; exact .head _)), ih (fun hm => h (.tail _ hm))]
theorem cntE_one {x : EntryT} {l : List EntryT} (hs : l.Pairwise fun x y => E.rev x < E.rev y) (h : x ∈ l) : cntE x l = 1 := by
  induction l with
  | nil => cases h
  | cons z r ih =>
    have hz := (List.pairwise_cons.1 hs).1
    unfold cntE
    by_cases e : z = x
    · subst e
      rw [if_pos rfl, cntE_none (fun hm => by have := hz z hm; omega)]
    · rw [if_neg e, ih (List.pairwise_cons.1 hs).2 (by rcases List.mem_cons.1 h with h | h; exact absurd h.symm e; exact h)]
theorem add_once {b s : Int} {xs : List EntryT} {x : EntryT} (h : addC b s xs x = 0) : cntE x (histL b s (xs ++ [x]) (E.race x) (E.boat x)) = 1 := by
  unfold histL
  rw [if_pos (add_hist h)]
  exact cntE_one (hist_sorted (add_reg h).key _ _) (hist_mem.2 ⟨by simp, rfl, rfl⟩)
theorem add_vals {b s : Int} {xs : List EntryT} {x : EntryT} (h : addC b s xs x = 0) : addB b s xs x = b ∧ addS b s xs x = s ∧ addL b s xs x = xs ++ [x] := by
  unfold addB addS addL
  exact ⟨if_pos h, if_pos h, if_pos h⟩
end Go.Proofs.Ytdldcjnidajmpaa

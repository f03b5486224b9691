/- What the laws of registers' standings want: good cases of the functions. -/
import Derived.Test.YtalgdeieejpelaaGreatZr
import Derived.Test.YtalgdeieejpelaaGreatZmo
import Derived.Test.YtalgdeieejpelaaGreatZmm
import Derived.Test.YtalgdeieejpelaaGreatZmg
namespace Go.Proofs.YtalgdeieejpelaaGreat
open Go.RowKit Go.Sort
set_option linter.unusedVariables false
set_option maxRecDepth 100000

theorem stand_good {b s : Int} {xs : List EntryT} {rule L : List Int} (h : standCF b s xs rule = (L, 0)) : regB b s xs = true ∧ ruleB rule = true ∧ L = standT (tabR b s xs) rule := by
  unfold standCF at h
  cases h1 : regB b s xs with
  | false => rw [h1] at h; simp at h
  | true =>
    cases h2 : ruleB rule with
    | false => rw [h1, h2] at h; simp at h
    | true =>
      rw [h1, h2] at h
      simp at h
      exact ⟨rfl, rfl, h.symm⟩
theorem implRegTab_good {b s : Int} {xs : List EntryT} (h : RegOk b s xs) {t : Tb} (ht : tabR b s xs = t) (A : Option Addr) (n c : Nat) (w : World) (hr : RegRd w A n c xs) :
    Calls Tryz.prog 22 #[.agg #[.int .i64 b, .int .i64 s, .slice A n c]] w (RetTC w (t, 0)) := by
  have := implRegisterTable_any b s A n c xs w hr
  unfold regTabC at this
  rw [if_pos h.regB, ht] at this
  exact this
theorem implRegSer_ok {b s : Int} {xs : List EntryT} (h : RegOk b s xs) {rows : List (List FinishT)} (hz : serF b xs = rows) (A : Option Addr) (n c : Nat) (w : World) (hr : RegRd w A n c xs) :
    Calls Tryz.prog 23 #[.agg #[.int .i64 b, .int .i64 s, .slice A n c]] w (RetSer w b s rows 0) := by
  obtain ⟨h0, h1, h2, h3⟩ := ser_good h
  have := implRegSeries_any b s A n c xs w hr
  rw [h0, h1, h2, h3, hz] at this
  exact this
theorem specRegSer_ok {b s : Int} {xs : List EntryT} (h : RegOk b s xs) {rows : List (List FinishT)} (hz : serF b xs = rows) (A : Option Addr) (n c : Nat) (w : World) (hr : RegRd w A n c xs) :
    Calls Tryz.prog 24 #[.agg #[.int .i64 b, .int .i64 s, .slice A n c]] w (RetSer w b s rows 0) := by
  obtain ⟨h0, h1, h2, h3⟩ := ser_good h
  have := specRegSeries_any b s A n c xs w hr
  rw [h0, h1, h2, h3, hz] at this
  exact this
theorem likeInts_same (A A' : Option Addr) (n c n' c' : Nat) (xs : List Int) (w : World) (h : Rd w 1 A n (ints xs)) (h' : Rd w 1 A' n' (ints xs)) :
    Calls Tryz.prog 18 #[.slice A n c, .slice A' n' c'] w fun e w' => e = .returned (.bool true) ∧ Below w.heap.size w w' := by
  have := likeInts_below A A' n c n' c' xs xs w h h'
  rwa [decide_eq_true rfl] at this
theorem oth_len (xs : List EntryT) (k : Nat) : (othE xs k).length = xs.length := (oth_perm xs k).length_eq
theorem oth_get {xs : List EntryT} {k j q : Nat} (hk : k ≤ xs.length) (h : q + 1 + j = xs.length) : (othE xs k)[j]? = xs[(q + k) % xs.length]? := by
  unfold othE
  rw [List.getElem?_reverse (by rw [turn_len]; omega), turn_len, show xs.length - 1 - j = q by omega, turn_get hk (by omega)]
theorem ser_isok {b s : Int} {xs : List EntryT} (h : RegOk b s xs) : (serF b xs).length ≤ 12 ∧ ∀ r ∈ serF b xs, raceB b r = true := ⟨(serF_good b xs).1, serF_race h⟩
end Go.Proofs.YtalgdeieejpelaaGreat

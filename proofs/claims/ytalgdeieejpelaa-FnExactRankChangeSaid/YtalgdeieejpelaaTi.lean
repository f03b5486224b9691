/- Walks: open redress (chapter 29), both sides. -/
import Derived.Test.YtalgdeieejpelaaTh
namespace Go.Proofs.Ytalgdeieejpelaa
open Go.RowKit Go.Sort
set_option linter.unusedVariables false
set_option maxRecDepth 100000

theorem own_box_ne {w : World} {base e s n b : Nat} {v : Value} {xs : List Value} {vs : Array Value} {t : TypeId} (h : w.ownsRow base e s v n xs) (hb : Box w b vs t) (hne : e ≠ t) : v.ownBlock ≠ some b := by
  intro hv
  rcases h.2 with ⟨rfl, _⟩ | ⟨g1, cap, cur, rfl, _, hh, _⟩
  · simp [Value.ownBlock] at hv
  · simp [Value.ownBlock] at hv
    subst hv
    unfold Box at hb
    rw [hh] at hb
    injection hb with hb
    injection hb with _ ht
    exact hne ht
theorem redCode_ok {t : Tb} {xs : List RedT} (h : redCodeF t xs = 0) : tableB t = true ∧ redsB t xs = true := by
  unfold redCodeF at h
  by_cases h1 : tableB t = true
  · rw [if_pos h1] at h
    by_cases h2 : redsB t xs = true
    · exact ⟨h1, h2⟩
    · rw [if_neg h2] at h; cases h
  · rw [if_neg h1] at h; cases h
theorem pair_new (w : World) (base : Nat) (x y : Int) (hb : base ≤ w.heap.size) : (w.alloc (.cells #[.int .i64 x, .int .i64 y] 2)).ownsRow base 2 1 (.slice (some ⟨w.heap.size, 0, none⟩) [x, y].length 2) [x, y].length (ints [x, y]) := by
  have := World.ownsRow_lit (base := base) (e := 2) (size := 1) w #[.int .i64 x, .int .i64 y] 2 hb (by decide) (by simp)
  exact this
theorem openRow_end (xs : List RedT) (k j : Nat) : openRow xs k j [] = [] := rfl
/-- A row of two numbers has been appended. -/
theorem open_put {w w7 : World} {base n' c' A1b : Nat} {A' A1 : Option Addr} {vs : List Value} {rows : List (List Int)} {x y : Int} (h : OwnRows w base 26 2 A' n' c' vs rows) (hb : base ≤ w.heap.size) (o : Obj)
    (hg : ((w.alloc (.cells #[.int .i64 x, .int .i64 y] 2)).alloc o).grownBy w7 (Value.slice A' n' c').ownBlock) (ho : w7.ownsRow base 26 1 (.slice A1 (n' + 1) A1b) (n' + 1) (vs ++ [.slice (some ⟨w.heap.size, 0, none⟩) 2 2])) :
    OwnRows w7 base 26 2 A1 (n' + 1) A1b (vs ++ [.slice (some ⟨w.heap.size, 0, none⟩) 2 2]) (rows ++ [[x, y]]) := by
  have h1 := h.alloc (.cells #[.int .i64 x, .int .i64 y] 2)
  have hin := h.in_
  refine OwnRows.append (A' := some ⟨w.heap.size, 0, none⟩) (c' := 2) (ys := [x, y]) h1 (by decide) (pair_new w base x y hb) (fun u hu b hb' hub => ?_) o hg ho
  have e : b = w.heap.size := by simp [Value.ownBlock] at hb'; exact hb'.symm
  have := hin.2 u hu b hub
  omega
end Go.Proofs.Ytalgdeieejpelaa

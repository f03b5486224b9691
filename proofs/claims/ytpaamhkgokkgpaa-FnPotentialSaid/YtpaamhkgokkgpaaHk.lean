/- Walks: drawn cells, a grid with two cells (chapter 32). -/
import Derived.Test.YtpaamhkgokkgpaaHj
namespace Go.Proofs.Ytpaamhkgokkgpaa
open Go.RowKit
set_option linter.unusedVariables false
set_option maxRecDepth 100000

theorem nextY_any (w0 : World) (A : Option Addr) (n cap : Nat) (code : List Int) (hcode : Code0 w0 A n code) (g : Nat) (k : Int) (hk : k ≤ 1099511627776) (w : World) (h : Sx w0 w A n cap code g) :
    Calls Try.prog 87 #[.pointer (some ⟨g, 0, none⟩), .int .i64 k] w fun e w' => ∃ v, e = .returned (.int .i64 v) ∧ 0 ≤ v ∧ (v = 0 ∨ v < k) ∧ Sx w0 w' A n cap code g ∧ Chg g (g + 1) w w' := by
  by_cases h1 : 1 ≤ k
  · refine (nextX_any w0 A n cap code hcode g k h1 hk w h).mono ?_
    rintro e w' ⟨v, h1, h2, h3, h4⟩
    exact ⟨v, h1, h2, .inr h3, h4⟩
  · obtain ⟨s, h⟩ := h
    refine (next_any w0 A n cap code hcode g s k hk w h).mono ?_
    rintro e w' ⟨rfl, h2, h3⟩
    have e0 : (nextF code s k).1 = 0 := by unfold nextF; rw [if_pos (by omega)]
    exact ⟨_, rfl, nextF_nonneg _ _ _, .inl e0, ⟨_, h2⟩, h3⟩
def RetCell (w0 w : World) (A : Option Addr) (n cap : Nat) (code : List Int) (g : Nat) (e : Ending) (w' : World) : Prop :=
  ∃ v : Int, e = .returned (.int .i64 v) ∧ -1 ≤ v ∧ v ≤ 121 ∧ Sx w0 w' A n cap code g ∧ Chg g (g + 1) w w'
set_option maxHeartbeats 4000000 in
theorem drawCell_any (w0 : World) (A : Option Addr) (n cap : Nat) (code : List Int) (hcode : Code0 w0 A n code) (g : Nat) (W H : Int) (A1 : Option Addr) (m c1 : Nat) (hW0 : 0 ≤ W) (hW : W ≤ 11) (hH0 : 0 ≤ H) (hH : H ≤ 11) (w : World) (h : Sx w0 w A n cap code g) :
    Calls Try.prog 73 #[.pointer (some ⟨g, 0, none⟩), .agg #[.int .i64 W, .int .i64 H, .slice A1 m c1]] w (RetCell w0 w A n cap code g) := by
  have HN := Lib.hid (fun k hk w' h => nextY_any w0 A n cap code hcode g k hk w' h)
  have hgl := h.lt
  obtain ⟨hN0, hN1⟩ := mul_bd hW0 hW hH0 hH
  obtain ⟨N, hN⟩ := int_up (W * H) hN0
  have hN25 : N ≤ 121 := by omega
  go_enter Try.func73, Try.ntmps73
  go_wp2_with fail
  have hb1 : Below w.heap.size w (w.alloc (.cells #[.int .i64 W, .int .i64 H, .slice A1 m c1] 29)) := (Below.refl _ _).alloc (Nat.le_refl _) _
  have hv1 : Var3 (w.alloc (.cells #[.int .i64 W, .int .i64 H, .slice A1 m c1] 29)) w.heap.size 29 (.int .i64 W) (.int .i64 H) (.slice A1 m c1) := heap_alloc_new _ _
  refine (HN.out 20 (by omega) _ (h.below hb1)).mono ?_
  rintro e w2 ⟨v, rfl, v0, _, hs2, hc2⟩
  have hv2 := hv1.chg hc2 (.inr (by omega))
  have hc02 := (Chg.of_below hb1 (lo := g) (hi := g + 1)).trans hc2
  obtain ⟨p0, p1, p2, _, _, _, hl2⟩ := hv2.facts
  clear hv1 hb1 hc2
  by_cases hv0 : v = 0
  · subst hv0
    obtain ⟨s, hsrc⟩ := hs2.out
    have hbd := nextF_bd code s 2 (by omega)
    have hnx := fun w' h => next_any w0 A n cap code hcode g s 2 (by omega) w' h
    generalize nextF code s 2 = rr at *
    obtain ⟨j, s'⟩ := rr
    simp only at hbd
    have HNX := Lib.hid hnx
    have HSB := Lib.hid (show ∀ Y, Below w2.heap.size w2 Y → Src w0 Y A n cap code g s from fun Y hb => hsrc.below hb)
    have HVG := Lib.hid (show ∀ Y Z, Below w2.heap.size w2 Y → Chg g (g + 1) Y Z → Var3 Z w.heap.size 29 (.int .i64 W) (.int .i64 H) (.slice A1 m c1) ∧ Chg g (g + 1) w Z from fun Y Z hb hc => by
      have h1 := (Chg.of_below hb (lo := g) (hi := g + 1)).trans hc
      exact ⟨hv2.chg h1 (.inr (by omega)), hc02.trans h1⟩)
    have HC02 := Lib.hid hc02
    have hwr : IntKind.i64.wrap (N : Int) = N := IntWalk.i64_in _ (by omega)
    clear hnx hsrc hv2 hc02
    go_wp2_with fail
    obtain ⟨j0, j1⟩ := hbd
    rcases (by omega : j = 0 ∨ j = 1) with rfl | rfl
    · clear j0 j1
      go_region_with (go_at_call 87; (refine (HNX.out _ ?_).mono ?_); (first | exact HSB.out _ (by (repeat (first | exact Below.refl _ _ | refine below_drewN ?_ 1 | refine Below.alloc ?_ (by simp <;> omega) _)))); (rintro e wq ⟨rfl, hsq, hcq⟩); (obtain ⟨hvq, hcc⟩ := HVG.out _ _ (by (repeat (first | exact Below.refl _ _ | refine below_drewN ?_ 1 | refine Below.alloc ?_ (by simp <;> omega) _))) hcq); (obtain ⟨p0q, p1q, p2q, _, _, _, hbq⟩ := hvq.facts); (try have hlit := chg_cell hcq (b := w2.heap.size) (i := 0) (v := .int .i64 (-1)) (.inr (by omega)) (cell_top _ _ _ (by simp) rfl)))
      all_goals
        go_wp2_with fail
        go_ret
        first
          | exact ⟨_, rfl, by omega, by omega, ⟨_, hsq⟩, hcc⟩
          | exact ⟨_, rfl, by omega, by omega, Sx.below ⟨_, hsq⟩ ((Below.refl _ _).alloc (Nat.le_refl _) _), chg_alloc hcc _⟩
    · clear j0 j1
      go_region_with (go_at_call 87; (refine (HNX.out _ ?_).mono ?_); (first | exact HSB.out _ (by (repeat (first | exact Below.refl _ _ | refine below_drewN ?_ 1 | refine Below.alloc ?_ (by simp <;> omega) _)))); (rintro e wq ⟨rfl, hsq, hcq⟩); (obtain ⟨hvq, hcc⟩ := HVG.out _ _ (by (repeat (first | exact Below.refl _ _ | refine below_drewN ?_ 1 | refine Below.alloc ?_ (by simp <;> omega) _))) hcq); (obtain ⟨p0q, p1q, p2q, _, _, _, hbq⟩ := hvq.facts); (try have hlit := chg_cell hcq (b := w2.heap.size) (i := 1) (v := .int .i64 N) (.inr (by omega)) (cell_top _ _ _ (by simp) rfl)))
      all_goals
        go_wp2_with fail
        go_ret
        first
          | exact ⟨_, rfl, by omega, by omega, ⟨_, hsq⟩, hcc⟩
          | exact ⟨_, rfl, by omega, by omega, Sx.below ⟨_, hsq⟩ ((Below.refl _ _).alloc (Nat.le_refl _) _), chg_alloc hcc _⟩
  · have hb0 : (v == 0) = false := by simpa using hv0
    have HC02 := Lib.hid hc02
    clear hc02
    go_wp2_with fail
    refine (HN.out N (by omega) _ hs2).mono ?_
    rintro e w3 ⟨u, rfl, u0, u1, hs3, hc3⟩
    go_wp2_with fail
    go_ret
    exact ⟨u, rfl, by omega, by omega, hs3, HC02.out.trans hc3⟩
/-- A grid and two cells were drawn. -/
def RetTwo (w : World) (e : Ending) (w' : World) : Prop :=
  ∃ (W H : Int) (A1 : Option Addr) (m c1 : Nat) (xs : List (Int × Int)) (u v : Int), e = .returned (.tuple #[.agg #[.int .i64 W, .int .i64 H, .slice A1 m c1], .int .i64 u, .int .i64 v]) ∧ m ≤ 25 ∧ Rd w' 2 A1 m (winds xs) ∧ Below w.heap.size w w'
end Go.Proofs.Ytpaamhkgokkgpaa

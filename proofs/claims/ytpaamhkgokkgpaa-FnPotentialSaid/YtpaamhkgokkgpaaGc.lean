/- Walks: neighbours, codes (chapter 32). -/
import Derived.Test.YtpaamhkgokkgpaaGh1
import Derived.Test.YtpaamhkgokkgpaaGh2
import Derived.Test.YtpaamhkgokkgpaaGb
import Derived.IntWalk
namespace Go.Proofs.Ytpaamhkgokkgpaa
open Go.RowKit
set_option linter.unusedVariables false
set_option maxRecDepth 100000

/-- The neighbour, or 0. -/
def nbV (W H cell d : Int) : Int := if nbB W H cell d = true then nbF W H cell d else 0
theorem implNb_any (W H : Int) (A : Option Addr) (n c : Nat) (cell d : Int) (w1 : 1 ≤ W) (w2 : W ≤ 10) (h1 : 1 ≤ H) (h2 : H ≤ 10) (c1 : 0 ≤ cell) (c2 : cell < W * H) (d1 : 0 ≤ d) (d2 : d ≤ 7) (w : World) :
    Calls Try.prog 58 #[.agg #[.int .i64 W, .int .i64 H, .slice A n c], .int .i64 cell, .int .i64 d] w fun e w' => e = .returned (.int .i64 (nbF W H cell d)) ∧ Below w.heap.size w w' := by
  have HH := Lib.hid (fun w => implHead_any d d1 d2 w)
  obtain ⟨b1, b2, b3, b4⟩ := headF_bd d
  have hcb := mul_bd (show 0 ≤ W by omega) w2 (show 0 ≤ H by omega) h2
  have hc99 : cell ≤ 99 := by omega
  have e1 : nbF W H cell d = if nbB W H cell d = true then (cell / W + (headF d).2) * W + (cell % W + (headF d).1) else -1 := rfl
  have e2 : nbB W H cell d = (withinB (cell % W + (headF d).1) 0 (W - 1) && withinB (cell / W + (headF d).2) 0 (H - 1)) := rfl
  have e3 : nbV W H cell d = if nbB W H cell d = true then nbF W H cell d else 0 := rfl
  have r1 := Int.emod_nonneg cell (show W ≠ 0 by omega)
  have r2 := Int.emod_lt_of_pos cell (show 0 < W by omega)
  have r3 := Int.ediv_nonneg c1 (show 0 ≤ W by omega)
  have r4 := Int.ediv_le_self W c1
  have t1 : cell.tmod W = cell % W := Int.tmod_eq_emod_of_nonneg c1
  have t2 : cell.tdiv W = cell / W := Int.tdiv_eq_ediv_of_nonneg c1
  generalize headF d = p at *
  obtain ⟨px, py⟩ := p
  simp only at b1 b2 b3 b4 e1 e2
  generalize nbV W H cell d = nbv at *
  generalize nbB W H cell d = nbb at *
  generalize nbF W H cell d = nbf at *
  generalize cell % W = r at *
  generalize cell / W = q at *
  have hy0 : -(1 * 10) ≤ (q + py) * W ∧ (q + py) * W ≤ 100 * 10 := by
    have m1 := mul_bd (show 0 ≤ q by omega) (show q ≤ 99 by omega) (show 0 ≤ W by omega) w2
    have m2 := mul_bd (show 0 ≤ py + 1 by omega) (show py + 1 ≤ 2 by omega) (show 0 ≤ W by omega) w2
    rw [Int.add_mul, Int.one_mul] at m2
    rw [Int.add_mul]
    have m3 : py * W ≤ 10 := by
      rcases (show py = -1 ∨ py = 0 ∨ py = 1 by omega) with e | e | e <;> rw [e] <;> omega
    omega
  have q1 : IntKind.i64.wrap (r + px) = r + px := IntWalk.i64_in _ (by omega)
  have q2 : IntKind.i64.wrap (q + py) = q + py := IntWalk.i64_in _ (by omega)
  have q3 : IntKind.i64.wrap q = q := IntWalk.i64_in _ (by omega)
  have hyl : (q + py) * W ≤ 1000 := by omega
  have hyg : -10 ≤ (q + py) * W := by omega
  have E1 := Lib.hid e1
  have E2 := Lib.hid e2
  have E3 := Lib.hid e3
  have HB := Lib.hid (show ∀ o, Below w.heap.size w (w.alloc o) from fun o => (Below.refl _ _).alloc (Nat.le_refl _) o)
  clear e1 e2 e3 hcb hy0 c2
  cases hw1 : withinB (r + px) 0 (W - 1) with
  | true =>
    cases hw2 : withinB (q + py) 0 (H - 1) with
    | true =>
      rw [hw1, hw2] at E2
      go_enter Try.func58, Try.ntmps58
      go_wp2_with fail
      refine (HH.out _).mono ?_
      rintro e w2 ⟨rfl, hb2⟩
      have x0 : w2.cell? ⟨w.heap.size, 0, none⟩ = some (.int .i64 W) := (hb2.cell (p := ⟨w.heap.size, 0, none⟩) (by simp)).trans (cell_top _ _ _ rfl rfl)
      have x1 : w2.cell? ⟨w.heap.size, 1, none⟩ = some (.int .i64 H) := (hb2.cell (p := ⟨w.heap.size, 1, none⟩) (by simp)).trans (cell_top _ _ _ rfl rfl)
      have hs2 : w.heap.size < w2.heap.size := by have := hb2.size; simp at this; omega
      have hbw2 : Below w.heap.size w w2 := (HB.out _).trans (hb2.mono (HB.out _).size)
      unfold headV
      simp only
      go_wp2_with fail
      obtain ⟨w3, hw3⟩ : ∃ w3, w3 = w2.alloc (.cells #[.int .i64 px, .int .i64 py] 91) := ⟨_, rfl⟩
      rw [← hw3]
      have y0 : w3.cell? ⟨w.heap.size, 0, none⟩ = some (.int .i64 W) := by rw [hw3]; exact cell_under _ _ hs2 x0
      have y1 : w3.cell? ⟨w.heap.size, 1, none⟩ = some (.int .i64 H) := by rw [hw3]; exact cell_under _ _ hs2 x1
      have z0 : w3.cell? ⟨w2.heap.size, 0, none⟩ = some (.int .i64 px) := by rw [hw3]; exact cell_top _ _ _ rfl rfl
      have z1 : w3.cell? ⟨w2.heap.size, 1, none⟩ = some (.int .i64 py) := by rw [hw3]; exact cell_top _ _ _ rfl rfl
      have HB3 := Lib.hid (show Below w.heap.size w w3 by rw [hw3]; exact hbw2.alloc (by omega) _)
      clear hw3 x0 x1 hb2 hbw2
      go_quiet (fail)
      clear t1 t2
      go_wp2_with (go_at_call 50; refine (within_any _ _ _ _).mono ?_; rintro e w' ⟨rfl, rfl⟩)
      go_ret
      exact ⟨ret_int (by rw [E1.out, E2.out]; rfl), (below_drewN HB3.out _)⟩
    | false =>
      rw [hw1, hw2] at E2
      go_enter Try.func58, Try.ntmps58
      go_wp2_with fail
      refine (HH.out _).mono ?_
      rintro e w2 ⟨rfl, hb2⟩
      have x0 : w2.cell? ⟨w.heap.size, 0, none⟩ = some (.int .i64 W) := (hb2.cell (p := ⟨w.heap.size, 0, none⟩) (by simp)).trans (cell_top _ _ _ rfl rfl)
      have x1 : w2.cell? ⟨w.heap.size, 1, none⟩ = some (.int .i64 H) := (hb2.cell (p := ⟨w.heap.size, 1, none⟩) (by simp)).trans (cell_top _ _ _ rfl rfl)
      have hs2 : w.heap.size < w2.heap.size := by have := hb2.size; simp at this; omega
      have hbw2 : Below w.heap.size w w2 := (HB.out _).trans (hb2.mono (HB.out _).size)
      unfold headV
      simp only
      go_wp2_with fail
      obtain ⟨w3, hw3⟩ : ∃ w3, w3 = w2.alloc (.cells #[.int .i64 px, .int .i64 py] 91) := ⟨_, rfl⟩
      rw [← hw3]
      have y0 : w3.cell? ⟨w.heap.size, 0, none⟩ = some (.int .i64 W) := by rw [hw3]; exact cell_under _ _ hs2 x0
      have y1 : w3.cell? ⟨w.heap.size, 1, none⟩ = some (.int .i64 H) := by rw [hw3]; exact cell_under _ _ hs2 x1
      have z0 : w3.cell? ⟨w2.heap.size, 0, none⟩ = some (.int .i64 px) := by rw [hw3]; exact cell_top _ _ _ rfl rfl
      have z1 : w3.cell? ⟨w2.heap.size, 1, none⟩ = some (.int .i64 py) := by rw [hw3]; exact cell_top _ _ _ rfl rfl
      have HB3 := Lib.hid (show Below w.heap.size w w3 by rw [hw3]; exact hbw2.alloc (by omega) _)
      clear hw3 x0 x1 hb2 hbw2
      go_quiet (fail)
      clear t1 t2
      go_wp2_with (go_at_call 50; refine (within_any _ _ _ _).mono ?_; rintro e w' ⟨rfl, rfl⟩)
      go_ret
      exact ⟨ret_int (by rw [E1.out, E2.out]; rfl), (below_drewN HB3.out _)⟩
  | false =>
    rw [hw1] at E2
    go_enter Try.func58, Try.ntmps58
    go_wp2_with fail
    refine (HH.out _).mono ?_
    rintro e w2 ⟨rfl, hb2⟩
    have x0 : w2.cell? ⟨w.heap.size, 0, none⟩ = some (.int .i64 W) := (hb2.cell (p := ⟨w.heap.size, 0, none⟩) (by simp)).trans (cell_top _ _ _ rfl rfl)
    have x1 : w2.cell? ⟨w.heap.size, 1, none⟩ = some (.int .i64 H) := (hb2.cell (p := ⟨w.heap.size, 1, none⟩) (by simp)).trans (cell_top _ _ _ rfl rfl)
    have hs2 : w.heap.size < w2.heap.size := by have := hb2.size; simp at this; omega
    have hbw2 : Below w.heap.size w w2 := (HB.out _).trans (hb2.mono (HB.out _).size)
    unfold headV
    simp only
    go_wp2_with fail
    obtain ⟨w3, hw3⟩ : ∃ w3, w3 = w2.alloc (.cells #[.int .i64 px, .int .i64 py] 91) := ⟨_, rfl⟩
    rw [← hw3]
    have y0 : w3.cell? ⟨w.heap.size, 0, none⟩ = some (.int .i64 W) := by rw [hw3]; exact cell_under _ _ hs2 x0
    have y1 : w3.cell? ⟨w.heap.size, 1, none⟩ = some (.int .i64 H) := by rw [hw3]; exact cell_under _ _ hs2 x1
    have z0 : w3.cell? ⟨w2.heap.size, 0, none⟩ = some (.int .i64 px) := by rw [hw3]; exact cell_top _ _ _ rfl rfl
    have z1 : w3.cell? ⟨w2.heap.size, 1, none⟩ = some (.int .i64 py) := by rw [hw3]; exact cell_top _ _ _ rfl rfl
    have HB3 := Lib.hid (show Below w.heap.size w w3 by rw [hw3]; exact hbw2.alloc (by omega) _)
    clear hw3 x0 x1 hb2 hbw2
    go_quiet (fail)
    clear t1 t2
    go_wp2_with (go_at_call 50; refine (within_any _ _ _ _).mono ?_; rintro e w' ⟨rfl, rfl⟩)
    go_ret
    exact ⟨ret_int (by rw [E1.out, E2.out]; rfl), (below_drewN HB3.out _)⟩
theorem specNb_any (W H : Int) (A : Option Addr) (n c : Nat) (cell d : Int) (w1 : 1 ≤ W) (w2 : W ≤ 10) (h1 : 1 ≤ H) (h2 : H ≤ 10) (c1 : 0 ≤ cell) (c2 : cell < W * H) (d1 : 0 ≤ d) (d2 : d ≤ 7) (w : World) :
    Calls Try.prog 56 #[.agg #[.int .i64 W, .int .i64 H, .slice A n c], .int .i64 cell, .int .i64 d] w fun e w' => e = .returned (.tuple #[.int .i64 (nbV W H cell d), .bool (nbB W H cell d)]) ∧ Below w.heap.size w w' := by
  have HH := Lib.hid (fun w => specHead_any d d1 d2 w)
  obtain ⟨b1, b2, b3, b4⟩ := headF_bd d
  have hcb := mul_bd (show 0 ≤ W by omega) w2 (show 0 ≤ H by omega) h2
  have hc99 : cell ≤ 99 := by omega
  have e1 : nbF W H cell d = if nbB W H cell d = true then (cell / W + (headF d).2) * W + (cell % W + (headF d).1) else -1 := rfl
  have e2 : nbB W H cell d = (withinB (cell % W + (headF d).1) 0 (W - 1) && withinB (cell / W + (headF d).2) 0 (H - 1)) := rfl
  have e3 : nbV W H cell d = if nbB W H cell d = true then nbF W H cell d else 0 := rfl
  have r1 := Int.emod_nonneg cell (show W ≠ 0 by omega)
  have r2 := Int.emod_lt_of_pos cell (show 0 < W by omega)
  have r3 := Int.ediv_nonneg c1 (show 0 ≤ W by omega)
  have r4 := Int.ediv_le_self W c1
  have t1 : cell.tmod W = cell % W := Int.tmod_eq_emod_of_nonneg c1
  have t2 : cell.tdiv W = cell / W := Int.tdiv_eq_ediv_of_nonneg c1
  generalize headF d = p at *
  obtain ⟨px, py⟩ := p
  simp only at b1 b2 b3 b4 e1 e2
  generalize nbV W H cell d = nbv at *
  generalize nbB W H cell d = nbb at *
  generalize nbF W H cell d = nbf at *
  generalize cell % W = r at *
  generalize cell / W = q at *
  have hy0 : -(1 * 10) ≤ (q + py) * W ∧ (q + py) * W ≤ 100 * 10 := by
    have m1 := mul_bd (show 0 ≤ q by omega) (show q ≤ 99 by omega) (show 0 ≤ W by omega) w2
    have m2 := mul_bd (show 0 ≤ py + 1 by omega) (show py + 1 ≤ 2 by omega) (show 0 ≤ W by omega) w2
    rw [Int.add_mul, Int.one_mul] at m2
    rw [Int.add_mul]
    have m3 : py * W ≤ 10 := by
      rcases (show py = -1 ∨ py = 0 ∨ py = 1 by omega) with e | e | e <;> rw [e] <;> omega
    omega
  have q1 : IntKind.i64.wrap (r + px) = r + px := IntWalk.i64_in _ (by omega)
  have q2 : IntKind.i64.wrap (q + py) = q + py := IntWalk.i64_in _ (by omega)
  have q3 : IntKind.i64.wrap q = q := IntWalk.i64_in _ (by omega)
  have hyl : (q + py) * W ≤ 1000 := by omega
  have hyg : -10 ≤ (q + py) * W := by omega
  have E1 := Lib.hid e1
  have E2 := Lib.hid e2
  have E3 := Lib.hid e3
  have HB := Lib.hid (show ∀ o, Below w.heap.size w (w.alloc o) from fun o => (Below.refl _ _).alloc (Nat.le_refl _) o)
  clear e1 e2 e3 hcb hy0 c2
  cases hw1 : withinB (r + px) 0 (W - 1) with
  | true =>
    cases hw2 : withinB (q + py) 0 (H - 1) with
    | true =>
      rw [hw1, hw2] at E2
      go_enter Try.func56, Try.ntmps56
      go_wp2_with fail
      refine (HH.out _).mono ?_
      rintro e w2 ⟨rfl, hb2⟩
      have x0 : w2.cell? ⟨w.heap.size, 0, none⟩ = some (.int .i64 W) := (hb2.cell (p := ⟨w.heap.size, 0, none⟩) (by simp)).trans (cell_top _ _ _ rfl rfl)
      have x1 : w2.cell? ⟨w.heap.size, 1, none⟩ = some (.int .i64 H) := (hb2.cell (p := ⟨w.heap.size, 1, none⟩) (by simp)).trans (cell_top _ _ _ rfl rfl)
      have hs2 : w.heap.size < w2.heap.size := by have := hb2.size; simp at this; omega
      have hbw2 : Below w.heap.size w w2 := (HB.out _).trans (hb2.mono (HB.out _).size)
      unfold headV
      simp only
      go_wp2_with fail
      obtain ⟨w3, hw3⟩ : ∃ w3, w3 = w2.alloc (.cells #[.int .i64 px, .int .i64 py] 91) := ⟨_, rfl⟩
      rw [← hw3]
      have y0 : w3.cell? ⟨w.heap.size, 0, none⟩ = some (.int .i64 W) := by rw [hw3]; exact cell_under _ _ hs2 x0
      have y1 : w3.cell? ⟨w.heap.size, 1, none⟩ = some (.int .i64 H) := by rw [hw3]; exact cell_under _ _ hs2 x1
      have z0 : w3.cell? ⟨w2.heap.size, 0, none⟩ = some (.int .i64 px) := by rw [hw3]; exact cell_top _ _ _ rfl rfl
      have z1 : w3.cell? ⟨w2.heap.size, 1, none⟩ = some (.int .i64 py) := by rw [hw3]; exact cell_top _ _ _ rfl rfl
      have HB3 := Lib.hid (show Below w.heap.size w w3 by rw [hw3]; exact hbw2.alloc (by omega) _)
      clear hw3 x0 x1 hb2 hbw2
      go_quiet (fail)
      clear t1 t2
      go_wp2_with (go_at_call 47; refine (l01In_any _ _ _ _).mono ?_; rintro e w' ⟨rfl, rfl⟩)
      go_ret2
      refine ⟨?_, (below_drewN HB3.out _)⟩
      rw [E3.out, E1.out, E2.out]; rfl
    | false =>
      rw [hw1, hw2] at E2
      go_enter Try.func56, Try.ntmps56
      go_wp2_with fail
      refine (HH.out _).mono ?_
      rintro e w2 ⟨rfl, hb2⟩
      have x0 : w2.cell? ⟨w.heap.size, 0, none⟩ = some (.int .i64 W) := (hb2.cell (p := ⟨w.heap.size, 0, none⟩) (by simp)).trans (cell_top _ _ _ rfl rfl)
      have x1 : w2.cell? ⟨w.heap.size, 1, none⟩ = some (.int .i64 H) := (hb2.cell (p := ⟨w.heap.size, 1, none⟩) (by simp)).trans (cell_top _ _ _ rfl rfl)
      have hs2 : w.heap.size < w2.heap.size := by have := hb2.size; simp at this; omega
      have hbw2 : Below w.heap.size w w2 := (HB.out _).trans (hb2.mono (HB.out _).size)
      unfold headV
      simp only
      go_wp2_with fail
      obtain ⟨w3, hw3⟩ : ∃ w3, w3 = w2.alloc (.cells #[.int .i64 px, .int .i64 py] 91) := ⟨_, rfl⟩
      rw [← hw3]
      have y0 : w3.cell? ⟨w.heap.size, 0, none⟩ = some (.int .i64 W) := by rw [hw3]; exact cell_under _ _ hs2 x0
      have y1 : w3.cell? ⟨w.heap.size, 1, none⟩ = some (.int .i64 H) := by rw [hw3]; exact cell_under _ _ hs2 x1
      have z0 : w3.cell? ⟨w2.heap.size, 0, none⟩ = some (.int .i64 px) := by rw [hw3]; exact cell_top _ _ _ rfl rfl
      have z1 : w3.cell? ⟨w2.heap.size, 1, none⟩ = some (.int .i64 py) := by rw [hw3]; exact cell_top _ _ _ rfl rfl
      have HB3 := Lib.hid (show Below w.heap.size w w3 by rw [hw3]; exact hbw2.alloc (by omega) _)
      clear hw3 x0 x1 hb2 hbw2
      go_quiet (fail)
      clear t1 t2
      go_wp2_with (go_at_call 47; refine (l01In_any _ _ _ _).mono ?_; rintro e w' ⟨rfl, rfl⟩)
      go_ret2
      refine ⟨?_, (below_drewN HB3.out _)⟩
      rw [E3.out, E2.out]; rfl
  | false =>
    rw [hw1] at E2
    go_enter Try.func56, Try.ntmps56
    go_wp2_with fail
    refine (HH.out _).mono ?_
    rintro e w2 ⟨rfl, hb2⟩
    have x0 : w2.cell? ⟨w.heap.size, 0, none⟩ = some (.int .i64 W) := (hb2.cell (p := ⟨w.heap.size, 0, none⟩) (by simp)).trans (cell_top _ _ _ rfl rfl)
    have x1 : w2.cell? ⟨w.heap.size, 1, none⟩ = some (.int .i64 H) := (hb2.cell (p := ⟨w.heap.size, 1, none⟩) (by simp)).trans (cell_top _ _ _ rfl rfl)
    have hs2 : w.heap.size < w2.heap.size := by have := hb2.size; simp at this; omega
    have hbw2 : Below w.heap.size w w2 := (HB.out _).trans (hb2.mono (HB.out _).size)
    unfold headV
    simp only
    go_wp2_with fail
    obtain ⟨w3, hw3⟩ : ∃ w3, w3 = w2.alloc (.cells #[.int .i64 px, .int .i64 py] 91) := ⟨_, rfl⟩
    rw [← hw3]
    have y0 : w3.cell? ⟨w.heap.size, 0, none⟩ = some (.int .i64 W) := by rw [hw3]; exact cell_under _ _ hs2 x0
    have y1 : w3.cell? ⟨w.heap.size, 1, none⟩ = some (.int .i64 H) := by rw [hw3]; exact cell_under _ _ hs2 x1
    have z0 : w3.cell? ⟨w2.heap.size, 0, none⟩ = some (.int .i64 px) := by rw [hw3]; exact cell_top _ _ _ rfl rfl
    have z1 : w3.cell? ⟨w2.heap.size, 1, none⟩ = some (.int .i64 py) := by rw [hw3]; exact cell_top _ _ _ rfl rfl
    have HB3 := Lib.hid (show Below w.heap.size w w3 by rw [hw3]; exact hbw2.alloc (by omega) _)
    clear hw3 x0 x1 hb2 hbw2
    go_quiet (fail)
    clear t1 t2
    go_wp2_with (go_at_call 47; refine (l01In_any _ _ _ _).mono ?_; rintro e w' ⟨rfl, rfl⟩)
    go_ret2
    refine ⟨?_, (below_drewN HB3.out _)⟩
    rw [E3.out, E2.out]; rfl
end Go.Proofs.Ytpaamhkgokkgpaa

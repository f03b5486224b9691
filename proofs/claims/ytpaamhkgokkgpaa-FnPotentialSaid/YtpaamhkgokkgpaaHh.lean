/- Walks: FastestRoute of the laws (chapter 32). -/
import Derived.Test.YtpaamhkgokkgpaaHd
import Derived.Test.YtpaamhkgokkgpaaHg
import Derived.Test.YtpaamhkgokkgpaaWz
import Derived.Test.YtpaamhkgokkgpaaGi
import Derived.Deep.LoopGhost
import Derived.Outline
namespace Go.Proofs.Ytpaamhkgokkgpaa
open Go.RowKit
set_option linter.unusedVariables false
set_option maxRecDepth 100000

set_option maxHeartbeats 4000000 in
theorem specFastR_any (W H : Int) (A : Option Addr) (n c : Nat) (xs : List (Int × Int)) (cell tgt : Int) (w : World) (h : Rd w 2 A n (winds xs)) :
    Calls Try.prog 41 #[.agg #[.int .i64 W, .int .i64 H, .slice A n c], .int .i64 cell, .int .i64 tgt] w (RetSail w (fastRF W H xs cell tgt)) := by
  have hlx := h.len_wind
  have HG := Lib.hid (fun w' (hb : Below w.heap.size w w') => specIsWindGrid_any W H A n c xs w' (h.below hb))
  unfold fastRF
  cases hgb : gridB W H xs with
  | false =>
    rw [hgb] at HG
    have hz : gcodeF W H xs cell = 1 := by unfold gcodeF; rw [hgb]; simp
    rw [hz, if_neg (by decide)]
    clear hz h hgb hlx
    go_enter Try.func41, Try.ntmps41
    go_wp2_with fail
    obtain ⟨wb, hwb⟩ : ∃ wb, wb = w.alloc (.cells #[.int .i64 W, .int .i64 H, .slice A n c] 29) := ⟨_, rfl⟩
    rw [← hwb]
    have hb0 : Below w.heap.size w wb := by rw [hwb]; exact (Below.refl _ _).alloc (Nat.le_refl _) _
    have x0 : wb.cell? ⟨w.heap.size, 0, none⟩ = some (.int .i64 W) := by rw [hwb]; exact cell_top _ _ _ rfl rfl
    have x1 : wb.cell? ⟨w.heap.size, 1, none⟩ = some (.int .i64 H) := by rw [hwb]; exact cell_top _ _ _ rfl rfl
    have x2 : wb.cell? ⟨w.heap.size, 2, none⟩ = some (.slice A n c) := by rw [hwb]; exact cell_top _ _ _ rfl rfl
    have HSW := Lib.hid (show w.heap.size + 1 = wb.heap.size by rw [hwb]; simp)
    clear hwb
    try rw [HSW.out]
    obtain ⟨g0, hg0⟩ : ∃ g, g = wb.heap.size := ⟨_, rfl⟩
    have hoe := own_empty wb wb.heap.size 2 (Nat.le_refl _)
    have hbe : Below wb.heap.size wb (wb.alloc (.cells #[] 2)) := (Below.refl _ _).alloc (Nat.le_refl _) _
    have hse : g0 < (wb.alloc (.cells #[] 2)).heap.size := by rw [hg0]; simp
    rw [← hg0] at hoe
    generalize wb.alloc (.cells #[] 2) = we at *
    try rw [← hg0]
    have BE := Lib.hid (hb0.trans (hbe.mono hb0.size))
    have hwg : w.heap.size < g0 := by rw [hg0, ← HSW.out]; omega
    have HO0 := Lib.hid hoe
    have BG0 := Lib.hid (Below.refl g0 we)
    replace x0 := Keeps.below hbe _ _ x0
    replace x1 := Keeps.below hbe _ _ x1
    replace x2 := Keeps.below hbe _ _ x2
    have HXE := Lib.hid (show ∀ w', Below g0 we w' → w'.cell? ⟨w.heap.size, 0, none⟩ = some (.int .i64 W) ∧ w'.cell? ⟨w.heap.size, 1, none⟩ = some (.int .i64 H) ∧ w'.cell? ⟨w.heap.size, 2, none⟩ = some (.slice A n c) from fun w' hb => ⟨(hb.cell (p := ⟨w.heap.size, 0, none⟩) hwg).trans x0, (hb.cell (p := ⟨w.heap.size, 1, none⟩) hwg).trans x1, (hb.cell (p := ⟨w.heap.size, 2, none⟩) hwg).trans x2⟩)
    clear hoe hbe hb0 hg0
    refine (HG.out _ BE.out).mono ?_
    rintro e w2 ⟨rfl, hb2⟩
    replace x0 := Keeps.below hb2 _ _ x0
    replace x1 := Keeps.below hb2 _ _ x1
    replace x2 := Keeps.below hb2 _ _ x2
    have B2 := Lib.hid (BE.out.trans (hb2.mono BE.out.size))
    have HO2 := Lib.hid (own_below HO0.out hb2)
    have BG2 := Lib.hid (BG0.out.trans (hb2.mono (Nat.le_of_lt hse)))
    have hs2 := hb2.size
    clear hb2
    go_wp2_with fail
    refine bodyPost_ret (results_tmp3 rfl _ _ _) rfl ?_
    exact ⟨_, 0, 0, rfl, own_base HO2.out (Nat.le_of_lt hwg), by omega, B2.out⟩
  | true =>
    have hk := gridB_ok hgb
    rw [hgb] at HG
    have HC := Lib.hid (fun w => l32Cell_any W H A n c xs cell w hk)
    have HC2 := Lib.hid (fun w => l32Cell_any W H A n c xs tgt w hk)
    cases hcb : withinB cell 0 ((xs.length : Int) - 1) with
    | false =>
      rw [hcb] at HC
      have hz : gcodeF W H xs cell = 4 := by unfold gcodeF; rw [hgb, hcb]; simp
      rw [hz, if_neg (by decide)]
      clear hz h hgb hk hcb hlx
      go_enter Try.func41, Try.ntmps41
      go_wp2_with fail
      obtain ⟨wb, hwb⟩ : ∃ wb, wb = w.alloc (.cells #[.int .i64 W, .int .i64 H, .slice A n c] 29) := ⟨_, rfl⟩
      rw [← hwb]
      have hb0 : Below w.heap.size w wb := by rw [hwb]; exact (Below.refl _ _).alloc (Nat.le_refl _) _
      have x0 : wb.cell? ⟨w.heap.size, 0, none⟩ = some (.int .i64 W) := by rw [hwb]; exact cell_top _ _ _ rfl rfl
      have x1 : wb.cell? ⟨w.heap.size, 1, none⟩ = some (.int .i64 H) := by rw [hwb]; exact cell_top _ _ _ rfl rfl
      have x2 : wb.cell? ⟨w.heap.size, 2, none⟩ = some (.slice A n c) := by rw [hwb]; exact cell_top _ _ _ rfl rfl
      have HSW := Lib.hid (show w.heap.size + 1 = wb.heap.size by rw [hwb]; simp)
      clear hwb
      try rw [HSW.out]
      obtain ⟨g0, hg0⟩ : ∃ g, g = wb.heap.size := ⟨_, rfl⟩
      have hoe := own_empty wb wb.heap.size 2 (Nat.le_refl _)
      have hbe : Below wb.heap.size wb (wb.alloc (.cells #[] 2)) := (Below.refl _ _).alloc (Nat.le_refl _) _
      have hse : g0 < (wb.alloc (.cells #[] 2)).heap.size := by rw [hg0]; simp
      rw [← hg0] at hoe
      generalize wb.alloc (.cells #[] 2) = we at *
      try rw [← hg0]
      have BE := Lib.hid (hb0.trans (hbe.mono hb0.size))
      have hwg : w.heap.size < g0 := by rw [hg0, ← HSW.out]; omega
      have HO0 := Lib.hid hoe
      have BG0 := Lib.hid (Below.refl g0 we)
      replace x0 := Keeps.below hbe _ _ x0
      replace x1 := Keeps.below hbe _ _ x1
      replace x2 := Keeps.below hbe _ _ x2
      have HXE := Lib.hid (show ∀ w', Below g0 we w' → w'.cell? ⟨w.heap.size, 0, none⟩ = some (.int .i64 W) ∧ w'.cell? ⟨w.heap.size, 1, none⟩ = some (.int .i64 H) ∧ w'.cell? ⟨w.heap.size, 2, none⟩ = some (.slice A n c) from fun w' hb => ⟨(hb.cell (p := ⟨w.heap.size, 0, none⟩) hwg).trans x0, (hb.cell (p := ⟨w.heap.size, 1, none⟩) hwg).trans x1, (hb.cell (p := ⟨w.heap.size, 2, none⟩) hwg).trans x2⟩)
      clear hoe hbe hb0 hg0
      refine (HG.out _ BE.out).mono ?_
      rintro e w2 ⟨rfl, hb2⟩
      replace x0 := Keeps.below hb2 _ _ x0
      replace x1 := Keeps.below hb2 _ _ x1
      replace x2 := Keeps.below hb2 _ _ x2
      have B2 := Lib.hid (BE.out.trans (hb2.mono BE.out.size))
      have HO2 := Lib.hid (own_below HO0.out hb2)
      have BG2 := Lib.hid (BG0.out.trans (hb2.mono (Nat.le_of_lt hse)))
      have hs2 := hb2.size
      clear hb2
      go_wp2_with fail
      refine (HC.out _).mono ?_
      rintro e w3 ⟨rfl, hb3⟩
      replace x0 := Keeps.below hb3 _ _ x0
      replace x1 := Keeps.below hb3 _ _ x1
      replace x2 := Keeps.below hb3 _ _ x2
      have B3 := Lib.hid (B2.out.trans (hb3.mono B2.out.size))
      have HO3 := Lib.hid (own_below HO2.out hb3)
      have BG3 := Lib.hid (BG2.out.trans (hb3.mono (by omega)))
      have hs3 := hb3.size
      clear hb3
      go_wp2_with fail
      refine bodyPost_ret (results_tmp3 rfl _ _ _) rfl ?_
      exact ⟨_, 0, 0, rfl, own_base HO3.out (Nat.le_of_lt hwg), by omega, B3.out⟩
    | true =>
      have hz : gcodeF W H xs cell = 0 := by unfold gcodeF; rw [hgb, hcb]; rfl
      obtain ⟨hg, c1, c2'⟩ := gcode_ok hz
      rw [hcb] at HC
      rw [if_pos hz]
      obtain ⟨s, rfl⟩ := int_up cell c1
      have hus : s < n := by have := hg.len; omega
      cases hw : withinB tgt 0 ((xs.length : Int) - 1) with
      | false =>
        rw [hw] at HC2
        simp only [Bool.false_eq_true, if_false]
        clear hz hg c1 c2' h hlx hw hgb hk hcb
        go_enter Try.func41, Try.ntmps41
        go_wp2_with fail
        obtain ⟨wb, hwb⟩ : ∃ wb, wb = w.alloc (.cells #[.int .i64 W, .int .i64 H, .slice A n c] 29) := ⟨_, rfl⟩
        rw [← hwb]
        have hb0 : Below w.heap.size w wb := by rw [hwb]; exact (Below.refl _ _).alloc (Nat.le_refl _) _
        have x0 : wb.cell? ⟨w.heap.size, 0, none⟩ = some (.int .i64 W) := by rw [hwb]; exact cell_top _ _ _ rfl rfl
        have x1 : wb.cell? ⟨w.heap.size, 1, none⟩ = some (.int .i64 H) := by rw [hwb]; exact cell_top _ _ _ rfl rfl
        have x2 : wb.cell? ⟨w.heap.size, 2, none⟩ = some (.slice A n c) := by rw [hwb]; exact cell_top _ _ _ rfl rfl
        have HSW := Lib.hid (show w.heap.size + 1 = wb.heap.size by rw [hwb]; simp)
        clear hwb
        try rw [HSW.out]
        obtain ⟨g0, hg0⟩ : ∃ g, g = wb.heap.size := ⟨_, rfl⟩
        have hoe := own_empty wb wb.heap.size 2 (Nat.le_refl _)
        have hbe : Below wb.heap.size wb (wb.alloc (.cells #[] 2)) := (Below.refl _ _).alloc (Nat.le_refl _) _
        have hse : g0 < (wb.alloc (.cells #[] 2)).heap.size := by rw [hg0]; simp
        rw [← hg0] at hoe
        generalize wb.alloc (.cells #[] 2) = we at *
        try rw [← hg0]
        have BE := Lib.hid (hb0.trans (hbe.mono hb0.size))
        have hwg : w.heap.size < g0 := by rw [hg0, ← HSW.out]; omega
        have HO0 := Lib.hid hoe
        have BG0 := Lib.hid (Below.refl g0 we)
        replace x0 := Keeps.below hbe _ _ x0
        replace x1 := Keeps.below hbe _ _ x1
        replace x2 := Keeps.below hbe _ _ x2
        have HXE := Lib.hid (show ∀ w', Below g0 we w' → w'.cell? ⟨w.heap.size, 0, none⟩ = some (.int .i64 W) ∧ w'.cell? ⟨w.heap.size, 1, none⟩ = some (.int .i64 H) ∧ w'.cell? ⟨w.heap.size, 2, none⟩ = some (.slice A n c) from fun w' hb => ⟨(hb.cell (p := ⟨w.heap.size, 0, none⟩) hwg).trans x0, (hb.cell (p := ⟨w.heap.size, 1, none⟩) hwg).trans x1, (hb.cell (p := ⟨w.heap.size, 2, none⟩) hwg).trans x2⟩)
        clear hoe hbe hb0 hg0
        refine (HG.out _ BE.out).mono ?_
        rintro e w2 ⟨rfl, hb2⟩
        replace x0 := Keeps.below hb2 _ _ x0
        replace x1 := Keeps.below hb2 _ _ x1
        replace x2 := Keeps.below hb2 _ _ x2
        have B2 := Lib.hid (BE.out.trans (hb2.mono BE.out.size))
        have HO2 := Lib.hid (own_below HO0.out hb2)
        have BG2 := Lib.hid (BG0.out.trans (hb2.mono (Nat.le_of_lt hse)))
        have hs2 := hb2.size
        clear hb2
        go_wp2_with fail
        refine (HC.out _).mono ?_
        rintro e w3 ⟨rfl, hb3⟩
        replace x0 := Keeps.below hb3 _ _ x0
        replace x1 := Keeps.below hb3 _ _ x1
        replace x2 := Keeps.below hb3 _ _ x2
        have B3 := Lib.hid (B2.out.trans (hb3.mono B2.out.size))
        have HO3 := Lib.hid (own_below HO2.out hb3)
        have BG3 := Lib.hid (BG2.out.trans (hb3.mono (by omega)))
        have hs3 := hb3.size
        clear hb3
        go_wp2_with fail
        refine (HC2.out _).mono ?_
        rintro e w4 ⟨rfl, hb4⟩
        replace x0 := Keeps.below hb4 _ _ x0
        replace x1 := Keeps.below hb4 _ _ x1
        replace x2 := Keeps.below hb4 _ _ x2
        have B4 := Lib.hid (B3.out.trans (hb4.mono B3.out.size))
        have HO4 := Lib.hid (own_below HO3.out hb4)
        have BG4 := Lib.hid (BG3.out.trans (hb4.mono (by omega)))
        have hs4 := hb4.size
        clear hb4
        go_wp2_with fail
        refine bodyPost_ret (results_tmp3 rfl _ _ _) rfl ?_
        exact ⟨_, 0, 0, rfl, own_base HO4.out (Nat.le_of_lt hwg), by omega, B4.out⟩
      | true =>
        rw [hw] at HC2
        obtain ⟨t1, t2⟩ := withinB_iff.1 hw
        obtain ⟨tg, rfl⟩ := int_up tgt t1
        have htg : tg < n := by omega
        have hn100 : n ≤ 100 := by
          have h1 := hg.len
          have h2 := mul_bd (show 0 ≤ W by have := hg.w1; omega) hg.w2 (show 0 ≤ H by have := hg.h1; omega) hg.h2
          omega
        simp only [if_true, Int.toNat_natCast]
        have HF := Lib.hid (fun w' (hb : Below w.heap.size w w') => specTimes_any W H A n c xs tg true hg htg w' (h.below hb))
        have hcapL := timesB_cap hg true (s := tg) (by omega)
        have hleft := left_of hg (tg := tg) (by omega)
        rw [hlx] at hcapL hleft
        have hLlen := hcapL.len
        generalize timesB true W H xs tg = L at *
        have HLEFT := Lib.hid hleft
        have HCAPL := Lib.hid hcapL
        have HMT := Lib.hid (fun c' d (g1 : 0 ≤ c') (g2 : c' < W * H) (d1 : 0 ≤ d) (d2 : d ≤ 7) w' (hb : Below w.heap.size w w') => l32Time_any W H A n c xs c' d hg g1 g2 d1 d2 w' (h.below hb))
        have HNB := Lib.hid (fun c' d (g1 : 0 ≤ c') (g2 : c' < W * H) (d1 : 0 ≤ d) (d2 : d ≤ 7) w' => specNb_any W H A n c c' d hg.w1 hg.w2 hg.h1 hg.h2 g1 g2 d1 d2 w')
        have HBD := Lib.hid (fun c' d (g1 : 0 ≤ c') (g2 : c' < W * H) hh => moveF_bd (d := d) hg hh g1 g2)
        have HCL := Lib.hid (fun c' d (hh : moveB W H xs c' d = true) => nb_cell (cell := c') (d := d) hg.w1 hg.h1 (moveB_nb hh))
        have HMV := Lib.hid (show ∀ c' d, moveV W H xs c' d = if moveB W H xs c' d = true then takeF xs c' d else 0 from fun _ _ => rfl)
        have HNV := Lib.hid (show ∀ c' d, moveB W H xs c' d = true → nbV W H c' d = nbF W H c' d ∧ nbB W H c' d = true from fun c' d hh => ⟨by unfold nbV; rw [if_pos (moveB_nb hh)], moveB_nb hh⟩)
        have hNm : W * H = n := by have := hg.len; omega
        rw [hNm] at HMT HNB HBD HCL
        have HLL := Lib.hid hLlen
        have hLlen := HLL.out
        generalize hrr : (if tm L s < 0 then (([] : List Int), (0 : Int), (5 : Int)) else (pathF W H xs L tg (tm L s).toNat s, tm L s, 0)) = rr
        have HRR := Lib.hid hrr
        clear hz hg c1 c2' h hlx hw t1 t2 hNm hleft hcapL hrr hgb hk hcb
        go_enter Try.func41, Try.ntmps41
        go_wp2_with fail
        obtain ⟨wb, hwb⟩ : ∃ wb, wb = w.alloc (.cells #[.int .i64 W, .int .i64 H, .slice A n c] 29) := ⟨_, rfl⟩
        rw [← hwb]
        have hb0 : Below w.heap.size w wb := by rw [hwb]; exact (Below.refl _ _).alloc (Nat.le_refl _) _
        have x0 : wb.cell? ⟨w.heap.size, 0, none⟩ = some (.int .i64 W) := by rw [hwb]; exact cell_top _ _ _ rfl rfl
        have x1 : wb.cell? ⟨w.heap.size, 1, none⟩ = some (.int .i64 H) := by rw [hwb]; exact cell_top _ _ _ rfl rfl
        have x2 : wb.cell? ⟨w.heap.size, 2, none⟩ = some (.slice A n c) := by rw [hwb]; exact cell_top _ _ _ rfl rfl
        have HSW := Lib.hid (show w.heap.size + 1 = wb.heap.size by rw [hwb]; simp)
        clear hwb
        try rw [HSW.out]
        obtain ⟨g0, hg0⟩ : ∃ g, g = wb.heap.size := ⟨_, rfl⟩
        have hoe := own_empty wb wb.heap.size 2 (Nat.le_refl _)
        have hbe : Below wb.heap.size wb (wb.alloc (.cells #[] 2)) := (Below.refl _ _).alloc (Nat.le_refl _) _
        have hse : g0 < (wb.alloc (.cells #[] 2)).heap.size := by rw [hg0]; simp
        rw [← hg0] at hoe
        generalize wb.alloc (.cells #[] 2) = we at *
        try rw [← hg0]
        have BE := Lib.hid (hb0.trans (hbe.mono hb0.size))
        have hwg : w.heap.size < g0 := by rw [hg0, ← HSW.out]; omega
        have HO0 := Lib.hid hoe
        have BG0 := Lib.hid (Below.refl g0 we)
        replace x0 := Keeps.below hbe _ _ x0
        replace x1 := Keeps.below hbe _ _ x1
        replace x2 := Keeps.below hbe _ _ x2
        have HXE := Lib.hid (show ∀ w', Below g0 we w' → w'.cell? ⟨w.heap.size, 0, none⟩ = some (.int .i64 W) ∧ w'.cell? ⟨w.heap.size, 1, none⟩ = some (.int .i64 H) ∧ w'.cell? ⟨w.heap.size, 2, none⟩ = some (.slice A n c) from fun w' hb => ⟨(hb.cell (p := ⟨w.heap.size, 0, none⟩) hwg).trans x0, (hb.cell (p := ⟨w.heap.size, 1, none⟩) hwg).trans x1, (hb.cell (p := ⟨w.heap.size, 2, none⟩) hwg).trans x2⟩)
        clear hoe hbe hb0 hg0
        refine (HG.out _ BE.out).mono ?_
        rintro e w2 ⟨rfl, hb2⟩
        replace x0 := Keeps.below hb2 _ _ x0
        replace x1 := Keeps.below hb2 _ _ x1
        replace x2 := Keeps.below hb2 _ _ x2
        have B2 := Lib.hid (BE.out.trans (hb2.mono BE.out.size))
        have HO2 := Lib.hid (own_below HO0.out hb2)
        have BG2 := Lib.hid (BG0.out.trans (hb2.mono (Nat.le_of_lt hse)))
        have hs2 := hb2.size
        clear hb2
        go_wp2_with fail
        refine (HC.out _).mono ?_
        rintro e w3 ⟨rfl, hb3⟩
        replace x0 := Keeps.below hb3 _ _ x0
        replace x1 := Keeps.below hb3 _ _ x1
        replace x2 := Keeps.below hb3 _ _ x2
        have B3 := Lib.hid (B2.out.trans (hb3.mono B2.out.size))
        have HO3 := Lib.hid (own_below HO2.out hb3)
        have BG3 := Lib.hid (BG2.out.trans (hb3.mono (by omega)))
        have hs3 := hb3.size
        clear hb3
        go_wp2_with fail
        refine (HC2.out _).mono ?_
        rintro e w4 ⟨rfl, hb4⟩
        replace x0 := Keeps.below hb4 _ _ x0
        replace x1 := Keeps.below hb4 _ _ x1
        replace x2 := Keeps.below hb4 _ _ x2
        have B4 := Lib.hid (B3.out.trans (hb4.mono B3.out.size))
        have HO4 := Lib.hid (own_below HO3.out hb4)
        have BG4 := Lib.hid (BG3.out.trans (hb4.mono (by omega)))
        have hs4 := hb4.size
        clear hb4
        go_wp2_with fail
        refine (HF.out _ B4.out).mono ?_
        rintro e wl ⟨A5, n5, c5, rfl, ho, hn5, hbl⟩
        replace x0 := Keeps.below hbl _ _ x0
        replace x1 := Keeps.below hbl _ _ x1
        replace x2 := Keeps.below hbl _ _ x2
        have hl5 := own_len ho
        rw [hLlen] at hl5
        obtain rfl : n = n5 := hl5
        have BL := Lib.hid (B4.out.trans (hbl.mono B4.out.size))
        have HOL := Lib.hid (own_below HO4.out hbl)
        obtain ⟨g5, p, rfl, hg5, hg5l, hp, hcp, _⟩ := own_int_at ho hus
        have h05 : g0 ≠ g5 := by omega
        have HL := Lib.hid (own_base ho (show g0 ≤ _ by omega))
        have hsl := hbl.size
        have BGL := Lib.hid (BG4.out.trans (hbl.mono (show g0 ≤ _ by omega)))
        clear ho hn5 hbl
        have htp := tm_get hp
        by_cases hp0 : p < 0
        · have HR5 := Lib.hid (show ([], 0, 5) = rr by rw [← HRR.out, if_pos (by rw [htp]; exact hp0)])
          clear htp hp hLlen
          go_wp2_with fail
          refine bodyPost_ret (results_tmp3 rfl _ _ _) rfl ?_
          rw [← HR5.out]
          exact ⟨_, 0, 0, rfl, own_base HOL.out (Nat.le_of_lt hwg), by omega, BL.out⟩
        · have hp1 : p ≤ 252000 := by rw [← htp]; exact HCAPL.out.bd hn100 s
          obtain ⟨q0, rfl⟩ := int_up p (by omega)
          have HR6 := Lib.hid (show (pathF W H xs L tg q0 s, (q0 : Int), 0) = rr by rw [← HRR.out, if_neg (by rw [htp]; exact hp0), htp, Int.toNat_natCast])
          have hq0 : q0 ≤ 252000 := by omega
          generalize hres : pathF W H xs L tg q0 s = res at HR6
          have HRES := Lib.hid hres
          have HTP := Lib.hid htp
          clear hres htp hp hLlen hp0
          go_wp2_with fail
          have hgl : g0 ≤ wl.heap.size := by omega
          go_loopg [9, 11] q0 (fun q s9 s11 wr => ∃ (cs : List Int) (g1 c1 m u : Nat), s9 = .slice (some ⟨g1, 0, none⟩) m c1 ∧ g1 ≠ g5 ∧ s11 = .int .i64 u ∧ u < n ∧ 0 ≤ tm L u ∧ tm L u ≤ q ∧ cs ++ pathF W H xs L tg q u = res ∧ wr.ownsRow g0 2 1 (.slice (some ⟨g1, 0, none⟩) m c1) m (ints cs) ∧ m + q ≤ 252000 ∧ wr.ownsRow g0 2 1 (.slice (some ⟨g5, 0, none⟩) n c5) n (ints L) ∧ Below g0 we wr ∧ wl.heap.size ≤ wr.heap.size)
          case atStart => exact ⟨[], g0, 0, 0, s, rfl, h05, rfl, hus, by rw [HTP.out]; omega, by rw [HTP.out]; omega, HRES.out, HOL.out, by omega, HL.out, BGL.out, Nat.le_refl _⟩
          case round =>
            clear HRES HOL HO0 HO2 HO3 HO4
            obtain ⟨cs, g1, c1, m, u, rfl, h15, rfl, hu, hu0, hu1, hR, ho, hm, hl, hb, hsz⟩ := hrel
            obtain ⟨wo, rfl⟩ : ∃ wo : World, wo = wr := ⟨_, rfl⟩
            have HO := Lib.hid ho
            have HLO := Lib.hid hl
            have HBO := Lib.hid hb
            have HR := Lib.hid hR
            by_cases hut : u = tg
            · subst hut
              rw [path_here, List.append_nil] at hR
              have HR2 := Lib.hid hR
              obtain ⟨g5', p, e5, _, _, hp, hcp', _⟩ := own_int_at hl hus
              obtain rfl : g5 = g5' := by injection e5 with e5; injection e5
              obtain rfl : p = q0 := by rw [← HTP.out]; exact (tm_get hp).symm
              clear hb ho hR hu0 hu1 HR hl e5 hp hcp
              go_wp2_with fail
              try go_quiet (fail)
              go_wp2_with fail
              refine bodyPost_ret (results_tmp3 rfl _ _ _) rfl ?_
              rw [← HR6.out, ← HR2.out]
              exact ⟨_, m, c1, rfl, own_base (own_drewN HO.out _) (Nat.le_of_lt hwg), by omega, BE.out.trans ((below_drewN HBO.out _).mono (Nat.le_of_lt hwg))⟩
            · have hq : gk ≠ 0 := by
                rintro rfl
                exact hut (HLEFT.out.zero u hu (by omega))
              obtain ⟨q, rfl⟩ : ∃ q, gk = q + 1 := ⟨gk - 1, by omega⟩
              obtain ⟨d0, hd0⟩ := HLEFT.out.some u hu hut hu0
              have HD0 := Lib.hid hd0
              have hne : ((u : Int) != tg) = true := by simp; omega
              have hiu0 : (0 : Int) ≤ u := by omega
              have hiu1 : (u : Int) < n := by omega
              have HU0 := Lib.hid hu0
              have HU1 := Lib.hid hu1
              clear hb ho hR hd0 hu0 hu1 hcp hl x0 x1 x2
              go_wp2_with fail
              clear hne
              go_loopw [9, 11, 12] (fun s9 s11 j wr => ∃ d : Nat, d ≤ 8 ∧ j = .int .i64 d ∧ s9 = .slice (some ⟨g1, 0, none⟩) m c1 ∧ s11 = .int .i64 u ∧ ((List.range 8).drop d).find? (goodB W H xs L u) = some d0 ∧ Below wo.heap.size wo wr) (fun _ _ j _ => 8 - (intOf j).toNat)
              case atStart => exact ⟨0, by omega, rfl, rfl, rfl, HD0.out, Below.refl _ _⟩
              case round =>
                obtain ⟨d, hd8, rfl, rfl, rfl, hfd, hb⟩ := hrel
                obtain ⟨w5, rfl⟩ : ∃ w5 : World, w5 = wr := ⟨_, rfl⟩
                by_cases hdlt : d < 8
                · have HFD := Lib.hid hfd
                  have HB5 := Lib.hid hb
                  have hs5 := hb.size
                  have HBG5 := Lib.hid (HBO.out.trans (hb.mono (show g0 ≤ _ by omega)))
                  obtain ⟨z0, z1, z2⟩ := HXE.out _ HBG5.out
                  have hd0 : (0 : Int) ≤ d := by omega
                  have hd7 : (d : Int) ≤ 7 := by omega
                  clear hfd hb
                  have HM := Lib.hid (HMV.out u d)
                  generalize hmv : moveV W H xs u d = r at *
                  have HMT1 := Lib.hid (fun w' hb => HMT.out u d hiu0 hiu1 hd0 hd7 w' hb)
                  rw [hmv] at HMT1
                  clear hmv
                  have HW5 := Lib.hid (BE.out.trans (HBG5.out.mono (Nat.le_of_lt hwg)))
                  have eg : goodB W H xs L u d = (moveB W H xs u d && (decide (0 ≤ tm L (nbF W H u d).toNat) && decide (tm L (nbF W H u d).toNat + takeF xs u d = tm L u))) := rfl
                  cases hmb : moveB W H xs u d with
                  | false =>
                    rw [hmb] at HMT1
                    have HF2 := Lib.hid (find_on hdlt HFD.out (by rw [eg, hmb]; rfl))
                    clear hmb eg
                    go_wp2_with fail
                    refine (HMT1.out _ HW5.out).mono ?_
                    rintro e w6 ⟨rfl, hb6⟩
                    have HK6 := Lib.hid (HB5.out.trans (hb6.mono HB5.out.size))
                    clear hb6 z0 z1 z2
                    go_wp2_with fail
                    all_goals
                      go_roundw
                      case rel => exact ⟨d + 1, by omega, by go_num, rfl, rfl, HF2.out, HK6.out⟩
                      case measure => simp [intOf] <;> omega
                  | true =>
                    rw [hmb] at HMT1
                    obtain ⟨k1, k2⟩ := HBD.out u d hiu0 hiu1 hmb
                    obtain ⟨n1, n2⟩ := HCL.out u d hmb
                    have htk : takeF xs u d = r := by rw [HM.out, hmb]; rfl
                    rw [htk] at k1 k2 eg
                    obtain ⟨v1, v2⟩ := HNV.out u d hmb
                    have HNB1 := Lib.hid (fun w' => HNB.out u d hiu0 hiu1 hd0 hd7 w')
                    rw [v1, v2] at HNB1
                    have HPN := Lib.hid (fun (v : Nat) (hn : nbF W H u d = v) (h : (List.range 8).find? (goodB W H xs L u) = some d) => path_next (q := q) hut h hn)
                    rw [hmb] at eg
                    generalize hnf : nbF W H u d = nf at *
                    obtain ⟨v, rfl⟩ := int_up nf n1
                    rw [Int.toNat_natCast] at eg
                    have HPN1 := Lib.hid (HPN.out v rfl)
                    clear hmb hnf HM htk HPN v1 v2
                    have hv : v < n := by omega
                    obtain ⟨g5', y, e5, _, hgl5, hy, hcy, _⟩ := own_int_at HLO.out hv
                    obtain rfl : g5 = g5' := by injection e5 with e5; injection e5
                    obtain ⟨g5', x, e5, _, _, hx, hcx, _⟩ := own_int_at HLO.out hu
                    obtain rfl : g5 = g5' := by injection e5 with e5; injection e5
                    have hty := tm_get hy
                    have htx := tm_get hx
                    rw [hty, htx] at eg
                    have y0 : -1 ≤ y := by rw [← hty]; exact HCAPL.out.low _
                    have y1 : y ≤ 252000 := by rw [← hty]; exact HCAPL.out.bd hn100 _
                    have hx1 : x ≤ (q : Int) + 1 := by rw [← htx]; have := HU1.out; omega
                    have HTY := Lib.hid hty
                    have HEG := Lib.hid eg
                    have hwr : IntKind.i64.wrap (y + r) = y + r := IntWalk.i64_in _ (by omega)
                    have HCE := Lib.hid (fun w' (hb : Below wo.heap.size wo w') => And.intro (Keeps.below hb _ _ hcy) (Keeps.below hb _ _ hcx))
                    clear e5 hy hx hcy hcx hty htx eg
                    by_cases h0 : 0 ≤ y
                    · by_cases he : y + r = x
                      · obtain rfl : d0 = d := find_here hdlt HFD.out (by rw [HEG.out]; simp <;> omega)
                        have HPP := Lib.hid (HPN1.out HD0.out)
                        have HY := Lib.hid (show 0 ≤ tm L v ∧ tm L v ≤ q by rw [HTY.out]; omega)
                        clear HEG HPN1
                        go_wp2_with fail
                        refine (HMT1.out _ HW5.out).mono ?_
                        rintro e w6 ⟨rfl, hb6⟩
                        replace z0 := Keeps.below hb6 _ _ z0
                        replace z1 := Keeps.below hb6 _ _ z1
                        replace z2 := Keeps.below hb6 _ _ z2
                        have B6 := Lib.hid hb6
                        clear hb6
                        go_wp2_with fail
                        refine (HNB1.out _).mono ?_
                        rintro e w7 ⟨rfl, hb7⟩
                        have hb57 := B6.out.trans (hb7.mono B6.out.size)
                        have hs7 := hb57.size
                        have BG7 := Lib.hid (HBG5.out.trans (hb57.mono (show g0 ≤ _ by omega)))
                        have B57 := Lib.hid (HB5.out.trans (hb57.mono HB5.out.size))
                        obtain ⟨a1, a2⟩ := HCE.out _ B57.out
                        clear hb7 z0 z1 z2 hb57
                        go_wp2_with fail
                        go_quiet (fail)
                        have hg7 : g0 ≤ w7.heap.size := by omega
                        have g5l7 : g5 < w7.heap.size := by omega
                        go_wp2_with (at_builtin; refine app_i64w (base := g0) _ rfl _ _ rfl rfl ((own_drewN (own_below HO.out B57.out) _).alloc _) rfl (cell_new1 _ _ _) (by omega) (by simp <;> omega) ?_; intro g2 c4 w9 ho9 hgr9 hg9)
                        have h25 : g2 ≠ g5 := by
                          rcases hg9 with e | e
                          · simp only [Value.ownBlock, Option.some.injEq] at e; omega
                          · simp at e; omega
                        have hl9 := ((own_drewN (own_below HLO.out B57.out) _).alloc _).kept hgr9 (.inr (by intro e; injection e with e; exact h15 e.symm))
                        have hb9 := below_app (below_drewN BG7.out _) hg7 (Nat.le_refl _) (own_drewN (own_below HO.out B57.out) _) hgr9
                        have hs9 := hgr9.size
                        have HK9 := Lib.hid (And.intro ho9 (And.intro hl9 hb9))
                        simp only [World.size_alloc] at hs9
                        have hs9' : wl.heap.size ≤ w9.heap.size := by simp at hs9; omega
                        clear ho9 hgr9 hg9 hl9 hb9 hs9
                        go_wp2_with fail
                        go_roundg q
                        case measure => omega
                        case rel => exact ⟨cs ++ [(d0 : Int)], g2, c4, m + 1, v, rfl, h25, rfl, hv, HY.out.1, HY.out.2, by rw [← HR.out, HPP.out]; simp, HK9.out.1, by omega, HK9.out.2.1, HK9.out.2.2, hs9'⟩
                      · skip
                        have HF2 := Lib.hid (find_on hdlt HFD.out (by rw [HEG.out]; simp <;> omega))
                        clear HEG
                        go_wp2_with fail
                        refine (HMT1.out _ HW5.out).mono ?_
                        rintro e w6 ⟨rfl, hb6⟩
                        replace z0 := Keeps.below hb6 _ _ z0
                        replace z1 := Keeps.below hb6 _ _ z1
                        replace z2 := Keeps.below hb6 _ _ z2
                        have B6 := Lib.hid hb6
                        clear hb6
                        go_wp2_with fail
                        refine (HNB1.out _).mono ?_
                        rintro e w7 ⟨rfl, hb7⟩
                        have hb57 := B6.out.trans (hb7.mono B6.out.size)
                        have hs7 := hb57.size
                        have BG7 := Lib.hid (HBG5.out.trans (hb57.mono (show g0 ≤ _ by omega)))
                        have B57 := Lib.hid (HB5.out.trans (hb57.mono HB5.out.size))
                        obtain ⟨a1, a2⟩ := HCE.out _ B57.out
                        clear hb7 z0 z1 z2 hb57
                        go_wp2_with fail
                        go_quiet (fail)
                        go_wp2_with fail
                        all_goals
                          go_roundw
                          case rel => exact ⟨d + 1, by omega, by go_num, rfl, rfl, HF2.out, below_drewN B57.out _⟩
                          case measure => simp [intOf] <;> omega
                    · obtain rfl : y = -1 := by omega
                      have HF2 := Lib.hid (find_on hdlt HFD.out (by rw [HEG.out]; simp <;> omega))
                      clear HEG
                      go_wp2_with fail
                      refine (HMT1.out _ HW5.out).mono ?_
                      rintro e w6 ⟨rfl, hb6⟩
                      replace z0 := Keeps.below hb6 _ _ z0
                      replace z1 := Keeps.below hb6 _ _ z1
                      replace z2 := Keeps.below hb6 _ _ z2
                      have B6 := Lib.hid hb6
                      clear hb6
                      go_wp2_with fail
                      refine (HNB1.out _).mono ?_
                      rintro e w7 ⟨rfl, hb7⟩
                      have hb57 := B6.out.trans (hb7.mono B6.out.size)
                      have hs7 := hb57.size
                      have BG7 := Lib.hid (HBG5.out.trans (hb57.mono (show g0 ≤ _ by omega)))
                      have B57 := Lib.hid (HB5.out.trans (hb57.mono HB5.out.size))
                      obtain ⟨a1, a2⟩ := HCE.out _ B57.out
                      clear hb7 z0 z1 z2 hb57
                      go_wp2_with fail
                      go_quiet (fail)
                      go_wp2_with fail
                      all_goals
                        go_roundw
                        case rel => exact ⟨d + 1, by omega, by go_num, rfl, rfl, HF2.out, below_drewN B57.out _⟩
                        case measure => simp [intOf] <;> omega
                · exact (find_end hdlt hfd).elim
end Go.Proofs.Ytpaamhkgokkgpaa

/- The walk of FnExactIsPotential. -/
import Derived.Test.YtpaamhkgokkgpaaGa
import Derived.Test.YtpaamhkgokkgpaaGq
namespace Go.Proofs.Ytpaamhkgokkgpaa
open Go.RowKit
set_option linter.unusedVariables false
set_option maxRecDepth 100000

theorem fnExactIsPotential_walk (W0 K0 : Int) (a0 : Option Addr) (len0 cap0 : Nat) (z0 : List (Int × Int)) (a1 : Int) (a2 : Option Addr) (len2 cap2 : Nat) (z2 : List Int) (w : World) (v0 : Rd w 2 a0 len0 (winds z0)) (v1 : (Lit.int .i64 a1).wf = true) (v2 : IsRow .i64 w a2 len2 cap2 z2) :
    Calls Try.prog 6 #[.agg #[.int .i64 W0, .int .i64 K0, .slice a0 len0 cap0], .int .i64 a1, .slice a2 len2 cap2] w fun e w' => e = .returned (.bool true) ∧ Below w.heap.size w w' := by
  have hr0 := v0
  have hle0 := hr0.le
  have hr2 := v2.rd
  have hle2 := hr2.le
  generalize z2.take len2 = xs2 at hr2
  clear v0 v1 v2
  by_cases hlen2 : len2 ≤ 1048576
  rotate_left
  · skip
    go_enter Try.func6, Try.ntmps6
    go_wp2_with fail
    go_ret
    exact ⟨rfl, (Below.refl _ _).alloc (Nat.le_refl _) _⟩
  obtain ⟨sz0, hsz0⟩ : ∃ s, s = szGridF 1048576 len0 := ⟨_, rfl⟩
  have HSZ0 := Lib.hid hsz0.symm
  by_cases hneg0 : 0 ≤ sz0
  rotate_left
  · clear hsz0
    go_enter Try.func6, Try.ntmps6
    go_wp2_with fail
    obtain ⟨wb, hwb⟩ : ∃ wb, wb = w.alloc (.cells #[.int .i64 W0, .int .i64 K0, .slice a0 len0 cap0] 24) := ⟨_, rfl⟩
    rw [← hwb]
    have hb0 : Below w.heap.size w wb := by rw [hwb]; exact (Below.refl _ _).alloc (Nat.le_refl _) _
    have cb0 : wb.cell? ⟨w.heap.size, 0, none⟩ = some (.int .i64 W0) := by rw [hwb]; exact cell_top _ _ _ rfl rfl
    have cb1 : wb.cell? ⟨w.heap.size, 1, none⟩ = some (.int .i64 K0) := by rw [hwb]; exact cell_top _ _ _ rfl rfl
    have cb2 : wb.cell? ⟨w.heap.size, 2, none⟩ = some (.slice a0 len0 cap0) := by rw [hwb]; exact cell_top _ _ _ rfl rfl
    have hsb : w.heap.size < wb.heap.size := by rw [hwb]; simp
    clear hwb
    replace hr0 := hr0.below hb0
    replace hr2 := hr2.below hb0
    refine (szWindGrid_any _ _ _ _ cap0 _ 1048576 (by omega) (by omega) _ hr0).mono ?_
    rintro e ws ⟨rfl, hbs⟩
    rw [HSZ0.out]
    go_wp2_with fail
    go_ret
    exact ⟨rfl, hb0.trans (hbs.mono hb0.size)⟩
  rw [hsz0] at hneg0
  have hlen0 := szGridF_le hneg0 (by omega)
  rw [← hsz0] at hneg0
  clear hsz0
  go_enter Try.func6, Try.ntmps6
  go_wp2_with fail
  obtain ⟨wb, hwb⟩ : ∃ wb, wb = w.alloc (.cells #[.int .i64 W0, .int .i64 K0, .slice a0 len0 cap0] 24) := ⟨_, rfl⟩
  rw [← hwb]
  have hb0 : Below w.heap.size w wb := by rw [hwb]; exact (Below.refl _ _).alloc (Nat.le_refl _) _
  have cb0 : wb.cell? ⟨w.heap.size, 0, none⟩ = some (.int .i64 W0) := by rw [hwb]; exact cell_top _ _ _ rfl rfl
  have cb1 : wb.cell? ⟨w.heap.size, 1, none⟩ = some (.int .i64 K0) := by rw [hwb]; exact cell_top _ _ _ rfl rfl
  have cb2 : wb.cell? ⟨w.heap.size, 2, none⟩ = some (.slice a0 len0 cap0) := by rw [hwb]; exact cell_top _ _ _ rfl rfl
  have hsb : w.heap.size < wb.heap.size := by rw [hwb]; simp
  clear hwb
  replace hr0 := hr0.below hb0
  replace hr2 := hr2.below hb0
  refine (szWindGrid_any _ _ _ _ cap0 _ 1048576 (by omega) (by omega) _ hr0).mono ?_
  rintro e ws ⟨rfl, hbs⟩
  rw [HSZ0.out]
  have BB0 : Below wb.heap.size wb ws := hbs
  have s0 := hbs.size
  have bx0_0 := (BB0.cell (p := ⟨w.heap.size, 0, none⟩) hsb).trans cb0
  have bx1_0 := (BB0.cell (p := ⟨w.heap.size, 1, none⟩) hsb).trans cb1
  have bx2_0 := (BB0.cell (p := ⟨w.heap.size, 2, none⟩) hsb).trans cb2
  go_wp2_with fail
  refine (toWindGrid_any _ _ _ _ _ _ _ (hr0.below BB0) hlen0).mono ?_
  rintro e w1 ⟨AS1, nS1, cS1, rfl, oS1, hnS1, hb1⟩
  have BB1 : Below wb.heap.size wb w1 := BB0.trans (hb1.mono BB0.size)
  have bx0_1 := (BB1.cell (p := ⟨w.heap.size, 0, none⟩) hsb).trans cb0
  have bx1_1 := (BB1.cell (p := ⟨w.heap.size, 1, none⟩) hsb).trans cb1
  have bx2_1 := (BB1.cell (p := ⟨w.heap.size, 2, none⟩) hsb).trans cb2
  have s1 := hb1.size
  have vS1 := oS1.lt
  go_wp2_with fail
  refine (toInt64S_any _ _ _ _ _ (hr2.below BB1) hlen2).mono ?_
  rintro e w2 ⟨AS2, nS2, cS2, rfl, oS2, hnS2, hb2⟩
  have BB2 : Below wb.heap.size wb w2 := BB1.trans (hb2.mono BB1.size)
  have bx0_2 := (BB2.cell (p := ⟨w.heap.size, 0, none⟩) hsb).trans cb0
  have bx1_2 := (BB2.cell (p := ⟨w.heap.size, 1, none⟩) hsb).trans cb1
  have bx2_2 := (BB2.cell (p := ⟨w.heap.size, 2, none⟩) hsb).trans cb2
  have s2 := hb2.size
  replace oS1 := own_below oS1 hb2
  have vS2 := oS2.lt
  go_wp2_with fail
  refine (specPot_any _ _ _ _ _ _ _ _ _ _ _ _ (own_rd oS1) (own_rd oS2)).mono ?_
  rintro e w3 ⟨rfl, hb3⟩
  have BB3 : Below wb.heap.size wb w3 := BB2.trans (hb3.mono BB2.size)
  have bx0_3 := (BB3.cell (p := ⟨w.heap.size, 0, none⟩) hsb).trans cb0
  have bx1_3 := (BB3.cell (p := ⟨w.heap.size, 1, none⟩) hsb).trans cb1
  have bx2_3 := (BB3.cell (p := ⟨w.heap.size, 2, none⟩) hsb).trans cb2
  have s3 := hb3.size
  replace oS1 := own_below oS1 hb3
  replace oS2 := own_below oS2 hb3
  clear oS1 vS1 hnS1
  clear oS2 vS2 hnS2
  go_wp2_with fail
  refine (toWindGrid_any _ _ _ _ _ _ _ (hr0.below BB3) hlen0).mono ?_
  rintro e w4 ⟨AS3, nS3, cS3, rfl, oS3, hnS3, hb4⟩
  have BB4 : Below wb.heap.size wb w4 := BB3.trans (hb4.mono BB3.size)
  have bx0_4 := (BB4.cell (p := ⟨w.heap.size, 0, none⟩) hsb).trans cb0
  have bx1_4 := (BB4.cell (p := ⟨w.heap.size, 1, none⟩) hsb).trans cb1
  have bx2_4 := (BB4.cell (p := ⟨w.heap.size, 2, none⟩) hsb).trans cb2
  have s4 := hb4.size
  have vS3 := oS3.lt
  go_wp2_with fail
  obtain ⟨w5, hw5⟩ : ∃ w1, w1 = w4.alloc (.cells #[.int .i64 W0, .int .i64 K0, .slice AS3 nS3 cS3] 29) := ⟨_, rfl⟩
  rw [← hw5]
  have hb5 : Below w4.heap.size w4 w5 := by rw [hw5]; exact (Below.refl _ _).alloc (Nat.le_refl _) _
  have xb0 : w5.cell? ⟨w4.heap.size, 0, none⟩ = some (.int .i64 W0) := by rw [hw5]; exact cell_top _ _ _ rfl rfl
  have xb1 : w5.cell? ⟨w4.heap.size, 1, none⟩ = some (.int .i64 K0) := by rw [hw5]; exact cell_top _ _ _ rfl rfl
  have xb2 : w5.cell? ⟨w4.heap.size, 2, none⟩ = some (.slice AS3 nS3 cS3) := by rw [hw5]; exact cell_top _ _ _ rfl rfl
  have hsx : w4.heap.size < w5.heap.size := by rw [hw5]; simp
  clear hw5
  have BB5 : Below wb.heap.size wb w5 := BB4.trans (hb5.mono BB4.size)
  have bx0_5 := (BB5.cell (p := ⟨w.heap.size, 0, none⟩) hsb).trans cb0
  have bx1_5 := (BB5.cell (p := ⟨w.heap.size, 1, none⟩) hsb).trans cb1
  have bx2_5 := (BB5.cell (p := ⟨w.heap.size, 2, none⟩) hsb).trans cb2
  have s5 := hb5.size
  replace oS3 := own_below oS3 hb5
  refine (toInt64S_any _ _ _ _ _ (hr2.below BB5) hlen2).mono ?_
  rintro e w6 ⟨AS4, nS4, cS4, rfl, oS4, hnS4, hb6⟩
  replace xb0 := (hb6.cell (p := ⟨w4.heap.size, 0, none⟩) (show w4.heap.size < w5.heap.size by omega)).trans xb0
  replace xb1 := (hb6.cell (p := ⟨w4.heap.size, 1, none⟩) (show w4.heap.size < w5.heap.size by omega)).trans xb1
  replace xb2 := (hb6.cell (p := ⟨w4.heap.size, 2, none⟩) (show w4.heap.size < w5.heap.size by omega)).trans xb2
  have BB6 : Below wb.heap.size wb w6 := BB5.trans (hb6.mono BB5.size)
  have bx0_6 := (BB6.cell (p := ⟨w.heap.size, 0, none⟩) hsb).trans cb0
  have bx1_6 := (BB6.cell (p := ⟨w.heap.size, 1, none⟩) hsb).trans cb1
  have bx2_6 := (BB6.cell (p := ⟨w.heap.size, 2, none⟩) hsb).trans cb2
  have s6 := hb6.size
  replace oS3 := own_below oS3 hb6
  have vS4 := oS4.lt
  go_wp2_with fail
  refine (implPot_any _ _ _ _ _ _ _ _ _ _ _ _ (own_rd oS3) (own_rd oS4)).mono ?_
  rintro e w7 ⟨rfl, hb7⟩
  replace xb0 := (hb7.cell (p := ⟨w4.heap.size, 0, none⟩) (show w4.heap.size < w6.heap.size by omega)).trans xb0
  replace xb1 := (hb7.cell (p := ⟨w4.heap.size, 1, none⟩) (show w4.heap.size < w6.heap.size by omega)).trans xb1
  replace xb2 := (hb7.cell (p := ⟨w4.heap.size, 2, none⟩) (show w4.heap.size < w6.heap.size by omega)).trans xb2
  have BB7 : Below wb.heap.size wb w7 := BB6.trans (hb7.mono BB6.size)
  have bx0_7 := (BB7.cell (p := ⟨w.heap.size, 0, none⟩) hsb).trans cb0
  have bx1_7 := (BB7.cell (p := ⟨w.heap.size, 1, none⟩) hsb).trans cb1
  have bx2_7 := (BB7.cell (p := ⟨w.heap.size, 2, none⟩) hsb).trans cb2
  have s7 := hb7.size
  replace oS3 := own_below oS3 hb7
  replace oS4 := own_below oS4 hb7
  go_wp2_with fail
  have HSR := Lib.hid (show ∀ w1, Below w7.heap.size w7 w1 → (w1.cell? ⟨w4.heap.size, 0, none⟩ = some (.int .i64 W0) ∧ w1.cell? ⟨w4.heap.size, 1, none⟩ = some (.int .i64 K0) ∧ w1.cell? ⟨w4.heap.size, 2, none⟩ = some (.slice AS3 nS3 cS3) ∧ w1.cell? ⟨w.heap.size, 0, none⟩ = some (.int .i64 W0) ∧ w1.cell? ⟨w.heap.size, 1, none⟩ = some (.int .i64 K0) ∧ w1.cell? ⟨w.heap.size, 2, none⟩ = some (.slice a0 len0 cap0) ∧ Below w7.heap.size w7 w1) from fun w1 hb => ⟨(hb.cell (p := ⟨w4.heap.size, 0, none⟩) (show w4.heap.size < w7.heap.size by omega)).trans xb0, (hb.cell (p := ⟨w4.heap.size, 1, none⟩) (show w4.heap.size < w7.heap.size by omega)).trans xb1, (hb.cell (p := ⟨w4.heap.size, 2, none⟩) (show w4.heap.size < w7.heap.size by omega)).trans xb2, (hb.cell (p := ⟨w.heap.size, 0, none⟩) (show w.heap.size < w7.heap.size by omega)).trans bx0_7, (hb.cell (p := ⟨w.heap.size, 1, none⟩) (show w.heap.size < w7.heap.size by omega)).trans bx1_7, (hb.cell (p := ⟨w.heap.size, 2, none⟩) (show w.heap.size < w7.heap.size by omega)).trans bx2_7, hb⟩)
  go_region_held3 (fun w1 => w1.cell? ⟨w4.heap.size, 0, none⟩ = some (.int .i64 W0) ∧ w1.cell? ⟨w4.heap.size, 1, none⟩ = some (.int .i64 K0) ∧ w1.cell? ⟨w4.heap.size, 2, none⟩ = some (.slice AS3 nS3 cS3) ∧ w1.cell? ⟨w.heap.size, 0, none⟩ = some (.int .i64 W0) ∧ w1.cell? ⟨w.heap.size, 1, none⟩ = some (.int .i64 K0) ∧ w1.cell? ⟨w.heap.size, 2, none⟩ = some (.slice a0 len0 cap0) ∧ Below w7.heap.size w7 w1) (first | exact HSR.out _ hb8 | exact HSR.out _ HBq | exact HSR.out _ ((Drawn.refl _).step 1).below | exact HSR.out _ (Drawn.refl _).below) (first | (go_at_call 17; have hq := (‹_ ∧ _ ∧ _ ∧ _ ∧ _ ∧ _ ∧ Below w7.heap.size w7 _›).2.2.2.2.2.2; refine (toWindGrid_any _ _ _ _ _ _ _ (hr0.below (BB7.trans ((hq).mono BB7.size))) hlen0).mono ?_; rintro e wq ⟨Aq, nq, cq, rfl, oq, hnq, hbq⟩; have HBq := (hq).trans (hbq.mono (hq).size)) | (go_at_call 19; have hq := (‹_ ∧ _ ∧ _ ∧ _ ∧ _ ∧ _ ∧ Below w7.heap.size w7 _›).2.2.2.2.2.2; refine (eqWindGrid_below _ _ _ _ _ _ _ _ _ _ (own_rd (own_below oS3 (hq))) (own_rd oq)).mono ?_; rintro e w8 ⟨rfl, hbr⟩; have hb8 := (hq).trans (hbr.mono (hq).size)))
  replace xb0 := (hb8.cell (p := ⟨w4.heap.size, 0, none⟩) (show w4.heap.size < w7.heap.size by omega)).trans xb0
  replace xb1 := (hb8.cell (p := ⟨w4.heap.size, 1, none⟩) (show w4.heap.size < w7.heap.size by omega)).trans xb1
  replace xb2 := (hb8.cell (p := ⟨w4.heap.size, 2, none⟩) (show w4.heap.size < w7.heap.size by omega)).trans xb2
  have BB8 : Below wb.heap.size wb w8 := BB7.trans (hb8.mono BB7.size)
  have bx0_8 := (BB8.cell (p := ⟨w.heap.size, 0, none⟩) hsb).trans cb0
  have bx1_8 := (BB8.cell (p := ⟨w.heap.size, 1, none⟩) hsb).trans cb1
  have bx2_8 := (BB8.cell (p := ⟨w.heap.size, 2, none⟩) hsb).trans cb2
  have s8 := hb8.size
  replace oS3 := own_below oS3 hb8
  replace oS4 := own_below oS4 hb8
  go_wp2_with fail
  refine (toInt64S_any _ _ _ _ _ (hr2.below BB8) hlen2).mono ?_
  rintro e w9 ⟨AS5, nS5, cS5, rfl, oS5, hnS5, hb9⟩
  replace xb0 := (hb9.cell (p := ⟨w4.heap.size, 0, none⟩) (show w4.heap.size < w8.heap.size by omega)).trans xb0
  replace xb1 := (hb9.cell (p := ⟨w4.heap.size, 1, none⟩) (show w4.heap.size < w8.heap.size by omega)).trans xb1
  replace xb2 := (hb9.cell (p := ⟨w4.heap.size, 2, none⟩) (show w4.heap.size < w8.heap.size by omega)).trans xb2
  have BB9 : Below wb.heap.size wb w9 := BB8.trans (hb9.mono BB8.size)
  have bx0_9 := (BB9.cell (p := ⟨w.heap.size, 0, none⟩) hsb).trans cb0
  have bx1_9 := (BB9.cell (p := ⟨w.heap.size, 1, none⟩) hsb).trans cb1
  have bx2_9 := (BB9.cell (p := ⟨w.heap.size, 2, none⟩) hsb).trans cb2
  have s9 := hb9.size
  replace oS3 := own_below oS3 hb9
  replace oS4 := own_below oS4 hb9
  have vS5 := oS5.lt
  go_wp2_with fail
  refine (eqInt64S_below _ _ _ _ _ _ _ _ _ (own_rd oS4) (own_rd oS5)).mono ?_
  rintro e w10 ⟨rfl, hb10⟩
  replace xb0 := (hb10.cell (p := ⟨w4.heap.size, 0, none⟩) (show w4.heap.size < w9.heap.size by omega)).trans xb0
  replace xb1 := (hb10.cell (p := ⟨w4.heap.size, 1, none⟩) (show w4.heap.size < w9.heap.size by omega)).trans xb1
  replace xb2 := (hb10.cell (p := ⟨w4.heap.size, 2, none⟩) (show w4.heap.size < w9.heap.size by omega)).trans xb2
  have BB10 : Below wb.heap.size wb w10 := BB9.trans (hb10.mono BB9.size)
  have bx0_10 := (BB10.cell (p := ⟨w.heap.size, 0, none⟩) hsb).trans cb0
  have bx1_10 := (BB10.cell (p := ⟨w.heap.size, 1, none⟩) hsb).trans cb1
  have bx2_10 := (BB10.cell (p := ⟨w.heap.size, 2, none⟩) hsb).trans cb2
  have s10 := hb10.size
  replace oS3 := own_below oS3 hb10
  replace oS4 := own_below oS4 hb10
  replace oS5 := own_below oS5 hb10
  clear oS5 vS5 hnS5
  go_wp2_with fail
  go_ret
  exact ⟨rfl, hb0.trans (BB10.mono hb0.size)⟩
end Go.Proofs.Ytpaamhkgokkgpaa

/- The walk of FnExactRouteProved. -/
import Derived.Test.YtpaamhkgokkgpaaGa
import Derived.Test.YtpaamhkgokkgpaaGt
namespace Go.Proofs.Ytpaamhkgokkgpaa
open Go.RowKit
set_option linter.unusedVariables false
set_option maxRecDepth 100000

theorem fnExactRouteProved_walk (W0 K0 : Int) (a0 : Option Addr) (len0 cap0 : Nat) (z0 : List (Int × Int)) (a1 : Int) (a2 : Option Addr) (len2 cap2 : Nat) (z2 : List Int) (a3 : Option Addr) (len3 cap3 : Nat) (z3 : List Int) (w : World) (v0 : Rd w 2 a0 len0 (winds z0)) (v1 : (Lit.int .i64 a1).wf = true) (v2 : IsRow .i64 w a2 len2 cap2 z2) (v3 : IsRow .i64 w a3 len3 cap3 z3) :
    Calls Try.prog 9 #[.agg #[.int .i64 W0, .int .i64 K0, .slice a0 len0 cap0], .int .i64 a1, .slice a2 len2 cap2, .slice a3 len3 cap3] w fun e w' => e = .returned (.bool true) ∧ Below w.heap.size w w' := by
  have hr0 := v0
  have hle0 := hr0.le
  have hr2 := v2.rd
  have hle2 := hr2.le
  generalize z2.take len2 = xs2 at hr2
  have hr3 := v3.rd
  have hle3 := hr3.le
  generalize z3.take len3 = xs3 at hr3
  clear v0 v1 v2 v3
  by_cases hlen2 : len2 ≤ 1048576
  rotate_left
  · skip
    go_enter Try.func9, Try.ntmps9
    go_wp2_with fail
    go_ret
    exact ⟨rfl, (Below.refl _ _).alloc (Nat.le_refl _) _⟩
  by_cases hlen3 : len3 ≤ 1048576
  rotate_left
  · skip
    go_enter Try.func9, Try.ntmps9
    go_wp2_with fail
    go_ret
    exact ⟨rfl, (Below.refl _ _).alloc (Nat.le_refl _) _⟩
  obtain ⟨sz0, hsz0⟩ : ∃ s, s = szGridF 1048576 len0 := ⟨_, rfl⟩
  have HSZ0 := Lib.hid hsz0.symm
  by_cases hneg0 : 0 ≤ sz0
  rotate_left
  · clear hsz0
    go_enter Try.func9, Try.ntmps9
    go_wp2_with fail
    obtain ⟨wb, hwb⟩ : ∃ wb, wb = w.alloc (.cells #[.int .i64 W0, .int .i64 K0, .slice a0 len0 cap0] 24) := ⟨_, rfl⟩
    rw [← hwb]
    have hb0 : Below w.heap.size w wb := by rw [hwb]; exact (Below.refl _ _).alloc (Nat.le_refl _) _
    have cb0 : wb.cell? ⟨w.heap.size, 0, none⟩ = some (.int .i64 W0) := by rw [hwb]; exact cell_top _ _ _ rfl rfl
    have cb1 : wb.cell? ⟨w.heap.size, 1, none⟩ = some (.int .i64 K0) := by rw [hwb]; exact cell_top _ _ _ rfl rfl
    have cb2 : wb.cell? ⟨w.heap.size, 2, none⟩ = some (.slice a0 len0 cap0) := by rw [hwb]; exact cell_top _ _ _ rfl rfl
    have hsb : w.heap.size < wb.heap.size := by rw [hwb]; simp
    clear hwb
    replace hr0 := hr0.below hb0
    replace hr2 := hr2.below hb0
    replace hr3 := hr3.below hb0
    refine (szWindGrid_any _ _ _ _ cap0 _ 1048576 (by omega) (by omega) _ hr0).mono ?_
    rintro e ws ⟨rfl, hbs⟩
    rw [HSZ0.out]
    go_wp2_with fail
    go_ret
    exact ⟨rfl, hb0.trans (hbs.mono hb0.size)⟩
  rw [hsz0] at hneg0
  have hlen0 := szGridF_le hneg0 (by omega)
  rw [← hsz0] at hneg0
  clear hsz0
  go_enter Try.func9, Try.ntmps9
  go_wp2_with fail
  obtain ⟨wb, hwb⟩ : ∃ wb, wb = w.alloc (.cells #[.int .i64 W0, .int .i64 K0, .slice a0 len0 cap0] 24) := ⟨_, rfl⟩
  rw [← hwb]
  have hb0 : Below w.heap.size w wb := by rw [hwb]; exact (Below.refl _ _).alloc (Nat.le_refl _) _
  have cb0 : wb.cell? ⟨w.heap.size, 0, none⟩ = some (.int .i64 W0) := by rw [hwb]; exact cell_top _ _ _ rfl rfl
  have cb1 : wb.cell? ⟨w.heap.size, 1, none⟩ = some (.int .i64 K0) := by rw [hwb]; exact cell_top _ _ _ rfl rfl
  have cb2 : wb.cell? ⟨w.heap.size, 2, none⟩ = some (.slice a0 len0 cap0) := by rw [hwb]; exact cell_top _ _ _ rfl rfl
  have hsb : w.heap.size < wb.heap.size := by rw [hwb]; simp
  clear hwb
  replace hr0 := hr0.below hb0
  replace hr2 := hr2.below hb0
  replace hr3 := hr3.below hb0
  refine (szWindGrid_any _ _ _ _ cap0 _ 1048576 (by omega) (by omega) _ hr0).mono ?_
  rintro e ws ⟨rfl, hbs⟩
  rw [HSZ0.out]
  have BB0 : Below wb.heap.size wb ws := hbs
  have s0 := hbs.size
  have bx0_0 := (BB0.cell (p := ⟨w.heap.size, 0, none⟩) hsb).trans cb0
  have bx1_0 := (BB0.cell (p := ⟨w.heap.size, 1, none⟩) hsb).trans cb1
  have bx2_0 := (BB0.cell (p := ⟨w.heap.size, 2, none⟩) hsb).trans cb2
  go_wp2_with fail
  refine (toWindGrid_any _ _ _ _ _ _ _ (hr0.below BB0) hlen0).mono ?_
  rintro e w1 ⟨AS1, nS1, cS1, rfl, oS1, hnS1, hb1⟩
  have BB1 : Below wb.heap.size wb w1 := BB0.trans (hb1.mono BB0.size)
  have bx0_1 := (BB1.cell (p := ⟨w.heap.size, 0, none⟩) hsb).trans cb0
  have bx1_1 := (BB1.cell (p := ⟨w.heap.size, 1, none⟩) hsb).trans cb1
  have bx2_1 := (BB1.cell (p := ⟨w.heap.size, 2, none⟩) hsb).trans cb2
  have s1 := hb1.size
  have vS1 := oS1.lt
  go_wp2_with fail
  refine (toInt64S_any _ _ _ _ _ (hr2.below BB1) hlen2).mono ?_
  rintro e w2 ⟨AS2, nS2, cS2, rfl, oS2, hnS2, hb2⟩
  have BB2 : Below wb.heap.size wb w2 := BB1.trans (hb2.mono BB1.size)
  have bx0_2 := (BB2.cell (p := ⟨w.heap.size, 0, none⟩) hsb).trans cb0
  have bx1_2 := (BB2.cell (p := ⟨w.heap.size, 1, none⟩) hsb).trans cb1
  have bx2_2 := (BB2.cell (p := ⟨w.heap.size, 2, none⟩) hsb).trans cb2
  have s2 := hb2.size
  replace oS1 := own_below oS1 hb2
  have vS2 := oS2.lt
  go_wp2_with fail
  refine (toInt64S_any _ _ _ _ _ (hr3.below BB2) hlen3).mono ?_
  rintro e w3 ⟨AS3, nS3, cS3, rfl, oS3, hnS3, hb3⟩
  have BB3 : Below wb.heap.size wb w3 := BB2.trans (hb3.mono BB2.size)
  have bx0_3 := (BB3.cell (p := ⟨w.heap.size, 0, none⟩) hsb).trans cb0
  have bx1_3 := (BB3.cell (p := ⟨w.heap.size, 1, none⟩) hsb).trans cb1
  have bx2_3 := (BB3.cell (p := ⟨w.heap.size, 2, none⟩) hsb).trans cb2
  have s3 := hb3.size
  replace oS1 := own_below oS1 hb3
  replace oS2 := own_below oS2 hb3
  have vS3 := oS3.lt
  go_wp2_with fail
  refine (specProved_any _ _ _ _ _ _ _ _ _ _ _ _ _ _ _ _ (own_rd oS1) (own_rd oS2) (own_rd oS3)).mono ?_
  rintro e w4 ⟨rfl, hb4⟩
  have BB4 : Below wb.heap.size wb w4 := BB3.trans (hb4.mono BB3.size)
  have bx0_4 := (BB4.cell (p := ⟨w.heap.size, 0, none⟩) hsb).trans cb0
  have bx1_4 := (BB4.cell (p := ⟨w.heap.size, 1, none⟩) hsb).trans cb1
  have bx2_4 := (BB4.cell (p := ⟨w.heap.size, 2, none⟩) hsb).trans cb2
  have s4 := hb4.size
  replace oS1 := own_below oS1 hb4
  replace oS2 := own_below oS2 hb4
  replace oS3 := own_below oS3 hb4
  clear oS1 vS1 hnS1
  clear oS2 vS2 hnS2
  clear oS3 vS3 hnS3
  go_wp2_with fail
  refine (toWindGrid_any _ _ _ _ _ _ _ (hr0.below BB4) hlen0).mono ?_
  rintro e w5 ⟨AS4, nS4, cS4, rfl, oS4, hnS4, hb5⟩
  have BB5 : Below wb.heap.size wb w5 := BB4.trans (hb5.mono BB4.size)
  have bx0_5 := (BB5.cell (p := ⟨w.heap.size, 0, none⟩) hsb).trans cb0
  have bx1_5 := (BB5.cell (p := ⟨w.heap.size, 1, none⟩) hsb).trans cb1
  have bx2_5 := (BB5.cell (p := ⟨w.heap.size, 2, none⟩) hsb).trans cb2
  have s5 := hb5.size
  have vS4 := oS4.lt
  go_wp2_with fail
  obtain ⟨w6, hw6⟩ : ∃ w1, w1 = w5.alloc (.cells #[.int .i64 W0, .int .i64 K0, .slice AS4 nS4 cS4] 29) := ⟨_, rfl⟩
  rw [← hw6]
  have hb6 : Below w5.heap.size w5 w6 := by rw [hw6]; exact (Below.refl _ _).alloc (Nat.le_refl _) _
  have xb0 : w6.cell? ⟨w5.heap.size, 0, none⟩ = some (.int .i64 W0) := by rw [hw6]; exact cell_top _ _ _ rfl rfl
  have xb1 : w6.cell? ⟨w5.heap.size, 1, none⟩ = some (.int .i64 K0) := by rw [hw6]; exact cell_top _ _ _ rfl rfl
  have xb2 : w6.cell? ⟨w5.heap.size, 2, none⟩ = some (.slice AS4 nS4 cS4) := by rw [hw6]; exact cell_top _ _ _ rfl rfl
  have hsx : w5.heap.size < w6.heap.size := by rw [hw6]; simp
  clear hw6
  have BB6 : Below wb.heap.size wb w6 := BB5.trans (hb6.mono BB5.size)
  have bx0_6 := (BB6.cell (p := ⟨w.heap.size, 0, none⟩) hsb).trans cb0
  have bx1_6 := (BB6.cell (p := ⟨w.heap.size, 1, none⟩) hsb).trans cb1
  have bx2_6 := (BB6.cell (p := ⟨w.heap.size, 2, none⟩) hsb).trans cb2
  have s6 := hb6.size
  replace oS4 := own_below oS4 hb6
  refine (toInt64S_any _ _ _ _ _ (hr2.below BB6) hlen2).mono ?_
  rintro e w7 ⟨AS5, nS5, cS5, rfl, oS5, hnS5, hb7⟩
  replace xb0 := (hb7.cell (p := ⟨w5.heap.size, 0, none⟩) (show w5.heap.size < w6.heap.size by omega)).trans xb0
  replace xb1 := (hb7.cell (p := ⟨w5.heap.size, 1, none⟩) (show w5.heap.size < w6.heap.size by omega)).trans xb1
  replace xb2 := (hb7.cell (p := ⟨w5.heap.size, 2, none⟩) (show w5.heap.size < w6.heap.size by omega)).trans xb2
  have BB7 : Below wb.heap.size wb w7 := BB6.trans (hb7.mono BB6.size)
  have bx0_7 := (BB7.cell (p := ⟨w.heap.size, 0, none⟩) hsb).trans cb0
  have bx1_7 := (BB7.cell (p := ⟨w.heap.size, 1, none⟩) hsb).trans cb1
  have bx2_7 := (BB7.cell (p := ⟨w.heap.size, 2, none⟩) hsb).trans cb2
  have s7 := hb7.size
  replace oS4 := own_below oS4 hb7
  have vS5 := oS5.lt
  go_wp2_with fail
  refine (toInt64S_any _ _ _ _ _ (hr3.below BB7) hlen3).mono ?_
  rintro e w8 ⟨AS6, nS6, cS6, rfl, oS6, hnS6, hb8⟩
  replace xb0 := (hb8.cell (p := ⟨w5.heap.size, 0, none⟩) (show w5.heap.size < w7.heap.size by omega)).trans xb0
  replace xb1 := (hb8.cell (p := ⟨w5.heap.size, 1, none⟩) (show w5.heap.size < w7.heap.size by omega)).trans xb1
  replace xb2 := (hb8.cell (p := ⟨w5.heap.size, 2, none⟩) (show w5.heap.size < w7.heap.size by omega)).trans xb2
  have BB8 : Below wb.heap.size wb w8 := BB7.trans (hb8.mono BB7.size)
  have bx0_8 := (BB8.cell (p := ⟨w.heap.size, 0, none⟩) hsb).trans cb0
  have bx1_8 := (BB8.cell (p := ⟨w.heap.size, 1, none⟩) hsb).trans cb1
  have bx2_8 := (BB8.cell (p := ⟨w.heap.size, 2, none⟩) hsb).trans cb2
  have s8 := hb8.size
  replace oS4 := own_below oS4 hb8
  replace oS5 := own_below oS5 hb8
  have vS6 := oS6.lt
  go_wp2_with fail
  refine (implProved_any _ _ _ _ _ _ _ _ _ _ _ _ _ _ _ _ (own_rd oS4) (own_rd oS5) (own_rd oS6)).mono ?_
  rintro e w9 ⟨rfl, hb9⟩
  replace xb0 := (hb9.cell (p := ⟨w5.heap.size, 0, none⟩) (show w5.heap.size < w8.heap.size by omega)).trans xb0
  replace xb1 := (hb9.cell (p := ⟨w5.heap.size, 1, none⟩) (show w5.heap.size < w8.heap.size by omega)).trans xb1
  replace xb2 := (hb9.cell (p := ⟨w5.heap.size, 2, none⟩) (show w5.heap.size < w8.heap.size by omega)).trans xb2
  have BB9 : Below wb.heap.size wb w9 := BB8.trans (hb9.mono BB8.size)
  have bx0_9 := (BB9.cell (p := ⟨w.heap.size, 0, none⟩) hsb).trans cb0
  have bx1_9 := (BB9.cell (p := ⟨w.heap.size, 1, none⟩) hsb).trans cb1
  have bx2_9 := (BB9.cell (p := ⟨w.heap.size, 2, none⟩) hsb).trans cb2
  have s9 := hb9.size
  replace oS4 := own_below oS4 hb9
  replace oS5 := own_below oS5 hb9
  replace oS6 := own_below oS6 hb9
  go_wp2_with fail
  have HSR := Lib.hid (show ∀ w1, Below w9.heap.size w9 w1 → (w1.cell? ⟨w5.heap.size, 0, none⟩ = some (.int .i64 W0) ∧ w1.cell? ⟨w5.heap.size, 1, none⟩ = some (.int .i64 K0) ∧ w1.cell? ⟨w5.heap.size, 2, none⟩ = some (.slice AS4 nS4 cS4) ∧ w1.cell? ⟨w.heap.size, 0, none⟩ = some (.int .i64 W0) ∧ w1.cell? ⟨w.heap.size, 1, none⟩ = some (.int .i64 K0) ∧ w1.cell? ⟨w.heap.size, 2, none⟩ = some (.slice a0 len0 cap0) ∧ Below w9.heap.size w9 w1) from fun w1 hb => ⟨(hb.cell (p := ⟨w5.heap.size, 0, none⟩) (show w5.heap.size < w9.heap.size by omega)).trans xb0, (hb.cell (p := ⟨w5.heap.size, 1, none⟩) (show w5.heap.size < w9.heap.size by omega)).trans xb1, (hb.cell (p := ⟨w5.heap.size, 2, none⟩) (show w5.heap.size < w9.heap.size by omega)).trans xb2, (hb.cell (p := ⟨w.heap.size, 0, none⟩) (show w.heap.size < w9.heap.size by omega)).trans bx0_9, (hb.cell (p := ⟨w.heap.size, 1, none⟩) (show w.heap.size < w9.heap.size by omega)).trans bx1_9, (hb.cell (p := ⟨w.heap.size, 2, none⟩) (show w.heap.size < w9.heap.size by omega)).trans bx2_9, hb⟩)
  go_region_held3 (fun w1 => w1.cell? ⟨w5.heap.size, 0, none⟩ = some (.int .i64 W0) ∧ w1.cell? ⟨w5.heap.size, 1, none⟩ = some (.int .i64 K0) ∧ w1.cell? ⟨w5.heap.size, 2, none⟩ = some (.slice AS4 nS4 cS4) ∧ w1.cell? ⟨w.heap.size, 0, none⟩ = some (.int .i64 W0) ∧ w1.cell? ⟨w.heap.size, 1, none⟩ = some (.int .i64 K0) ∧ w1.cell? ⟨w.heap.size, 2, none⟩ = some (.slice a0 len0 cap0) ∧ Below w9.heap.size w9 w1) (first | exact HSR.out _ hb10 | exact HSR.out _ HBq | exact HSR.out _ ((Drawn.refl _).step 1).below | exact HSR.out _ (Drawn.refl _).below) (first | (go_at_call 17; have hq := (‹_ ∧ _ ∧ _ ∧ _ ∧ _ ∧ _ ∧ Below w9.heap.size w9 _›).2.2.2.2.2.2; refine (toWindGrid_any _ _ _ _ _ _ _ (hr0.below (BB9.trans ((hq).mono BB9.size))) hlen0).mono ?_; rintro e wq ⟨Aq, nq, cq, rfl, oq, hnq, hbq⟩; have HBq := (hq).trans (hbq.mono (hq).size)) | (go_at_call 19; have hq := (‹_ ∧ _ ∧ _ ∧ _ ∧ _ ∧ _ ∧ Below w9.heap.size w9 _›).2.2.2.2.2.2; refine (eqWindGrid_below _ _ _ _ _ _ _ _ _ _ (own_rd (own_below oS4 (hq))) (own_rd oq)).mono ?_; rintro e w10 ⟨rfl, hbr⟩; have hb10 := (hq).trans (hbr.mono (hq).size)))
  replace xb0 := (hb10.cell (p := ⟨w5.heap.size, 0, none⟩) (show w5.heap.size < w9.heap.size by omega)).trans xb0
  replace xb1 := (hb10.cell (p := ⟨w5.heap.size, 1, none⟩) (show w5.heap.size < w9.heap.size by omega)).trans xb1
  replace xb2 := (hb10.cell (p := ⟨w5.heap.size, 2, none⟩) (show w5.heap.size < w9.heap.size by omega)).trans xb2
  have BB10 : Below wb.heap.size wb w10 := BB9.trans (hb10.mono BB9.size)
  have bx0_10 := (BB10.cell (p := ⟨w.heap.size, 0, none⟩) hsb).trans cb0
  have bx1_10 := (BB10.cell (p := ⟨w.heap.size, 1, none⟩) hsb).trans cb1
  have bx2_10 := (BB10.cell (p := ⟨w.heap.size, 2, none⟩) hsb).trans cb2
  have s10 := hb10.size
  replace oS4 := own_below oS4 hb10
  replace oS5 := own_below oS5 hb10
  replace oS6 := own_below oS6 hb10
  go_wp2_with fail
  refine (toInt64S_any _ _ _ _ _ (hr2.below BB10) hlen2).mono ?_
  rintro e w11 ⟨AS7, nS7, cS7, rfl, oS7, hnS7, hb11⟩
  replace xb0 := (hb11.cell (p := ⟨w5.heap.size, 0, none⟩) (show w5.heap.size < w10.heap.size by omega)).trans xb0
  replace xb1 := (hb11.cell (p := ⟨w5.heap.size, 1, none⟩) (show w5.heap.size < w10.heap.size by omega)).trans xb1
  replace xb2 := (hb11.cell (p := ⟨w5.heap.size, 2, none⟩) (show w5.heap.size < w10.heap.size by omega)).trans xb2
  have BB11 : Below wb.heap.size wb w11 := BB10.trans (hb11.mono BB10.size)
  have bx0_11 := (BB11.cell (p := ⟨w.heap.size, 0, none⟩) hsb).trans cb0
  have bx1_11 := (BB11.cell (p := ⟨w.heap.size, 1, none⟩) hsb).trans cb1
  have bx2_11 := (BB11.cell (p := ⟨w.heap.size, 2, none⟩) hsb).trans cb2
  have s11 := hb11.size
  replace oS4 := own_below oS4 hb11
  replace oS5 := own_below oS5 hb11
  replace oS6 := own_below oS6 hb11
  have vS7 := oS7.lt
  go_wp2_with fail
  refine (eqInt64S_below _ _ _ _ _ _ _ _ _ (own_rd oS5) (own_rd oS7)).mono ?_
  rintro e w12 ⟨rfl, hb12⟩
  replace xb0 := (hb12.cell (p := ⟨w5.heap.size, 0, none⟩) (show w5.heap.size < w11.heap.size by omega)).trans xb0
  replace xb1 := (hb12.cell (p := ⟨w5.heap.size, 1, none⟩) (show w5.heap.size < w11.heap.size by omega)).trans xb1
  replace xb2 := (hb12.cell (p := ⟨w5.heap.size, 2, none⟩) (show w5.heap.size < w11.heap.size by omega)).trans xb2
  have BB12 : Below wb.heap.size wb w12 := BB11.trans (hb12.mono BB11.size)
  have bx0_12 := (BB12.cell (p := ⟨w.heap.size, 0, none⟩) hsb).trans cb0
  have bx1_12 := (BB12.cell (p := ⟨w.heap.size, 1, none⟩) hsb).trans cb1
  have bx2_12 := (BB12.cell (p := ⟨w.heap.size, 2, none⟩) hsb).trans cb2
  have s12 := hb12.size
  replace oS4 := own_below oS4 hb12
  replace oS5 := own_below oS5 hb12
  replace oS6 := own_below oS6 hb12
  replace oS7 := own_below oS7 hb12
  clear oS7 vS7 hnS7
  go_wp2_with fail
  refine (toInt64S_any _ _ _ _ _ (hr3.below BB12) hlen3).mono ?_
  rintro e w13 ⟨AS8, nS8, cS8, rfl, oS8, hnS8, hb13⟩
  replace xb0 := (hb13.cell (p := ⟨w5.heap.size, 0, none⟩) (show w5.heap.size < w12.heap.size by omega)).trans xb0
  replace xb1 := (hb13.cell (p := ⟨w5.heap.size, 1, none⟩) (show w5.heap.size < w12.heap.size by omega)).trans xb1
  replace xb2 := (hb13.cell (p := ⟨w5.heap.size, 2, none⟩) (show w5.heap.size < w12.heap.size by omega)).trans xb2
  have BB13 : Below wb.heap.size wb w13 := BB12.trans (hb13.mono BB12.size)
  have bx0_13 := (BB13.cell (p := ⟨w.heap.size, 0, none⟩) hsb).trans cb0
  have bx1_13 := (BB13.cell (p := ⟨w.heap.size, 1, none⟩) hsb).trans cb1
  have bx2_13 := (BB13.cell (p := ⟨w.heap.size, 2, none⟩) hsb).trans cb2
  have s13 := hb13.size
  replace oS4 := own_below oS4 hb13
  replace oS5 := own_below oS5 hb13
  replace oS6 := own_below oS6 hb13
  have vS8 := oS8.lt
  go_wp2_with fail
  refine (eqInt64S_below _ _ _ _ _ _ _ _ _ (own_rd oS6) (own_rd oS8)).mono ?_
  rintro e w14 ⟨rfl, hb14⟩
  replace xb0 := (hb14.cell (p := ⟨w5.heap.size, 0, none⟩) (show w5.heap.size < w13.heap.size by omega)).trans xb0
  replace xb1 := (hb14.cell (p := ⟨w5.heap.size, 1, none⟩) (show w5.heap.size < w13.heap.size by omega)).trans xb1
  replace xb2 := (hb14.cell (p := ⟨w5.heap.size, 2, none⟩) (show w5.heap.size < w13.heap.size by omega)).trans xb2
  have BB14 : Below wb.heap.size wb w14 := BB13.trans (hb14.mono BB13.size)
  have bx0_14 := (BB14.cell (p := ⟨w.heap.size, 0, none⟩) hsb).trans cb0
  have bx1_14 := (BB14.cell (p := ⟨w.heap.size, 1, none⟩) hsb).trans cb1
  have bx2_14 := (BB14.cell (p := ⟨w.heap.size, 2, none⟩) hsb).trans cb2
  have s14 := hb14.size
  replace oS4 := own_below oS4 hb14
  replace oS5 := own_below oS5 hb14
  replace oS6 := own_below oS6 hb14
  replace oS8 := own_below oS8 hb14
  clear oS8 vS8 hnS8
  go_wp2_with fail
  go_ret
  exact ⟨rfl, hb0.trans (BB14.mono hb0.size)⟩
end Go.Proofs.Ytpaamhkgokkgpaa

/- The walk of FnExactFastestRoute. -/
import Derived.Test.YtpaamhkgokkgpaaGa
import Derived.Test.YtpaamhkgokkgpaaHh
namespace Go.Proofs.Ytpaamhkgokkgpaa
open Go.RowKit
set_option linter.unusedVariables false
set_option maxRecDepth 100000

theorem fnExactFastestRoute_walk (W0 K0 : Int) (a0 : Option Addr) (len0 cap0 : Nat) (z0 : List (Int × Int)) (a1 : Int) (a2 : Int) (w : World) (v0 : Rd w 2 a0 len0 (winds z0)) (v1 : (Lit.int .i64 a1).wf = true) (v2 : (Lit.int .i64 a2).wf = true) :
    Calls Try.prog 12 #[.agg #[.int .i64 W0, .int .i64 K0, .slice a0 len0 cap0], .int .i64 a1, .int .i64 a2] w fun e w' => e = .returned (.bool true) ∧ Below w.heap.size w w' := by
  have hr0 := v0
  have hle0 := hr0.le
  clear v0 v1 v2
  obtain ⟨sz0, hsz0⟩ : ∃ s, s = szGridF 1048576 len0 := ⟨_, rfl⟩
  have HSZ0 := Lib.hid hsz0.symm
  by_cases hneg0 : 0 ≤ sz0
  rotate_left
  · clear hsz0
    go_enter Try.func12, Try.ntmps12
    go_wp2_with fail
    obtain ⟨wb, hwb⟩ : ∃ wb, wb = w.alloc (.cells #[.int .i64 W0, .int .i64 K0, .slice a0 len0 cap0] 24) := ⟨_, rfl⟩
    rw [← hwb]
    have hb0 : Below w.heap.size w wb := by rw [hwb]; exact (Below.refl _ _).alloc (Nat.le_refl _) _
    have cb0 : wb.cell? ⟨w.heap.size, 0, none⟩ = some (.int .i64 W0) := by rw [hwb]; exact cell_top _ _ _ rfl rfl
    have cb1 : wb.cell? ⟨w.heap.size, 1, none⟩ = some (.int .i64 K0) := by rw [hwb]; exact cell_top _ _ _ rfl rfl
    have cb2 : wb.cell? ⟨w.heap.size, 2, none⟩ = some (.slice a0 len0 cap0) := by rw [hwb]; exact cell_top _ _ _ rfl rfl
    have hsb : w.heap.size < wb.heap.size := by rw [hwb]; simp
    clear hwb
    replace hr0 := hr0.below hb0
    refine (szWindGrid_any _ _ _ _ cap0 _ 1048576 (by omega) (by omega) _ hr0).mono ?_
    rintro e ws ⟨rfl, hbs⟩
    rw [HSZ0.out]
    go_wp2_with fail
    go_ret
    exact ⟨rfl, hb0.trans (hbs.mono hb0.size)⟩
  rw [hsz0] at hneg0
  have hlen0 := szGridF_le hneg0 (by omega)
  rw [← hsz0] at hneg0
  clear hsz0
  go_enter Try.func12, Try.ntmps12
  go_wp2_with fail
  obtain ⟨wb, hwb⟩ : ∃ wb, wb = w.alloc (.cells #[.int .i64 W0, .int .i64 K0, .slice a0 len0 cap0] 24) := ⟨_, rfl⟩
  rw [← hwb]
  have hb0 : Below w.heap.size w wb := by rw [hwb]; exact (Below.refl _ _).alloc (Nat.le_refl _) _
  have cb0 : wb.cell? ⟨w.heap.size, 0, none⟩ = some (.int .i64 W0) := by rw [hwb]; exact cell_top _ _ _ rfl rfl
  have cb1 : wb.cell? ⟨w.heap.size, 1, none⟩ = some (.int .i64 K0) := by rw [hwb]; exact cell_top _ _ _ rfl rfl
  have cb2 : wb.cell? ⟨w.heap.size, 2, none⟩ = some (.slice a0 len0 cap0) := by rw [hwb]; exact cell_top _ _ _ rfl rfl
  have hsb : w.heap.size < wb.heap.size := by rw [hwb]; simp
  clear hwb
  replace hr0 := hr0.below hb0
  refine (szWindGrid_any _ _ _ _ cap0 _ 1048576 (by omega) (by omega) _ hr0).mono ?_
  rintro e ws ⟨rfl, hbs⟩
  rw [HSZ0.out]
  have BB0 : Below wb.heap.size wb ws := hbs
  have s0 := hbs.size
  have bx0_0 := (BB0.cell (p := ⟨w.heap.size, 0, none⟩) hsb).trans cb0
  have bx1_0 := (BB0.cell (p := ⟨w.heap.size, 1, none⟩) hsb).trans cb1
  have bx2_0 := (BB0.cell (p := ⟨w.heap.size, 2, none⟩) hsb).trans cb2
  go_wp2_with fail
  refine (toWindGrid_any _ _ _ _ _ _ _ (hr0.below BB0) hlen0).mono ?_
  rintro e w1 ⟨AS1, nS1, cS1, rfl, oS1, hnS1, hb1⟩
  have BB1 : Below wb.heap.size wb w1 := BB0.trans (hb1.mono BB0.size)
  have bx0_1 := (BB1.cell (p := ⟨w.heap.size, 0, none⟩) hsb).trans cb0
  have bx1_1 := (BB1.cell (p := ⟨w.heap.size, 1, none⟩) hsb).trans cb1
  have bx2_1 := (BB1.cell (p := ⟨w.heap.size, 2, none⟩) hsb).trans cb2
  have s1 := hb1.size
  have vS1 := oS1.lt
  go_wp2_with fail
  refine (specFastR_any _ _ _ _ _ _ _ _ _ (own_rd oS1)).mono ?_
  rintro e w2 ⟨AS2, nS2, cS2, rfl, oS2, hnS2, hb2⟩
  have BB2 : Below wb.heap.size wb w2 := BB1.trans (hb2.mono BB1.size)
  have bx0_2 := (BB2.cell (p := ⟨w.heap.size, 0, none⟩) hsb).trans cb0
  have bx1_2 := (BB2.cell (p := ⟨w.heap.size, 1, none⟩) hsb).trans cb1
  have bx2_2 := (BB2.cell (p := ⟨w.heap.size, 2, none⟩) hsb).trans cb2
  have s2 := hb2.size
  replace oS1 := own_below oS1 hb2
  have vS2 := oS2.lt
  clear oS1 vS1 hnS1
  go_wp2_with fail
  refine (toWindGrid_any _ _ _ _ _ _ _ (hr0.below BB2) hlen0).mono ?_
  rintro e w3 ⟨AS3, nS3, cS3, rfl, oS3, hnS3, hb3⟩
  have BB3 : Below wb.heap.size wb w3 := BB2.trans (hb3.mono BB2.size)
  have bx0_3 := (BB3.cell (p := ⟨w.heap.size, 0, none⟩) hsb).trans cb0
  have bx1_3 := (BB3.cell (p := ⟨w.heap.size, 1, none⟩) hsb).trans cb1
  have bx2_3 := (BB3.cell (p := ⟨w.heap.size, 2, none⟩) hsb).trans cb2
  have s3 := hb3.size
  replace oS2 := own_below oS2 hb3
  have vS3 := oS3.lt
  go_wp2_with fail
  obtain ⟨w4, hw4⟩ : ∃ w1, w1 = w3.alloc (.cells #[.int .i64 W0, .int .i64 K0, .slice AS3 nS3 cS3] 29) := ⟨_, rfl⟩
  rw [← hw4]
  have hb4 : Below w3.heap.size w3 w4 := by rw [hw4]; exact (Below.refl _ _).alloc (Nat.le_refl _) _
  have xb0 : w4.cell? ⟨w3.heap.size, 0, none⟩ = some (.int .i64 W0) := by rw [hw4]; exact cell_top _ _ _ rfl rfl
  have xb1 : w4.cell? ⟨w3.heap.size, 1, none⟩ = some (.int .i64 K0) := by rw [hw4]; exact cell_top _ _ _ rfl rfl
  have xb2 : w4.cell? ⟨w3.heap.size, 2, none⟩ = some (.slice AS3 nS3 cS3) := by rw [hw4]; exact cell_top _ _ _ rfl rfl
  have hsx : w3.heap.size < w4.heap.size := by rw [hw4]; simp
  clear hw4
  have BB4 : Below wb.heap.size wb w4 := BB3.trans (hb4.mono BB3.size)
  have bx0_4 := (BB4.cell (p := ⟨w.heap.size, 0, none⟩) hsb).trans cb0
  have bx1_4 := (BB4.cell (p := ⟨w.heap.size, 1, none⟩) hsb).trans cb1
  have bx2_4 := (BB4.cell (p := ⟨w.heap.size, 2, none⟩) hsb).trans cb2
  have s4 := hb4.size
  replace oS2 := own_below oS2 hb4
  replace oS3 := own_below oS3 hb4
  refine (implFastR_any _ _ _ _ _ _ _ _ _ (own_rd oS3)).mono ?_
  rintro e w5 ⟨AS4, nS4, cS4, rfl, oS4, hnS4, hb5⟩
  replace xb0 := (hb5.cell (p := ⟨w3.heap.size, 0, none⟩) (show w3.heap.size < w4.heap.size by omega)).trans xb0
  replace xb1 := (hb5.cell (p := ⟨w3.heap.size, 1, none⟩) (show w3.heap.size < w4.heap.size by omega)).trans xb1
  replace xb2 := (hb5.cell (p := ⟨w3.heap.size, 2, none⟩) (show w3.heap.size < w4.heap.size by omega)).trans xb2
  have BB5 : Below wb.heap.size wb w5 := BB4.trans (hb5.mono BB4.size)
  have bx0_5 := (BB5.cell (p := ⟨w.heap.size, 0, none⟩) hsb).trans cb0
  have bx1_5 := (BB5.cell (p := ⟨w.heap.size, 1, none⟩) hsb).trans cb1
  have bx2_5 := (BB5.cell (p := ⟨w.heap.size, 2, none⟩) hsb).trans cb2
  have s5 := hb5.size
  replace oS2 := own_below oS2 hb5
  replace oS3 := own_below oS3 hb5
  have vS4 := oS4.lt
  go_wp2_with fail
  refine (eqInt64S_below _ _ _ _ _ _ _ _ _ (own_rd oS4) (own_rd oS2)).mono ?_
  rintro e w6 ⟨rfl, hb6⟩
  replace xb0 := (hb6.cell (p := ⟨w3.heap.size, 0, none⟩) (show w3.heap.size < w5.heap.size by omega)).trans xb0
  replace xb1 := (hb6.cell (p := ⟨w3.heap.size, 1, none⟩) (show w3.heap.size < w5.heap.size by omega)).trans xb1
  replace xb2 := (hb6.cell (p := ⟨w3.heap.size, 2, none⟩) (show w3.heap.size < w5.heap.size by omega)).trans xb2
  have BB6 : Below wb.heap.size wb w6 := BB5.trans (hb6.mono BB5.size)
  have bx0_6 := (BB6.cell (p := ⟨w.heap.size, 0, none⟩) hsb).trans cb0
  have bx1_6 := (BB6.cell (p := ⟨w.heap.size, 1, none⟩) hsb).trans cb1
  have bx2_6 := (BB6.cell (p := ⟨w.heap.size, 2, none⟩) hsb).trans cb2
  have s6 := hb6.size
  replace oS2 := own_below oS2 hb6
  replace oS3 := own_below oS3 hb6
  replace oS4 := own_below oS4 hb6
  go_wp2_with fail
  have HSR := Lib.hid (show ∀ w1, Below w6.heap.size w6 w1 → (w1.cell? ⟨w3.heap.size, 0, none⟩ = some (.int .i64 W0) ∧ w1.cell? ⟨w3.heap.size, 1, none⟩ = some (.int .i64 K0) ∧ w1.cell? ⟨w3.heap.size, 2, none⟩ = some (.slice AS3 nS3 cS3) ∧ w1.cell? ⟨w.heap.size, 0, none⟩ = some (.int .i64 W0) ∧ w1.cell? ⟨w.heap.size, 1, none⟩ = some (.int .i64 K0) ∧ w1.cell? ⟨w.heap.size, 2, none⟩ = some (.slice a0 len0 cap0) ∧ Below w6.heap.size w6 w1) from fun w1 hb => ⟨(hb.cell (p := ⟨w3.heap.size, 0, none⟩) (show w3.heap.size < w6.heap.size by omega)).trans xb0, (hb.cell (p := ⟨w3.heap.size, 1, none⟩) (show w3.heap.size < w6.heap.size by omega)).trans xb1, (hb.cell (p := ⟨w3.heap.size, 2, none⟩) (show w3.heap.size < w6.heap.size by omega)).trans xb2, (hb.cell (p := ⟨w.heap.size, 0, none⟩) (show w.heap.size < w6.heap.size by omega)).trans bx0_6, (hb.cell (p := ⟨w.heap.size, 1, none⟩) (show w.heap.size < w6.heap.size by omega)).trans bx1_6, (hb.cell (p := ⟨w.heap.size, 2, none⟩) (show w.heap.size < w6.heap.size by omega)).trans bx2_6, hb⟩)
  go_region_held3 (fun w1 => w1.cell? ⟨w3.heap.size, 0, none⟩ = some (.int .i64 W0) ∧ w1.cell? ⟨w3.heap.size, 1, none⟩ = some (.int .i64 K0) ∧ w1.cell? ⟨w3.heap.size, 2, none⟩ = some (.slice AS3 nS3 cS3) ∧ w1.cell? ⟨w.heap.size, 0, none⟩ = some (.int .i64 W0) ∧ w1.cell? ⟨w.heap.size, 1, none⟩ = some (.int .i64 K0) ∧ w1.cell? ⟨w.heap.size, 2, none⟩ = some (.slice a0 len0 cap0) ∧ Below w6.heap.size w6 w1) (first | exact HSR.out _ hb7 | exact HSR.out _ HBq | exact HSR.out _ ((Drawn.refl _).step 1).below | exact HSR.out _ (Drawn.refl _).below) (first | (go_at_call 17; have hq := (‹_ ∧ _ ∧ _ ∧ _ ∧ _ ∧ _ ∧ Below w6.heap.size w6 _›).2.2.2.2.2.2; refine (toWindGrid_any _ _ _ _ _ _ _ (hr0.below (BB6.trans ((hq).mono BB6.size))) hlen0).mono ?_; rintro e wq ⟨Aq, nq, cq, rfl, oq, hnq, hbq⟩; have HBq := (hq).trans (hbq.mono (hq).size)) | (go_at_call 19; have hq := (‹_ ∧ _ ∧ _ ∧ _ ∧ _ ∧ _ ∧ Below w6.heap.size w6 _›).2.2.2.2.2.2; refine (eqWindGrid_below _ _ _ _ _ _ _ _ _ _ (own_rd (own_below oS3 (hq))) (own_rd oq)).mono ?_; rintro e w7 ⟨rfl, hbr⟩; have hb7 := (hq).trans (hbr.mono (hq).size)))
  replace xb0 := (hb7.cell (p := ⟨w3.heap.size, 0, none⟩) (show w3.heap.size < w6.heap.size by omega)).trans xb0
  replace xb1 := (hb7.cell (p := ⟨w3.heap.size, 1, none⟩) (show w3.heap.size < w6.heap.size by omega)).trans xb1
  replace xb2 := (hb7.cell (p := ⟨w3.heap.size, 2, none⟩) (show w3.heap.size < w6.heap.size by omega)).trans xb2
  have BB7 : Below wb.heap.size wb w7 := BB6.trans (hb7.mono BB6.size)
  have bx0_7 := (BB7.cell (p := ⟨w.heap.size, 0, none⟩) hsb).trans cb0
  have bx1_7 := (BB7.cell (p := ⟨w.heap.size, 1, none⟩) hsb).trans cb1
  have bx2_7 := (BB7.cell (p := ⟨w.heap.size, 2, none⟩) hsb).trans cb2
  have s7 := hb7.size
  replace oS2 := own_below oS2 hb7
  replace oS3 := own_below oS3 hb7
  replace oS4 := own_below oS4 hb7
  go_wp2_with fail
  refine (markWindGrid_any _ w2.heap.size w3.heap.size _ _ _ _ _ _ _ _ _ oS3 vS3 (by omega) (by omega) (by omega) (by omega)).mono ?_
  clear oS3
  rintro e w8 ⟨rfl, hc8⟩
  replace xb0 := chg_cell hc8 (by omega) xb0
  replace xb1 := chg_cell hc8 (by omega) xb1
  replace xb2 := chg_cell hc8 (by omega) xb2
  have BB8 : Below wb.heap.size wb w8 := below_chg BB7 hc8 (by omega) (by omega)
  have bx0_8 := (BB8.cell (p := ⟨w.heap.size, 0, none⟩) hsb).trans cb0
  have bx1_8 := (BB8.cell (p := ⟨w.heap.size, 1, none⟩) hsb).trans cb1
  have bx2_8 := (BB8.cell (p := ⟨w.heap.size, 2, none⟩) hsb).trans cb2
  have s8 := hc8.size
  replace oS2 := own_chg oS2 hc8 (fun b hb => by have := vS2 b hb; omega)
  replace oS4 := own_chg oS4 hc8 (fun b hb => by have := vS4 b hb; omega)
  clear xb0 xb1 xb2
  go_wp2_with fail
  refine (eqInt64S_below _ _ _ _ _ _ _ _ _ (own_rd oS4) (own_rd oS2)).mono ?_
  rintro e w9 ⟨rfl, hb9⟩
  have BB9 : Below wb.heap.size wb w9 := BB8.trans (hb9.mono BB8.size)
  have bx0_9 := (BB9.cell (p := ⟨w.heap.size, 0, none⟩) hsb).trans cb0
  have bx1_9 := (BB9.cell (p := ⟨w.heap.size, 1, none⟩) hsb).trans cb1
  have bx2_9 := (BB9.cell (p := ⟨w.heap.size, 2, none⟩) hsb).trans cb2
  have s9 := hb9.size
  replace oS2 := own_below oS2 hb9
  replace oS4 := own_below oS4 hb9
  go_wp2_with fail
  refine (mark_any _ w4.heap.size w5.heap.size _ _ _ _ _ _ _ oS4 vS4 (by omega) (by omega) (by omega)).mono ?_
  clear oS4
  rintro e w10 ⟨rfl, oS4, hc10⟩
  have BB10 : Below wb.heap.size wb w10 := below_chg BB9 hc10 (by omega) (by omega)
  have bx0_10 := (BB10.cell (p := ⟨w.heap.size, 0, none⟩) hsb).trans cb0
  have bx1_10 := (BB10.cell (p := ⟨w.heap.size, 1, none⟩) hsb).trans cb1
  have bx2_10 := (BB10.cell (p := ⟨w.heap.size, 2, none⟩) hsb).trans cb2
  have s10 := hc10.size
  replace oS2 := own_chg oS2 hc10 (fun b hb => by have := vS2 b hb; omega)
  go_wp2_with fail
  refine (heldSeq_any _ _ _ _ _ (own_rd oS4) (by omega) (by omega) (by omega)).mono ?_
  rintro e w' ⟨rfl, rfl⟩
  go_wp2_with fail
  refine (toWindGrid_any _ _ _ _ _ _ _ (hr0.below BB10) hlen0).mono ?_
  rintro e w11 ⟨AS5, nS5, cS5, rfl, oS5, hnS5, hb11⟩
  have BB11 : Below wb.heap.size wb w11 := BB10.trans (hb11.mono BB10.size)
  have bx0_11 := (BB11.cell (p := ⟨w.heap.size, 0, none⟩) hsb).trans cb0
  have bx1_11 := (BB11.cell (p := ⟨w.heap.size, 1, none⟩) hsb).trans cb1
  have bx2_11 := (BB11.cell (p := ⟨w.heap.size, 2, none⟩) hsb).trans cb2
  have s11 := hb11.size
  replace oS2 := own_below oS2 hb11
  replace oS4 := own_below oS4 hb11
  have vS5 := oS5.lt
  go_wp2_with fail
  refine (implFastR_any _ _ _ _ _ _ _ _ _ (own_rd oS5)).mono ?_
  rintro e w12 ⟨AS6, nS6, cS6, rfl, oS6, hnS6, hb12⟩
  have BB12 : Below wb.heap.size wb w12 := BB11.trans (hb12.mono BB11.size)
  have bx0_12 := (BB12.cell (p := ⟨w.heap.size, 0, none⟩) hsb).trans cb0
  have bx1_12 := (BB12.cell (p := ⟨w.heap.size, 1, none⟩) hsb).trans cb1
  have bx2_12 := (BB12.cell (p := ⟨w.heap.size, 2, none⟩) hsb).trans cb2
  have s12 := hb12.size
  replace oS2 := own_below oS2 hb12
  replace oS4 := own_below oS4 hb12
  replace oS5 := own_below oS5 hb12
  have vS6 := oS6.lt
  clear oS5 vS5 hnS5
  go_wp2_with fail
  refine (eqInt64S_below _ _ _ _ _ _ _ _ _ (own_rd oS6) (own_rd oS2)).mono ?_
  rintro e w13 ⟨rfl, hb13⟩
  have BB13 : Below wb.heap.size wb w13 := BB12.trans (hb13.mono BB12.size)
  have bx0_13 := (BB13.cell (p := ⟨w.heap.size, 0, none⟩) hsb).trans cb0
  have bx1_13 := (BB13.cell (p := ⟨w.heap.size, 1, none⟩) hsb).trans cb1
  have bx2_13 := (BB13.cell (p := ⟨w.heap.size, 2, none⟩) hsb).trans cb2
  have s13 := hb13.size
  replace oS2 := own_below oS2 hb13
  replace oS4 := own_below oS4 hb13
  replace oS6 := own_below oS6 hb13
  go_wp2_with fail
  refine (heldSeq_any _ _ _ _ _ (own_rd oS4) (by omega) (by omega) (by omega)).mono ?_
  rintro e w' ⟨rfl, rfl⟩
  go_wp2_with fail
  go_ret
  exact ⟨rfl, hb0.trans (BB13.mono hb0.size)⟩
end Go.Proofs.Ytpaamhkgokkgpaa

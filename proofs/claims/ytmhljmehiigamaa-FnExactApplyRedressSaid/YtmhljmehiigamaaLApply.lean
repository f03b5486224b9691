/- The walk of FnExactApplyRedress. -/
import Derived.Test.YtmhljmehiigamaaSz
import Derived.Test.YtmhljmehiigamaaTa
import Derived.Test.YtmhljmehiigamaaRs
import Derived.Test.YtmhljmehiigamaaTn
import Derived.Lib.QuietBelow
import Derived.Deep.RegionHeld3
namespace Go.Proofs.Ytmhljmehiigamaa
open Go.RowKit Go.Sort
set_option linter.unusedVariables false
set_option maxRecDepth 100000

set_option maxHeartbeats 4000000 in
theorem fnExactApplyRedress_walk (P0 : Option Addr) (n0 c0 : Nat) (C0 : Option Addr) (m0 d0 : Nat) (t0 : Tb) (a1 : Option Addr) (len1 cap1 : Nat) (z1 : List RedressT) (w : World) (v0 : RdT w P0 n0 C0 m0 t0) (v1 : Rd w 4 a1 len1 (reds z1)) :
    Calls Try.prog 6 #[.agg #[.int .i64 t0.boats, .slice P0 n0 c0, .slice C0 m0 d0], .slice a1 len1 cap1] w fun e w' => e = .returned (.bool true) ∧ Below w.heap.size w w' := by
  have hr0 := v0
  have hr1 := v1
  have hle1 := hr1.le
  clear v0
  clear v1
  obtain ⟨sz0, hsz0⟩ : ∃ s, s = szTabF 1048576 t0 := ⟨_, rfl⟩
  have HSZ0 := Lib.hid hsz0.symm
  clear hsz0
  obtain ⟨sz1, hsz1⟩ : ∃ s, s = szIf sz0 len1 := ⟨_, rfl⟩
  have HSZ1 := Lib.hid hsz1.symm
  clear hsz1
  go_enter Try.func6, Try.ntmps6
  have BBs : Below w.heap.size w w := Below.refl _ _
  go_wp2_with fail
  obtain ⟨w0, hw0, XaT, hb0, hsb_aT⟩ := one_box w #[.int .i64 t0.boats, .slice P0 n0 c0, .slice C0 m0 d0] 32
  rw [← hw0]
  clear hw0
  replace hsb_aT : w.heap.size < w0.heap.size := by omega
  have BB0 : Below w.heap.size w w0 := hb0
  have s0 := hb0.size
  refine (szTable_any _ _ _ _ _ _ _ _ 1048576 (by omega) (by omega) _ (hr0.below BB0)).mono ?_
  rintro e w1 ⟨rfl, hb1⟩
  have BB1 : Below w.heap.size w w1 := BB0.trans (hb1.mono BB0.size)
  have s1 := hb1.size
  replace XaT := XaT.below hb1
  rw [HSZ0.out]
  by_cases hneg0 : 0 ≤ sz0
  rotate_left
  · go_wp2_with fail
    go_ret
    exact ⟨rfl, BB1⟩
  have hneg0' := hneg0
  rw [← HSZ0.out] at hneg0'
  have hszle0 : sz0 ≤ 1048576 := by rw [← HSZ0.out]; exact szTabF_top hneg0' (by omega) (by omega)
  have hln0 := szTabF_tab hneg0' (by omega) (by omega) hr0
  clear hneg0'
  go_wp2_with fail
  refine (szRedressS_any _ _ _ sz0 _ (by omega) (by omega) hle1).mono ?_
  rintro e w' ⟨rfl, rfl⟩
  rw [show (if sz0 < (len1 : Int) then (-1 : Int) else sz0 - len1) = szIf sz0 len1 from rfl]
  rw [HSZ1.out]
  by_cases hneg1 : 0 ≤ sz1
  rotate_left
  · go_wp2_with fail
    go_ret
    exact ⟨rfl, BB1⟩
  have hneg1' := hneg1
  rw [← HSZ1.out] at hneg1'
  have hszle1 : sz1 ≤ 1048576 := by rw [← HSZ1.out]; exact szIf_top hneg1' (by omega) (by omega)
  have hlen1 : len1 ≤ 1048576 := szIf_le hneg1' (by omega)
  clear hneg1'
  have FaT0 := XaT.cell (i := 0) rfl
  have FaT1 := XaT.cell (i := 1) rfl
  have FaT2 := XaT.cell (i := 2) rfl
  go_wp2_with fail
  refine (toTable_any _ _ _ _ _ _ _ _ _ rfl (hr0.below BB1) hln0.1.1 hln0.1.2 hln0.2.1.out hln0.2.2.out).mono ?_
  rintro e w2 ⟨PS1, nS1, cS1, VS1, CS1, mS1, dS1, US1, rfl, oS1, hnS1, hb2⟩
  clear FaT0 FaT1 FaT2
  have BB2 : Below w.heap.size w w2 := BB1.trans (hb2.mono BB1.size)
  have s2 := hb2.size
  replace XaT := XaT.below hb2
  have vS1 := oS1.in_
  go_wp2_with fail
  refine (toRedressS_any _ _ _ _ _ (hr1.below BB2) hlen1).mono ?_
  rintro e w3 ⟨AS2, nS2, cS2, rfl, oS2, hnS2, hb3⟩
  have BB3 : Below w.heap.size w w3 := BB2.trans (hb3.mono BB2.size)
  have s3 := hb3.size
  replace oS1 := oS1.below hb3
  replace XaT := XaT.below hb3
  have vS2 := oS2.lt
  go_wp2_with fail
  refine (specApply_any _ _ _ _ _ _ _ _ _ _ _ _ oS1.rd (own_rd oS2)).mono ?_
  rintro e w4 ⟨PS3, nS3, cS3, VS3, CS3, mS3, dS3, US3, rfl, oS3, hnS3, hb4⟩
  have BB4 : Below w.heap.size w w4 := BB3.trans (hb4.mono BB3.size)
  have s4 := hb4.size
  replace oS1 := oS1.below hb4
  replace oS2 := own_below oS2 hb4
  replace XaT := XaT.below hb4
  have vS3 := oS3.in_
  clear oS1 vS1 hnS1
  clear oS2 vS2 hnS2
  have FaT0 := XaT.cell (i := 0) rfl
  have FaT1 := XaT.cell (i := 1) rfl
  have FaT2 := XaT.cell (i := 2) rfl
  have LaT := XaT.lt
  go_wp2_with fail
  obtain ⟨w5, hw5, Xw0, hb5, hsb_w0⟩ := one_box w4 #[.int .i64 (applyCF t0 z1).1.boats, .slice PS3 nS3 cS3, .slice CS3 mS3 dS3] 26
  rw [← hw5]
  clear hw5
  replace hsb_w0 : w4.heap.size < w5.heap.size := by omega
  have BB5 : Below w.heap.size w w5 := BB4.trans (hb5.mono BB4.size)
  have s5 := hb5.size
  replace oS3 := oS3.below hb5
  replace XaT := XaT.below hb5
  refine (toTable_any _ _ _ _ _ _ _ _ _ rfl (hr0.below BB5) hln0.1.1 hln0.1.2 hln0.2.1.out hln0.2.2.out).mono ?_
  rintro e w6 ⟨PS4, nS4, cS4, VS4, CS4, mS4, dS4, US4, rfl, oS4, hnS4, hb6⟩
  clear FaT0 FaT1 FaT2 LaT
  have BB6 : Below w.heap.size w w6 := BB5.trans (hb6.mono BB5.size)
  have s6 := hb6.size
  replace oS3 := oS3.below hb6
  replace XaT := XaT.below hb6
  replace Xw0 := Xw0.below hb6
  have vS4 := oS4.in_
  go_wp2_with fail
  obtain ⟨w7, hw7, Xx0, hb7, hsb_x0⟩ := one_box w6 #[.int .i64 t0.boats, .slice PS4 nS4 cS4, .slice CS4 mS4 dS4] 26
  rw [← hw7]
  clear hw7
  replace hsb_x0 : w6.heap.size < w7.heap.size := by omega
  have BB7 : Below w.heap.size w w7 := BB6.trans (hb7.mono BB6.size)
  have s7 := hb7.size
  replace oS3 := oS3.below hb7
  replace oS4 := oS4.below hb7
  replace XaT := XaT.below hb7
  replace Xw0 := Xw0.below hb7
  refine (toRedressS_any _ _ _ _ _ (hr1.below BB7) hlen1).mono ?_
  rintro e w8 ⟨AS5, nS5, cS5, rfl, oS5, hnS5, hb8⟩
  have BB8 : Below w.heap.size w w8 := BB7.trans (hb8.mono BB7.size)
  have s8 := hb8.size
  replace oS3 := oS3.below hb8
  replace oS4 := oS4.below hb8
  replace XaT := XaT.below hb8
  replace Xw0 := Xw0.below hb8
  replace Xx0 := Xx0.below hb8
  have vS5 := oS5.lt
  have Fx00 := Xx0.cell (i := 0) rfl
  have Fx01 := Xx0.cell (i := 1) rfl
  have Fx02 := Xx0.cell (i := 2) rfl
  go_wp2_with fail
  refine (implApply_any _ _ _ _ _ _ _ _ _ _ _ _ oS4.rd (own_rd oS5)).mono ?_
  rintro e w9 ⟨PS6, nS6, cS6, VS6, CS6, mS6, dS6, US6, rfl, oS6, hnS6, hb9⟩
  clear Fx00 Fx01 Fx02
  have BB9 : Below w.heap.size w w9 := BB8.trans (hb9.mono BB8.size)
  have s9 := hb9.size
  replace oS3 := oS3.below hb9
  replace oS4 := oS4.below hb9
  replace oS5 := own_below oS5 hb9
  replace XaT := XaT.below hb9
  replace Xw0 := Xw0.below hb9
  replace Xx0 := Xx0.below hb9
  have vS6 := oS6.in_
  have Fw00 := Xw0.cell (i := 0) rfl
  have Fw01 := Xw0.cell (i := 1) rfl
  have Fw02 := Xw0.cell (i := 2) rfl
  have Lw0 := Xw0.lt
  go_wp2_with fail
  obtain ⟨w10, hw10, Xg0, hb10, hsb_g0⟩ := one_box w9 #[.int .i64 (applyCF t0 z1).1.boats, .slice PS6 nS6 cS6, .slice CS6 mS6 dS6] 26
  rw [← hw10]
  clear hw10
  replace hsb_g0 : w9.heap.size < w10.heap.size := by omega
  have BB10 : Below w.heap.size w w10 := BB9.trans (hb10.mono BB9.size)
  have s10 := hb10.size
  replace oS3 := oS3.below hb10
  replace oS4 := oS4.below hb10
  replace oS5 := own_below oS5 hb10
  replace oS6 := oS6.below hb10
  replace XaT := XaT.below hb10
  replace Xw0 := Xw0.below hb10
  replace Xx0 := Xx0.below hb10
  refine (eqTable_any _ _ _ _ _ _ _ _ _ _ _ _ _ _ _ _ _ oS6.rd oS3.rd rfl rfl rfl).mono ?_
  rintro e w11 ⟨rfl, hb11⟩
  clear Fw00 Fw01 Fw02 Lw0
  have BB11 : Below w.heap.size w w11 := BB10.trans (hb11.mono BB10.size)
  have s11 := hb11.size
  replace oS3 := oS3.below hb11
  replace oS4 := oS4.below hb11
  replace oS5 := own_below oS5 hb11
  replace oS6 := oS6.below hb11
  replace XaT := XaT.below hb11
  replace Xw0 := Xw0.below hb11
  replace Xx0 := Xx0.below hb11
  replace Xg0 := Xg0.below hb11
  go_wp2_with fail
  have HSR := Lib.hid (show ∀ w1, Below w11.heap.size w11 w1 → (w1.cell? ⟨w6.heap.size, 0, none⟩ = some (.int .i64 t0.boats) ∧ w1.cell? ⟨w6.heap.size, 1, none⟩ = some (.slice PS4 nS4 cS4) ∧ w1.cell? ⟨w6.heap.size, 2, none⟩ = some (.slice CS4 mS4 dS4) ∧ w1.cell? ⟨w.heap.size, 0, none⟩ = some (.int .i64 t0.boats) ∧ w1.cell? ⟨w.heap.size, 1, none⟩ = some (.slice P0 n0 c0) ∧ w1.cell? ⟨w.heap.size, 2, none⟩ = some (.slice C0 m0 d0) ∧ Below w11.heap.size w11 w1) from fun w1 hb => ⟨(Xx0.below hb).cell (i := 0) rfl, (Xx0.below hb).cell (i := 1) rfl, (Xx0.below hb).cell (i := 2) rfl, (XaT.below hb).cell (i := 0) rfl, (XaT.below hb).cell (i := 1) rfl, (XaT.below hb).cell (i := 2) rfl, hb⟩)
  go_region_held3 (fun w1 => w1.cell? ⟨w6.heap.size, 0, none⟩ = some (.int .i64 t0.boats) ∧ w1.cell? ⟨w6.heap.size, 1, none⟩ = some (.slice PS4 nS4 cS4) ∧ w1.cell? ⟨w6.heap.size, 2, none⟩ = some (.slice CS4 mS4 dS4) ∧ w1.cell? ⟨w.heap.size, 0, none⟩ = some (.int .i64 t0.boats) ∧ w1.cell? ⟨w.heap.size, 1, none⟩ = some (.slice P0 n0 c0) ∧ w1.cell? ⟨w.heap.size, 2, none⟩ = some (.slice C0 m0 d0) ∧ Below w11.heap.size w11 w1) (first | exact HSR.out _ hb12 | exact HSR.out _ HBq | exact HSR.out _ ((Drawn.refl _).step 1).below | exact HSR.out _ (Drawn.refl _).below) (first | (go_at_call 16; have hq := (‹_ ∧ _ ∧ _ ∧ _ ∧ _ ∧ _ ∧ Below w11.heap.size w11 _›).2.2.2.2.2.2; refine (toTable_any _ _ _ _ _ _ _ _ _ rfl (hr0.below (BB11.trans (hq.mono BB11.size))) hln0.1.1 hln0.1.2 hln0.2.1.out hln0.2.2.out).mono ?_; rintro e wq ⟨PS7, nS7, cS7, VS7, CS7, mS7, dS7, US7, rfl, oS7, hnS7, hbq⟩; have HBq := hq.trans (hbq.mono hq.size)) | (go_at_call 19; have hq := (‹_ ∧ _ ∧ _ ∧ _ ∧ _ ∧ _ ∧ Below w11.heap.size w11 _›).2.2.2.2.2.2; refine (eqTable_any _ _ _ _ _ _ _ _ _ _ _ _ _ _ _ _ _ ((oS4.below hq).rd) oS7.rd rfl rfl rfl).mono ?_; rintro e w12 ⟨rfl, hbr⟩; have hb12 := hq.trans (hbr.mono hq.size)))
  have BB12 : Below w.heap.size w w12 := BB11.trans (hb12.mono BB11.size)
  have s12 := hb12.size
  replace oS3 := oS3.below hb12
  replace oS4 := oS4.below hb12
  replace oS5 := own_below oS5 hb12
  replace oS6 := oS6.below hb12
  replace XaT := XaT.below hb12
  replace Xw0 := Xw0.below hb12
  replace Xx0 := Xx0.below hb12
  replace Xg0 := Xg0.below hb12
  go_wp2_with fail
  refine (toRedressS_any _ _ _ _ _ (hr1.below BB12) hlen1).mono ?_
  rintro e w13 ⟨AS8, nS8, cS8, rfl, oS8, hnS8, hb13⟩
  have BB13 : Below w.heap.size w w13 := BB12.trans (hb13.mono BB12.size)
  have s13 := hb13.size
  replace oS3 := oS3.below hb13
  replace oS4 := oS4.below hb13
  replace oS5 := own_below oS5 hb13
  replace oS6 := oS6.below hb13
  replace XaT := XaT.below hb13
  replace Xw0 := Xw0.below hb13
  replace Xx0 := Xx0.below hb13
  replace Xg0 := Xg0.below hb13
  have vS8 := oS8.lt
  go_wp2_with fail
  refine (eqRedressS_same _ _ _ _ _ _ _ _ (own_rd oS5) (own_rd oS8)).mono ?_
  rintro e w14 ⟨rfl, hb14⟩
  have BB14 : Below w.heap.size w w14 := BB13.trans (hb14.mono BB13.size)
  have s14 := hb14.size
  replace oS3 := oS3.below hb14
  replace oS4 := oS4.below hb14
  replace oS5 := own_below oS5 hb14
  replace oS6 := oS6.below hb14
  replace oS8 := own_below oS8 hb14
  replace XaT := XaT.below hb14
  replace Xw0 := Xw0.below hb14
  replace Xx0 := Xx0.below hb14
  replace Xg0 := Xg0.below hb14
  clear oS8 vS8 hnS8
  have Fx00 := Xx0.cell (i := 0) rfl
  have Fx01 := Xx0.cell (i := 1) rfl
  have Fx02 := Xx0.cell (i := 2) rfl
  go_wp2_with fail
  refine (markTable_any _ w5.heap.size w6.heap.size _ _ _ _ _ _ _ _ _ _ _ _ oS4 vS4 (by omega) (by omega) hnS4).mono ?_
  clear oS4
  rintro e w15 ⟨rfl, oS4, hc15⟩
  clear Fx00 Fx01 Fx02
  have BB15 : Below w.heap.size w w15 := below_chg BB14 hc15 (by omega) (by omega)
  have s15 := hc15.size
  replace oS3 := oS3.chg hc15 vS3 (by omega)
  replace oS5 := own_chg oS5 hc15 (fun b hb => by have := vS5 b hb; omega)
  replace oS6 := oS6.chg hc15 vS6 (by omega)
  replace XaT := XaT.chg hc15 (by omega)
  replace Xw0 := Xw0.chg hc15 (by omega)
  replace Xx0 := Xx0.chg hc15 (by omega)
  replace Xg0 := Xg0.chg hc15 (by omega)
  go_wp2_with fail
  refine (markRedressS_any _ w7.heap.size w8.heap.size _ _ _ _ _ _ _ oS5 vS5 (by omega) (by omega) (by omega)).mono ?_
  clear oS5
  rintro e w16 ⟨rfl, hc16⟩
  have BB16 : Below w.heap.size w w16 := below_chg BB15 hc16 (by omega) (by omega)
  have s16 := hc16.size
  replace oS3 := oS3.chg hc16 vS3 (by omega)
  replace oS4 := oS4.chg hc16 vS4 (by omega)
  replace oS6 := oS6.chg hc16 vS6 (by omega)
  replace XaT := XaT.chg hc16 (by omega)
  replace Xw0 := Xw0.chg hc16 (by omega)
  replace Xx0 := Xx0.chg hc16 (by omega)
  replace Xg0 := Xg0.chg hc16 (by omega)
  have Fw00 := Xw0.cell (i := 0) rfl
  have Fw01 := Xw0.cell (i := 1) rfl
  have Fw02 := Xw0.cell (i := 2) rfl
  have Fg00 := Xg0.cell (i := 0) rfl
  have Fg01 := Xg0.cell (i := 1) rfl
  have Fg02 := Xg0.cell (i := 2) rfl
  go_wp2_with fail
  refine (eqTable_any _ _ _ _ _ _ _ _ _ _ _ _ _ _ _ _ _ oS6.rd oS3.rd rfl rfl rfl).mono ?_
  rintro e w17 ⟨rfl, hb17⟩
  clear Fw00 Fw01 Fw02 Fg00 Fg01 Fg02
  have BB17 : Below w.heap.size w w17 := BB16.trans (hb17.mono BB16.size)
  have s17 := hb17.size
  replace oS3 := oS3.below hb17
  replace oS4 := oS4.below hb17
  replace oS6 := oS6.below hb17
  replace XaT := XaT.below hb17
  replace Xw0 := Xw0.below hb17
  replace Xx0 := Xx0.below hb17
  replace Xg0 := Xg0.below hb17
  have Fg00 := Xg0.cell (i := 0) rfl
  have Fg01 := Xg0.cell (i := 1) rfl
  have Fg02 := Xg0.cell (i := 2) rfl
  go_wp2_with fail
  refine (markTable_any _ w8.heap.size w9.heap.size _ _ _ _ _ _ _ _ _ _ _ _ oS6 vS6 (by omega) (by omega) hnS6).mono ?_
  clear oS6
  rintro e w18 ⟨rfl, oS6, hc18⟩
  clear Fg00 Fg01 Fg02
  have BB18 : Below w.heap.size w w18 := below_chg BB17 hc18 (by omega) (by omega)
  have s18 := hc18.size
  replace oS3 := oS3.chg hc18 vS3 (by omega)
  replace oS4 := oS4.chg hc18 vS4 (by omega)
  replace XaT := XaT.chg hc18 (by omega)
  replace Xw0 := Xw0.chg hc18 (by omega)
  replace Xx0 := Xx0.chg hc18 (by omega)
  replace Xg0 := Xg0.chg hc18 (by omega)
  have Fg00 := Xg0.cell (i := 0) rfl
  have Fg01 := Xg0.cell (i := 1) rfl
  have Fg02 := Xg0.cell (i := 2) rfl
  go_wp2_with fail
  refine (heldTable_any _ _ _ _ _ _ _ _ _ _ _ oS6.rd (by omega) (by omega) hnS6).mono ?_
  rintro e w19 ⟨rfl, hb19⟩
  clear Fg00 Fg01 Fg02
  have BB19 : Below w.heap.size w w19 := BB18.trans (hb19.mono BB18.size)
  have s19 := hb19.size
  replace oS3 := oS3.below hb19
  replace oS4 := oS4.below hb19
  replace oS6 := oS6.below hb19
  replace XaT := XaT.below hb19
  replace Xw0 := Xw0.below hb19
  replace Xx0 := Xx0.below hb19
  replace Xg0 := Xg0.below hb19
  have FaT0 := XaT.cell (i := 0) rfl
  have FaT1 := XaT.cell (i := 1) rfl
  have FaT2 := XaT.cell (i := 2) rfl
  go_wp2_with fail
  refine (toTable_any _ _ _ _ _ _ _ _ _ rfl (hr0.below BB19) hln0.1.1 hln0.1.2 hln0.2.1.out hln0.2.2.out).mono ?_
  rintro e w20 ⟨PS9, nS9, cS9, VS9, CS9, mS9, dS9, US9, rfl, oS9, hnS9, hb20⟩
  clear FaT0 FaT1 FaT2
  have BB20 : Below w.heap.size w w20 := BB19.trans (hb20.mono BB19.size)
  have s20 := hb20.size
  replace oS3 := oS3.below hb20
  replace oS4 := oS4.below hb20
  replace oS6 := oS6.below hb20
  replace XaT := XaT.below hb20
  replace Xw0 := Xw0.below hb20
  replace Xx0 := Xx0.below hb20
  replace Xg0 := Xg0.below hb20
  have vS9 := oS9.in_
  go_wp2_with fail
  refine (toRedressS_any _ _ _ _ _ (hr1.below BB20) hlen1).mono ?_
  rintro e w21 ⟨AS10, nS10, cS10, rfl, oS10, hnS10, hb21⟩
  have BB21 : Below w.heap.size w w21 := BB20.trans (hb21.mono BB20.size)
  have s21 := hb21.size
  replace oS3 := oS3.below hb21
  replace oS4 := oS4.below hb21
  replace oS6 := oS6.below hb21
  replace oS9 := oS9.below hb21
  replace XaT := XaT.below hb21
  replace Xw0 := Xw0.below hb21
  replace Xx0 := Xx0.below hb21
  replace Xg0 := Xg0.below hb21
  have vS10 := oS10.lt
  go_wp2_with fail
  refine (implApply_any _ _ _ _ _ _ _ _ _ _ _ _ oS9.rd (own_rd oS10)).mono ?_
  rintro e w22 ⟨PS11, nS11, cS11, VS11, CS11, mS11, dS11, US11, rfl, oS11, hnS11, hb22⟩
  have BB22 : Below w.heap.size w w22 := BB21.trans (hb22.mono BB21.size)
  have s22 := hb22.size
  replace oS3 := oS3.below hb22
  replace oS4 := oS4.below hb22
  replace oS6 := oS6.below hb22
  replace oS9 := oS9.below hb22
  replace oS10 := own_below oS10 hb22
  replace XaT := XaT.below hb22
  replace Xw0 := Xw0.below hb22
  replace Xx0 := Xx0.below hb22
  replace Xg0 := Xg0.below hb22
  have vS11 := oS11.in_
  clear oS9 vS9 hnS9
  clear oS10 vS10 hnS10
  have Fw00 := Xw0.cell (i := 0) rfl
  have Fw01 := Xw0.cell (i := 1) rfl
  have Fw02 := Xw0.cell (i := 2) rfl
  have Lw0 := Xw0.lt
  go_wp2_with fail
  obtain ⟨w23, hw23, Xh0, hb23, hsb_h0⟩ := one_box w22 #[.int .i64 (applyCF t0 z1).1.boats, .slice PS11 nS11 cS11, .slice CS11 mS11 dS11] 26
  rw [← hw23]
  clear hw23
  replace hsb_h0 : w22.heap.size < w23.heap.size := by omega
  have BB23 : Below w.heap.size w w23 := BB22.trans (hb23.mono BB22.size)
  have s23 := hb23.size
  replace oS3 := oS3.below hb23
  replace oS4 := oS4.below hb23
  replace oS6 := oS6.below hb23
  replace oS11 := oS11.below hb23
  replace XaT := XaT.below hb23
  replace Xw0 := Xw0.below hb23
  replace Xx0 := Xx0.below hb23
  replace Xg0 := Xg0.below hb23
  refine (eqTable_any _ _ _ _ _ _ _ _ _ _ _ _ _ _ _ _ _ oS11.rd oS3.rd rfl rfl rfl).mono ?_
  rintro e w24 ⟨rfl, hb24⟩
  clear Fw00 Fw01 Fw02 Lw0
  have BB24 : Below w.heap.size w w24 := BB23.trans (hb24.mono BB23.size)
  have s24 := hb24.size
  replace oS3 := oS3.below hb24
  replace oS4 := oS4.below hb24
  replace oS6 := oS6.below hb24
  replace oS11 := oS11.below hb24
  replace XaT := XaT.below hb24
  replace Xw0 := Xw0.below hb24
  replace Xx0 := Xx0.below hb24
  replace Xg0 := Xg0.below hb24
  replace Xh0 := Xh0.below hb24
  have Fg00 := Xg0.cell (i := 0) rfl
  have Fg01 := Xg0.cell (i := 1) rfl
  have Fg02 := Xg0.cell (i := 2) rfl
  go_wp2_with fail
  refine (heldTable_any _ _ _ _ _ _ _ _ _ _ _ oS6.rd (by omega) (by omega) hnS6).mono ?_
  rintro e w25 ⟨rfl, hb25⟩
  clear Fg00 Fg01 Fg02
  have BB25 : Below w.heap.size w w25 := BB24.trans (hb25.mono BB24.size)
  have s25 := hb25.size
  replace oS3 := oS3.below hb25
  replace oS4 := oS4.below hb25
  replace oS6 := oS6.below hb25
  replace oS11 := oS11.below hb25
  replace XaT := XaT.below hb25
  replace Xw0 := Xw0.below hb25
  replace Xx0 := Xx0.below hb25
  replace Xg0 := Xg0.below hb25
  replace Xh0 := Xh0.below hb25
  go_wp2_with fail
  go_ret
  exact ⟨rfl, BB25⟩
end Go.Proofs.Ytmhljmehiigamaa

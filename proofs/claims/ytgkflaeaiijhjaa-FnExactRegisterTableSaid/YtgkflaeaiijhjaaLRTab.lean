/- The walk of FnExactRegisterTable. -/
import Derived.Test.YtgkflaeaiijhjaaSzr
import Derived.Test.YtgkflaeaiijhjaaZmb
import Derived.Test.YtgkflaeaiijhjaaTa
import Derived.Test.YtgkflaeaiijhjaaYe
import Derived.Test.YtgkflaeaiijhjaaZma
import Derived.Lib.QuietBelow
import Derived.Deep.RegionHeld3
namespace Go.Proofs.Ytgkflaeaiijhjaa
open Go.RowKit Go.Sort
set_option linter.unusedVariables false
set_option maxRecDepth 100000

set_option maxHeartbeats 4000000 in
theorem fnExactRegisterTable_walk (rb0 rs0 : Int) (a0 : Option Addr) (len0 cap0 : Nat) (z0 : List EntryT) (w : World) (v0 : Rd w 7 a0 len0 (ents z0)) :
    Calls Try.prog 3 #[.agg #[.int .i64 rb0, .int .i64 rs0, .slice a0 len0 cap0]] w fun e w' => e = .returned (.bool true) ∧ Below w.heap.size w w' := by
  have hr0 := v0
  have hle0 := hr0.le
  clear v0
  obtain ⟨sz0, hsz0⟩ : ∃ s, s = szIf 1048576 len0 := ⟨_, rfl⟩
  have HSZ0 := Lib.hid hsz0.symm
  clear hsz0
  go_enter Try.func3, Try.ntmps3
  have BBs : Below w.heap.size w w := Below.refl _ _
  go_wp2_with fail
  obtain ⟨w0, hw0, XaR, hb0, hsb_aR⟩ := one_box w #[.int .i64 rb0, .int .i64 rs0, .slice a0 len0 cap0] 24
  rw [← hw0]
  clear hw0
  replace hsb_aR : w.heap.size < w0.heap.size := by omega
  have BB0 : Below w.heap.size w w0 := hb0
  have s0 := hb0.size
  refine (szRegister_any _ _ _ _ _ _ 1048576 (by omega) (by omega) _ (hr0.below BB0)).mono ?_
  rintro e w1 ⟨rfl, hb1⟩
  have BB1 : Below w.heap.size w w1 := BB0.trans (hb1.mono BB0.size)
  have s1 := hb1.size
  replace XaR := XaR.below hb1
  rw [show (if 1048576 < (len0 : Int) then (-1 : Int) else 1048576 - len0) = szIf 1048576 len0 from rfl]
  rw [HSZ0.out]
  by_cases hneg0 : 0 ≤ sz0
  rotate_left
  · go_wp2_with fail
    go_ret
    exact ⟨rfl, BB1⟩
  have hneg0' := hneg0
  rw [← HSZ0.out] at hneg0'
  have hszle0 : sz0 ≤ 1048576 := by rw [← HSZ0.out]; exact szIf_top hneg0' (by omega) (by omega)
  have hlen0 : len0 ≤ 1048576 := szIf_le hneg0' (by omega)
  clear hneg0'
  have FaR0 := XaR.cell (i := 0) rfl
  have FaR1 := XaR.cell (i := 1) rfl
  have FaR2 := XaR.cell (i := 2) rfl
  go_wp2_with fail
  refine (toRegister_any _ _ _ _ _ _ _ (hr0.below BB1) hlen0).mono ?_
  rintro e w2 ⟨AS1, nS1, cS1, rfl, oS1, hnS1, hb2⟩
  clear FaR0 FaR1 FaR2
  have BB2 : Below w.heap.size w w2 := BB1.trans (hb2.mono BB1.size)
  have s2 := hb2.size
  replace XaR := XaR.below hb2
  have vS1 := oS1.lt
  go_wp2_with fail
  refine (specRegisterTable_any _ _ _ _ _ _ _ ⟨own_rd oS1, own_capE oS1⟩).mono ?_
  rintro e w3 ⟨PS2, nS2, cS2, VS2, CS2, mS2, dS2, US2, rfl, oS2, hnS2, hb3⟩
  have BB3 : Below w.heap.size w w3 := BB2.trans (hb3.mono BB2.size)
  have s3 := hb3.size
  replace oS1 := own_below oS1 hb3
  replace XaR := XaR.below hb3
  have vS2 := oS2.in_
  clear oS1 vS1 hnS1
  have FaR0 := XaR.cell (i := 0) rfl
  have FaR1 := XaR.cell (i := 1) rfl
  have FaR2 := XaR.cell (i := 2) rfl
  have LaR := XaR.lt
  go_wp2_with fail
  obtain ⟨w4, hw4, Xw0, hb4, hsb_w0⟩ := one_box w3 #[.int .i64 (regTabC rb0 rs0 z0).1.boats, .slice PS2 nS2 cS2, .slice CS2 mS2 dS2] 28
  rw [← hw4]
  clear hw4
  replace hsb_w0 : w3.heap.size < w4.heap.size := by omega
  have BB4 : Below w.heap.size w w4 := BB3.trans (hb4.mono BB3.size)
  have s4 := hb4.size
  replace oS2 := oS2.below hb4
  replace XaR := XaR.below hb4
  refine (toRegister_any _ _ _ _ _ _ _ (hr0.below BB4) hlen0).mono ?_
  rintro e w5 ⟨AS3, nS3, cS3, rfl, oS3, hnS3, hb5⟩
  clear FaR0 FaR1 FaR2 LaR
  have BB5 : Below w.heap.size w w5 := BB4.trans (hb5.mono BB4.size)
  have s5 := hb5.size
  replace oS2 := oS2.below hb5
  replace XaR := XaR.below hb5
  replace Xw0 := Xw0.below hb5
  have vS3 := oS3.lt
  go_wp2_with fail
  obtain ⟨w6, hw6, Xx0, hb6, hsb_x0⟩ := one_box w5 #[.int .i64 rb0, .int .i64 rs0, .slice AS3 nS3 cS3] 33
  rw [← hw6]
  clear hw6
  replace hsb_x0 : w5.heap.size < w6.heap.size := by omega
  have BB6 : Below w.heap.size w w6 := BB5.trans (hb6.mono BB5.size)
  have s6 := hb6.size
  replace oS2 := oS2.below hb6
  replace oS3 := own_below oS3 hb6
  replace XaR := XaR.below hb6
  replace Xw0 := Xw0.below hb6
  refine (implRegisterTable_any _ _ _ _ _ _ _ ⟨own_rd oS3, own_capE oS3⟩).mono ?_
  rintro e w7 ⟨PS4, nS4, cS4, VS4, CS4, mS4, dS4, US4, rfl, oS4, hnS4, hb7⟩
  have BB7 : Below w.heap.size w w7 := BB6.trans (hb7.mono BB6.size)
  have s7 := hb7.size
  replace oS2 := oS2.below hb7
  replace oS3 := own_below oS3 hb7
  replace XaR := XaR.below hb7
  replace Xw0 := Xw0.below hb7
  replace Xx0 := Xx0.below hb7
  have vS4 := oS4.in_
  have Fw00 := Xw0.cell (i := 0) rfl
  have Fw01 := Xw0.cell (i := 1) rfl
  have Fw02 := Xw0.cell (i := 2) rfl
  have Lw0 := Xw0.lt
  go_wp2_with fail
  obtain ⟨w8, hw8, Xg0, hb8, hsb_g0⟩ := one_box w7 #[.int .i64 (regTabC rb0 rs0 z0).1.boats, .slice PS4 nS4 cS4, .slice CS4 mS4 dS4] 28
  rw [← hw8]
  clear hw8
  replace hsb_g0 : w7.heap.size < w8.heap.size := by omega
  have BB8 : Below w.heap.size w w8 := BB7.trans (hb8.mono BB7.size)
  have s8 := hb8.size
  replace oS2 := oS2.below hb8
  replace oS3 := own_below oS3 hb8
  replace oS4 := oS4.below hb8
  replace XaR := XaR.below hb8
  replace Xw0 := Xw0.below hb8
  replace Xx0 := Xx0.below hb8
  refine (eqTable_any _ _ _ _ _ _ _ _ _ _ _ _ _ _ _ _ _ oS4.rd oS2.rd rfl rfl rfl).mono ?_
  rintro e w9 ⟨rfl, hb9⟩
  clear Fw00 Fw01 Fw02 Lw0
  have BB9 : Below w.heap.size w w9 := BB8.trans (hb9.mono BB8.size)
  have s9 := hb9.size
  replace oS2 := oS2.below hb9
  replace oS3 := own_below oS3 hb9
  replace oS4 := oS4.below hb9
  replace XaR := XaR.below hb9
  replace Xw0 := Xw0.below hb9
  replace Xx0 := Xx0.below hb9
  replace Xg0 := Xg0.below hb9
  go_wp2_with fail
  have HSR := Lib.hid (show ∀ w1, Below w9.heap.size w9 w1 → (w1.cell? ⟨w5.heap.size, 0, none⟩ = some (.int .i64 rb0) ∧ w1.cell? ⟨w5.heap.size, 1, none⟩ = some (.int .i64 rs0) ∧ w1.cell? ⟨w5.heap.size, 2, none⟩ = some (.slice AS3 nS3 cS3) ∧ w1.cell? ⟨w.heap.size, 0, none⟩ = some (.int .i64 rb0) ∧ w1.cell? ⟨w.heap.size, 1, none⟩ = some (.int .i64 rs0) ∧ w1.cell? ⟨w.heap.size, 2, none⟩ = some (.slice a0 len0 cap0) ∧ Below w9.heap.size w9 w1) from fun w1 hb => ⟨(Xx0.below hb).cell (i := 0) rfl, (Xx0.below hb).cell (i := 1) rfl, (Xx0.below hb).cell (i := 2) rfl, (XaR.below hb).cell (i := 0) rfl, (XaR.below hb).cell (i := 1) rfl, (XaR.below hb).cell (i := 2) rfl, hb⟩)
  go_region_held3 (fun w1 => w1.cell? ⟨w5.heap.size, 0, none⟩ = some (.int .i64 rb0) ∧ w1.cell? ⟨w5.heap.size, 1, none⟩ = some (.int .i64 rs0) ∧ w1.cell? ⟨w5.heap.size, 2, none⟩ = some (.slice AS3 nS3 cS3) ∧ w1.cell? ⟨w.heap.size, 0, none⟩ = some (.int .i64 rb0) ∧ w1.cell? ⟨w.heap.size, 1, none⟩ = some (.int .i64 rs0) ∧ w1.cell? ⟨w.heap.size, 2, none⟩ = some (.slice a0 len0 cap0) ∧ Below w9.heap.size w9 w1) (first | exact HSR.out _ hb10 | exact HSR.out _ HBq | exact HSR.out _ ((Drawn.refl _).step 1).below | exact HSR.out _ (Drawn.refl _).below) (first | (go_at_call 6; have hq := (‹_ ∧ _ ∧ _ ∧ _ ∧ _ ∧ _ ∧ Below w9.heap.size w9 _›).2.2.2.2.2.2; refine (toRegister_any _ _ _ _ _ _ _ (hr0.below (BB9.trans (hq.mono BB9.size))) hlen0).mono ?_; rintro e wq ⟨AS5, nS5, cS5, rfl, oS5, hnS5, hbq⟩; have HBq := hq.trans (hbq.mono hq.size)) | (go_at_call 9; have hq := (‹_ ∧ _ ∧ _ ∧ _ ∧ _ ∧ _ ∧ Below w9.heap.size w9 _›).2.2.2.2.2.2; refine (eqRegister_any _ _ _ _ _ _ _ _ _ _ (own_rd (own_below oS3 hq)) (own_rd oS5)).mono ?_; rintro e w10 ⟨rfl, hbr⟩; have hb10 := hq.trans (hbr.mono hq.size)))
  have BB10 : Below w.heap.size w w10 := BB9.trans (hb10.mono BB9.size)
  have s10 := hb10.size
  replace oS2 := oS2.below hb10
  replace oS3 := own_below oS3 hb10
  replace oS4 := oS4.below hb10
  replace XaR := XaR.below hb10
  replace Xw0 := Xw0.below hb10
  replace Xx0 := Xx0.below hb10
  replace Xg0 := Xg0.below hb10
  have Fx00 := Xx0.cell (i := 0) rfl
  have Fx01 := Xx0.cell (i := 1) rfl
  have Fx02 := Xx0.cell (i := 2) rfl
  go_wp2_with fail
  refine (markRegister_any _ w4.heap.size w5.heap.size _ _ _ _ _ _ _ _ _ oS3 vS3 (by omega) (by omega) (by omega)).mono ?_
  clear oS3
  rintro e w11 ⟨rfl, oS3, hc11⟩
  clear Fx00 Fx01 Fx02
  have BB11 : Below w.heap.size w w11 := below_chg BB10 hc11 (by omega) (by omega)
  have s11 := hc11.size
  replace oS2 := oS2.chg hc11 vS2 (by omega)
  replace oS4 := oS4.chg hc11 vS4 (by omega)
  replace XaR := XaR.chg hc11 (by omega)
  replace Xw0 := Xw0.chg hc11 (by omega)
  replace Xx0 := Xx0.chg hc11 (by omega)
  replace Xg0 := Xg0.chg hc11 (by omega)
  have Fw00 := Xw0.cell (i := 0) rfl
  have Fw01 := Xw0.cell (i := 1) rfl
  have Fw02 := Xw0.cell (i := 2) rfl
  have Fg00 := Xg0.cell (i := 0) rfl
  have Fg01 := Xg0.cell (i := 1) rfl
  have Fg02 := Xg0.cell (i := 2) rfl
  go_wp2_with fail
  refine (eqTable_any _ _ _ _ _ _ _ _ _ _ _ _ _ _ _ _ _ oS4.rd oS2.rd rfl rfl rfl).mono ?_
  rintro e w12 ⟨rfl, hb12⟩
  clear Fw00 Fw01 Fw02 Fg00 Fg01 Fg02
  have BB12 : Below w.heap.size w w12 := BB11.trans (hb12.mono BB11.size)
  have s12 := hb12.size
  replace oS2 := oS2.below hb12
  replace oS3 := own_below oS3 hb12
  replace oS4 := oS4.below hb12
  replace XaR := XaR.below hb12
  replace Xw0 := Xw0.below hb12
  replace Xx0 := Xx0.below hb12
  replace Xg0 := Xg0.below hb12
  have Fg00 := Xg0.cell (i := 0) rfl
  have Fg01 := Xg0.cell (i := 1) rfl
  have Fg02 := Xg0.cell (i := 2) rfl
  go_wp2_with fail
  refine (markTable_any _ w6.heap.size w7.heap.size _ _ _ _ _ _ _ _ _ _ _ _ oS4 vS4 (by omega) (by omega) hnS4).mono ?_
  clear oS4
  rintro e w13 ⟨rfl, oS4, hc13⟩
  clear Fg00 Fg01 Fg02
  have BB13 : Below w.heap.size w w13 := below_chg BB12 hc13 (by omega) (by omega)
  have s13 := hc13.size
  replace oS2 := oS2.chg hc13 vS2 (by omega)
  replace oS3 := own_chg oS3 hc13 (fun b hb => by have := vS3 b hb; omega)
  replace XaR := XaR.chg hc13 (by omega)
  replace Xw0 := Xw0.chg hc13 (by omega)
  replace Xx0 := Xx0.chg hc13 (by omega)
  replace Xg0 := Xg0.chg hc13 (by omega)
  have Fg00 := Xg0.cell (i := 0) rfl
  have Fg01 := Xg0.cell (i := 1) rfl
  have Fg02 := Xg0.cell (i := 2) rfl
  go_wp2_with fail
  refine (heldTable_any _ _ _ _ _ _ _ _ _ _ _ oS4.rd (by omega) (by omega) hnS4).mono ?_
  rintro e w14 ⟨rfl, hb14⟩
  clear Fg00 Fg01 Fg02
  have BB14 : Below w.heap.size w w14 := BB13.trans (hb14.mono BB13.size)
  have s14 := hb14.size
  replace oS2 := oS2.below hb14
  replace oS3 := own_below oS3 hb14
  replace oS4 := oS4.below hb14
  replace XaR := XaR.below hb14
  replace Xw0 := Xw0.below hb14
  replace Xx0 := Xx0.below hb14
  replace Xg0 := Xg0.below hb14
  have FaR0 := XaR.cell (i := 0) rfl
  have FaR1 := XaR.cell (i := 1) rfl
  have FaR2 := XaR.cell (i := 2) rfl
  go_wp2_with fail
  refine (toRegister_any _ _ _ _ _ _ _ (hr0.below BB14) hlen0).mono ?_
  rintro e w15 ⟨AS6, nS6, cS6, rfl, oS6, hnS6, hb15⟩
  clear FaR0 FaR1 FaR2
  have BB15 : Below w.heap.size w w15 := BB14.trans (hb15.mono BB14.size)
  have s15 := hb15.size
  replace oS2 := oS2.below hb15
  replace oS3 := own_below oS3 hb15
  replace oS4 := oS4.below hb15
  replace XaR := XaR.below hb15
  replace Xw0 := Xw0.below hb15
  replace Xx0 := Xx0.below hb15
  replace Xg0 := Xg0.below hb15
  have vS6 := oS6.lt
  go_wp2_with fail
  refine (implRegisterTable_any _ _ _ _ _ _ _ ⟨own_rd oS6, own_capE oS6⟩).mono ?_
  rintro e w16 ⟨PS7, nS7, cS7, VS7, CS7, mS7, dS7, US7, rfl, oS7, hnS7, hb16⟩
  have BB16 : Below w.heap.size w w16 := BB15.trans (hb16.mono BB15.size)
  have s16 := hb16.size
  replace oS2 := oS2.below hb16
  replace oS3 := own_below oS3 hb16
  replace oS4 := oS4.below hb16
  replace oS6 := own_below oS6 hb16
  replace XaR := XaR.below hb16
  replace Xw0 := Xw0.below hb16
  replace Xx0 := Xx0.below hb16
  replace Xg0 := Xg0.below hb16
  have vS7 := oS7.in_
  clear oS6 vS6 hnS6
  have Fw00 := Xw0.cell (i := 0) rfl
  have Fw01 := Xw0.cell (i := 1) rfl
  have Fw02 := Xw0.cell (i := 2) rfl
  have Lw0 := Xw0.lt
  go_wp2_with fail
  obtain ⟨w17, hw17, Xh0, hb17, hsb_h0⟩ := one_box w16 #[.int .i64 (regTabC rb0 rs0 z0).1.boats, .slice PS7 nS7 cS7, .slice CS7 mS7 dS7] 28
  rw [← hw17]
  clear hw17
  replace hsb_h0 : w16.heap.size < w17.heap.size := by omega
  have BB17 : Below w.heap.size w w17 := BB16.trans (hb17.mono BB16.size)
  have s17 := hb17.size
  replace oS2 := oS2.below hb17
  replace oS3 := own_below oS3 hb17
  replace oS4 := oS4.below hb17
  replace oS7 := oS7.below hb17
  replace XaR := XaR.below hb17
  replace Xw0 := Xw0.below hb17
  replace Xx0 := Xx0.below hb17
  replace Xg0 := Xg0.below hb17
  refine (eqTable_any _ _ _ _ _ _ _ _ _ _ _ _ _ _ _ _ _ oS7.rd oS2.rd rfl rfl rfl).mono ?_
  rintro e w18 ⟨rfl, hb18⟩
  clear Fw00 Fw01 Fw02 Lw0
  have BB18 : Below w.heap.size w w18 := BB17.trans (hb18.mono BB17.size)
  have s18 := hb18.size
  replace oS2 := oS2.below hb18
  replace oS3 := own_below oS3 hb18
  replace oS4 := oS4.below hb18
  replace oS7 := oS7.below hb18
  replace XaR := XaR.below hb18
  replace Xw0 := Xw0.below hb18
  replace Xx0 := Xx0.below hb18
  replace Xg0 := Xg0.below hb18
  replace Xh0 := Xh0.below hb18
  have Fg00 := Xg0.cell (i := 0) rfl
  have Fg01 := Xg0.cell (i := 1) rfl
  have Fg02 := Xg0.cell (i := 2) rfl
  go_wp2_with fail
  refine (heldTable_any _ _ _ _ _ _ _ _ _ _ _ oS4.rd (by omega) (by omega) hnS4).mono ?_
  rintro e w19 ⟨rfl, hb19⟩
  clear Fg00 Fg01 Fg02
  have BB19 : Below w.heap.size w w19 := BB18.trans (hb19.mono BB18.size)
  have s19 := hb19.size
  replace oS2 := oS2.below hb19
  replace oS3 := own_below oS3 hb19
  replace oS4 := oS4.below hb19
  replace oS7 := oS7.below hb19
  replace XaR := XaR.below hb19
  replace Xw0 := Xw0.below hb19
  replace Xx0 := Xx0.below hb19
  replace Xg0 := Xg0.below hb19
  replace Xh0 := Xh0.below hb19
  go_wp2_with fail
  go_ret
  exact ⟨rfl, BB19⟩
end Go.Proofs.Ytgkflaeaiijhjaa

/- The walk of FnExactRegisterStanding. -/
import Derived.Test.YtalgdeieejpelaaGreatZma
import Derived.Test.YtalgdeieejpelaaGreatZmb
import Derived.Test.YtalgdeieejpelaaGreatZn
import Derived.Lib.QuietBelow
import Derived.Deep.RegionHeld3
namespace Go.Proofs.YtalgdeieejpelaaGreat
open Go.RowKit Go.Sort
set_option linter.unusedVariables false
set_option maxRecDepth 100000

set_option maxHeartbeats 4000000 in
theorem fnExactRegisterStanding_walk (rb0 rs0 : Int) (a0 : Option Addr) (len0 cap0 : Nat) (z0 : List EntryT) (a1 : Option Addr) (len1 cap1 : Nat) (z1 : List Int) (w : World) (v0 : Rd w 7 a0 len0 (ents z0)) (v1 : IsRow .i64 w a1 len1 cap1 z1) :
    Calls Tryz.prog 3 #[.agg #[.int .i64 rb0, .int .i64 rs0, .slice a0 len0 cap0], .slice a1 len1 cap1] w fun e w' => e = .returned (.bool true) ∧ Below w.heap.size w w' := by
  have hr0 := v0
  have hle0 := hr0.le
  have hr1 := v1.rd
  have hle1 := hr1.le
  generalize z1.take len1 = xs1 at hr1
  clear v0
  clear v1
  by_cases hlen1 : len1 ≤ 1048576
  rotate_left
  · go_enter Tryz.func3, Tryz.ntmps3
    go_wp2_with fail
    go_ret
    exact ⟨rfl, by first | exact Below.refl _ _ | exact (Below.refl _ _).alloc (Nat.le_refl _) _⟩
  obtain ⟨sz0, hsz0⟩ : ∃ s, s = szIf 1048576 len0 := ⟨_, rfl⟩
  have HSZ0 := Lib.hid hsz0.symm
  clear hsz0
  go_enter Tryz.func3, Tryz.ntmps3
  have BBs : Below w.heap.size w w := Below.refl _ _
  go_wp2_with fail
  obtain ⟨w0, hw0, XaR, hb0, hsb_aR⟩ := one_box w #[.int .i64 rb0, .int .i64 rs0, .slice a0 len0 cap0] 24
  rw [← hw0]
  clear hw0
  replace hsb_aR : w.heap.size < w0.heap.size := by omega
  have BB0 : Below w.heap.size w w0 := hb0
  have s0 := hb0.size
  refine (szRegister_any _ _ _ _ _ _ 1048576 (by omega) (by omega) _ (hr0.below BB0)).mono ?_
  rintro e w1 ⟨rfl, hb1⟩
  have BB1 : Below w.heap.size w w1 := BB0.trans (hb1.mono BB0.size)
  have s1 := hb1.size
  replace XaR := XaR.below hb1
  rw [show (if 1048576 < (len0 : Int) then (-1 : Int) else 1048576 - len0) = szIf 1048576 len0 from rfl]
  rw [HSZ0.out]
  by_cases hneg0 : 0 ≤ sz0
  rotate_left
  · go_wp2_with fail
    go_ret
    exact ⟨rfl, BB1⟩
  have hneg0' := hneg0
  rw [← HSZ0.out] at hneg0'
  have hszle0 : sz0 ≤ 1048576 := by rw [← HSZ0.out]; exact szIf_top hneg0' (by omega) (by omega)
  have hlen0 : len0 ≤ 1048576 := szIf_le hneg0' (by omega)
  clear hneg0'
  have FaR0 := XaR.cell (i := 0) rfl
  have FaR1 := XaR.cell (i := 1) rfl
  have FaR2 := XaR.cell (i := 2) rfl
  go_wp2_with fail
  refine (toRegister_any _ _ _ _ _ _ _ (hr0.below BB1) hlen0).mono ?_
  rintro e w2 ⟨AS1, nS1, cS1, rfl, oS1, hnS1, hb2⟩
  clear FaR0 FaR1 FaR2
  have BB2 : Below w.heap.size w w2 := BB1.trans (hb2.mono BB1.size)
  have s2 := hb2.size
  replace XaR := XaR.below hb2
  have vS1 := oS1.lt
  go_wp2_with fail
  refine (toInt64S_any _ _ _ _ _ (hr1.below BB2) hlen1).mono ?_
  rintro e w3 ⟨AS2, nS2, cS2, rfl, oS2, hnS2, hb3⟩
  have BB3 : Below w.heap.size w w3 := BB2.trans (hb3.mono BB2.size)
  have s3 := hb3.size
  replace oS1 := own_below oS1 hb3
  replace XaR := XaR.below hb3
  have vS2 := oS2.lt
  go_wp2_with fail
  refine (specRegStand_any _ _ _ _ _ _ _ _ _ _ _ ⟨own_rd oS1, own_capE oS1⟩ (own_rd oS2)).mono ?_
  rintro e w4 ⟨AS3, nS3, cS3, rfl, oS3, hnS3, hb4⟩
  have BB4 : Below w.heap.size w w4 := BB3.trans (hb4.mono BB3.size)
  have s4 := hb4.size
  replace oS1 := own_below oS1 hb4
  replace oS2 := own_below oS2 hb4
  replace XaR := XaR.below hb4
  have vS3 := oS3.lt
  clear oS1 vS1 hnS1
  clear oS2 vS2 hnS2
  have FaR0 := XaR.cell (i := 0) rfl
  have FaR1 := XaR.cell (i := 1) rfl
  have FaR2 := XaR.cell (i := 2) rfl
  go_wp2_with fail
  refine (toRegister_any _ _ _ _ _ _ _ (hr0.below BB4) hlen0).mono ?_
  rintro e w5 ⟨AS4, nS4, cS4, rfl, oS4, hnS4, hb5⟩
  clear FaR0 FaR1 FaR2
  have BB5 : Below w.heap.size w w5 := BB4.trans (hb5.mono BB4.size)
  have s5 := hb5.size
  replace oS3 := own_below oS3 hb5
  replace XaR := XaR.below hb5
  have vS4 := oS4.lt
  go_wp2_with fail
  obtain ⟨w6, hw6, Xx0, hb6, hsb_x0⟩ := one_box w5 #[.int .i64 rb0, .int .i64 rs0, .slice AS4 nS4 cS4] 31
  rw [← hw6]
  clear hw6
  replace hsb_x0 : w5.heap.size < w6.heap.size := by omega
  have BB6 : Below w.heap.size w w6 := BB5.trans (hb6.mono BB5.size)
  have s6 := hb6.size
  replace oS3 := own_below oS3 hb6
  replace oS4 := own_below oS4 hb6
  replace XaR := XaR.below hb6
  refine (toInt64S_any _ _ _ _ _ (hr1.below BB6) hlen1).mono ?_
  rintro e w7 ⟨AS5, nS5, cS5, rfl, oS5, hnS5, hb7⟩
  have BB7 : Below w.heap.size w w7 := BB6.trans (hb7.mono BB6.size)
  have s7 := hb7.size
  replace oS3 := own_below oS3 hb7
  replace oS4 := own_below oS4 hb7
  replace XaR := XaR.below hb7
  replace Xx0 := Xx0.below hb7
  have vS5 := oS5.lt
  have Fx00 := Xx0.cell (i := 0) rfl
  have Fx01 := Xx0.cell (i := 1) rfl
  have Fx02 := Xx0.cell (i := 2) rfl
  go_wp2_with fail
  refine (implRegStand_any _ _ _ _ _ _ _ _ _ _ _ ⟨own_rd oS4, own_capE oS4⟩ (own_rd oS5)).mono ?_
  rintro e w8 ⟨AS6, nS6, cS6, rfl, oS6, hnS6, hb8⟩
  clear Fx00 Fx01 Fx02
  have BB8 : Below w.heap.size w w8 := BB7.trans (hb8.mono BB7.size)
  have s8 := hb8.size
  replace oS3 := own_below oS3 hb8
  replace oS4 := own_below oS4 hb8
  replace oS5 := own_below oS5 hb8
  replace XaR := XaR.below hb8
  replace Xx0 := Xx0.below hb8
  have vS6 := oS6.lt
  go_wp2_with fail
  refine (eqInt64S_below _ _ _ _ _ _ _ _ _ (own_rd oS6) (own_rd oS3)).mono ?_
  rintro e w9 ⟨rfl, hb9⟩
  have BB9 : Below w.heap.size w w9 := BB8.trans (hb9.mono BB8.size)
  have s9 := hb9.size
  replace oS3 := own_below oS3 hb9
  replace oS4 := own_below oS4 hb9
  replace oS5 := own_below oS5 hb9
  replace oS6 := own_below oS6 hb9
  replace XaR := XaR.below hb9
  replace Xx0 := Xx0.below hb9
  go_wp2_with fail
  have HSR := Lib.hid (show ∀ w1, Below w9.heap.size w9 w1 → (w1.cell? ⟨w5.heap.size, 0, none⟩ = some (.int .i64 rb0) ∧ w1.cell? ⟨w5.heap.size, 1, none⟩ = some (.int .i64 rs0) ∧ w1.cell? ⟨w5.heap.size, 2, none⟩ = some (.slice AS4 nS4 cS4) ∧ w1.cell? ⟨w.heap.size, 0, none⟩ = some (.int .i64 rb0) ∧ w1.cell? ⟨w.heap.size, 1, none⟩ = some (.int .i64 rs0) ∧ w1.cell? ⟨w.heap.size, 2, none⟩ = some (.slice a0 len0 cap0) ∧ Below w9.heap.size w9 w1) from fun w1 hb => ⟨(Xx0.below hb).cell (i := 0) rfl, (Xx0.below hb).cell (i := 1) rfl, (Xx0.below hb).cell (i := 2) rfl, (XaR.below hb).cell (i := 0) rfl, (XaR.below hb).cell (i := 1) rfl, (XaR.below hb).cell (i := 2) rfl, hb⟩)
  go_region_held3 (fun w1 => w1.cell? ⟨w5.heap.size, 0, none⟩ = some (.int .i64 rb0) ∧ w1.cell? ⟨w5.heap.size, 1, none⟩ = some (.int .i64 rs0) ∧ w1.cell? ⟨w5.heap.size, 2, none⟩ = some (.slice AS4 nS4 cS4) ∧ w1.cell? ⟨w.heap.size, 0, none⟩ = some (.int .i64 rb0) ∧ w1.cell? ⟨w.heap.size, 1, none⟩ = some (.int .i64 rs0) ∧ w1.cell? ⟨w.heap.size, 2, none⟩ = some (.slice a0 len0 cap0) ∧ Below w9.heap.size w9 w1) (first | exact HSR.out _ hb10 | exact HSR.out _ HBq | exact HSR.out _ ((Drawn.refl _).step 1).below | exact HSR.out _ (Drawn.refl _).below) (first | (go_at_call 8; have hq := (‹_ ∧ _ ∧ _ ∧ _ ∧ _ ∧ _ ∧ Below w9.heap.size w9 _›).2.2.2.2.2.2; refine (toRegister_any _ _ _ _ _ _ _ (hr0.below (BB9.trans (hq.mono BB9.size))) hlen0).mono ?_; rintro e wq ⟨AS7, nS7, cS7, rfl, oS7, hnS7, hbq⟩; have HBq := hq.trans (hbq.mono hq.size)) | (go_at_call 12; have hq := (‹_ ∧ _ ∧ _ ∧ _ ∧ _ ∧ _ ∧ Below w9.heap.size w9 _›).2.2.2.2.2.2; refine (eqRegister_any _ _ _ _ _ _ _ _ _ _ (own_rd (own_below oS4 hq)) (own_rd oS7)).mono ?_; rintro e w10 ⟨rfl, hbr⟩; have hb10 := hq.trans (hbr.mono hq.size)))
  have BB10 : Below w.heap.size w w10 := BB9.trans (hb10.mono BB9.size)
  have s10 := hb10.size
  replace oS3 := own_below oS3 hb10
  replace oS4 := own_below oS4 hb10
  replace oS5 := own_below oS5 hb10
  replace oS6 := own_below oS6 hb10
  replace XaR := XaR.below hb10
  replace Xx0 := Xx0.below hb10
  go_wp2_with fail
  refine (toInt64S_any _ _ _ _ _ (hr1.below BB10) hlen1).mono ?_
  rintro e w11 ⟨AS8, nS8, cS8, rfl, oS8, hnS8, hb11⟩
  have BB11 : Below w.heap.size w w11 := BB10.trans (hb11.mono BB10.size)
  have s11 := hb11.size
  replace oS3 := own_below oS3 hb11
  replace oS4 := own_below oS4 hb11
  replace oS5 := own_below oS5 hb11
  replace oS6 := own_below oS6 hb11
  replace XaR := XaR.below hb11
  replace Xx0 := Xx0.below hb11
  have vS8 := oS8.lt
  go_wp2_with fail
  refine (eqInt64S_below _ _ _ _ _ _ _ _ _ (own_rd oS5) (own_rd oS8)).mono ?_
  rintro e w12 ⟨rfl, hb12⟩
  have BB12 : Below w.heap.size w w12 := BB11.trans (hb12.mono BB11.size)
  have s12 := hb12.size
  replace oS3 := own_below oS3 hb12
  replace oS4 := own_below oS4 hb12
  replace oS5 := own_below oS5 hb12
  replace oS6 := own_below oS6 hb12
  replace oS8 := own_below oS8 hb12
  replace XaR := XaR.below hb12
  replace Xx0 := Xx0.below hb12
  clear oS8 vS8 hnS8
  have Fx00 := Xx0.cell (i := 0) rfl
  have Fx01 := Xx0.cell (i := 1) rfl
  have Fx02 := Xx0.cell (i := 2) rfl
  go_wp2_with fail
  refine (markRegister_any _ w4.heap.size w5.heap.size _ _ _ _ _ _ _ _ _ oS4 vS4 (by omega) (by omega) (by omega)).mono ?_
  clear oS4
  rintro e w13 ⟨rfl, oS4, hc13⟩
  clear Fx00 Fx01 Fx02
  have BB13 : Below w.heap.size w w13 := below_chg BB12 hc13 (by omega) (by omega)
  have s13 := hc13.size
  replace oS3 := own_chg oS3 hc13 (fun b hb => by have := vS3 b hb; omega)
  replace oS5 := own_chg oS5 hc13 (fun b hb => by have := vS5 b hb; omega)
  replace oS6 := own_chg oS6 hc13 (fun b hb => by have := vS6 b hb; omega)
  replace XaR := XaR.chg hc13 (by omega)
  replace Xx0 := Xx0.chg hc13 (by omega)
  go_wp2_with fail
  refine (mark_any _ w6.heap.size w7.heap.size _ _ _ _ _ _ _ oS5 vS5 (by omega) (by omega) (by omega)).mono ?_
  clear oS5
  rintro e w14 ⟨rfl, oS5, hc14⟩
  have BB14 : Below w.heap.size w w14 := below_chg BB13 hc14 (by omega) (by omega)
  have s14 := hc14.size
  replace oS3 := own_chg oS3 hc14 (fun b hb => by have := vS3 b hb; omega)
  replace oS4 := own_chg oS4 hc14 (fun b hb => by have := vS4 b hb; omega)
  replace oS6 := own_chg oS6 hc14 (fun b hb => by have := vS6 b hb; omega)
  replace XaR := XaR.chg hc14 (by omega)
  replace Xx0 := Xx0.chg hc14 (by omega)
  go_wp2_with fail
  refine (eqInt64S_below _ _ _ _ _ _ _ _ _ (own_rd oS6) (own_rd oS3)).mono ?_
  rintro e w15 ⟨rfl, hb15⟩
  have BB15 : Below w.heap.size w w15 := BB14.trans (hb15.mono BB14.size)
  have s15 := hb15.size
  replace oS3 := own_below oS3 hb15
  replace oS4 := own_below oS4 hb15
  replace oS5 := own_below oS5 hb15
  replace oS6 := own_below oS6 hb15
  replace XaR := XaR.below hb15
  replace Xx0 := Xx0.below hb15
  go_wp2_with fail
  refine (mark_any _ w7.heap.size w8.heap.size _ _ _ _ _ _ _ oS6 vS6 (by omega) (by omega) (by omega)).mono ?_
  clear oS6
  rintro e w16 ⟨rfl, oS6, hc16⟩
  have BB16 : Below w.heap.size w w16 := below_chg BB15 hc16 (by omega) (by omega)
  have s16 := hc16.size
  replace oS3 := own_chg oS3 hc16 (fun b hb => by have := vS3 b hb; omega)
  replace oS4 := own_chg oS4 hc16 (fun b hb => by have := vS4 b hb; omega)
  replace oS5 := own_chg oS5 hc16 (fun b hb => by have := vS5 b hb; omega)
  replace XaR := XaR.chg hc16 (by omega)
  replace Xx0 := Xx0.chg hc16 (by omega)
  go_wp2_with fail
  refine (heldSeq_any _ _ _ _ _ (own_rd oS6) (by omega) (by omega) (by omega)).mono ?_
  rintro e w' ⟨rfl, rfl⟩
  have FaR0 := XaR.cell (i := 0) rfl
  have FaR1 := XaR.cell (i := 1) rfl
  have FaR2 := XaR.cell (i := 2) rfl
  go_wp2_with fail
  refine (toRegister_any _ _ _ _ _ _ _ (hr0.below BB16) hlen0).mono ?_
  rintro e w17 ⟨AS9, nS9, cS9, rfl, oS9, hnS9, hb17⟩
  clear FaR0 FaR1 FaR2
  have BB17 : Below w.heap.size w w17 := BB16.trans (hb17.mono BB16.size)
  have s17 := hb17.size
  replace oS3 := own_below oS3 hb17
  replace oS4 := own_below oS4 hb17
  replace oS5 := own_below oS5 hb17
  replace oS6 := own_below oS6 hb17
  replace XaR := XaR.below hb17
  replace Xx0 := Xx0.below hb17
  have vS9 := oS9.lt
  go_wp2_with fail
  refine (toInt64S_any _ _ _ _ _ (hr1.below BB17) hlen1).mono ?_
  rintro e w18 ⟨AS10, nS10, cS10, rfl, oS10, hnS10, hb18⟩
  have BB18 : Below w.heap.size w w18 := BB17.trans (hb18.mono BB17.size)
  have s18 := hb18.size
  replace oS3 := own_below oS3 hb18
  replace oS4 := own_below oS4 hb18
  replace oS5 := own_below oS5 hb18
  replace oS6 := own_below oS6 hb18
  replace oS9 := own_below oS9 hb18
  replace XaR := XaR.below hb18
  replace Xx0 := Xx0.below hb18
  have vS10 := oS10.lt
  go_wp2_with fail
  refine (implRegStand_any _ _ _ _ _ _ _ _ _ _ _ ⟨own_rd oS9, own_capE oS9⟩ (own_rd oS10)).mono ?_
  rintro e w19 ⟨AS11, nS11, cS11, rfl, oS11, hnS11, hb19⟩
  have BB19 : Below w.heap.size w w19 := BB18.trans (hb19.mono BB18.size)
  have s19 := hb19.size
  replace oS3 := own_below oS3 hb19
  replace oS4 := own_below oS4 hb19
  replace oS5 := own_below oS5 hb19
  replace oS6 := own_below oS6 hb19
  replace oS9 := own_below oS9 hb19
  replace oS10 := own_below oS10 hb19
  replace XaR := XaR.below hb19
  replace Xx0 := Xx0.below hb19
  have vS11 := oS11.lt
  clear oS9 vS9 hnS9
  clear oS10 vS10 hnS10
  go_wp2_with fail
  refine (eqInt64S_below _ _ _ _ _ _ _ _ _ (own_rd oS11) (own_rd oS3)).mono ?_
  rintro e w20 ⟨rfl, hb20⟩
  have BB20 : Below w.heap.size w w20 := BB19.trans (hb20.mono BB19.size)
  have s20 := hb20.size
  replace oS3 := own_below oS3 hb20
  replace oS4 := own_below oS4 hb20
  replace oS5 := own_below oS5 hb20
  replace oS6 := own_below oS6 hb20
  replace oS11 := own_below oS11 hb20
  replace XaR := XaR.below hb20
  replace Xx0 := Xx0.below hb20
  go_wp2_with fail
  refine (heldSeq_any _ _ _ _ _ (own_rd oS6) (by omega) (by omega) (by omega)).mono ?_
  rintro e w' ⟨rfl, rfl⟩
  go_wp2_with fail
  go_ret
  exact ⟨rfl, BB20⟩
end Go.Proofs.YtalgdeieejpelaaGreat

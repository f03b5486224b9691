/- The walk of FnExactCurrentEntries. -/
import Derived.Test.YtdldcjnidajmpaaSzr
import Derived.Test.YtdldcjnidajmpaaRh
import Derived.Test.YtdldcjnidajmpaaJc
import Derived.Lib.QuietBelow
import Derived.Deep.RegionHeld3
namespace Go.Proofs.Ytdldcjnidajmpaa
open Go.RowKit Go.Sort
set_option linter.unusedVariables false
set_option maxRecDepth 100000

set_option maxHeartbeats 4000000 in
theorem fnExactCurrentEntries_walk (rb0 rs0 : Int) (a0 : Option Addr) (len0 cap0 : Nat) (z0 : List EntryT) (w : World) (v0 : Rd w 7 a0 len0 (ents z0)) :
    Calls Try.prog 7 #[.agg #[.int .i64 rb0, .int .i64 rs0, .slice a0 len0 cap0]] w fun e w' => e = .returned (.bool true) ∧ Below w.heap.size w w' := by
  have hr0 := v0
  have hle0 := hr0.le
  clear v0
  obtain ⟨sz0, hsz0⟩ : ∃ s, s = szIf 1048576 len0 := ⟨_, rfl⟩
  have HSZ0 := Lib.hid hsz0.symm
  clear hsz0
  go_enter Try.func7, Try.ntmps7
  have BBs : Below w.heap.size w w := Below.refl _ _
  go_wp2_with fail
  obtain ⟨w0, hw0, XaR, hb0, hsb_aR⟩ := one_box w #[.int .i64 rb0, .int .i64 rs0, .slice a0 len0 cap0] 46
  rw [← hw0]
  clear hw0
  replace hsb_aR : w.heap.size < w0.heap.size := by omega
  have BB0 : Below w.heap.size w w0 := hb0
  have s0 := hb0.size
  refine (szRegister_any _ _ _ _ _ _ 1048576 (by omega) (by omega) _ (hr0.below BB0)).mono ?_
  rintro e w1 ⟨rfl, hb1⟩
  have BB1 : Below w.heap.size w w1 := BB0.trans (hb1.mono BB0.size)
  have s1 := hb1.size
  replace XaR := XaR.below hb1
  rw [show (if 1048576 < (len0 : Int) then (-1 : Int) else 1048576 - len0) = szIf 1048576 len0 from rfl]
  rw [HSZ0.out]
  by_cases hneg0 : 0 ≤ sz0
  rotate_left
  · go_wp2_with fail
    go_ret
    exact ⟨rfl, BB1⟩
  have hneg0' := hneg0
  rw [← HSZ0.out] at hneg0'
  have hszle0 : sz0 ≤ 1048576 := by rw [← HSZ0.out]; exact szIf_top hneg0' (by omega) (by omega)
  have hlen0 : len0 ≤ 1048576 := szIf_le hneg0' (by omega)
  clear hneg0'
  have FaR0 := XaR.cell (i := 0) rfl
  have FaR1 := XaR.cell (i := 1) rfl
  have FaR2 := XaR.cell (i := 2) rfl
  go_wp2_with fail
  refine (toRegister_any _ _ _ _ _ _ _ (hr0.below BB1) hlen0).mono ?_
  rintro e w2 ⟨AS1, nS1, cS1, rfl, oS1, hnS1, hb2⟩
  clear FaR0 FaR1 FaR2
  have BB2 : Below w.heap.size w w2 := BB1.trans (hb2.mono BB1.size)
  have s2 := hb2.size
  replace XaR := XaR.below hb2
  have vS1 := oS1.lt
  go_wp2_with fail
  refine (specCurrentEntries_any _ _ _ _ _ _ _ ⟨own_rd oS1, own_capE oS1⟩).mono ?_
  rintro e w3 ⟨AS2, nS2, cS2, rfl, oS2, hnS2, hb3⟩
  have BB3 : Below w.heap.size w w3 := BB2.trans (hb3.mono BB2.size)
  have s3 := hb3.size
  replace oS1 := own_below oS1 hb3
  replace XaR := XaR.below hb3
  have vS2 := oS2.lt
  clear oS1 vS1 hnS1
  have FaR0 := XaR.cell (i := 0) rfl
  have FaR1 := XaR.cell (i := 1) rfl
  have FaR2 := XaR.cell (i := 2) rfl
  go_wp2_with fail
  refine (toRegister_any _ _ _ _ _ _ _ (hr0.below BB3) hlen0).mono ?_
  rintro e w4 ⟨AS3, nS3, cS3, rfl, oS3, hnS3, hb4⟩
  clear FaR0 FaR1 FaR2
  have BB4 : Below w.heap.size w w4 := BB3.trans (hb4.mono BB3.size)
  have s4 := hb4.size
  replace oS2 := own_below oS2 hb4
  replace XaR := XaR.below hb4
  have vS3 := oS3.lt
  go_wp2_with fail
  obtain ⟨w5, hw5, Xx0, hb5, hsb_x0⟩ := one_box w4 #[.int .i64 rb0, .int .i64 rs0, .slice AS3 nS3 cS3] 51
  rw [← hw5]
  clear hw5
  replace hsb_x0 : w4.heap.size < w5.heap.size := by omega
  have BB5 : Below w.heap.size w w5 := BB4.trans (hb5.mono BB4.size)
  have s5 := hb5.size
  replace oS2 := own_below oS2 hb5
  replace oS3 := own_below oS3 hb5
  replace XaR := XaR.below hb5
  refine (implCurrentEntries_any _ _ _ _ _ _ _ ⟨own_rd oS3, own_capE oS3⟩).mono ?_
  rintro e w6 ⟨AS4, nS4, cS4, rfl, oS4, hnS4, hb6⟩
  have BB6 : Below w.heap.size w w6 := BB5.trans (hb6.mono BB5.size)
  have s6 := hb6.size
  replace oS2 := own_below oS2 hb6
  replace oS3 := own_below oS3 hb6
  replace XaR := XaR.below hb6
  replace Xx0 := Xx0.below hb6
  have vS4 := oS4.lt
  go_wp2_with fail
  refine (eqEntryS_same _ _ _ _ _ _ _ _ (own_rd oS4) (own_rd oS2)).mono ?_
  rintro e w7 ⟨rfl, hb7⟩
  have BB7 : Below w.heap.size w w7 := BB6.trans (hb7.mono BB6.size)
  have s7 := hb7.size
  replace oS2 := own_below oS2 hb7
  replace oS3 := own_below oS3 hb7
  replace oS4 := own_below oS4 hb7
  replace XaR := XaR.below hb7
  replace Xx0 := Xx0.below hb7
  go_wp2_with fail
  have HSR := Lib.hid (show ∀ w1, Below w7.heap.size w7 w1 → (w1.cell? ⟨w4.heap.size, 0, none⟩ = some (.int .i64 rb0) ∧ w1.cell? ⟨w4.heap.size, 1, none⟩ = some (.int .i64 rs0) ∧ w1.cell? ⟨w4.heap.size, 2, none⟩ = some (.slice AS3 nS3 cS3) ∧ w1.cell? ⟨w.heap.size, 0, none⟩ = some (.int .i64 rb0) ∧ w1.cell? ⟨w.heap.size, 1, none⟩ = some (.int .i64 rs0) ∧ w1.cell? ⟨w.heap.size, 2, none⟩ = some (.slice a0 len0 cap0) ∧ Below w7.heap.size w7 w1) from fun w1 hb => ⟨(Xx0.below hb).cell (i := 0) rfl, (Xx0.below hb).cell (i := 1) rfl, (Xx0.below hb).cell (i := 2) rfl, (XaR.below hb).cell (i := 0) rfl, (XaR.below hb).cell (i := 1) rfl, (XaR.below hb).cell (i := 2) rfl, hb⟩)
  go_region_held3 (fun w1 => w1.cell? ⟨w4.heap.size, 0, none⟩ = some (.int .i64 rb0) ∧ w1.cell? ⟨w4.heap.size, 1, none⟩ = some (.int .i64 rs0) ∧ w1.cell? ⟨w4.heap.size, 2, none⟩ = some (.slice AS3 nS3 cS3) ∧ w1.cell? ⟨w.heap.size, 0, none⟩ = some (.int .i64 rb0) ∧ w1.cell? ⟨w.heap.size, 1, none⟩ = some (.int .i64 rs0) ∧ w1.cell? ⟨w.heap.size, 2, none⟩ = some (.slice a0 len0 cap0) ∧ Below w7.heap.size w7 w1) (first | exact HSR.out _ hb8 | exact HSR.out _ HBq | exact HSR.out _ ((Drawn.refl _).step 1).below | exact HSR.out _ (Drawn.refl _).below) (first | (go_at_call 31; have hq := (‹_ ∧ _ ∧ _ ∧ _ ∧ _ ∧ _ ∧ Below w7.heap.size w7 _›).2.2.2.2.2.2; refine (toRegister_any _ _ _ _ _ _ _ (hr0.below (BB7.trans (hq.mono BB7.size))) hlen0).mono ?_; rintro e wq ⟨AS5, nS5, cS5, rfl, oS5, hnS5, hbq⟩; have HBq := hq.trans (hbq.mono hq.size)) | (go_at_call 33; have hq := (‹_ ∧ _ ∧ _ ∧ _ ∧ _ ∧ _ ∧ Below w7.heap.size w7 _›).2.2.2.2.2.2; refine (eqRegister_any _ _ _ _ _ _ _ _ _ _ (own_rd (own_below oS3 hq)) (own_rd oS5)).mono ?_; rintro e w8 ⟨rfl, hbr⟩; have hb8 := hq.trans (hbr.mono hq.size)))
  have BB8 : Below w.heap.size w w8 := BB7.trans (hb8.mono BB7.size)
  have s8 := hb8.size
  replace oS2 := own_below oS2 hb8
  replace oS3 := own_below oS3 hb8
  replace oS4 := own_below oS4 hb8
  replace XaR := XaR.below hb8
  replace Xx0 := Xx0.below hb8
  have Fx00 := Xx0.cell (i := 0) rfl
  have Fx01 := Xx0.cell (i := 1) rfl
  have Fx02 := Xx0.cell (i := 2) rfl
  go_wp2_with fail
  refine (markRegister_any _ w3.heap.size w4.heap.size _ _ _ _ _ _ _ _ _ oS3 vS3 (by omega) (by omega) (by omega)).mono ?_
  clear oS3
  rintro e w9 ⟨rfl, oS3, hc9⟩
  clear Fx00 Fx01 Fx02
  have BB9 : Below w.heap.size w w9 := below_chg BB8 hc9 (by omega) (by omega)
  have s9 := hc9.size
  replace oS2 := own_chg oS2 hc9 (fun b hb => by have := vS2 b hb; omega)
  replace oS4 := own_chg oS4 hc9 (fun b hb => by have := vS4 b hb; omega)
  replace XaR := XaR.chg hc9 (by omega)
  replace Xx0 := Xx0.chg hc9 (by omega)
  go_wp2_with fail
  refine (eqEntryS_same _ _ _ _ _ _ _ _ (own_rd oS4) (own_rd oS2)).mono ?_
  rintro e w10 ⟨rfl, hb10⟩
  have BB10 : Below w.heap.size w w10 := BB9.trans (hb10.mono BB9.size)
  have s10 := hb10.size
  replace oS2 := own_below oS2 hb10
  replace oS3 := own_below oS3 hb10
  replace oS4 := own_below oS4 hb10
  replace XaR := XaR.below hb10
  replace Xx0 := Xx0.below hb10
  go_wp2_with fail
  refine (markEntryS_sq _ w5.heap.size w6.heap.size _ _ _ _ _ _ _ oS4 vS4 (by omega) (by omega) (by omega)).mono ?_
  clear oS4
  rintro e w11 ⟨rfl, oS4, hc11⟩
  have BB11 : Below w.heap.size w w11 := below_chg BB10 hc11 (by omega) (by omega)
  have s11 := hc11.size
  replace oS2 := own_chg oS2 hc11 (fun b hb => by have := vS2 b hb; omega)
  replace oS3 := own_chg oS3 hc11 (fun b hb => by have := vS3 b hb; omega)
  replace XaR := XaR.chg hc11 (by omega)
  replace Xx0 := Xx0.chg hc11 (by omega)
  go_wp2_with fail
  refine (heldEntryS_any _ _ _ _ _ (own_rd oS4) (by omega) (by omega) (by omega)).mono ?_
  rintro e w' ⟨rfl, rfl⟩
  have FaR0 := XaR.cell (i := 0) rfl
  have FaR1 := XaR.cell (i := 1) rfl
  have FaR2 := XaR.cell (i := 2) rfl
  go_wp2_with fail
  refine (toRegister_any _ _ _ _ _ _ _ (hr0.below BB11) hlen0).mono ?_
  rintro e w12 ⟨AS6, nS6, cS6, rfl, oS6, hnS6, hb12⟩
  clear FaR0 FaR1 FaR2
  have BB12 : Below w.heap.size w w12 := BB11.trans (hb12.mono BB11.size)
  have s12 := hb12.size
  replace oS2 := own_below oS2 hb12
  replace oS3 := own_below oS3 hb12
  replace oS4 := own_below oS4 hb12
  replace XaR := XaR.below hb12
  replace Xx0 := Xx0.below hb12
  have vS6 := oS6.lt
  go_wp2_with fail
  refine (implCurrentEntries_any _ _ _ _ _ _ _ ⟨own_rd oS6, own_capE oS6⟩).mono ?_
  rintro e w13 ⟨AS7, nS7, cS7, rfl, oS7, hnS7, hb13⟩
  have BB13 : Below w.heap.size w w13 := BB12.trans (hb13.mono BB12.size)
  have s13 := hb13.size
  replace oS2 := own_below oS2 hb13
  replace oS3 := own_below oS3 hb13
  replace oS4 := own_below oS4 hb13
  replace oS6 := own_below oS6 hb13
  replace XaR := XaR.below hb13
  replace Xx0 := Xx0.below hb13
  have vS7 := oS7.lt
  clear oS6 vS6 hnS6
  go_wp2_with fail
  refine (eqEntryS_same _ _ _ _ _ _ _ _ (own_rd oS7) (own_rd oS2)).mono ?_
  rintro e w14 ⟨rfl, hb14⟩
  have BB14 : Below w.heap.size w w14 := BB13.trans (hb14.mono BB13.size)
  have s14 := hb14.size
  replace oS2 := own_below oS2 hb14
  replace oS3 := own_below oS3 hb14
  replace oS4 := own_below oS4 hb14
  replace oS7 := own_below oS7 hb14
  replace XaR := XaR.below hb14
  replace Xx0 := Xx0.below hb14
  go_wp2_with fail
  refine (heldEntryS_any _ _ _ _ _ (own_rd oS4) (by omega) (by omega) (by omega)).mono ?_
  rintro e w' ⟨rfl, rfl⟩
  go_wp2_with fail
  go_ret
  exact ⟨rfl, BB14⟩
end Go.Proofs.Ytdldcjnidajmpaa

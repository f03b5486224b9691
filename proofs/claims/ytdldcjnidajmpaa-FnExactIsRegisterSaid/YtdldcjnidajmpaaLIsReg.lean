/- The walk of FnExactIsRegister. -/
import Derived.Test.YtdldcjnidajmpaaSzr
import Derived.Test.YtdldcjnidajmpaaRh
import Derived.Test.YtdldcjnidajmpaaRj
import Derived.Lib.QuietBelow
import Derived.Deep.RegionHeld3
namespace Go.Proofs.Ytdldcjnidajmpaa
open Go.RowKit Go.Sort
set_option linter.unusedVariables false
set_option maxRecDepth 100000

set_option maxHeartbeats 4000000 in
theorem fnExactIsRegister_walk (rb0 rs0 : Int) (a0 : Option Addr) (len0 cap0 : Nat) (z0 : List EntryT) (w : World) (v0 : Rd w 7 a0 len0 (ents z0)) :
    Calls Try.prog 5 #[.agg #[.int .i64 rb0, .int .i64 rs0, .slice a0 len0 cap0]] w fun e w' => e = .returned (.bool true) ∧ Below w.heap.size w w' := by
  have hr0 := v0
  have hle0 := hr0.le
  clear v0
  obtain ⟨sz0, hsz0⟩ : ∃ s, s = szIf 1048576 len0 := ⟨_, rfl⟩
  have HSZ0 := Lib.hid hsz0.symm
  clear hsz0
  go_enter Try.func5, Try.ntmps5
  have BBs : Below w.heap.size w w := Below.refl _ _
  go_wp2_with fail
  obtain ⟨w0, hw0, XaR, hb0, hsb_aR⟩ := one_box w #[.int .i64 rb0, .int .i64 rs0, .slice a0 len0 cap0] 46
  rw [← hw0]
  clear hw0
  replace hsb_aR : w.heap.size < w0.heap.size := by omega
  have BB0 : Below w.heap.size w w0 := hb0
  have s0 := hb0.size
  refine (szRegister_any _ _ _ _ _ _ 1048576 (by omega) (by omega) _ (hr0.below BB0)).mono ?_
  rintro e w1 ⟨rfl, hb1⟩
  have BB1 : Below w.heap.size w w1 := BB0.trans (hb1.mono BB0.size)
  have s1 := hb1.size
  replace XaR := XaR.below hb1
  rw [show (if 1048576 < (len0 : Int) then (-1 : Int) else 1048576 - len0) = szIf 1048576 len0 from rfl]
  rw [HSZ0.out]
  by_cases hneg0 : 0 ≤ sz0
  rotate_left
  · go_wp2_with fail
    go_ret
    exact ⟨rfl, BB1⟩
  have hneg0' := hneg0
  rw [← HSZ0.out] at hneg0'
  have hszle0 : sz0 ≤ 1048576 := by rw [← HSZ0.out]; exact szIf_top hneg0' (by omega) (by omega)
  have hlen0 : len0 ≤ 1048576 := szIf_le hneg0' (by omega)
  clear hneg0'
  have FaR0 := XaR.cell (i := 0) rfl
  have FaR1 := XaR.cell (i := 1) rfl
  have FaR2 := XaR.cell (i := 2) rfl
  go_wp2_with fail
  refine (toRegister_any _ _ _ _ _ _ _ (hr0.below BB1) hlen0).mono ?_
  rintro e w2 ⟨AS1, nS1, cS1, rfl, oS1, hnS1, hb2⟩
  clear FaR0 FaR1 FaR2
  have BB2 : Below w.heap.size w w2 := BB1.trans (hb2.mono BB1.size)
  have s2 := hb2.size
  replace XaR := XaR.below hb2
  have vS1 := oS1.lt
  go_wp2_with fail
  refine (specIsRegister_any _ _ _ _ _ _ _ ⟨own_rd oS1, own_capE oS1⟩).mono ?_
  rintro e w3 ⟨rfl, hb3⟩
  have BB3 : Below w.heap.size w w3 := BB2.trans (hb3.mono BB2.size)
  have s3 := hb3.size
  replace oS1 := own_below oS1 hb3
  replace XaR := XaR.below hb3
  clear oS1 vS1 hnS1
  have FaR0 := XaR.cell (i := 0) rfl
  have FaR1 := XaR.cell (i := 1) rfl
  have FaR2 := XaR.cell (i := 2) rfl
  go_wp2_with fail
  refine (toRegister_any _ _ _ _ _ _ _ (hr0.below BB3) hlen0).mono ?_
  rintro e w4 ⟨AS2, nS2, cS2, rfl, oS2, hnS2, hb4⟩
  clear FaR0 FaR1 FaR2
  have BB4 : Below w.heap.size w w4 := BB3.trans (hb4.mono BB3.size)
  have s4 := hb4.size
  replace XaR := XaR.below hb4
  have vS2 := oS2.lt
  go_wp2_with fail
  obtain ⟨w5, hw5, Xx0, hb5, hsb_x0⟩ := one_box w4 #[.int .i64 rb0, .int .i64 rs0, .slice AS2 nS2 cS2] 51
  rw [← hw5]
  clear hw5
  replace hsb_x0 : w4.heap.size < w5.heap.size := by omega
  have BB5 : Below w.heap.size w w5 := BB4.trans (hb5.mono BB4.size)
  have s5 := hb5.size
  replace oS2 := own_below oS2 hb5
  replace XaR := XaR.below hb5
  refine (implIsRegister_any _ _ _ _ _ _ _ ⟨own_rd oS2, own_capE oS2⟩).mono ?_
  rintro e w6 ⟨rfl, hb6⟩
  have BB6 : Below w.heap.size w w6 := BB5.trans (hb6.mono BB5.size)
  have s6 := hb6.size
  replace oS2 := own_below oS2 hb6
  replace XaR := XaR.below hb6
  replace Xx0 := Xx0.below hb6
  go_wp2_with fail
  have HSR := Lib.hid (show ∀ w1, Below w6.heap.size w6 w1 → (w1.cell? ⟨w4.heap.size, 0, none⟩ = some (.int .i64 rb0) ∧ w1.cell? ⟨w4.heap.size, 1, none⟩ = some (.int .i64 rs0) ∧ w1.cell? ⟨w4.heap.size, 2, none⟩ = some (.slice AS2 nS2 cS2) ∧ w1.cell? ⟨w.heap.size, 0, none⟩ = some (.int .i64 rb0) ∧ w1.cell? ⟨w.heap.size, 1, none⟩ = some (.int .i64 rs0) ∧ w1.cell? ⟨w.heap.size, 2, none⟩ = some (.slice a0 len0 cap0) ∧ Below w6.heap.size w6 w1) from fun w1 hb => ⟨(Xx0.below hb).cell (i := 0) rfl, (Xx0.below hb).cell (i := 1) rfl, (Xx0.below hb).cell (i := 2) rfl, (XaR.below hb).cell (i := 0) rfl, (XaR.below hb).cell (i := 1) rfl, (XaR.below hb).cell (i := 2) rfl, hb⟩)
  go_region_held3 (fun w1 => w1.cell? ⟨w4.heap.size, 0, none⟩ = some (.int .i64 rb0) ∧ w1.cell? ⟨w4.heap.size, 1, none⟩ = some (.int .i64 rs0) ∧ w1.cell? ⟨w4.heap.size, 2, none⟩ = some (.slice AS2 nS2 cS2) ∧ w1.cell? ⟨w.heap.size, 0, none⟩ = some (.int .i64 rb0) ∧ w1.cell? ⟨w.heap.size, 1, none⟩ = some (.int .i64 rs0) ∧ w1.cell? ⟨w.heap.size, 2, none⟩ = some (.slice a0 len0 cap0) ∧ Below w6.heap.size w6 w1) (first | exact HSR.out _ hb7 | exact HSR.out _ HBq | exact HSR.out _ ((Drawn.refl _).step 1).below | exact HSR.out _ (Drawn.refl _).below) (first | (go_at_call 31; have hq := (‹_ ∧ _ ∧ _ ∧ _ ∧ _ ∧ _ ∧ Below w6.heap.size w6 _›).2.2.2.2.2.2; refine (toRegister_any _ _ _ _ _ _ _ (hr0.below (BB6.trans (hq.mono BB6.size))) hlen0).mono ?_; rintro e wq ⟨AS3, nS3, cS3, rfl, oS3, hnS3, hbq⟩; have HBq := hq.trans (hbq.mono hq.size)) | (go_at_call 33; have hq := (‹_ ∧ _ ∧ _ ∧ _ ∧ _ ∧ _ ∧ Below w6.heap.size w6 _›).2.2.2.2.2.2; refine (eqRegister_any _ _ _ _ _ _ _ _ _ _ (own_rd (own_below oS2 hq)) (own_rd oS3)).mono ?_; rintro e w7 ⟨rfl, hbr⟩; have hb7 := hq.trans (hbr.mono hq.size)))
  have BB7 : Below w.heap.size w w7 := BB6.trans (hb7.mono BB6.size)
  have s7 := hb7.size
  replace oS2 := own_below oS2 hb7
  replace XaR := XaR.below hb7
  replace Xx0 := Xx0.below hb7
  go_wp2_with fail
  go_ret
  exact ⟨rfl, BB7⟩
end Go.Proofs.Ytdldcjnidajmpaa

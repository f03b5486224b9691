/- The walk of FnExactMeetCounts. -/
import Derived.Test.YtoccfbkklponnaaWw
namespace Go.Proofs.Ytoccfbkklponnaa
open Go.RowKit
set_option linter.unusedVariables false
set_option maxRecDepth 100000

theorem fnExactMeetCounts_walk (a0 : Option Addr) (len0 cap0 : Nat) (z0 : List (List Int)) (a1 : Int) (w : World) (v0 : RdRows w a0 len0 z0) (v1 : (Lit.int .i64 a1).wf = true) :
    Calls Try.prog 10 #[.slice a0 len0 cap0, .int .i64 a1] w fun e w' => e = .returned (.bool true) ∧ Below w.heap.size w w' := by
  have hr0 := v0
  have hle0 := hr0.le
  have HL0 := Lib.hid hr0.len
  clear v0 v1
  obtain ⟨sz0, hsz0⟩ : ∃ s, s = szRowsF 1048576 z0 := ⟨_, rfl⟩
  have HSZ0 := Lib.hid hsz0.symm
  by_cases hneg0 : 0 ≤ sz0
  rotate_left
  · clear hsz0
    go_enter Try.func10, Try.ntmps10
    go_wp2_with fail
    refine (szInt64SS_any _ _ _ _ 1048576 (by omega) (by omega) _ hr0).mono ?_
    rintro e w' ⟨rfl, rfl⟩
    rw [HSZ0.out]
    go_wp2_with fail
    go_ret
    exact ⟨rfl, Below.refl _ _⟩
  rw [hsz0] at hneg0
  obtain ⟨hlen0, hrow0⟩ := szRowsF_le hneg0 (by omega)
  rw [HL0.out] at hlen0
  replace hlen0 : len0 ≤ 1048576 := by omega
  have hrow0 := Lib.hid (show ∀ x ∈ z0, x.length ≤ 1048576 from fun x hx => by have := hrow0 x hx; omega)
  rw [← hsz0] at hneg0
  clear hsz0
  go_enter Try.func10, Try.ntmps10
  go_wp2_with fail
  refine (szInt64SS_any _ _ _ _ 1048576 (by omega) (by omega) _ hr0).mono ?_
  rintro e w' ⟨rfl, rfl⟩
  rw [HSZ0.out]
  have BB0 : Below w.heap.size w w := Below.refl _ _
  go_wp2_with fail
  refine (toInt64SS_any _ _ _ _ _ (hr0.below BB0) hlen0 hrow0.out).mono ?_
  rintro e w1 ⟨AS1, nS1, cS1, VS1, rfl, oS1, hnS1, hb1⟩
  have BB1 : Below w.heap.size w w1 := BB0.trans (hb1.mono BB0.size)
  have s1 := hb1.size
  have vS1 := oS1.in_
  go_wp2_with fail
  refine (specMeet_any _ _ _ _ _ _ oS1.rd).mono ?_
  rintro e w2 ⟨AS2, nS2, cS2, VS2, rfl, oS2, hnS2, hb2⟩
  have BB2 : Below w.heap.size w w2 := BB1.trans (hb2.mono BB1.size)
  have s2 := hb2.size
  replace oS1 := oS1.below hb2
  have vS2 := oS2.in_
  clear oS1 vS1 hnS1
  go_wp2_with fail
  refine (toInt64SS_any _ _ _ _ _ (hr0.below BB2) hlen0 hrow0.out).mono ?_
  rintro e w3 ⟨AS3, nS3, cS3, VS3, rfl, oS3, hnS3, hb3⟩
  have BB3 : Below w.heap.size w w3 := BB2.trans (hb3.mono BB2.size)
  have s3 := hb3.size
  replace oS2 := oS2.below hb3
  have vS3 := oS3.in_
  go_wp2_with fail
  refine (implMeet_any _ _ _ _ _ _ oS3.rd).mono ?_
  rintro e w4 ⟨AS4, nS4, cS4, VS4, rfl, oS4, hnS4, hb4⟩
  have BB4 : Below w.heap.size w w4 := BB3.trans (hb4.mono BB3.size)
  have s4 := hb4.size
  replace oS2 := oS2.below hb4
  replace oS3 := oS3.below hb4
  have vS4 := oS4.in_
  go_wp2_with fail
  refine (eqInt64SS_below _ _ _ _ _ _ _ _ _ oS4.rd oS2.rd).mono ?_
  rintro e w5 ⟨rfl, hb5⟩
  have BB5 : Below w.heap.size w w5 := BB4.trans (hb5.mono BB4.size)
  have s5 := hb5.size
  replace oS2 := oS2.below hb5
  replace oS3 := oS3.below hb5
  replace oS4 := oS4.below hb5
  go_wp2_with fail
  refine (toInt64SS_any _ _ _ _ _ (hr0.below BB5) hlen0 hrow0.out).mono ?_
  rintro e w6 ⟨AS5, nS5, cS5, VS5, rfl, oS5, hnS5, hb6⟩
  have BB6 : Below w.heap.size w w6 := BB5.trans (hb6.mono BB5.size)
  have s6 := hb6.size
  replace oS2 := oS2.below hb6
  replace oS3 := oS3.below hb6
  replace oS4 := oS4.below hb6
  have vS5 := oS5.in_
  go_wp2_with fail
  refine (eqInt64SS_below _ _ _ _ _ _ _ _ _ oS3.rd oS5.rd).mono ?_
  rintro e w7 ⟨rfl, hb7⟩
  have BB7 : Below w.heap.size w w7 := BB6.trans (hb7.mono BB6.size)
  have s7 := hb7.size
  replace oS2 := oS2.below hb7
  replace oS3 := oS3.below hb7
  replace oS4 := oS4.below hb7
  replace oS5 := oS5.below hb7
  clear oS5 vS5 hnS5
  go_wp2_with fail
  refine (markSS_any _ w2.heap.size w3.heap.size _ _ _ _ _ _ _ oS3 vS3 (by omega) (by omega) (by omega)).mono ?_
  clear oS3
  rintro e w8 ⟨rfl, oS3, hc8⟩
  have BB8 : Below w.heap.size w w8 := below_chg BB7 hc8 (by omega) (by omega)
  have s8 := hc8.size
  replace oS2 := oS2.chg hc8 vS2 (by omega)
  replace oS4 := oS4.chg hc8 vS4 (by omega)
  go_wp2_with fail
  refine (eqInt64SS_below _ _ _ _ _ _ _ _ _ oS4.rd oS2.rd).mono ?_
  rintro e w9 ⟨rfl, hb9⟩
  have BB9 : Below w.heap.size w w9 := BB8.trans (hb9.mono BB8.size)
  have s9 := hb9.size
  replace oS2 := oS2.below hb9
  replace oS3 := oS3.below hb9
  replace oS4 := oS4.below hb9
  go_wp2_with fail
  refine (markSS_any _ w3.heap.size w4.heap.size _ _ _ _ _ _ _ oS4 vS4 (by omega) (by omega) (by omega)).mono ?_
  clear oS4
  rintro e w10 ⟨rfl, oS4, hc10⟩
  have BB10 : Below w.heap.size w w10 := below_chg BB9 hc10 (by omega) (by omega)
  have s10 := hc10.size
  replace oS2 := oS2.chg hc10 vS2 (by omega)
  replace oS3 := oS3.chg hc10 vS3 (by omega)
  go_wp2_with fail
  refine (heldSS_any _ _ _ _ _ _ oS4.rd (by omega) (by omega) (by omega)).mono ?_
  rintro e w' ⟨rfl, rfl⟩
  go_wp2_with fail
  refine (toInt64SS_any _ _ _ _ _ (hr0.below BB10) hlen0 hrow0.out).mono ?_
  rintro e w11 ⟨AS6, nS6, cS6, VS6, rfl, oS6, hnS6, hb11⟩
  have BB11 : Below w.heap.size w w11 := BB10.trans (hb11.mono BB10.size)
  have s11 := hb11.size
  replace oS2 := oS2.below hb11
  replace oS3 := oS3.below hb11
  replace oS4 := oS4.below hb11
  have vS6 := oS6.in_
  go_wp2_with fail
  refine (implMeet_any _ _ _ _ _ _ oS6.rd).mono ?_
  rintro e w12 ⟨AS7, nS7, cS7, VS7, rfl, oS7, hnS7, hb12⟩
  have BB12 : Below w.heap.size w w12 := BB11.trans (hb12.mono BB11.size)
  have s12 := hb12.size
  replace oS2 := oS2.below hb12
  replace oS3 := oS3.below hb12
  replace oS4 := oS4.below hb12
  replace oS6 := oS6.below hb12
  have vS7 := oS7.in_
  clear oS6 vS6 hnS6
  go_wp2_with fail
  refine (eqInt64SS_below _ _ _ _ _ _ _ _ _ oS7.rd oS2.rd).mono ?_
  rintro e w13 ⟨rfl, hb13⟩
  have BB13 : Below w.heap.size w w13 := BB12.trans (hb13.mono BB12.size)
  have s13 := hb13.size
  replace oS2 := oS2.below hb13
  replace oS3 := oS3.below hb13
  replace oS4 := oS4.below hb13
  replace oS7 := oS7.below hb13
  go_wp2_with fail
  refine (heldSS_any _ _ _ _ _ _ oS4.rd (by omega) (by omega) (by omega)).mono ?_
  rintro e w' ⟨rfl, rfl⟩
  go_wp2_with fail
  go_ret
  exact ⟨rfl, BB13⟩
end Go.Proofs.Ytoccfbkklponnaa

/- The walk of FnExactFinalOrder. -/
import Derived.Test.YtfkllgnenbbccaaWt3
namespace Go.Proofs.Ytfkllgnenbbccaa
open Go.RowKit
set_option linter.unusedVariables false
set_option maxRecDepth 100000

theorem fnExactFinalOrder_walk (a0 : Option Addr) (len0 cap0 : Nat) (z0 : List Int) (a1 : Int) (a2 : Option Addr) (len2 cap2 : Nat) (z2 : List Int) (w : World) (v0 : IsRow .i64 w a0 len0 cap0 z0) (v1 : (Lit.int .i64 a1).wf = true) (v2 : IsRow .i64 w a2 len2 cap2 z2) :
    Calls Try.prog 6 #[.slice a0 len0 cap0, .int .i64 a1, .slice a2 len2 cap2] w fun e w' => e = .returned (.bool true) ∧ Below w.heap.size w w' := by
  have hr0 := v0.rd
  have hle0 := hr0.le
  generalize z0.take len0 = xs0 at hr0
  have hr2 := v2.rd
  have hle2 := hr2.le
  generalize z2.take len2 = xs2 at hr2
  clear v0 v1 v2
  by_cases hlen0 : len0 ≤ 1048576
  rotate_left
  · skip
    go_enter Try.func6, Try.ntmps6
    go_wp2_with fail
    go_ret
    exact ⟨rfl, Below.refl _ _⟩
  by_cases hlen2 : len2 ≤ 1048576
  rotate_left
  · skip
    go_enter Try.func6, Try.ntmps6
    go_wp2_with fail
    go_ret
    exact ⟨rfl, Below.refl _ _⟩
  go_enter Try.func6, Try.ntmps6
  have BB0 : Below w.heap.size w w := Below.refl _ _
  go_wp2_with fail
  refine (toInt64S_any _ _ _ _ _ (hr0.below BB0) hlen0).mono ?_
  rintro e w1 ⟨AS1, nS1, cS1, rfl, oS1, hnS1, hb1⟩
  have BB1 : Below w.heap.size w w1 := BB0.trans (hb1.mono BB0.size)
  have s1 := hb1.size
  have vS1 := oS1.lt
  go_wp2_with fail
  refine (toInt64S_any _ _ _ _ _ (hr2.below BB1) hlen2).mono ?_
  rintro e w2 ⟨AS2, nS2, cS2, rfl, oS2, hnS2, hb2⟩
  have BB2 : Below w.heap.size w w2 := BB1.trans (hb2.mono BB1.size)
  have s2 := hb2.size
  replace oS1 := own_below oS1 hb2
  have vS2 := oS2.lt
  go_wp2_with fail
  refine (specFinalOrder_any _ _ _ _ _ _ _ _ _ _ (own_rd oS1) (own_rd oS2)).mono ?_
  rintro e w3 ⟨AS3, nS3, cS3, rfl, oS3, hnS3, hb3⟩
  have BB3 : Below w.heap.size w w3 := BB2.trans (hb3.mono BB2.size)
  have s3 := hb3.size
  replace oS1 := own_below oS1 hb3
  replace oS2 := own_below oS2 hb3
  have vS3 := oS3.lt
  clear oS1 vS1 hnS1
  clear oS2 vS2 hnS2
  go_wp2_with fail
  refine (toInt64S_any _ _ _ _ _ (hr0.below BB3) hlen0).mono ?_
  rintro e w4 ⟨AS4, nS4, cS4, rfl, oS4, hnS4, hb4⟩
  have BB4 : Below w.heap.size w w4 := BB3.trans (hb4.mono BB3.size)
  have s4 := hb4.size
  replace oS3 := own_below oS3 hb4
  have vS4 := oS4.lt
  go_wp2_with fail
  refine (toInt64S_any _ _ _ _ _ (hr2.below BB4) hlen2).mono ?_
  rintro e w5 ⟨AS5, nS5, cS5, rfl, oS5, hnS5, hb5⟩
  have BB5 : Below w.heap.size w w5 := BB4.trans (hb5.mono BB4.size)
  have s5 := hb5.size
  replace oS3 := own_below oS3 hb5
  replace oS4 := own_below oS4 hb5
  have vS5 := oS5.lt
  go_wp2_with fail
  refine (implFinalOrder_any _ _ _ _ _ _ _ _ _ _ (own_rd oS4) (own_rd oS5)).mono ?_
  rintro e w6 ⟨AS6, nS6, cS6, rfl, oS6, hnS6, hb6⟩
  have BB6 : Below w.heap.size w w6 := BB5.trans (hb6.mono BB5.size)
  have s6 := hb6.size
  replace oS3 := own_below oS3 hb6
  replace oS4 := own_below oS4 hb6
  replace oS5 := own_below oS5 hb6
  have vS6 := oS6.lt
  go_wp2_with fail
  refine (eqInt64S_below _ _ _ _ _ _ _ _ _ (own_rd oS6) (own_rd oS3)).mono ?_
  rintro e w7 ⟨rfl, hb7⟩
  have BB7 : Below w.heap.size w w7 := BB6.trans (hb7.mono BB6.size)
  have s7 := hb7.size
  replace oS3 := own_below oS3 hb7
  replace oS4 := own_below oS4 hb7
  replace oS5 := own_below oS5 hb7
  replace oS6 := own_below oS6 hb7
  go_wp2_with fail
  refine (toInt64S_any _ _ _ _ _ (hr0.below BB7) hlen0).mono ?_
  rintro e w8 ⟨AS7, nS7, cS7, rfl, oS7, hnS7, hb8⟩
  have BB8 : Below w.heap.size w w8 := BB7.trans (hb8.mono BB7.size)
  have s8 := hb8.size
  replace oS3 := own_below oS3 hb8
  replace oS4 := own_below oS4 hb8
  replace oS5 := own_below oS5 hb8
  replace oS6 := own_below oS6 hb8
  have vS7 := oS7.lt
  go_wp2_with fail
  refine (eqInt64S_below _ _ _ _ _ _ _ _ _ (own_rd oS4) (own_rd oS7)).mono ?_
  rintro e w9 ⟨rfl, hb9⟩
  have BB9 : Below w.heap.size w w9 := BB8.trans (hb9.mono BB8.size)
  have s9 := hb9.size
  replace oS3 := own_below oS3 hb9
  replace oS4 := own_below oS4 hb9
  replace oS5 := own_below oS5 hb9
  replace oS6 := own_below oS6 hb9
  replace oS7 := own_below oS7 hb9
  clear oS7 vS7 hnS7
  go_wp2_with fail
  refine (toInt64S_any _ _ _ _ _ (hr2.below BB9) hlen2).mono ?_
  rintro e w10 ⟨AS8, nS8, cS8, rfl, oS8, hnS8, hb10⟩
  have BB10 : Below w.heap.size w w10 := BB9.trans (hb10.mono BB9.size)
  have s10 := hb10.size
  replace oS3 := own_below oS3 hb10
  replace oS4 := own_below oS4 hb10
  replace oS5 := own_below oS5 hb10
  replace oS6 := own_below oS6 hb10
  have vS8 := oS8.lt
  go_wp2_with fail
  refine (eqInt64S_below _ _ _ _ _ _ _ _ _ (own_rd oS5) (own_rd oS8)).mono ?_
  rintro e w11 ⟨rfl, hb11⟩
  have BB11 : Below w.heap.size w w11 := BB10.trans (hb11.mono BB10.size)
  have s11 := hb11.size
  replace oS3 := own_below oS3 hb11
  replace oS4 := own_below oS4 hb11
  replace oS5 := own_below oS5 hb11
  replace oS6 := own_below oS6 hb11
  replace oS8 := own_below oS8 hb11
  clear oS8 vS8 hnS8
  go_wp2_with fail
  refine (mark_any _ w3.heap.size w4.heap.size _ _ _ _ _ _ _ oS4 vS4 (by omega) (by omega) (by omega)).mono ?_
  clear oS4
  rintro e w12 ⟨rfl, oS4, hc12⟩
  have BB12 : Below w.heap.size w w12 := below_chg BB11 hc12 (by omega) (by omega)
  have s12 := hc12.size
  replace oS3 := own_chg oS3 hc12 (fun b hb => by have := vS3 b hb; omega)
  replace oS5 := own_chg oS5 hc12 (fun b hb => by have := vS5 b hb; omega)
  replace oS6 := own_chg oS6 hc12 (fun b hb => by have := vS6 b hb; omega)
  go_wp2_with fail
  refine (mark_any _ w4.heap.size w5.heap.size _ _ _ _ _ _ _ oS5 vS5 (by omega) (by omega) (by omega)).mono ?_
  clear oS5
  rintro e w13 ⟨rfl, oS5, hc13⟩
  have BB13 : Below w.heap.size w w13 := below_chg BB12 hc13 (by omega) (by omega)
  have s13 := hc13.size
  replace oS3 := own_chg oS3 hc13 (fun b hb => by have := vS3 b hb; omega)
  replace oS4 := own_chg oS4 hc13 (fun b hb => by have := vS4 b hb; omega)
  replace oS6 := own_chg oS6 hc13 (fun b hb => by have := vS6 b hb; omega)
  go_wp2_with fail
  refine (eqInt64S_below _ _ _ _ _ _ _ _ _ (own_rd oS6) (own_rd oS3)).mono ?_
  rintro e w14 ⟨rfl, hb14⟩
  have BB14 : Below w.heap.size w w14 := BB13.trans (hb14.mono BB13.size)
  have s14 := hb14.size
  replace oS3 := own_below oS3 hb14
  replace oS4 := own_below oS4 hb14
  replace oS5 := own_below oS5 hb14
  replace oS6 := own_below oS6 hb14
  go_wp2_with fail
  refine (mark_any _ w5.heap.size w6.heap.size _ _ _ _ _ _ _ oS6 vS6 (by omega) (by omega) (by omega)).mono ?_
  clear oS6
  rintro e w15 ⟨rfl, oS6, hc15⟩
  have BB15 : Below w.heap.size w w15 := below_chg BB14 hc15 (by omega) (by omega)
  have s15 := hc15.size
  replace oS3 := own_chg oS3 hc15 (fun b hb => by have := vS3 b hb; omega)
  replace oS4 := own_chg oS4 hc15 (fun b hb => by have := vS4 b hb; omega)
  replace oS5 := own_chg oS5 hc15 (fun b hb => by have := vS5 b hb; omega)
  go_wp2_with fail
  refine (heldSeq_any _ _ _ _ _ (own_rd oS6) (by omega) (by omega) (by omega)).mono ?_
  rintro e w' ⟨rfl, rfl⟩
  go_wp2_with fail
  refine (toInt64S_any _ _ _ _ _ (hr0.below BB15) hlen0).mono ?_
  rintro e w16 ⟨AS9, nS9, cS9, rfl, oS9, hnS9, hb16⟩
  have BB16 : Below w.heap.size w w16 := BB15.trans (hb16.mono BB15.size)
  have s16 := hb16.size
  replace oS3 := own_below oS3 hb16
  replace oS4 := own_below oS4 hb16
  replace oS5 := own_below oS5 hb16
  replace oS6 := own_below oS6 hb16
  have vS9 := oS9.lt
  go_wp2_with fail
  refine (toInt64S_any _ _ _ _ _ (hr2.below BB16) hlen2).mono ?_
  rintro e w17 ⟨AS10, nS10, cS10, rfl, oS10, hnS10, hb17⟩
  have BB17 : Below w.heap.size w w17 := BB16.trans (hb17.mono BB16.size)
  have s17 := hb17.size
  replace oS3 := own_below oS3 hb17
  replace oS4 := own_below oS4 hb17
  replace oS5 := own_below oS5 hb17
  replace oS6 := own_below oS6 hb17
  replace oS9 := own_below oS9 hb17
  have vS10 := oS10.lt
  go_wp2_with fail
  refine (implFinalOrder_any _ _ _ _ _ _ _ _ _ _ (own_rd oS9) (own_rd oS10)).mono ?_
  rintro e w18 ⟨AS11, nS11, cS11, rfl, oS11, hnS11, hb18⟩
  have BB18 : Below w.heap.size w w18 := BB17.trans (hb18.mono BB17.size)
  have s18 := hb18.size
  replace oS3 := own_below oS3 hb18
  replace oS4 := own_below oS4 hb18
  replace oS5 := own_below oS5 hb18
  replace oS6 := own_below oS6 hb18
  replace oS9 := own_below oS9 hb18
  replace oS10 := own_below oS10 hb18
  have vS11 := oS11.lt
  clear oS9 vS9 hnS9
  clear oS10 vS10 hnS10
  go_wp2_with fail
  refine (eqInt64S_below _ _ _ _ _ _ _ _ _ (own_rd oS11) (own_rd oS3)).mono ?_
  rintro e w19 ⟨rfl, hb19⟩
  have BB19 : Below w.heap.size w w19 := BB18.trans (hb19.mono BB18.size)
  have s19 := hb19.size
  replace oS3 := own_below oS3 hb19
  replace oS4 := own_below oS4 hb19
  replace oS5 := own_below oS5 hb19
  replace oS6 := own_below oS6 hb19
  replace oS11 := own_below oS11 hb19
  go_wp2_with fail
  refine (heldSeq_any _ _ _ _ _ (own_rd oS6) (by omega) (by omega) (by omega)).mono ?_
  rintro e w' ⟨rfl, rfl⟩
  go_wp2_with fail
  go_ret
  exact ⟨rfl, BB19⟩
end Go.Proofs.Ytfkllgnenbbccaa

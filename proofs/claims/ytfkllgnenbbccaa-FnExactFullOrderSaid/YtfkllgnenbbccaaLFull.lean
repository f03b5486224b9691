/- The walk of FnExactFullOrder. -/
import Derived.Test.YtfkllgnenbbccaaWu3
namespace Go.Proofs.Ytfkllgnenbbccaa
open Go.RowKit
set_option linter.unusedVariables false
set_option maxRecDepth 100000

theorem fnExactFullOrder_walk (a0 : Option Addr) (len0 cap0 : Nat) (z0 : List Int) (a1 : Option Addr) (len1 cap1 : Nat) (z1 : List Int) (a2 : Int) (a3 : Option Addr) (len3 cap3 : Nat) (z3 : List Int) (w : World) (v0 : IsRow .i64 w a0 len0 cap0 z0) (v1 : IsRow .i64 w a1 len1 cap1 z1) (v2 : (Lit.int .i64 a2).wf = true) (v3 : IsRow .i64 w a3 len3 cap3 z3) :
    Calls Try.prog 10 #[.slice a0 len0 cap0, .slice a1 len1 cap1, .int .i64 a2, .slice a3 len3 cap3] w fun e w' => e = .returned (.bool true) ∧ Below w.heap.size w w' := by
  have hr0 := v0.rd
  have hle0 := hr0.le
  generalize z0.take len0 = xs0 at hr0
  have hr1 := v1.rd
  have hle1 := hr1.le
  generalize z1.take len1 = xs1 at hr1
  have hr3 := v3.rd
  have hle3 := hr3.le
  generalize z3.take len3 = xs3 at hr3
  clear v0 v1 v2 v3
  by_cases hlen0 : len0 ≤ 1048576
  rotate_left
  · skip
    go_enter Try.func10, Try.ntmps10
    go_wp2_with fail
    go_ret
    exact ⟨rfl, Below.refl _ _⟩
  by_cases hlen1 : len1 ≤ 1048576
  rotate_left
  · skip
    go_enter Try.func10, Try.ntmps10
    go_wp2_with fail
    go_ret
    exact ⟨rfl, Below.refl _ _⟩
  by_cases hlen3 : len3 ≤ 1048576
  rotate_left
  · skip
    go_enter Try.func10, Try.ntmps10
    go_wp2_with fail
    go_ret
    exact ⟨rfl, Below.refl _ _⟩
  go_enter Try.func10, Try.ntmps10
  have BB0 : Below w.heap.size w w := Below.refl _ _
  go_wp2_with fail
  refine (toInt64S_any _ _ _ _ _ (hr0.below BB0) hlen0).mono ?_
  rintro e w1 ⟨AS1, nS1, cS1, rfl, oS1, hnS1, hb1⟩
  have BB1 : Below w.heap.size w w1 := BB0.trans (hb1.mono BB0.size)
  have s1 := hb1.size
  have vS1 := oS1.lt
  go_wp2_with fail
  refine (toInt64S_any _ _ _ _ _ (hr1.below BB1) hlen1).mono ?_
  rintro e w2 ⟨AS2, nS2, cS2, rfl, oS2, hnS2, hb2⟩
  have BB2 : Below w.heap.size w w2 := BB1.trans (hb2.mono BB1.size)
  have s2 := hb2.size
  replace oS1 := own_below oS1 hb2
  have vS2 := oS2.lt
  go_wp2_with fail
  refine (toInt64S_any _ _ _ _ _ (hr3.below BB2) hlen3).mono ?_
  rintro e w3 ⟨AS3, nS3, cS3, rfl, oS3, hnS3, hb3⟩
  have BB3 : Below w.heap.size w w3 := BB2.trans (hb3.mono BB2.size)
  have s3 := hb3.size
  replace oS1 := own_below oS1 hb3
  replace oS2 := own_below oS2 hb3
  have vS3 := oS3.lt
  go_wp2_with fail
  refine (specFull_any _ _ _ _ _ _ _ _ _ _ _ _ _ _ (own_rd oS1) (cap_of oS1) (own_rd oS2) (own_rd oS3)).mono ?_
  rintro e w4 ⟨AS4, nS4, cS4, rfl, oS4, hnS4, hb4⟩
  have BB4 : Below w.heap.size w w4 := BB3.trans (hb4.mono BB3.size)
  have s4 := hb4.size
  replace oS1 := own_below oS1 hb4
  replace oS2 := own_below oS2 hb4
  replace oS3 := own_below oS3 hb4
  have vS4 := oS4.lt
  clear oS1 vS1 hnS1
  clear oS2 vS2 hnS2
  clear oS3 vS3 hnS3
  go_wp2_with fail
  refine (toInt64S_any _ _ _ _ _ (hr0.below BB4) hlen0).mono ?_
  rintro e w5 ⟨AS5, nS5, cS5, rfl, oS5, hnS5, hb5⟩
  have BB5 : Below w.heap.size w w5 := BB4.trans (hb5.mono BB4.size)
  have s5 := hb5.size
  replace oS4 := own_below oS4 hb5
  have vS5 := oS5.lt
  go_wp2_with fail
  refine (toInt64S_any _ _ _ _ _ (hr1.below BB5) hlen1).mono ?_
  rintro e w6 ⟨AS6, nS6, cS6, rfl, oS6, hnS6, hb6⟩
  have BB6 : Below w.heap.size w w6 := BB5.trans (hb6.mono BB5.size)
  have s6 := hb6.size
  replace oS4 := own_below oS4 hb6
  replace oS5 := own_below oS5 hb6
  have vS6 := oS6.lt
  go_wp2_with fail
  refine (toInt64S_any _ _ _ _ _ (hr3.below BB6) hlen3).mono ?_
  rintro e w7 ⟨AS7, nS7, cS7, rfl, oS7, hnS7, hb7⟩
  have BB7 : Below w.heap.size w w7 := BB6.trans (hb7.mono BB6.size)
  have s7 := hb7.size
  replace oS4 := own_below oS4 hb7
  replace oS5 := own_below oS5 hb7
  replace oS6 := own_below oS6 hb7
  have vS7 := oS7.lt
  go_wp2_with fail
  refine (implFull_any _ _ _ _ _ _ _ _ _ _ _ _ _ _ (own_rd oS5) (cap_of oS5) (own_rd oS6) (own_rd oS7)).mono ?_
  rintro e w8 ⟨AS8, nS8, cS8, rfl, oS8, hnS8, hb8⟩
  have BB8 : Below w.heap.size w w8 := BB7.trans (hb8.mono BB7.size)
  have s8 := hb8.size
  replace oS4 := own_below oS4 hb8
  replace oS5 := own_below oS5 hb8
  replace oS6 := own_below oS6 hb8
  replace oS7 := own_below oS7 hb8
  have vS8 := oS8.lt
  go_wp2_with fail
  refine (eqInt64S_below _ _ _ _ _ _ _ _ _ (own_rd oS8) (own_rd oS4)).mono ?_
  rintro e w9 ⟨rfl, hb9⟩
  have BB9 : Below w.heap.size w w9 := BB8.trans (hb9.mono BB8.size)
  have s9 := hb9.size
  replace oS4 := own_below oS4 hb9
  replace oS5 := own_below oS5 hb9
  replace oS6 := own_below oS6 hb9
  replace oS7 := own_below oS7 hb9
  replace oS8 := own_below oS8 hb9
  go_wp2_with fail
  refine (toInt64S_any _ _ _ _ _ (hr0.below BB9) hlen0).mono ?_
  rintro e w10 ⟨AS9, nS9, cS9, rfl, oS9, hnS9, hb10⟩
  have BB10 : Below w.heap.size w w10 := BB9.trans (hb10.mono BB9.size)
  have s10 := hb10.size
  replace oS4 := own_below oS4 hb10
  replace oS5 := own_below oS5 hb10
  replace oS6 := own_below oS6 hb10
  replace oS7 := own_below oS7 hb10
  replace oS8 := own_below oS8 hb10
  have vS9 := oS9.lt
  go_wp2_with fail
  refine (eqInt64S_below _ _ _ _ _ _ _ _ _ (own_rd oS5) (own_rd oS9)).mono ?_
  rintro e w11 ⟨rfl, hb11⟩
  have BB11 : Below w.heap.size w w11 := BB10.trans (hb11.mono BB10.size)
  have s11 := hb11.size
  replace oS4 := own_below oS4 hb11
  replace oS5 := own_below oS5 hb11
  replace oS6 := own_below oS6 hb11
  replace oS7 := own_below oS7 hb11
  replace oS8 := own_below oS8 hb11
  replace oS9 := own_below oS9 hb11
  clear oS9 vS9 hnS9
  go_wp2_with fail
  refine (toInt64S_any _ _ _ _ _ (hr1.below BB11) hlen1).mono ?_
  rintro e w12 ⟨AS10, nS10, cS10, rfl, oS10, hnS10, hb12⟩
  have BB12 : Below w.heap.size w w12 := BB11.trans (hb12.mono BB11.size)
  have s12 := hb12.size
  replace oS4 := own_below oS4 hb12
  replace oS5 := own_below oS5 hb12
  replace oS6 := own_below oS6 hb12
  replace oS7 := own_below oS7 hb12
  replace oS8 := own_below oS8 hb12
  have vS10 := oS10.lt
  go_wp2_with fail
  refine (eqInt64S_below _ _ _ _ _ _ _ _ _ (own_rd oS6) (own_rd oS10)).mono ?_
  rintro e w13 ⟨rfl, hb13⟩
  have BB13 : Below w.heap.size w w13 := BB12.trans (hb13.mono BB12.size)
  have s13 := hb13.size
  replace oS4 := own_below oS4 hb13
  replace oS5 := own_below oS5 hb13
  replace oS6 := own_below oS6 hb13
  replace oS7 := own_below oS7 hb13
  replace oS8 := own_below oS8 hb13
  replace oS10 := own_below oS10 hb13
  clear oS10 vS10 hnS10
  go_wp2_with fail
  refine (toInt64S_any _ _ _ _ _ (hr3.below BB13) hlen3).mono ?_
  rintro e w14 ⟨AS11, nS11, cS11, rfl, oS11, hnS11, hb14⟩
  have BB14 : Below w.heap.size w w14 := BB13.trans (hb14.mono BB13.size)
  have s14 := hb14.size
  replace oS4 := own_below oS4 hb14
  replace oS5 := own_below oS5 hb14
  replace oS6 := own_below oS6 hb14
  replace oS7 := own_below oS7 hb14
  replace oS8 := own_below oS8 hb14
  have vS11 := oS11.lt
  go_wp2_with fail
  refine (eqInt64S_below _ _ _ _ _ _ _ _ _ (own_rd oS7) (own_rd oS11)).mono ?_
  rintro e w15 ⟨rfl, hb15⟩
  have BB15 : Below w.heap.size w w15 := BB14.trans (hb15.mono BB14.size)
  have s15 := hb15.size
  replace oS4 := own_below oS4 hb15
  replace oS5 := own_below oS5 hb15
  replace oS6 := own_below oS6 hb15
  replace oS7 := own_below oS7 hb15
  replace oS8 := own_below oS8 hb15
  replace oS11 := own_below oS11 hb15
  clear oS11 vS11 hnS11
  go_wp2_with fail
  refine (mark_any _ w4.heap.size w5.heap.size _ _ _ _ _ _ _ oS5 vS5 (by omega) (by omega) (by omega)).mono ?_
  clear oS5
  rintro e w16 ⟨rfl, oS5, hc16⟩
  have BB16 : Below w.heap.size w w16 := below_chg BB15 hc16 (by omega) (by omega)
  have s16 := hc16.size
  replace oS4 := own_chg oS4 hc16 (fun b hb => by have := vS4 b hb; omega)
  replace oS6 := own_chg oS6 hc16 (fun b hb => by have := vS6 b hb; omega)
  replace oS7 := own_chg oS7 hc16 (fun b hb => by have := vS7 b hb; omega)
  replace oS8 := own_chg oS8 hc16 (fun b hb => by have := vS8 b hb; omega)
  go_wp2_with fail
  refine (mark_any _ w5.heap.size w6.heap.size _ _ _ _ _ _ _ oS6 vS6 (by omega) (by omega) (by omega)).mono ?_
  clear oS6
  rintro e w17 ⟨rfl, oS6, hc17⟩
  have BB17 : Below w.heap.size w w17 := below_chg BB16 hc17 (by omega) (by omega)
  have s17 := hc17.size
  replace oS4 := own_chg oS4 hc17 (fun b hb => by have := vS4 b hb; omega)
  replace oS5 := own_chg oS5 hc17 (fun b hb => by have := vS5 b hb; omega)
  replace oS7 := own_chg oS7 hc17 (fun b hb => by have := vS7 b hb; omega)
  replace oS8 := own_chg oS8 hc17 (fun b hb => by have := vS8 b hb; omega)
  go_wp2_with fail
  refine (mark_any _ w6.heap.size w7.heap.size _ _ _ _ _ _ _ oS7 vS7 (by omega) (by omega) (by omega)).mono ?_
  clear oS7
  rintro e w18 ⟨rfl, oS7, hc18⟩
  have BB18 : Below w.heap.size w w18 := below_chg BB17 hc18 (by omega) (by omega)
  have s18 := hc18.size
  replace oS4 := own_chg oS4 hc18 (fun b hb => by have := vS4 b hb; omega)
  replace oS5 := own_chg oS5 hc18 (fun b hb => by have := vS5 b hb; omega)
  replace oS6 := own_chg oS6 hc18 (fun b hb => by have := vS6 b hb; omega)
  replace oS8 := own_chg oS8 hc18 (fun b hb => by have := vS8 b hb; omega)
  go_wp2_with fail
  refine (eqInt64S_below _ _ _ _ _ _ _ _ _ (own_rd oS8) (own_rd oS4)).mono ?_
  rintro e w19 ⟨rfl, hb19⟩
  have BB19 : Below w.heap.size w w19 := BB18.trans (hb19.mono BB18.size)
  have s19 := hb19.size
  replace oS4 := own_below oS4 hb19
  replace oS5 := own_below oS5 hb19
  replace oS6 := own_below oS6 hb19
  replace oS7 := own_below oS7 hb19
  replace oS8 := own_below oS8 hb19
  go_wp2_with fail
  refine (mark_any _ w7.heap.size w8.heap.size _ _ _ _ _ _ _ oS8 vS8 (by omega) (by omega) (by omega)).mono ?_
  clear oS8
  rintro e w20 ⟨rfl, oS8, hc20⟩
  have BB20 : Below w.heap.size w w20 := below_chg BB19 hc20 (by omega) (by omega)
  have s20 := hc20.size
  replace oS4 := own_chg oS4 hc20 (fun b hb => by have := vS4 b hb; omega)
  replace oS5 := own_chg oS5 hc20 (fun b hb => by have := vS5 b hb; omega)
  replace oS6 := own_chg oS6 hc20 (fun b hb => by have := vS6 b hb; omega)
  replace oS7 := own_chg oS7 hc20 (fun b hb => by have := vS7 b hb; omega)
  go_wp2_with fail
  refine (heldSeq_any _ _ _ _ _ (own_rd oS8) (by omega) (by omega) (by omega)).mono ?_
  rintro e w' ⟨rfl, rfl⟩
  go_wp2_with fail
  refine (toInt64S_any _ _ _ _ _ (hr0.below BB20) hlen0).mono ?_
  rintro e w21 ⟨AS12, nS12, cS12, rfl, oS12, hnS12, hb21⟩
  have BB21 : Below w.heap.size w w21 := BB20.trans (hb21.mono BB20.size)
  have s21 := hb21.size
  replace oS4 := own_below oS4 hb21
  replace oS5 := own_below oS5 hb21
  replace oS6 := own_below oS6 hb21
  replace oS7 := own_below oS7 hb21
  replace oS8 := own_below oS8 hb21
  have vS12 := oS12.lt
  go_wp2_with fail
  refine (toInt64S_any _ _ _ _ _ (hr1.below BB21) hlen1).mono ?_
  rintro e w22 ⟨AS13, nS13, cS13, rfl, oS13, hnS13, hb22⟩
  have BB22 : Below w.heap.size w w22 := BB21.trans (hb22.mono BB21.size)
  have s22 := hb22.size
  replace oS4 := own_below oS4 hb22
  replace oS5 := own_below oS5 hb22
  replace oS6 := own_below oS6 hb22
  replace oS7 := own_below oS7 hb22
  replace oS8 := own_below oS8 hb22
  replace oS12 := own_below oS12 hb22
  have vS13 := oS13.lt
  go_wp2_with fail
  refine (toInt64S_any _ _ _ _ _ (hr3.below BB22) hlen3).mono ?_
  rintro e w23 ⟨AS14, nS14, cS14, rfl, oS14, hnS14, hb23⟩
  have BB23 : Below w.heap.size w w23 := BB22.trans (hb23.mono BB22.size)
  have s23 := hb23.size
  replace oS4 := own_below oS4 hb23
  replace oS5 := own_below oS5 hb23
  replace oS6 := own_below oS6 hb23
  replace oS7 := own_below oS7 hb23
  replace oS8 := own_below oS8 hb23
  replace oS12 := own_below oS12 hb23
  replace oS13 := own_below oS13 hb23
  have vS14 := oS14.lt
  go_wp2_with fail
  refine (implFull_any _ _ _ _ _ _ _ _ _ _ _ _ _ _ (own_rd oS12) (cap_of oS12) (own_rd oS13) (own_rd oS14)).mono ?_
  rintro e w24 ⟨AS15, nS15, cS15, rfl, oS15, hnS15, hb24⟩
  have BB24 : Below w.heap.size w w24 := BB23.trans (hb24.mono BB23.size)
  have s24 := hb24.size
  replace oS4 := own_below oS4 hb24
  replace oS5 := own_below oS5 hb24
  replace oS6 := own_below oS6 hb24
  replace oS7 := own_below oS7 hb24
  replace oS8 := own_below oS8 hb24
  replace oS12 := own_below oS12 hb24
  replace oS13 := own_below oS13 hb24
  replace oS14 := own_below oS14 hb24
  have vS15 := oS15.lt
  clear oS12 vS12 hnS12
  clear oS13 vS13 hnS13
  clear oS14 vS14 hnS14
  go_wp2_with fail
  refine (eqInt64S_below _ _ _ _ _ _ _ _ _ (own_rd oS15) (own_rd oS4)).mono ?_
  rintro e w25 ⟨rfl, hb25⟩
  have BB25 : Below w.heap.size w w25 := BB24.trans (hb25.mono BB24.size)
  have s25 := hb25.size
  replace oS4 := own_below oS4 hb25
  replace oS5 := own_below oS5 hb25
  replace oS6 := own_below oS6 hb25
  replace oS7 := own_below oS7 hb25
  replace oS8 := own_below oS8 hb25
  replace oS15 := own_below oS15 hb25
  go_wp2_with fail
  refine (heldSeq_any _ _ _ _ _ (own_rd oS8) (by omega) (by omega) (by omega)).mono ?_
  rintro e w' ⟨rfl, rfl⟩
  go_wp2_with fail
  go_ret
  exact ⟨rfl, BB25⟩
end Go.Proofs.Ytfkllgnenbbccaa

/- The walk of FnExactFinalRank. -/
import Derived.Test.YtfkllgnenbbccaaWt3
namespace Go.Proofs.Ytfkllgnenbbccaa
open Go.RowKit
set_option linter.unusedVariables false
set_option maxRecDepth 100000

theorem fnExactFinalRank_walk (a0 : Option Addr) (len0 cap0 : Nat) (z0 : List Int) (a1 : Int) (a2 : Option Addr) (len2 cap2 : Nat) (z2 : List Int) (a3 : Int) (w : World) (v0 : IsRow .i64 w a0 len0 cap0 z0) (v1 : (Lit.int .i64 a1).wf = true) (v2 : IsRow .i64 w a2 len2 cap2 z2) (v3 : (Lit.int .i64 a3).wf = true) :
    Calls Try.prog 5 #[.slice a0 len0 cap0, .int .i64 a1, .slice a2 len2 cap2, .int .i64 a3] w fun e w' => e = .returned (.bool true) ∧ Below w.heap.size w w' := by
  have hr0 := v0.rd
  have hle0 := hr0.le
  generalize z0.take len0 = xs0 at hr0
  have hr2 := v2.rd
  have hle2 := hr2.le
  generalize z2.take len2 = xs2 at hr2
  clear v0 v1 v2 v3
  by_cases hlen0 : len0 ≤ 1048576
  rotate_left
  · skip
    go_enter Try.func5, Try.ntmps5
    go_wp2_with fail
    go_ret
    exact ⟨rfl, Below.refl _ _⟩
  by_cases hlen2 : len2 ≤ 1048576
  rotate_left
  · skip
    go_enter Try.func5, Try.ntmps5
    go_wp2_with fail
    go_ret
    exact ⟨rfl, Below.refl _ _⟩
  go_enter Try.func5, Try.ntmps5
  have BB0 : Below w.heap.size w w := Below.refl _ _
  go_wp2_with fail
  refine (toInt64S_any _ _ _ _ _ (hr0.below BB0) hlen0).mono ?_
  rintro e w1 ⟨AS1, nS1, cS1, rfl, oS1, hnS1, hb1⟩
  have BB1 : Below w.heap.size w w1 := BB0.trans (hb1.mono BB0.size)
  have s1 := hb1.size
  have vS1 := oS1.lt
  go_wp2_with fail
  refine (toInt64S_any _ _ _ _ _ (hr2.below BB1) hlen2).mono ?_
  rintro e w2 ⟨AS2, nS2, cS2, rfl, oS2, hnS2, hb2⟩
  have BB2 : Below w.heap.size w w2 := BB1.trans (hb2.mono BB1.size)
  have s2 := hb2.size
  replace oS1 := own_below oS1 hb2
  have vS2 := oS2.lt
  go_wp2_with fail
  refine (specFinalRank_any _ _ _ _ _ _ _ _ _ _ _ (own_rd oS1) (own_rd oS2)).mono ?_
  rintro e w3 ⟨rfl, hb3⟩
  have BB3 : Below w.heap.size w w3 := BB2.trans (hb3.mono BB2.size)
  have s3 := hb3.size
  replace oS1 := own_below oS1 hb3
  replace oS2 := own_below oS2 hb3
  clear oS1 vS1 hnS1
  clear oS2 vS2 hnS2
  go_wp2_with fail
  refine (toInt64S_any _ _ _ _ _ (hr0.below BB3) hlen0).mono ?_
  rintro e w4 ⟨AS3, nS3, cS3, rfl, oS3, hnS3, hb4⟩
  have BB4 : Below w.heap.size w w4 := BB3.trans (hb4.mono BB3.size)
  have s4 := hb4.size
  have vS3 := oS3.lt
  go_wp2_with fail
  refine (toInt64S_any _ _ _ _ _ (hr2.below BB4) hlen2).mono ?_
  rintro e w5 ⟨AS4, nS4, cS4, rfl, oS4, hnS4, hb5⟩
  have BB5 : Below w.heap.size w w5 := BB4.trans (hb5.mono BB4.size)
  have s5 := hb5.size
  replace oS3 := own_below oS3 hb5
  have vS4 := oS4.lt
  go_wp2_with fail
  refine (implFinalRank_any _ _ _ _ _ _ _ _ _ _ _ (own_rd oS3) (own_rd oS4)).mono ?_
  rintro e w6 ⟨rfl, hb6⟩
  have BB6 : Below w.heap.size w w6 := BB5.trans (hb6.mono BB5.size)
  have s6 := hb6.size
  replace oS3 := own_below oS3 hb6
  replace oS4 := own_below oS4 hb6
  go_wp2_with fail
  refine (toInt64S_any _ _ _ _ _ (hr0.below BB6) hlen0).mono ?_
  rintro e w7 ⟨AS5, nS5, cS5, rfl, oS5, hnS5, hb7⟩
  have BB7 : Below w.heap.size w w7 := BB6.trans (hb7.mono BB6.size)
  have s7 := hb7.size
  replace oS3 := own_below oS3 hb7
  replace oS4 := own_below oS4 hb7
  have vS5 := oS5.lt
  go_wp2_with fail
  refine (eqInt64S_below _ _ _ _ _ _ _ _ _ (own_rd oS3) (own_rd oS5)).mono ?_
  rintro e w8 ⟨rfl, hb8⟩
  have BB8 : Below w.heap.size w w8 := BB7.trans (hb8.mono BB7.size)
  have s8 := hb8.size
  replace oS3 := own_below oS3 hb8
  replace oS4 := own_below oS4 hb8
  replace oS5 := own_below oS5 hb8
  clear oS5 vS5 hnS5
  go_wp2_with fail
  refine (toInt64S_any _ _ _ _ _ (hr2.below BB8) hlen2).mono ?_
  rintro e w9 ⟨AS6, nS6, cS6, rfl, oS6, hnS6, hb9⟩
  have BB9 : Below w.heap.size w w9 := BB8.trans (hb9.mono BB8.size)
  have s9 := hb9.size
  replace oS3 := own_below oS3 hb9
  replace oS4 := own_below oS4 hb9
  have vS6 := oS6.lt
  go_wp2_with fail
  refine (eqInt64S_below _ _ _ _ _ _ _ _ _ (own_rd oS4) (own_rd oS6)).mono ?_
  rintro e w10 ⟨rfl, hb10⟩
  have BB10 : Below w.heap.size w w10 := BB9.trans (hb10.mono BB9.size)
  have s10 := hb10.size
  replace oS3 := own_below oS3 hb10
  replace oS4 := own_below oS4 hb10
  replace oS6 := own_below oS6 hb10
  clear oS6 vS6 hnS6
  go_wp2_with fail
  go_ret
  exact ⟨rfl, BB10⟩
end Go.Proofs.Ytfkllgnenbbccaa

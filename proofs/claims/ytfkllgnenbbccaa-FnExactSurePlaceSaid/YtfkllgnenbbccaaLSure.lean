/- The walk of FnExactSurePlace. -/
import Derived.Test.YtfkllgnenbbccaaWv8
namespace Go.Proofs.Ytfkllgnenbbccaa
open Go.RowKit
set_option linter.unusedVariables false
set_option maxRecDepth 100000

theorem fnExactSurePlace_walk (a0 : Option Addr) (len0 cap0 : Nat) (z0 : List Int) (a1 : Int) (a2 : Int) (a3 : Int) (w : World) (v0 : IsRow .i64 w a0 len0 cap0 z0) (v1 : (Lit.int .i64 a1).wf = true) (v2 : (Lit.int .i64 a2).wf = true) (v3 : (Lit.int .i64 a3).wf = true) :
    Calls Try.prog 9 #[.slice a0 len0 cap0, .int .i64 a1, .int .i64 a2, .int .i64 a3] w fun e w' => e = .returned (.bool true) ∧ Below w.heap.size w w' := by
  have hr0 := v0.rd
  have hle0 := hr0.le
  generalize z0.take len0 = xs0 at hr0
  clear v0 v1 v2 v3
  by_cases hlen0 : len0 ≤ 1048576
  rotate_left
  · skip
    go_enter Try.func9, Try.ntmps9
    go_wp2_with fail
    go_ret
    exact ⟨rfl, Below.refl _ _⟩
  go_enter Try.func9, Try.ntmps9
  have BB0 : Below w.heap.size w w := Below.refl _ _
  go_wp2_with fail
  refine (toInt64S_any _ _ _ _ _ (hr0.below BB0) hlen0).mono ?_
  rintro e w1 ⟨AS1, nS1, cS1, rfl, oS1, hnS1, hb1⟩
  have BB1 : Below w.heap.size w w1 := BB0.trans (hb1.mono BB0.size)
  have s1 := hb1.size
  have vS1 := oS1.lt
  go_wp2_with fail
  refine (specSure_any _ _ _ _ _ _ _ _ (own_rd oS1)).mono ?_
  rintro e w2 ⟨rfl, hb2⟩
  have BB2 : Below w.heap.size w w2 := BB1.trans (hb2.mono BB1.size)
  have s2 := hb2.size
  replace oS1 := own_below oS1 hb2
  clear oS1 vS1 hnS1
  go_wp2_with fail
  refine (toInt64S_any _ _ _ _ _ (hr0.below BB2) hlen0).mono ?_
  rintro e w3 ⟨AS2, nS2, cS2, rfl, oS2, hnS2, hb3⟩
  have BB3 : Below w.heap.size w w3 := BB2.trans (hb3.mono BB2.size)
  have s3 := hb3.size
  have vS2 := oS2.lt
  go_wp2_with fail
  refine (implSure_any _ _ _ _ _ _ _ _ (own_rd oS2)).mono ?_
  rintro e w4 ⟨rfl, hb4⟩
  have BB4 : Below w.heap.size w w4 := BB3.trans (hb4.mono BB3.size)
  have s4 := hb4.size
  replace oS2 := own_below oS2 hb4
  go_wp2_with fail
  refine (toInt64S_any _ _ _ _ _ (hr0.below BB4) hlen0).mono ?_
  rintro e w5 ⟨AS3, nS3, cS3, rfl, oS3, hnS3, hb5⟩
  have BB5 : Below w.heap.size w w5 := BB4.trans (hb5.mono BB4.size)
  have s5 := hb5.size
  replace oS2 := own_below oS2 hb5
  have vS3 := oS3.lt
  go_wp2_with fail
  refine (eqInt64S_below _ _ _ _ _ _ _ _ _ (own_rd oS2) (own_rd oS3)).mono ?_
  rintro e w6 ⟨rfl, hb6⟩
  have BB6 : Below w.heap.size w w6 := BB5.trans (hb6.mono BB5.size)
  have s6 := hb6.size
  replace oS2 := own_below oS2 hb6
  replace oS3 := own_below oS3 hb6
  clear oS3 vS3 hnS3
  go_wp2_with fail
  go_ret
  exact ⟨rfl, BB6⟩
end Go.Proofs.Ytfkllgnenbbccaa

/- The walk of FnExactLeastMet. -/
import Derived.Test.YtoccfbkklponnaaWw
namespace Go.Proofs.Ytoccfbkklponnaa
open Go.RowKit
set_option linter.unusedVariables false
set_option maxRecDepth 100000

theorem fnExactLeastMet_walk (a0 : Option Addr) (len0 cap0 : Nat) (z0 : List (List Int)) (a1 : Int) (w : World) (v0 : RdRows w a0 len0 z0) (v1 : (Lit.int .i64 a1).wf = true) :
    Calls Try.prog 8 #[.slice a0 len0 cap0, .int .i64 a1] w fun e w' => e = .returned (.bool true) ∧ Below w.heap.size w w' := by
  have hr0 := v0
  have hle0 := hr0.le
  have HL0 := Lib.hid hr0.len
  clear v0 v1
  obtain ⟨sz0, hsz0⟩ : ∃ s, s = szRowsF 1048576 z0 := ⟨_, rfl⟩
  have HSZ0 := Lib.hid hsz0.symm
  by_cases hneg0 : 0 ≤ sz0
  rotate_left
  · clear hsz0
    go_enter Try.func8, Try.ntmps8
    go_wp2_with fail
    refine (szInt64SS_any _ _ _ _ 1048576 (by omega) (by omega) _ hr0).mono ?_
    rintro e w' ⟨rfl, rfl⟩
    rw [HSZ0.out]
    go_wp2_with fail
    go_ret
    exact ⟨rfl, Below.refl _ _⟩
  rw [hsz0] at hneg0
  obtain ⟨hlen0, hrow0⟩ := szRowsF_le hneg0 (by omega)
  rw [HL0.out] at hlen0
  replace hlen0 : len0 ≤ 1048576 := by omega
  have hrow0 := Lib.hid (show ∀ x ∈ z0, x.length ≤ 1048576 from fun x hx => by have := hrow0 x hx; omega)
  rw [← hsz0] at hneg0
  clear hsz0
  go_enter Try.func8, Try.ntmps8
  go_wp2_with fail
  refine (szInt64SS_any _ _ _ _ 1048576 (by omega) (by omega) _ hr0).mono ?_
  rintro e w' ⟨rfl, rfl⟩
  rw [HSZ0.out]
  have BB0 : Below w.heap.size w w := Below.refl _ _
  go_wp2_with fail
  refine (toInt64SS_any _ _ _ _ _ (hr0.below BB0) hlen0 hrow0.out).mono ?_
  rintro e w1 ⟨AS1, nS1, cS1, VS1, rfl, oS1, hnS1, hb1⟩
  have BB1 : Below w.heap.size w w1 := BB0.trans (hb1.mono BB0.size)
  have s1 := hb1.size
  have vS1 := oS1.in_
  go_wp2_with fail
  refine (specLeast_any _ _ _ _ _ _ oS1.rd).mono ?_
  rintro e w2 ⟨rfl, hb2⟩
  have BB2 : Below w.heap.size w w2 := BB1.trans (hb2.mono BB1.size)
  have s2 := hb2.size
  replace oS1 := oS1.below hb2
  clear oS1 vS1 hnS1
  go_wp2_with fail
  refine (toInt64SS_any _ _ _ _ _ (hr0.below BB2) hlen0 hrow0.out).mono ?_
  rintro e w3 ⟨AS2, nS2, cS2, VS2, rfl, oS2, hnS2, hb3⟩
  have BB3 : Below w.heap.size w w3 := BB2.trans (hb3.mono BB2.size)
  have s3 := hb3.size
  have vS2 := oS2.in_
  go_wp2_with fail
  refine (implLeast_any _ _ _ _ _ _ oS2.rd).mono ?_
  rintro e w4 ⟨rfl, hb4⟩
  have BB4 : Below w.heap.size w w4 := BB3.trans (hb4.mono BB3.size)
  have s4 := hb4.size
  replace oS2 := oS2.below hb4
  go_wp2_with fail
  refine (toInt64SS_any _ _ _ _ _ (hr0.below BB4) hlen0 hrow0.out).mono ?_
  rintro e w5 ⟨AS3, nS3, cS3, VS3, rfl, oS3, hnS3, hb5⟩
  have BB5 : Below w.heap.size w w5 := BB4.trans (hb5.mono BB4.size)
  have s5 := hb5.size
  replace oS2 := oS2.below hb5
  have vS3 := oS3.in_
  go_wp2_with fail
  refine (eqInt64SS_below _ _ _ _ _ _ _ _ _ oS2.rd oS3.rd).mono ?_
  rintro e w6 ⟨rfl, hb6⟩
  have BB6 : Below w.heap.size w w6 := BB5.trans (hb6.mono BB5.size)
  have s6 := hb6.size
  replace oS2 := oS2.below hb6
  replace oS3 := oS3.below hb6
  clear oS3 vS3 hnS3
  go_wp2_with fail
  go_ret
  exact ⟨rfl, BB6⟩
end Go.Proofs.Ytoccfbkklponnaa

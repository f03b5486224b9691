/- The walk of FnExactIsFleets. -/
import Derived.Test.YtoccfbkklponnaaWa
import Derived.Test.YtoccfbkklponnaaWx
namespace Go.Proofs.Ytoccfbkklponnaa
open Go.RowKit
set_option linter.unusedVariables false

theorem fnExactIsFleets_walk (a0 : Option Addr) (len0 cap0 : Nat) (z0 : List Int) (a1 : Int) (w : World) (w0 : IsRow .i64 w a0 len0 cap0 z0) (w1 : (Lit.int .i64 a1).wf = true) :
    Calls Try.prog 3 #[.slice a0 len0 cap0, .int .i64 a1] w fun e w' => e = .returned (.bool true) ∧ Below w.heap.size w w' := by
  have hr := w0.rd
  have hle := hr.le
  generalize z0.take len0 = xs at hr
  clear w0 w1
  by_cases hlen : len0 ≤ 1048576
  · go_enter Try.func3, Try.ntmps3
    go_wp2_with fail
    refine (toInt64S_any _ _ _ _ _ hr hlen).mono ?_
    rintro e w1 ⟨A1, n1, c1, rfl, ho1, hb1⟩
    go_wp2_with fail
    refine (specIsFleets_any _ _ _ _ _ _ (own_rd ho1)).mono ?_
    rintro e w' ⟨rfl, rfl⟩
    go_wp2_with fail
    refine (toInt64S_any _ _ _ _ _ (hr.below hb1) hlen).mono ?_
    rintro e w2 ⟨A2, n2, c2, rfl, ho2, hb2⟩
    go_wp2_with fail
    refine (implIsFleets_any _ _ _ _ _ _ (own_rd ho2)).mono ?_
    rintro e w' ⟨rfl, rfl⟩
    go_wp2_with fail
    refine (toInt64S_any _ _ _ _ _ ((hr.below hb1).below hb2) hlen).mono ?_
    rintro e w3 ⟨A3, n3, c3, rfl, ho3, hb3⟩
    go_wp2_with fail
    refine (eqInt64S_any _ _ _ _ _ _ _ _ _ (own_rd (own_below ho2 hb3)) (own_rd ho3)).mono ?_
    rintro e w' ⟨rfl, q, rfl⟩
    go_wp2_with fail
    go_ret
    exact ⟨rfl, below_drewN (hb1.trans ((hb2.mono hb1.size).trans (hb3.mono (Nat.le_trans hb1.size hb2.size)))) q⟩
  · go_enter Try.func3, Try.ntmps3
    go_wp2_with fail
    go_ret
    exact ⟨rfl, Below.refl _ _⟩
end Go.Proofs.Ytoccfbkklponnaa

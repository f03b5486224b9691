/- Walks: valid tables (chapter 26), both sides. -/
import Derived.Test.YtgkflaeaiijhjaaTa
import Derived.Test.YtgkflaeaiijhjaaTp
import Derived.Test.YtgkflaeaiijhjaaZma
namespace Go.Proofs.Ytgkflaeaiijhjaa
open Go.RowKit
set_option linter.unusedVariables false
set_option maxRecDepth 100000

theorem l26Code_anyT (x : Int) (w : World) :
    Calls Try.prog 51 #[.int .i64 x] w fun e w' => e = .returned (.bool (withinB x 0 9)) ∧ w = w' := by
  go_enter Try.func51, Try.ntmps51
  go_wp2_with (go_at_call 24; refine (l01In_any _ _ _ _).mono ?_; rintro e w' ⟨rfl, rfl⟩)
  go_ret
  exact ⟨rfl, rfl⟩
end Go.Proofs.Ytgkflaeaiijhjaa

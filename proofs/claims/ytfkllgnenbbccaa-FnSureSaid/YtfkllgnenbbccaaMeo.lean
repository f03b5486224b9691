/- Plain functions: drawn orders: no Go in sight. -/
import Derived.Test.YtfkllgnenbbccaaMd
namespace Go.Proofs.Ytfkllgnenbbccaa
open Go.RowKit
set_option linter.unusedVariables false

def orderGo (code : List Int) : Nat → Nat → List Int → St → List Int × St
  | 0, _, out, s => (out, s)
  | m + 1, i, out, s =>
    orderGo code m (i + 1) (out.take (nextF code s ((i : Int) + 1)).1.toNat ++ [(i : Int)] ++ out.drop (nextF code s ((i : Int) + 1)).1.toNat) (nextF code s ((i : Int) + 1)).2
def orderD (code : List Int) (n : Nat) (s : St) : List Int × St := orderGo code n 0 [] s
theorem orderGo_len (code : List Int) (m i : Nat) (out : List Int) (s : St) : (orderGo code m i out s).1.length = out.length + m := by
  induction m generalizing i out s with
  | zero => rfl
  | succ m ih =>
    unfold orderGo
    rw [ih]
    simp only [List.length_append, List.length_take, List.length_drop, List.length_cons, List.length_nil]
    omega
theorem orderD_len (code : List Int) (n : Nat) (s : St) : (orderD code n s).1.length = n := by unfold orderD; rw [orderGo_len]; simp
end Go.Proofs.Ytfkllgnenbbccaa

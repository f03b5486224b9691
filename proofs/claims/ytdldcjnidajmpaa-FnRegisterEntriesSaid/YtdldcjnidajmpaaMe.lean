/- Plain functions: drawn orders and fleets: no Go in sight. -/
import Derived.Test.YtdldcjnidajmpaaMd
namespace Go.Proofs.Ytdldcjnidajmpaa
open Go.RowKit
set_option linter.unusedVariables false

def boatsD (code : List Int) (s : St) : Int × St :=
  if (nextF code s 24).1 = 0 then (16 * (nextF code (nextF code s 24).2 2).1, (nextF code (nextF code s 24).2 2).2)
  else (1 + (nextF code (nextF code s 24).2 6).1, (nextF code (nextF code s 24).2 6).2)
def kD (code : List Int) (s : St) : Int × St :=
  if (nextF code s 24).1 = 0 then (5 * (nextF code (nextF code s 24).2 2).1, (nextF code (nextF code s 24).2 2).2)
  else (1 + (nextF code (nextF code s 24).2 4).1, (nextF code (nextF code s 24).2 4).2)
theorem boatsD_bd (code : List Int) (s : St) : 0 ≤ (boatsD code s).1 ∧ (boatsD code s).1 ≤ 16 := by
  unfold boatsD
  split
  · have := nextF_bd code (nextF code s 24).2 2 (by omega); simp only; omega
  · have := nextF_bd code (nextF code s 24).2 6 (by omega); simp only; omega
theorem kD_bd (code : List Int) (s : St) : 0 ≤ (kD code s).1 ∧ (kD code s).1 ≤ 5 := by
  unfold kD
  split
  · have := nextF_bd code (nextF code s 24).2 2 (by omega); simp only; omega
  · have := nextF_bd code (nextF code s 24).2 4 (by omega); simp only; omega
theorem boatsD_ok (code : List Int) (s : St) (h : StOk code s) : StOk code (boatsD code s).2 := by
  unfold boatsD
  split
  · exact nextF_ok _ _ _ (nextF_ok _ _ _ h)
  · exact nextF_ok _ _ _ (nextF_ok _ _ _ h)

/-- An order is drawn: i is put in at a drawn place. -/
def orderGo (code : List Int) : Nat → Nat → List Int → St → List Int × St
  | 0, _, out, s => (out, s)
  | m + 1, i, out, s =>
    orderGo code m (i + 1) (out.take (nextF code s ((i : Int) + 1)).1.toNat ++ [(i : Int)] ++ out.drop (nextF code s ((i : Int) + 1)).1.toNat) (nextF code s ((i : Int) + 1)).2
def orderD (code : List Int) (n : Nat) (s : St) : List Int × St := orderGo code n 0 [] s
theorem orderGo_len (code : List Int) (m i : Nat) (out : List Int) (s : St) : (orderGo code m i out s).1.length = out.length + m := by
  induction m generalizing i out s with
  | zero => rfl
  | succ m ih =>
    unfold orderGo
    rw [ih]
    simp only [List.length_append, List.length_take, List.length_drop, List.length_cons, List.length_nil]
    omega
theorem orderD_len (code : List Int) (n : Nat) (s : St) : (orderD code n s).1.length = n := by unfold orderD; rw [orderGo_len]; simp
def anyD (code : List Int) (s : St) : List Int × St :=
  if (orderD code (boatsD code s).1.toNat (boatsD code s).2).1.length = 0 then orderD code (boatsD code s).1.toNat (boatsD code s).2
  else if (nextF code (orderD code (boatsD code s).1.toNat (boatsD code s).2).2 16).1 = 0 then
    ((orderD code (boatsD code s).1.toNat (boatsD code s).2).1.set (nextF code (nextF code (orderD code (boatsD code s).1.toNat (boatsD code s).2).2 16).2 ((orderD code (boatsD code s).1.toNat (boatsD code s).2).1.length : Int)).1.toNat
      ((nextF code (nextF code (nextF code (orderD code (boatsD code s).1.toNat (boatsD code s).2).2 16).2 ((orderD code (boatsD code s).1.toNat (boatsD code s).2).1.length : Int)).2 8).1 - 1),
     (nextF code (nextF code (nextF code (orderD code (boatsD code s).1.toNat (boatsD code s).2).2 16).2 ((orderD code (boatsD code s).1.toNat (boatsD code s).2).1.length : Int)).2 8).2)
  else ((orderD code (boatsD code s).1.toNat (boatsD code s).2).1, (nextF code (orderD code (boatsD code s).1.toNat (boatsD code s).2).2 16).2)
theorem anyD_len (code : List Int) (s : St) : (anyD code s).1.length ≤ 16 := by
  have h := boatsD_bd code s
  unfold anyD
  split
  · rw [orderD_len]; omega
  · split
    · rw [List.length_set, orderD_len]; omega
    · rw [orderD_len]; omega
def snakeD (code : List Int) : List Int × Int := ((anyD code (fromF code)).1, (kD code (anyD code (fromF code)).2).1)
end Go.Proofs.Ytdldcjnidajmpaa

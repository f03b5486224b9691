/- Plain functions: drawn fleets and rounds: no Go in sight. -/
import Derived.Test.YtdldcjnidajmpaaMe
namespace Go.Proofs.Ytdldcjnidajmpaa
open Go.RowKit
set_option linter.unusedVariables false

def fleetsGo (code : List Int) (K : Int) : Nat → List Int → St → List Int × St
  | 0, out, s => (out, s)
  | m + 1, out, s => fleetsGo code K m (out ++ [(nextF code s (max 1 K)).1]) (nextF code s (max 1 K)).2
theorem fleetsGo_len (code : List Int) (K : Int) (m : Nat) (out : List Int) (s : St) : (fleetsGo code K m out s).1.length = out.length + m := by
  induction m generalizing out s with
  | zero => rfl
  | succ m ih =>
    unfold fleetsGo
    rw [ih]
    simp only [List.length_append, List.length_cons, List.length_nil]
    omega
/-- The drawn list is spoiled now and then. -/
def spoilF (code : List Int) (K : Int) (r : List Int × St) : List Int × St :=
  if r.1.length = 0 then r
  else if (nextF code r.2 24).1 = 0 then (r.1.set 0 (K - (K + 1) * (nextF code (nextF code r.2 24).2 2).1), (nextF code (nextF code r.2 24).2 2).2)
  else (r.1, (nextF code r.2 24).2)
theorem spoilF_len (code : List Int) (K : Int) (r : List Int × St) : (spoilF code K r).1.length = r.1.length := by
  unfold spoilF
  split
  · rfl
  · split
    · simp
    · rfl
def fleetsD (code : List Int) (K : Int) (N : Nat) (s : St) : List Int × St := spoilF code K (fleetsGo code K N [] s)
theorem fleetsD_len (code : List Int) (K : Int) (N : Nat) (s : St) : (fleetsD code K N s).1.length = N := by
  unfold fleetsD
  rw [spoilF_len, fleetsGo_len]
  simp

def roundsGo1 (code : List Int) (n : Nat) (K : Int) : Nat → List (List Int) → St → List (List Int) × St
  | 0, rows, s => (rows, s)
  | m + 1, rows, s => roundsGo1 code n K m (rows ++ [(fleetsD code K (n + ((nextF code s 40).1 / 39).toNat) (nextF code s 40).2).1]) (fleetsD code K (n + ((nextF code s 40).1 / 39).toNat) (nextF code s 40).2).2
def roundsGo2 (code : List Int) (n : Nat) (K : Int) : Nat → List (List Int) → St → List (List Int) × St
  | 0, rows, s => (rows, s)
  | m + 1, rows, s => roundsGo2 code n K m (rows ++ [(fleetsD code K n s).1]) (fleetsD code K n s).2
def roundsEnd (code : List Int) (n : Nat) (K : Int) (r : List (List Int) × St) : List (List Int) × St :=
  if (nextF code r.2 24).1 = 0 then roundsGo2 code n K (13 - r.1.length) r.1 (nextF code r.2 24).2 else (r.1, (nextF code r.2 24).2)
def roundsD (code : List Int) : List (List Int) × Int :=
  ((roundsEnd code (boatsD code (kD code (fromF code)).2).1.toNat (kD code (fromF code)).1
      (roundsGo1 code (boatsD code (kD code (fromF code)).2).1.toNat (kD code (fromF code)).1
        (nextF code (boatsD code (kD code (fromF code)).2).2 6).1.toNat [] (nextF code (boatsD code (kD code (fromF code)).2).2 6).2)).1,
   (kD code (fromF code)).1)
end Go.Proofs.Ytdldcjnidajmpaa

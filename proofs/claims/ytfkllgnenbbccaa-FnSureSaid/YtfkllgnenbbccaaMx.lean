/- Plain functions: drawn medal races (chapter 31): no Go in sight. -/
import Derived.Test.YtfkllgnenbbccaaMeo
namespace Go.Proofs.Ytfkllgnenbbccaa
open Go.RowKit
set_option linter.unusedVariables false

def pickF (i a b : Int) : Int := if i = 0 then 0 else if i = 1 then 5 else if i = 2 then 10 else if i = 3 then a else b
/-- One step between two boats' points. -/
def gapD (code : List Int) (s : St) : Int × St :=
  (pickF (nextF code (nextF code (nextF code s 5).2 60).2 5).1 (10 * (nextF code s 5).1) (nextF code (nextF code s 5).2 60).1, (nextF code (nextF code (nextF code s 5).2 60).2 5).2)
theorem gapD_bd (code : List Int) (s : St) : 0 ≤ (gapD code s).1 ∧ (gapD code s).1 ≤ 60 := by
  have h1 := nextF_bd code s 5 (by omega)
  have h2 := nextF_bd code (nextF code s 5).2 60 (by omega)
  unfold gapD pickF
  simp only
  split
  · omega
  · split
    · omega
    · split
      · omega
      · split <;> omega
def netGo (code : List Int) : Nat → List Int → Int → St → List Int × St
  | 0, out, _, s => (out, s)
  | q + 1, out, a, s => netGo code q (out ++ [a]) (a + (gapD code s).1) (gapD code s).2
theorem netGo_len (code : List Int) : ∀ (q : Nat) (out : List Int) (a : Int) (s : St), (netGo code q out a s).1.length = out.length + q := by
  intro q
  induction q with
  | zero => intro out a s; rfl
  | succ q ih => intro out a s; rw [netGo, ih]; simp; omega
/-- The first list. -/
def net0D (code : List Int) (s : St) : List Int × St := netGo code (1 + (nextF code (nextF code s 40).2 5).1).toNat [] (nextF code s 40).1 (nextF code (nextF code s 40).2 5).2
def netX (t : Int) (xs : List Int) : List Int := if t = 0 then xs.set 0 (xs.getD 0 0 + 100) else if t = 1 then xs.set 0 (-1) else if t = 2 then [1, 2, 3, 4, 5, 6] else if t = 3 then [] else xs
def netD (code : List Int) (s : St) : List Int × St := (netX (nextF code (net0D code s).2 30).1 (net0D code s).1, (nextF code (net0D code s).2 30).2)
theorem net0D_len (code : List Int) (s : St) : 1 ≤ (net0D code s).1.length ∧ (net0D code s).1.length ≤ 5 := by
  have h := nextF_bd code (nextF code s 40).2 5 (by omega)
  unfold net0D
  rw [netGo_len]
  simp
  omega
theorem netD_len (code : List Int) (s : St) : (netD code s).1.length ≤ 6 := by
  have h := net0D_len code s
  unfold netD netX
  split
  · simp; omega
  · split
    · simp; omega
    · split
      · simp
      · split
        · simp
        · simp only; omega
def factorD (code : List Int) (s : St) : Int × St :=
  if (nextF code s 24).1 = 0 then (4 * (nextF code (nextF code s 24).2 2).1, (nextF code (nextF code s 24).2 2).2)
  else (1 + (nextF code (nextF code s 24).2 3).1, (nextF code (nextF code s 24).2 3).2)
theorem factorD_bd (code : List Int) (s : St) : 0 ≤ (factorD code s).1 ∧ (factorD code s).1 ≤ 4 := by
  have h1 := nextF_bd code (nextF code s 24).2 2 (by omega)
  have h2 := nextF_bd code (nextF code s 24).2 3 (by omega)
  unfold factorD
  split <;> simp only <;> omega
def placesD (code : List Int) (m : Nat) (s : St) : List Int × St :=
  if m = 0 then ((orderD code m s).1.map (· + 1), (orderD code m s).2)
  else if (nextF code (orderD code m s).2 20).1 = 0 then (((orderD code m s).1.map (· + 1)).set 0 (nextF code (nextF code (orderD code m s).2 20).2 7).1, (nextF code (nextF code (orderD code m s).2 20).2 7).2)
  else ((orderD code m s).1.map (· + 1), (nextF code (orderD code m s).2 20).2)
theorem placesD_len (code : List Int) (m : Nat) (s : St) : (placesD code m s).1.length = m := by
  unfold placesD
  split
  · simp [orderD_len]
  · split
    · simp [orderD_len]
    · simp [orderD_len]
/-- All that is drawn of the code: net points, factor, places, boat. -/
def medalD (code : List Int) : List Int × Int × List Int × Int :=
  ((netD code (fromF code)).1, (factorD code (netD code (fromF code)).2).1,
   (placesD code (netD code (fromF code)).1.length (factorD code (netD code (fromF code)).2).2).1,
   (nextF code (placesD code (netD code (fromF code)).1.length (factorD code (netD code (fromF code)).2).2).2 (((netD code (fromF code)).1.length : Int) + 1)).1 -
     (nextF code (nextF code (placesD code (netD code (fromF code)).1.length (factorD code (netD code (fromF code)).2).2).2 (((netD code (fromF code)).1.length : Int) + 1)).2 8).1 / 7)
end Go.Proofs.Ytfkllgnenbbccaa

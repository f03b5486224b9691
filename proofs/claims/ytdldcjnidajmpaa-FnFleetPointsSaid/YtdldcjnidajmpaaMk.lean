/- Plain functions: drawn races: no Go in sight. -/
import Derived.Test.YtdldcjnidajmpaaMi
import Derived.Test.YtdldcjnidajmpaaFq
namespace Go.Proofs.Ytdldcjnidajmpaa
open Go.RowKit
set_option linter.unusedVariables false

/-- One finish is drawn. -/
def finX (code : List Int) (N : Int) (i : Nat) (s : St) : FinishT × St :=
  if (nextF code (nextF code s (2 * N)).2 4).1 = 0 then (((i : Int), 1 + (nextF code (nextF code (nextF code s (2 * N)).2 4).2 9).1, 0), (nextF code (nextF code (nextF code s (2 * N)).2 4).2 9).2)
  else (((i : Int), 0, 1 + (nextF code s (2 * N)).1), (nextF code (nextF code s (2 * N)).2 4).2)
def raceGo (code : List Int) (N : Int) : Nat → Nat → List FinishT → St → List FinishT × St
  | 0, _, out, s => (out, s)
  | m + 1, i, out, s => raceGo code N m (i + 1) (out ++ [(finX code N i s).1]) (finX code N i s).2
def raceD (code : List Int) (N : Nat) (s : St) : List FinishT × St := raceGo code (N : Int) N 0 [] s
theorem raceGo_len (code : List Int) (N : Int) (m i : Nat) (out : List FinishT) (s : St) : (raceGo code N m i out s).1.length = out.length + m := by
  induction m generalizing i out s with
  | zero => rfl
  | succ m ih =>
    unfold raceGo
    rw [ih]
    simp only [List.length_append, List.length_cons, List.length_nil]
    omega
theorem raceD_len (code : List Int) (N : Nat) (s : St) : (raceD code N s).1.length = N := by unfold raceD; rw [raceGo_len]; simp
/-- A finish is spoiled now and then: t tells how. -/
def spoilFin (t n v : Int) (f : FinishT) : FinishT :=
  if t = 0 then (f.1, f.2.1, 0) else if t = 1 then (f.1, 10 * v, f.2.2) else if t = 2 then (n, f.2.1, f.2.2) else if t = 3 then (f.1, f.2.1, 1000000000 + v) else f
def spoilRace (code : List Int) (n : Nat) (r : List FinishT × St) : List FinishT × St :=
  if n < 1 then r
  else
    let a := nextF code r.2 (n : Int)
    let b := nextF code a.2 24
    let c := if b.1 = 1 ∨ b.1 = 3 then nextF code b.2 2 else (0, b.2)
    (r.1.set a.1.toNat (spoilFin b.1 n c.1 (r.1.getD a.1.toNat (0, 0, 0))), c.2)
def anyRaceD (code : List Int) (n : Nat) (s : St) : List FinishT × St := spoilRace code n (raceD code n s)
theorem anyRaceD_len (code : List Int) (n : Nat) (s : St) : (anyRaceD code n s).1.length = n := by
  unfold anyRaceD spoilRace
  split
  · exact raceD_len _ _ _
  · simp only [List.length_set]; exact raceD_len _ _ _
/-- What DrawFleetPoints draws: the race, the fleets, their number. -/
def fleetPtsD (code : List Int) : List FinishT × List Int × Int :=
  let k := kD code (fromF code)
  let n := boatsD code k.2
  let r := anyRaceD code n.1.toNat n.2
  let e := nextF code r.2 24
  (r.1, (fleetsD code k.1 (n.1 + e.1 / 23).toNat e.2).1, k.1)
end Go.Proofs.Ytdldcjnidajmpaa

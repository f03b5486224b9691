/- Plain functions: an entry that is added is drawn. -/
import Derived.Test.YtdldcjnidajmpaaMq
namespace Go.Proofs.Ytdldcjnidajmpaa
open Go.RowKit
set_option linter.unusedVariables false

def bigL (k : Nat) : List EntryT := (List.range k).map fun (i : Nat) => (0, 0, (i : Int) + 1, 4, 0, 0, 0)
theorem bigL_snoc (k : Nat) : bigL (k + 1) = bigL k ++ [(0, 0, (k : Int) + 1, 4, 0, 0, 0)] := by simp [bigL, List.range_succ]
theorem bigL_len (k : Nat) : (bigL k).length = k := by simp [bigL]
def race12 (q : Int) (x : EntryT) : EntryT := if q = 0 then (12, E.boat x, E.rev x, E.code x, E.time x, E.kind x, E.points x) else x
def addD (code : List Int) : RegT × EntryT := (if (nextF code (nextF code (entX code (regD code (fromF code)).1.1 (regD code (fromF code)).2).2 16).2 40).1 = 0 then (3, 0, bigL 400) else (regD code (fromF code)).1, race12 (nextF code (entX code (regD code (fromF code)).1.1 (regD code (fromF code)).2).2 16).1 (entX code (regD code (fromF code)).1.1 (regD code (fromF code)).2).1)
theorem addD_eq (code : List Int) : addD code = (if (nextF code (nextF code (entX code (regD code (fromF code)).1.1 (regD code (fromF code)).2).2 16).2 40).1 = 0 then (3, 0, bigL 400) else (regD code (fromF code)).1, race12 (nextF code (entX code (regD code (fromF code)).1.1 (regD code (fromF code)).2).2 16).1 (entX code (regD code (fromF code)).1.1 (regD code (fromF code)).2).1) := rfl
end Go.Proofs.Ytdldcjnidajmpaa

/- General and plain lemmas, and light walks (merged): Jd Je Jf Jg. -/
import Derived.Test.YtalgdeieejpelaaGreatDoorJa
import Derived.Test.YtalgdeieejpelaaGreatDoorJb
import Derived.Test.YtalgdeieejpelaaGreatDoorZma
import Derived.Test.YtalgdeieejpelaaGreatDoorZmf
import Derived.Lib.AppendZeros
import Derived.Maps.AppendAt
/- Walks: the library's Grow and Concat at entries; a register with more entries (chapter 33). -/
namespace Go.Proofs.YtalgdeieejpelaaGreatDoor
open Go.RowKit Go.Sort Go.Lib
set_option linter.unusedVariables false
set_option maxRecDepth 100000

section
variable {ops : Array Oper} {rest : List Oper} {o : Oper} {a : Act} {K : Act → World → Prop} {Q : Exit → Act → World → Prop} {E : Prop}
end
end Go.Proofs.YtalgdeieejpelaaGreatDoor

/- Walks: the library's Concat of two slices of entries; withEntries, l33Add (chapter 33). -/
namespace Go.Proofs.YtalgdeieejpelaaGreatDoor
open Go.RowKit Go.Sort Go.Lib
set_option linter.unusedVariables false
set_option maxRecDepth 100000

def szK (n m k : Nat) : Nat := if k = 0 then 0 else if k = 1 then n else n + m
def catK (xs ys : List EntryT) (k : Nat) : List EntryT := if k = 0 then [] else if k = 1 then xs else xs ++ ys
end Go.Proofs.YtalgdeieejpelaaGreatDoor

/- Walks: a register with more entries (chapter 33). -/
namespace Go.Proofs.YtalgdeieejpelaaGreatDoor
open Go.RowKit Go.Sort Go.Lib
set_option linter.unusedVariables false
set_option maxRecDepth 100000

end Go.Proofs.YtalgdeieejpelaaGreatDoor

/- Walks: a register with one more entry, the spec (chapter 33). -/
namespace Go.Proofs.YtalgdeieejpelaaGreatDoor
open Go.RowKit Go.Sort Go.Lib
set_option linter.unusedVariables false
set_option maxRecDepth 100000

end Go.Proofs.YtalgdeieejpelaaGreatDoor

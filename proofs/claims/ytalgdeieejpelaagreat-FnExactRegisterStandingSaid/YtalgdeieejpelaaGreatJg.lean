/- Walks: a register with one more entry, the spec (chapter 33). -/
import Derived.Test.YtalgdeieejpelaaGreatZme
namespace Go.Proofs.YtalgdeieejpelaaGreat
open Go.RowKit Go.Sort Go.Lib
set_option linter.unusedVariables false
set_option maxRecDepth 100000

end Go.Proofs.YtalgdeieejpelaaGreat

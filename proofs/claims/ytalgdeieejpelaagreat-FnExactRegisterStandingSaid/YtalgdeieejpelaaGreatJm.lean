/- Walks: two registers are merged (chapter 33), the program. -/
import Derived.Test.YtalgdeieejpelaaGreatZmf
namespace Go.Proofs.YtalgdeieejpelaaGreat
open Go.RowKit Go.Sort Go.Lib
set_option linter.unusedVariables false
set_option maxRecDepth 100000

theorem mrg_post (w : World) {a s : Int} {xs : List EntryT} {b t : Int} {ys : List EntryT} {k : Int} (h : mrgC a s xs b t ys = k) (hk : k ≠ 0) : RetReg2 w (mrgB a s xs b t ys) (mrgS a s xs b t ys) (mrgL a s xs b t ys) (mrgC a s xs b t ys) = RetReg2 w 0 0 [] k := by
  obtain ⟨h1, h2, h3⟩ := mrg_bad h hk
  rw [h1, h2, h3, h]
theorem mrg_post0 (w : World) {a s : Int} {xs : List EntryT} {b t : Int} {ys : List EntryT} (h : mrgC a s xs b t ys = 0) : RetReg2 w (mrgB a s xs b t ys) (mrgS a s xs b t ys) (mrgL a s xs b t ys) (mrgC a s xs b t ys) = RetReg2 w a s (xs ++ newE xs ys) 0 := by
  obtain ⟨h1, h2, h3⟩ := mrg_good h
  rw [h1, h2, h3, h]
end Go.Proofs.YtalgdeieejpelaaGreat

/- Walks: the text of a redress, both sides. -/
import Derived.Test.YthlnoahjfllhfaaGreatDoorQn
import Derived.Test.YthlnoahjfllhfaaGreatDoorQd
import Derived.Test.YthlnoahjfllhfaaGreatDoorRt
import Derived.Lib.QuietBelow
namespace Go.Proofs.YthlnoahjfllhfaaGreatDoor
open Go.RowKit Go.Sort
set_option linter.unusedVariables false
set_option maxRecDepth 100000

theorem redS_no {x : RdX} (h : rdOk x = false) : redS x = [] := by unfold redS; rw [if_neg (by rw [h]; simp)]
theorem redS_yes {x : RdX} (h : rdOk x = true) : redS x = redL x := by unfold redS; rw [if_pos h]
theorem red_str (r b k p : Int) : str (redL (r, b, k, p)) = if k = 3 then str (dec r.toNat) ++ ⟨#[32]⟩ ++ str (dec b.toNat) ++ ⟨#[32]⟩ ++ str (kw k) ++ (⟨#[32]⟩ ++ str (dec p.toNat)) else str (dec r.toNat) ++ ⟨#[32]⟩ ++ str (dec b.toNat) ++ ⟨#[32]⟩ ++ str (kw k) := by
  have e : (⟨#[32]⟩ : ByteArray) = str [32] := rfl
  unfold redL
  simp only
  split <;> simp [e, str_add]
end Go.Proofs.YthlnoahjfllhfaaGreatDoor

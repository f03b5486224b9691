/- Walks: the library's CompactFunc over entries: how long its result is. -/
import Derived.Test.YtalgdeieejpelaaGreatDoorZme
import Derived.Test.YtalgdeieejpelaaGreatDoorZma
import Derived.Lib.QuietBelow
namespace Go.Proofs.YtalgdeieejpelaaGreatDoor
open Go.RowKit Go.Sort
set_option linter.unusedVariables false
set_option maxRecDepth 100000

/-- Two neighbours have one key. -/
def adjGo : List EntryT → Bool
  | x :: y :: r => sameB y x || adjGo (y :: r)
  | _ => false
theorem own_capE {w : World} {base e s n c : Nat} {A : Option Addr} {xs : List Value} (h : w.ownsRow base e s (.slice A n c) n xs) : n ≤ c := by
  rcases h.2 with ⟨hv, hn⟩ | ⟨g, cap, cur, hv, hb, hg, hnc, _⟩
  · omega
  · injection hv with _ _ hc; omega
/-- What is left: a slice that is as long just where no two neighbours have one key; only this row has turned. -/
def RetCompact (base n : Nat) (w : World) (ys : List EntryT) (e : Ending) (w' : World) : Prop :=
  ∃ A' m c', e = .returned (.slice A' m c') ∧ decide (m = n) = !adjGo ys ∧ Below base w w'
theorem setCells_below {B g : Nat} (vs : List Value) : ∀ {a w : World} (i : Nat), Below B a w → B ≤ g → Below B a (w.setCells g i vs) := by
  induction vs with
  | nil => intro a w i h _; exact h
  | cons v r ih => intro a w i h hb; exact ih (i + 1) (h.setCell hb _) hb
end Go.Proofs.YtalgdeieejpelaaGreatDoor

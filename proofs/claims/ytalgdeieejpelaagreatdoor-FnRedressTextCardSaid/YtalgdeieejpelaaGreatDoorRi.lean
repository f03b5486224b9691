/- Walks: valid registers (chapter 33), both sides. -/
import Derived.Test.YtalgdeieejpelaaGreatDoorRg
import Derived.Test.YtalgdeieejpelaaGreatDoorZmf
import Derived.Test.YtalgdeieejpelaaGreatDoorZma
import Derived.Test.YtalgdeieejpelaaGreatDoorCf
import Derived.Lib.QuietBelow
namespace Go.Proofs.YtalgdeieejpelaaGreatDoor
open Go.RowKit Go.Sort
set_option linter.unusedVariables false
set_option maxRecDepth 100000

theorem Rd.takeE {w : World} {b o n : Nat} {xs : List EntryT} (h : Rd w 7 (some ⟨b, o, none⟩) n (ents xs)) (k : Nat) (hk : k ≤ n) : Rd w 7 (some ⟨b, o, none⟩) k (ents (xs.take k)) := by
  have hl := h.len_ent
  have hle := h.le
  have he : ents xs = ents (xs.take k) ++ ents (xs.drop k) := by unfold ents; rw [← List.flatMap_append, List.take_append_drop]
  refine ⟨by unfold ents; rw [flat_len entC_len, List.length_take]; rw [Nat.min_eq_left (by omega)], by omega, fun hn => ⟨b, o, rfl, fun i u hu => ?_⟩⟩
  obtain ⟨b', o', e, hc⟩ := h.pos (by omega)
  injection e with e
  injection e with e1 e2
  subst e1 e2
  refine hc i u ?_
  rw [he, List.getElem?_append_left (List.getElem?_eq_some_iff.1 hu).1]
  exact hu
theorem hasB_cons (y x : EntryT) (r : List EntryT) : hasB (y :: r) x = (sameB y x || hasB r x) := rfl
/-- The entries of a register, read. -/
def RegRd (w : World) (A : Option Addr) (n c : Nat) (xs : List EntryT) : Prop := Rd w 7 A n (ents xs) ∧ n ≤ c
theorem RegRd.below {w w' : World} {A : Option Addr} {n c : Nat} {xs : List EntryT} (h : RegRd w A n c xs) (hb : Below w.heap.size w w') : RegRd w' A n c xs := ⟨h.1.below hb, h.2⟩
end Go.Proofs.YtalgdeieejpelaaGreatDoor

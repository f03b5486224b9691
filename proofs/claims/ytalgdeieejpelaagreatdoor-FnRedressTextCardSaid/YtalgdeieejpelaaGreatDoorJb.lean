/- Walks: histories (chapter 33), the spec. -/
import Derived.Test.YtalgdeieejpelaaGreatDoorJa
namespace Go.Proofs.YtalgdeieejpelaaGreatDoor
open Go.RowKit Go.Sort
set_option linter.unusedVariables false
set_option maxRecDepth 100000

theorem Rd.dropE {w : World} {b o n : Nat} {xs : List EntryT} (h : Rd w 7 (some ⟨b, o, none⟩) n (ents xs)) (k : Nat) (hk : k ≤ n) : Rd w 7 (some ⟨b, o + k * 7, none⟩) (n - k) (ents (xs.drop k)) := by
  have hl := h.len_ent
  have hle := h.le
  have he : ents xs = ents (xs.take k) ++ ents (xs.drop k) := by unfold ents; rw [← List.flatMap_append, List.take_append_drop]
  have ht : (ents (xs.take k)).length = k * 7 := by unfold ents; rw [flat_len entC_len, List.length_take, Nat.min_eq_left (by omega)]
  refine ⟨by unfold ents; rw [flat_len entC_len, List.length_drop, hl], by omega, fun hn => ⟨b, o + k * 7, rfl, fun i u hu => ?_⟩⟩
  obtain ⟨b', o', e, hc⟩ := h.pos (by omega)
  injection e with e
  injection e with e1 e2
  subst e1 e2
  have := hc (k * 7 + i) u (by rw [he, List.getElem?_append_right (by omega), ht, Nat.add_sub_cancel_left]; exact hu)
  rwa [← Nat.add_assoc] at this
theorem rd_zeroE (w : World) (A : Option Addr) (xs : List EntryT) (h : xs = []) : Rd w 7 A 0 (ents xs) := by
  subst h
  exact ⟨rfl, by omega, fun h => by omega⟩
end Go.Proofs.YtalgdeieejpelaaGreatDoor

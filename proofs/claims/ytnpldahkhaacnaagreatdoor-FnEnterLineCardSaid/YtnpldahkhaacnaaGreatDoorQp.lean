/- Walks: redress read from a text, the program's side. -/
import Derived.Test.YtnpldahkhaacnaaGreatDoorQo
import Derived.Test.YtnpldahkhaacnaaGreatDoorZmb
import Derived.RegionTactic
import Derived.Deep.LoopGhost
namespace Go.Proofs.YtnpldahkhaacnaaGreatDoor
open Go.RowKit Go.Sort
set_option linter.unusedVariables false
set_option maxRecDepth 100000

def outR : Option RdX → RdX × Bool
  | some x => (x, true)
  | none => ((0, 0, 0, 0), false)
def RetRd (w : World) (o : Option RdX) (e : Ending) (w' : World) : Prop :=
  e = .returned (.tuple #[.agg #[.int .i64 (outR o).1.1, .int .i64 (outR o).1.2.1, .int .i64 (outR o).1.2.2.1, .int .i64 (outR o).1.2.2.2], .bool (outR o).2]) ∧ Below w.heap.size w w'
theorem Rd.num {w : World} {A : Option Addr} {n k : Nat} {xs : List Int} (h : Rd w 1 A n (ints xs)) (hk : k < n) : ∃ b o, A = some ⟨b, o, none⟩ ∧ w.cell? ⟨b, o + k, none⟩ = some (.int .i64 (xs.getD k 0)) := by
  obtain ⟨b, o, e, hc⟩ := h.pos (by omega)
  have hl : xs.length = n := by have := h.len; rw [ints_length] at this; omega
  have hx : xs[k]? = some (xs.getD k 0) := by simp [List.getD, List.getElem?_eq_getElem (show k < xs.length by omega)]
  exact ⟨b, o, e, hc k _ (ints_get hx)⟩
theorem nums_at {ws : List (List UInt8)} {k : Nat} (hk : k < ws.length) : (nums ws).getD k 0 = (numF (ws.getD k [])).1 := by
  unfold nums
  simp [List.getD, List.getElem?_eq_getElem hk]
theorem word_len : ∀ (l : List UInt8), ∀ x ∈ wordsL l, x.length ≤ l.length := by
  intro l
  induction l with
  | nil => intro x hx; simp [wordsL] at hx; subst hx; simp
  | cons c r ih =>
    intro x hx
    by_cases h : c = 32
    · subst h
      rw [wordsL_blank] at hx
      rcases List.mem_cons.1 hx with rfl | hx
      · simp
      · have := ih x hx; simp; omega
    · rw [wordsL_char h] at hx
      cases hw : wordsL r with
      | nil => exact absurd hw (wordsL_ne r)
      | cons w ws =>
        rw [hw] at hx ih
        simp only [ahead] at hx
        rcases List.mem_cons.1 hx with rfl | hx
        · have := ih w List.mem_cons_self; simp; omega
        · have := ih x (List.mem_cons_of_mem _ hx); simp; omega
theorem word_short {s : ByteArray} (hs : s.size ≤ 2097152) : ∀ x ∈ wordsL s.data.toList, x.length ≤ 2097152 := by
  intro x hx
  have h1 := word_len _ x hx
  have h2 := Lib.size_eq s
  omega
end Go.Proofs.YtnpldahkhaacnaaGreatDoor

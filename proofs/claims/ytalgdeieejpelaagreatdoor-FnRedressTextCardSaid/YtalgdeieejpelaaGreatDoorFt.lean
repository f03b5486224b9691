/- Walks: places in a race (chapter 26), the program. -/
import Derived.Test.YtalgdeieejpelaaGreatDoorFr
import Derived.BigRegion
namespace Go.Proofs.YtalgdeieejpelaaGreatDoor
open Go.RowKit
set_option linter.unusedVariables false
set_option maxRecDepth 100000

/-- Result: two new rows of numbers. -/
def RetPP (w : World) (r : List Int × List Int) (e : Ending) (w' : World) : Prop :=
  ∃ A n c A2 c2, e = .returned (.tuple #[.slice A n c, .slice A2 n c2]) ∧ w'.ownsRow w.heap.size 2 1 (.slice A n c) n (ints r.1) ∧ w'.ownsRow w.heap.size 2 1 (.slice A2 n c2) n (ints r.2) ∧ Below w.heap.size w w'
def doneL (g : FinishT → Int) (fs : List FinishT) (k : Nat) : List Int := (fs.map g).take k ++ List.replicate (fs.length - k) 0
theorem doneL_len (g : FinishT → Int) (fs : List FinishT) (k : Nat) (hk : k ≤ fs.length) : (doneL g fs k).length = fs.length := by unfold doneL; simp; omega
theorem doneL_next (g : FinishT → Int) {fs : List FinishT} {k : Nat} {f : FinishT} (hf : fs[k]? = some f) (hk : k < fs.length) : doneL g fs (k + 1) = (doneL g fs k).set k (g f) := by
  unfold doneL
  exact (copy_stepG 0 (fs.map g) fs.length k (g f) (by simp) (by rw [List.getElem?_map, hf]; rfl) hk).symm
theorem doneL_zero (g : FinishT → Int) {fs : List FinishT} {k : Nat} (hk : k < fs.length) : (doneL g fs k)[k]? = some 0 := by
  unfold doneL
  rw [List.getElem?_append_right (by simp; omega), List.getElem?_replicate, if_pos (by simp; omega)]
theorem set_same {α : Type} {xs : List α} {k : Nat} {x : α} (h : xs[k]? = some x) : xs.set k x = xs := by
  obtain ⟨hk, he⟩ := List.getElem?_eq_some_iff.1 h
  subst he
  exact List.set_getElem_self hk
theorem ltN_snoc (t : Int) (fs : List FinishT) (g : FinishT) : ltN t (fs ++ [g]) = ltN t fs + (if (g.2.1 == 0 && decide (g.2.2 < t)) = true then 1 else 0) := by
  unfold ltN
  rw [List.filter_append, List.length_append, List.filter_cons]
  split <;> simp_all
theorem eqN_snoc (t : Int) (fs : List FinishT) (g : FinishT) : eqN t (fs ++ [g]) = eqN t fs + (if (g.2.1 == 0 && (g.2.2 == t)) = true then 1 else 0) := by
  unfold eqN
  rw [List.filter_append, List.length_append, List.filter_cons]
  split <;> simp_all
theorem two_makes (w : World) (n : Nat) (hn : n ≤ 1048576) : ∃ w1, w1 = ((w.alloc (.cells (madeCells #[.int .i64 0] n) 2)).alloc (.cells (madeCells #[.int .i64 0] n) 2)).drew ∧
    w1.ownsRow w.heap.size 2 1 (.slice (some ⟨w.heap.size, 0, none⟩) n n) n (ints (List.replicate n 0)) ∧ w1.ownsRow w.heap.size 2 1 (.slice (some ⟨w.heap.size + 1, 0, none⟩) n n) n (ints (List.replicate n 0)) ∧ Below w.heap.size w w1 := by
  have h1 := own_made w w.heap.size 2 n (.int .i64 0) (Nat.le_refl _) (by omega)
  have h2 := own_made (w.alloc (.cells (madeCells #[.int .i64 0] n) 2)) w.heap.size 2 n (.int .i64 0) (by simp) (by omega)
  rw [World.size_alloc] at h2
  rw [← ints_replicate] at h1 h2
  refine ⟨_, rfl, own_drewN (own_below h1 ((Below.refl _ _).alloc (Nat.le_refl _) _)) 1, own_drewN h2 1, below_drewN (((Below.refl _ _).alloc (Nat.le_refl _) _).alloc (by simp) _) 1⟩
end Go.Proofs.YtalgdeieejpelaaGreatDoor

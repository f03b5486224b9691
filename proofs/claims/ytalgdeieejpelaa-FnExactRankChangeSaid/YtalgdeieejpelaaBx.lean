/- General lemmas: a struct variable's box. No Go function in sight. -/
import Derived.Test.YtalgdeieejpelaaSt
import Derived.Below
namespace Go.Proofs.Ytalgdeieejpelaa
open Go.RowKit
set_option linter.unusedVariables false

def Box (w : World) (b : Nat) (vs : Array Value) (t : TypeId) : Prop := w.heap[b]? = some (.cells vs t (0, 0))
section
variable {w w' : World} {b c i : Nat} {vs : Array Value} {t : TypeId} {v x y z x0 x1 x2 x3 x4 x5 x6 : Value}
theorem Box.new (w : World) (vs : Array Value) (t : TypeId) : Box (w.alloc (.cells vs t)) w.heap.size vs t := by
  show (w.heap.push (.cells vs t))[w.heap.size]? = _
  simp
theorem Box.lt (h : Box w b vs t) : b < w.heap.size := (Array.getElem?_eq_some_iff.1 h).1
theorem Box.below (h : Box w b vs t) (k : Below w.heap.size w w') : Box w' b vs t := (k.block b h.lt).trans h
theorem Box.kept {B : Nat} (h : Box w b vs t) (k : Below B w w') (hb : b < B) : Box w' b vs t := (k.block b hb).trans h
theorem Box.chg {lo hi : Nat} (h : Box w b vs t) (k : Chg lo hi w w') (hb : b < lo ∨ hi ≤ b) : Box w' b vs t := (k.block b h.lt hb).trans h
theorem Box.other (h : Box w b vs t) (hb : b ≠ c) (v : Value) : Box (w.setCell ⟨c, i, none⟩ v) b vs t := by
  unfold Box at h ⊢
  rw [← h]; exact Below.heap_setCell _ _ _ _ (by simpa using hb)
theorem Box.grown {row : Option Nat} (h : Box w b vs t) (hg : w.grownBy w' row) (hr : row ≠ some b) : Box w' b vs t :=
  (hg.block b h.lt (fun e => hr e.symm)).trans h
theorem Box.cell (h : Box w b vs t) (hv : vs[i]? = some v) : w.cell? ⟨b, i, none⟩ = some v := by
  unfold Box at h
  simp [World.cell?, h, hv]
theorem Box.fz (h : Box w b vs t) : w.frozen? ⟨b, i, none⟩ = false := by
  unfold Box at h
  simp [World.frozen?, h]
theorem Box.set (h : Box w b vs t) (i : Nat) (v : Value) : Box (w.setCell ⟨b, i, none⟩ v) b (vs.setIfInBounds i v) t := by
  unfold Box at h ⊢
  simp [World.setCell, Array.getElem?_modify, h]
theorem Box.c1 (h : Box w b #[x] t) : w.cell? ⟨b, 0, none⟩ = some x := h.cell rfl
theorem Box.f3 (h : Box w b #[x, y, z] t) : w.cell? ⟨b, 0, none⟩ = some x ∧ w.cell? ⟨b, 1, none⟩ = some y ∧ w.cell? ⟨b, 2, none⟩ = some z ∧ w.frozen? ⟨b, 0, none⟩ = false ∧ w.frozen? ⟨b, 1, none⟩ = false ∧ w.frozen? ⟨b, 2, none⟩ = false ∧ b < w.heap.size :=
  ⟨h.cell rfl, h.cell rfl, h.cell rfl, h.fz, h.fz, h.fz, h.lt⟩
theorem Box.f4 (h : Box w b #[x0, x1, x2, x3] t) : w.cell? ⟨b, 0, none⟩ = some x0 ∧ w.cell? ⟨b, 1, none⟩ = some x1 ∧ w.cell? ⟨b, 2, none⟩ = some x2 ∧ w.cell? ⟨b, 3, none⟩ = some x3 ∧ w.frozen? ⟨b, 0, none⟩ = false ∧ w.frozen? ⟨b, 1, none⟩ = false ∧ w.frozen? ⟨b, 2, none⟩ = false ∧ w.frozen? ⟨b, 3, none⟩ = false ∧ b < w.heap.size :=
  ⟨h.cell rfl, h.cell rfl, h.cell rfl, h.cell rfl, h.fz, h.fz, h.fz, h.fz, h.lt⟩
theorem Box.f7 (h : Box w b #[x0, x1, x2, x3, x4, x5, x6] t) : w.cell? ⟨b, 0, none⟩ = some x0 ∧ w.cell? ⟨b, 1, none⟩ = some x1 ∧ w.cell? ⟨b, 2, none⟩ = some x2 ∧ w.cell? ⟨b, 3, none⟩ = some x3 ∧ w.cell? ⟨b, 4, none⟩ = some x4 ∧ w.cell? ⟨b, 5, none⟩ = some x5 ∧ w.cell? ⟨b, 6, none⟩ = some x6 ∧ b < w.heap.size :=
  ⟨h.cell rfl, h.cell rfl, h.cell rfl, h.cell rfl, h.cell rfl, h.cell rfl, h.cell rfl, h.lt⟩
end
theorem one_box (w : World) (vs : Array Value) (t : TypeId) : ∃ w1, w1 = w.alloc (.cells vs t) ∧ Box w1 w.heap.size vs t ∧ Below w.heap.size w w1 ∧ w1.heap.size = w.heap.size + 1 :=
  ⟨_, rfl, Box.new _ _ _, (Below.refl _ _).alloc (Nat.le_refl _) _, by simp⟩
theorem two_boxes (w : World) (vs us : Array Value) (t u : TypeId) : ∃ w1, w1 = (w.alloc (.cells vs t)).alloc (.cells us u) ∧ Box w1 w.heap.size vs t ∧ Box w1 (w.heap.size + 1) us u ∧ Below w.heap.size w w1 ∧ w1.heap.size = w.heap.size + 1 + 1 := by
  obtain ⟨w1, h1, h2, h3, h4⟩ := one_box w vs t
  obtain ⟨w2, k1, k2, k3, k4⟩ := one_box w1 us u
  rw [h4] at k2
  exact ⟨w2, by rw [k1, h1], h2.below k3, k2, h3.trans (k3.mono h3.size), by rw [k4, h4]⟩
theorem three_boxes (w : World) (vs us xs : Array Value) (t u x : TypeId) : ∃ w1, w1 = ((w.alloc (.cells vs t)).alloc (.cells us u)).alloc (.cells xs x) ∧ Box w1 w.heap.size vs t ∧ Box w1 (w.heap.size + 1) us u ∧ Box w1 (w.heap.size + 1 + 1) xs x ∧ Below w.heap.size w w1 ∧ w1.heap.size = w.heap.size + 1 + 1 + 1 := by
  obtain ⟨w1, h1, h2, h2', h3, h4⟩ := two_boxes w vs us t u
  obtain ⟨w2, k1, k2, k3, k4⟩ := one_box w1 xs x
  rw [h4] at k2
  exact ⟨w2, by rw [k1, h1], h2.below k3, h2'.below k3, k2, h3.trans (k3.mono h3.size), by rw [k4, h4]⟩
end Go.Proofs.Ytalgdeieejpelaa

/- Walks: histories (chapter 33), the program. -/
import Derived.Test.YtalgdeieejpelaaGreatDoorRj
import Derived.Maps.AppendAt
namespace Go.Proofs.YtalgdeieejpelaaGreatDoor
open Go.RowKit Go.Sort
set_option linter.unusedVariables false
set_option maxRecDepth 100000

theorem box_new2 (w : World) (o : Obj) (vs : Array Value) (t : TypeId) : Box ((w.alloc o).alloc (.cells vs t)) (w.heap.size + 1) vs t := by
  have := Box.new (w.alloc o) vs t
  rwa [World.size_alloc] at this
theorem own_emptyE (w : World) (base e s : Nat) (hb : base ≤ w.heap.size) : (w.alloc (.cells #[] e)).ownsRow base e s (.slice (some ⟨w.heap.size, 0, none⟩) 0 0) 0 [] := by
  have := World.ownsRow_lit (base := base) (e := e) (size := s) w #[] 0 hb (by unfold maxLen; omega) (by simp)
  simpa using this
theorem ents_one (ys : List EntryT) : ∀ u ∈ ents ys, u.oneCell' = true := by
  intro u hu
  unfold ents at hu
  obtain ⟨y, _, hy⟩ := List.mem_flatMap.1 hu
  unfold entC at hy
  simp only [List.mem_cons, List.not_mem_nil, or_false] at hy
  rcases hy with rfl | rfl | rfl | rfl | rfl | rfl | rfl <;> rfl
theorem ents_news {w : World} {b o m : Nat} {ys : List EntryT} (h : Rd w 7 (some ⟨b, o, none⟩) m (ents ys)) : ∀ (j : Nat) (u : Value), (ents ys)[j]? = some u → w.cell? ((⟨b, o, none⟩ : Addr).add j) = some u := by
  intro j u hu
  have hl := h.len
  have hj := (List.getElem?_eq_some_iff.1 hu).1
  obtain ⟨b', o', e, hc⟩ := h.pos (by omega)
  injection e with e
  injection e with e1 e2
  subst e1 e2
  have hadd : (⟨b, o, none⟩ : Addr).add j = ⟨b, o + j, none⟩ := by unfold Addr.add; split <;> simp_all
  rw [hadd]
  exact hc j u hu
section
variable {ops : Array Oper} {rest : List Oper} {o : Oper} {a : Act} {K : Act → World → Prop} {Q : Exit → Act → World → Prop} {E : Prop}
end
/-- What HistoryOf answers. -/
def histC (b s : Int) (xs : List EntryT) (race boat : Int) : Int := if regB b s xs = true then (if (withinB race 0 11 && withinB boat 0 (b - 1)) = true then 0 else 2) else 1
def histL (b s : Int) (xs : List EntryT) (race boat : Int) : List EntryT := if histC b s xs race boat = 0 then histF xs race boat else []
end Go.Proofs.YtalgdeieejpelaaGreatDoor

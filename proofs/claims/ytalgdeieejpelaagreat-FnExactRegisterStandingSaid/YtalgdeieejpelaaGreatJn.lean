/- Walks: two registers are merged (chapter 33), the reference. -/
import Derived.Test.YtalgdeieejpelaaGreatJm
namespace Go.Proofs.YtalgdeieejpelaaGreat
open Go.RowKit Go.Sort Go.Lib
set_option linter.unusedVariables false
set_option maxRecDepth 100000

theorem own_ne_box {w : World} {base e s n g : Nat} {v : Value} {xs : List Value} {vs : Array Value} {t : TypeId} (h : w.ownsRow base e s v n xs) (X : Box w g vs t) (hne : e ≠ t) : ∀ b, v.ownBlock = some b → b ≠ g := by
  intro b hb
  rcases h.2 with ⟨rfl, _⟩ | ⟨g1, cap, cur, rfl, _, hh, _⟩
  · simp [Value.ownBlock] at hb
  · simp [Value.ownBlock] at hb
    subst hb
    rintro rfl
    unfold Box at X
    rw [hh] at X
    injection X with X
    injection X with _ ht
    exact hne ht
/-- The state of the register that grows: its box at g, its entries. -/
structure OutS (w0 w : World) (g : Nat) (a s : Int) (A : Option Addr) (q c : Nat) (l : List EntryT) : Prop where
  box : Box w g #[.int .i64 a, .int .i64 s, .slice A q c] 31
  own : w.ownsRow w0.heap.size 50 7 (.slice A q c) q (ents l)
  ge : w0.heap.size ≤ g
  below : Below w0.heap.size w0 w
theorem OutS.step {w0 w w' : World} {g q c : Nat} {a s : Int} {A : Option Addr} {l : List EntryT} (h : OutS w0 w g a s A q c l) (k : Below w.heap.size w w') : OutS w0 w' g a s A q c l :=
  ⟨h.box.below k, own_below h.own k, h.ge, h.below.trans (k.mono h.below.size)⟩
theorem OutS.make {w0 w : World} {g q c : Nat} {a s : Int} {A : Option Addr} {l : List EntryT} {v0 v1 v2 : Value} (X : Box w g #[v0, v1, v2] 31) (ho : w.ownsRow w0.heap.size 50 7 (.slice A q c) q (ents l))
    (hg : w0.heap.size ≤ g) (hb : Below w0.heap.size w0 w) : OutS w0 (((w.setCell ⟨g, 0, none⟩ (.int .i64 a)).setCell ⟨g, 1, none⟩ (.int .i64 s)).setCell ⟨g, 2, none⟩ (.slice A q c)) g a s A q c l := by
  have hch := put_chg (g := g) [.int .i64 a, .int .i64 s, .slice A q c] 0 (Chg.refl g (g + 1) w) (by omega) (by omega)
  have hne := own_ne_box ho X (by decide)
  have hsz := hb.size
  refine ⟨?_, own_chg ho hch (fun b hb => by have := hne b hb; omega), hg, below_chg hb hch (by omega) (by omega)⟩
  have := ((X.set 0 (.int .i64 a)).set 1 (.int .i64 s)).set 2 (.slice A q c)
  simpa using this
end Go.Proofs.YtalgdeieejpelaaGreat

/- Tables in memory: two slices of slices of integers behind a number. No Go function in sight. -/
import Derived.Test.YtalgdeieejpelaaWy
namespace Go.Proofs.Ytalgdeieejpelaa
open Go.RowKit
set_option linter.unusedVariables false

/-- A table: boats, points, codes. -/
structure Tb where
  boats : Int
  pts : List (List Int)
  cds : List (List Int)
/-- A table's slices read as the table. -/
structure RdT (w : World) (P : Option Addr) (n : Nat) (C : Option Addr) (m : Nat) (t : Tb) : Prop where
  pts : RdRows w P n t.pts
  cds : RdRows w C m t.cds
theorem RdT.below {w w' : World} {P C : Option Addr} {n m : Nat} {t : Tb} (h : RdT w P n C m t) (k : Below w.heap.size w w') : RdT w' P n C m t := ⟨h.pts.below k, h.cds.below k⟩
theorem RdT.keep {w w' : World} {P C : Option Addr} {n m : Nat} {t : Tb} (h : RdT w P n C m t) (k : Keeps w w') : RdT w' P n C m t := ⟨h.pts.keep k, h.cds.keep k⟩
/-- A table of the call's own. -/
structure OwnT (w : World) (base : Nat) (P : Option Addr) (n c : Nat) (vs : List Value) (C : Option Addr) (m d : Nat) (us : List Value) (t : Tb) : Prop where
  pts : OwnRows w base 26 2 P n c vs t.pts
  cds : OwnRows w base 26 2 C m d us t.cds
  apO : ∀ g, (Value.slice P n c).ownBlock = some g → (Value.slice C m d).ownBlock ≠ some g
  apR : ∀ v ∈ vs, ∀ u ∈ us, ∀ g, v.ownBlock = some g → u.ownBlock ≠ some g
/-- The blocks of a table lie from lo to below hi. -/
def TIn (lo hi : Nat) (P : Option Addr) (n c : Nat) (vs : List Value) (C : Option Addr) (m d : Nat) (us : List Value) : Prop :=
  RowsIn lo hi P n c vs ∧ RowsIn lo hi C m d us
section
variable {w w' : World} {base n c m d : Nat} {P C : Option Addr} {vs us : List Value} {t : Tb}
theorem OwnT.rd (h : OwnT w base P n c vs C m d us t) : RdT w P n C m t := ⟨h.pts.rd, h.cds.rd⟩
theorem OwnT.in_ (h : OwnT w base P n c vs C m d us t) : TIn base w.heap.size P n c vs C m d us := ⟨h.pts.in_, h.cds.in_⟩
theorem OwnT.below (h : OwnT w base P n c vs C m d us t) (k : Below w.heap.size w w') : OwnT w' base P n c vs C m d us t := ⟨h.pts.below k, h.cds.below k, h.apO, h.apR⟩
theorem OwnT.base' {base' : Nat} (h : OwnT w base P n c vs C m d us t) (hb : base' ≤ base) : OwnT w base' P n c vs C m d us t := ⟨h.pts.base' hb, h.cds.base' hb, h.apO, h.apR⟩
theorem OwnT.chg {lo hi : Nat} (h : OwnT w base P n c vs C m d us t) (k : Chg lo hi w w') {lo2 hi2 : Nat} (hv : TIn lo2 hi2 P n c vs C m d us) (hd : hi2 ≤ lo ∨ hi ≤ lo2) : OwnT w' base P n c vs C m d us t :=
  ⟨h.pts.chg k hv.1 hd, h.cds.chg k hv.2 hd, h.apO, h.apR⟩
/-- Two slices of slices that lie one behind the other. -/
theorem OwnT.join {mid : Nat} (h1 : OwnRows w base 26 2 P n c vs t.pts) (h2 : OwnRows w mid 26 2 C m d us t.cds) (hb : base ≤ mid) (hv : RowsIn base mid P n c vs) : OwnT w base P n c vs C m d us t := by
  have hu := h2.in_
  refine ⟨h1, h2.base' hb, fun g hg hg' => ?_, fun v hv' u hu' g hg hg' => ?_⟩
  · have := hv.1 g hg; have := hu.1 g hg'; omega
  · have := hv.2 v hv' g hg; have := hu.2 u hu' g hg'; omega
end
/-- Result: a new table. -/
def RetT (w : World) (t : Tb) (e : Ending) (w' : World) : Prop :=
  ∃ P n c vs C m d us, e = .returned (.agg #[.int .i64 t.boats, .slice P n c, .slice C m d]) ∧ OwnT w' w.heap.size P n c vs C m d us t ∧ (sumLen t.pts ≤ 1099511627776 ∧ sumLen t.cds ≤ 1099511627776) ∧ Below w.heap.size w w'
/-- Result: a new table and a code. -/
def RetTC (w : World) (r : Tb × Int) (e : Ending) (w' : World) : Prop :=
  ∃ P n c vs C m d us, e = .returned (.tuple #[.agg #[.int .i64 r.1.boats, .slice P n c, .slice C m d], .int .i64 r.2]) ∧ OwnT w' w.heap.size P n c vs C m d us r.1 ∧ (sumLen r.1.pts ≤ 1099511627776 ∧ sumLen r.1.cds ≤ 1099511627776) ∧ Below w.heap.size w w'
def noT : Tb := ⟨0, [], []⟩
theorem OwnT.nil (w : World) (base : Nat) : OwnT w base none 0 0 [] none 0 0 [] noT := ⟨OwnRows.nil _ _ _ _, OwnRows.nil _ _ _ _, fun g h => by simp [Value.ownBlock] at h, fun v hv => by simp at hv⟩
theorem RetTC.nil (w w' : World) (code : Int) (h : Below w.heap.size w w') : RetTC w (noT, code) (.returned (.tuple #[.agg #[.int .i64 0, .slice none 0 0, .slice none 0 0], .int .i64 code])) w' :=
  ⟨none, 0, 0, [], none, 0, 0, [], rfl, OwnT.nil _ _, by simp [noT, sumLen], h⟩
end Go.Proofs.Ytalgdeieejpelaa

/- What a law is told of a table, and of a list of redress, that came in. -/
import Derived.Test.YtalgdeieejpelaaGs
import Derived.Test.YtalgdeieejpelaaSo
import Derived.Test.YtalgdeieejpelaaTb
import Derived.Test.YtalgdeieejpelaaRs
namespace Go.Proofs.Ytalgdeieejpelaa
open Go.RowKit Go.ChangeShapes Go.WideShapes Go.Deep Go.Joins
set_option linter.unusedVariables false
set_option maxRecDepth 100000

theorem rows_at {H : Type} {enc : TypeId × Value → H} {w : World} {base fuel : Nat} {held : Bool} {v : Value} {x : DataW H × List MemPlace}
    (h : DataW.trod enc Try.prog w base (fun _ => true) held fuel 22 [v] = some x) : ∃ (A : Option Addr) (len cap : Nat) (zs : List (List Int)), v = .slice A len cap ∧ RdRows w A len zs := by
  rcases Go.Deep.open_int_rows Try.underlying22 Try.underlying26 Try.underlying2 (by kernel_rfl) (by kernel_rfl) h with ⟨hcs, _⟩ | ⟨x, l, c, A, L, C, Z, hcs, _, hl, hm, _, hcell⟩
  · injection hcs with hcs
    exact ⟨none, 0, 0, [], hcs, rdRows_none _⟩
  · injection hcs with hcs
    exact ⟨some x, l, c, _, hcs, rdRows_of hl hm hcell⟩
theorem table_of {H : Type} {enc : TypeId × Value → H} {w : World} {base : Nat} {held : Bool} {r : Reach} {b0 : Nat} {v : Value} {d : DataW H} {p : List MemPlace}
    (hv : Value.okWide Try.prog w r b0 24 v) (h : DataW.Trod enc Try.prog w base (fun _ => true) held 24 v d p) :
    ∃ (P : Option Addr) (n c : Nat) (C : Option Addr) (m d : Nat) (t : Tb), v = .agg #[.int .i64 t.boats, .slice P n c, .slice C m d] ∧ RdT w P n C m t := by
  obtain ⟨v0, v1, v2, y0, y1, y2, m, rfl, _, _, h0, h1, h2⟩ := open_agg3 Try.underlying24 (by kernel_rfl) (by kernel_rfl) hv h
  obtain ⟨B, e0, _, _⟩ := DataW.trod_int Try.underlying2 h0
  injection e0 with e0
  subst e0
  obtain ⟨P, n, c, zs, rfl, hz⟩ := rows_at h1
  obtain ⟨C, m, d, us, rfl, hu⟩ := rows_at h2
  exact ⟨P, n, c, C, m, d, ⟨B, zs, us⟩, rfl, hz, hu⟩
def quadOf (zs : List Int) : RedressT := (zs.getD 0 0, zs.getD 1 0, zs.getD 2 0, zs.getD 3 0)
theorem quadOf_red (zs : List Int) (h : zs.length = 4) : redC (quadOf zs) = ints zs := by
  match zs, h with
  | [x0, x1, x2, x3], _ => rfl
theorem reds_of {H : Type} {enc : TypeId × Value → H} {w : World} {base fuel : Nat} {spare : Nat → Bool} {held : Bool} {A : Option Addr} {len cap : Nat} {x : DataW H × List MemPlace}
    (h : DataW.trod enc Try.prog w base spare held fuel 25 [.slice A len cap] = some x) : ∃ xs, Rd w 4 A len (reds xs) := by
  obtain ⟨zs, hz⟩ := rd_structs (s := 4) Try.underlying25 Try.underlying48 (by kernel_rfl) (by kernel_rfl) rfl (by decide) (fun j f hj => by
    match j, hj with
    | 0, hj => simp at hj; subst hj; exact Try.underlying2
    | 1, hj => simp at hj; subst hj; exact Try.underlying2
    | 2, hj => simp at hj; subst hj; exact Try.underlying2
    | 3, hj => simp at hj; subst hj; exact Try.underlying2
    | j + 4, hj => simp at hj) h
  have hl : zs.length = len * 4 := by have := hz.len; rwa [ints_length] at this
  exact ⟨groupsOf quadOf 4 len zs, by unfold reds; rw [groupsOf_flat quadOf_red len zs hl]; exact hz⟩
end Go.Proofs.Ytalgdeieejpelaa

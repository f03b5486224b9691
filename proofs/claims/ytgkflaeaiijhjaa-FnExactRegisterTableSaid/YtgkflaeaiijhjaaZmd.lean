/- General and plain lemmas, and light walks (merged): Jd Je Jf. -/
import Derived.Test.YtgkflaeaiijhjaaJa
import Derived.Test.YtgkflaeaiijhjaaJb
import Derived.Test.YtgkflaeaiijhjaaZma
import Derived.Test.YtgkflaeaiijhjaaZmb
import Derived.Lib.AppendZeros
import Derived.Maps.AppendAt
/- Walks: the library's Grow and Concat at entries; a register with more entries (chapter 33). -/
namespace Go.Proofs.Ytgkflaeaiijhjaa
open Go.RowKit Go.Sort Go.Lib
set_option linter.unusedVariables false
set_option maxRecDepth 100000

theorem run_append_zeroE (w : World) (ty : TypeId) (A : Option Addr) (n c : Nat) (hnc : n ≤ c) (B : Option Addr) (d : Nat) :
    (Builtin.append_ #[31, 31] ty #[.slice A n c, .slice B 0 d]).run Try.prog w = .ok (.slice A n c) w := by
  obtain ⟨i, hi, hz, hs1, hb1⟩ := info_parts Try.info_ent
  cases A <;> cases B <;>
    simp [Builtin.append_, run_underlying Try.underlying31, sizeOf, typeInfo, hi, Builtin.lenOf, Builtin.firstCells, loadCells, loadCellsFrom, storeCells, hnc]
theorem run_apps (w : World) (ty : TypeId) {base n c : Nat} {A : Option Addr} {xs : List EntryT} (hown : w.ownsRow base 51 7 (.slice A n c) n (ents xs)) {m d : Nat} {B : Option Addr} {ys : List EntryT}
    (hr : Rd w 7 B m (ents ys)) (hn : n + m ≤ 1048576) (hbase : base ≤ w.heap.size) :
    ∃ A' c' w', (Builtin.append_ #[31, 31] ty #[.slice A n c, .slice B m d]).run Try.prog w = .ok (.slice A' (n + m) c') w' ∧ w'.ownsRow base 51 7 (.slice A' (n + m) c') (n + m) (ents (xs ++ ys)) ∧ w.grownBy w' (Value.slice A n c).ownBlock := by
  have e : ents xs ++ ents ys = ents (xs ++ ys) := by unfold ents; rw [List.flatMap_append]
  rcases Nat.eq_zero_or_pos m with h0 | h0
  · subst h0
    have hy : ys = [] := List.eq_nil_of_length_eq_zero hr.len_ent
    subst hy
    exact ⟨A, c, w, run_append_zeroE w ty A n c (own_capE hown) B d, by rw [List.append_nil]; exact hown, World.grownBy.refl _ _⟩
  · obtain ⟨b, f, rfl, _⟩ := hr.pos (by omega)
    obtain ⟨i, hi, hz, hs1, hb1⟩ := info_parts Try.info_ent
    have hl : (ents ys).length = m * 7 := hr.len
    obtain ⟨v', w', h1, h2, h3, _, _⟩ := run_append_own_at (P := Try.prog) w base 31 ty 51 i (.agg #[.int .i64 0, .int .i64 0, .int .i64 0, .int .i64 0, .int .i64 0, .int .i64 0, .int .i64 0]) 7 56 Try.underlying31 hi hz hs1 hb1 rfl (by decide) (.slice A n c) n (ents xs) hown ⟨b, f, none⟩ m d (ents ys) hl (ents_news hr) (ents_one ys) (by unfold maxLen; omega) (by omega) hbase
    rw [e] at h2
    obtain ⟨A', c', rfl⟩ := own_is_slice h2
    exact ⟨A', c', w', h1, h2, h3⟩
section
variable {ops : Array Oper} {rest : List Oper} {o : Oper} {a : Act} {K : Act → World → Prop} {Q : Exit → Act → World → Prop} {E : Prop}
theorem wpl_apps (w : World) (hgd : o.guard = none) (s x : Operand)
    (ho : o.op = .call { callee := .builtin .append, args := #[s, x], argTypes := #[31, 31] }) {base n c : Nat} {A : Option Addr} {xs : List EntryT}
    (hs : a.eval s = .slice A n c) (hown : w.ownsRow base 51 7 (.slice A n c) n (ents xs)) {m d : Nat} {B : Option Addr} {ys : List EntryT} (hx : a.eval x = .slice B m d)
    (hr : Rd w 7 B m (ents ys)) (hn : n + m ≤ 1048576) (hbase : base ≤ w.heap.size)
    (h : ∀ A' c' w', w'.ownsRow base 51 7 (.slice A' (n + m) c') (n + m) (ents (xs ++ ys)) → w.grownBy w' (Value.slice A n c).ownBlock → wpList Try.prog ops Q rest (a.put o.dst (.slice A' (n + m) c')) w') :
    wpList Try.prog ops Q (o :: rest) a w := by
  obtain ⟨A', c', w', h1, h2, h3⟩ := run_apps w o.type hown hr (d := d) hn hbase
  exact Lib.wpList_append_run w hgd s x _ _ ho _ _ hs hx _ w' h1 (h A' c' w' h2 h3)
theorem step_apps (w : World) (hgd : o.guard = none) (s x : Operand)
    (ho : o.op = .call { callee := .builtin .append, args := #[s, x], argTypes := #[31, 31] }) {base n c : Nat} {A : Option Addr} {xs : List EntryT}
    (hs : a.eval s = .slice A n c) (hown : w.ownsRow base 51 7 (.slice A n c) n (ents xs)) {m d : Nat} {B : Option Addr} {ys : List EntryT} (hx : a.eval x = .slice B m d)
    (hr : Rd w 7 B m (ents ys)) (hn : n + m ≤ 1048576) (hbase : base ≤ w.heap.size)
    (h : ∀ A' c' w', w'.ownsRow base 51 7 (.slice A' (n + m) c') (n + m) (ents (xs ++ ys)) → w.grownBy w' (Value.slice A n c).ownBlock → K (a.put o.dst (.slice A' (n + m) c')) w') :
    if Region.wanted o (yielded ops a.tmps) = true then Oper.wp Try.prog o a w K Q else E := by
  obtain ⟨A', c', w', h1, h2, h3⟩ := run_apps w o.type hown hr (d := d) hn hbase
  rw [if_pos (by simp [Region.wanted, hgd])]
  exact Lib.wp_append_run w s x _ _ ho _ _ hs hx _ w' h1 (h A' c' w' h2 h3)
end
end Go.Proofs.Ytgkflaeaiijhjaa

/- Walks: the library's Concat of two slices of entries; withEntries, l33Add (chapter 33). -/
namespace Go.Proofs.Ytgkflaeaiijhjaa
open Go.RowKit Go.Sort Go.Lib
set_option linter.unusedVariables false
set_option maxRecDepth 100000

def szK (n m k : Nat) : Nat := if k = 0 then 0 else if k = 1 then n else n + m
def catK (xs ys : List EntryT) (k : Nat) : List EntryT := if k = 0 then [] else if k = 1 then xs else xs ++ ys
end Go.Proofs.Ytgkflaeaiijhjaa

/- Walks: a register with more entries (chapter 33). -/
namespace Go.Proofs.Ytgkflaeaiijhjaa
open Go.RowKit Go.Sort Go.Lib
set_option linter.unusedVariables false
set_option maxRecDepth 100000

end Go.Proofs.Ytgkflaeaiijhjaa

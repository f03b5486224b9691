/- Walks: the library's Grow and Concat at entries; a register with more entries (chapter 33). -/
import Derived.Test.YtdldcjnidajmpaaJa
import Derived.Test.YtdldcjnidajmpaaJb
import Derived.Lib.AppendZeros
import Derived.Maps.AppendAt
namespace Go.Proofs.Ytdldcjnidajmpaa
open Go.RowKit Go.Sort Go.Lib
set_option linter.unusedVariables false
set_option maxRecDepth 100000

theorem run_append_zeroE (w : World) (ty : TypeId) (A : Option Addr) (n c : Nat) (hnc : n ≤ c) (B : Option Addr) (d : Nat) :
    (Builtin.append_ #[49, 49] ty #[.slice A n c, .slice B 0 d]).run Try.prog w = .ok (.slice A n c) w := by
  obtain ⟨i, hi, hz, hs1, hb1⟩ := info_parts Try.info_ent
  cases A <;> cases B <;>
    simp [Builtin.append_, run_underlying Try.underlying49, sizeOf, typeInfo, hi, Builtin.lenOf, Builtin.firstCells, loadCells, loadCellsFrom, storeCells, hnc]
theorem run_apps (w : World) (ty : TypeId) {base n c : Nat} {A : Option Addr} {xs : List EntryT} (hown : w.ownsRow base 66 7 (.slice A n c) n (ents xs)) {m d : Nat} {B : Option Addr} {ys : List EntryT}
    (hr : Rd w 7 B m (ents ys)) (hn : n + m ≤ 1048576) (hbase : base ≤ w.heap.size) :
    ∃ A' c' w', (Builtin.append_ #[49, 49] ty #[.slice A n c, .slice B m d]).run Try.prog w = .ok (.slice A' (n + m) c') w' ∧ w'.ownsRow base 66 7 (.slice A' (n + m) c') (n + m) (ents (xs ++ ys)) ∧ w.grownBy w' (Value.slice A n c).ownBlock := by
  have e : ents xs ++ ents ys = ents (xs ++ ys) := by unfold ents; rw [List.flatMap_append]
  rcases Nat.eq_zero_or_pos m with h0 | h0
  · subst h0
    have hy : ys = [] := List.eq_nil_of_length_eq_zero hr.len_ent
    subst hy
    exact ⟨A, c, w, run_append_zeroE w ty A n c (own_capE hown) B d, by rw [List.append_nil]; exact hown, World.grownBy.refl _ _⟩
  · obtain ⟨b, f, rfl, _⟩ := hr.pos (by omega)
    obtain ⟨i, hi, hz, hs1, hb1⟩ := info_parts Try.info_ent
    have hl : (ents ys).length = m * 7 := hr.len
    obtain ⟨v', w', h1, h2, h3, _, _⟩ := run_append_own_at (P := Try.prog) w base 49 ty 66 i (.agg #[.int .i64 0, .int .i64 0, .int .i64 0, .int .i64 0, .int .i64 0, .int .i64 0, .int .i64 0]) 7 56 Try.underlying49 hi hz hs1 hb1 rfl (by decide) (.slice A n c) n (ents xs) hown ⟨b, f, none⟩ m d (ents ys) hl (ents_news hr) (ents_one ys) (by unfold maxLen; omega) (by omega) hbase
    rw [e] at h2
    obtain ⟨A', c', rfl⟩ := own_is_slice h2
    exact ⟨A', c', w', h1, h2, h3⟩
section
variable {ops : Array Oper} {rest : List Oper} {o : Oper} {a : Act} {K : Act → World → Prop} {Q : Exit → Act → World → Prop} {E : Prop}
theorem wpl_apps (w : World) (hgd : o.guard = none) (s x : Operand)
    (ho : o.op = .call { callee := .builtin .append, args := #[s, x], argTypes := #[49, 49] }) {base n c : Nat} {A : Option Addr} {xs : List EntryT}
    (hs : a.eval s = .slice A n c) (hown : w.ownsRow base 66 7 (.slice A n c) n (ents xs)) {m d : Nat} {B : Option Addr} {ys : List EntryT} (hx : a.eval x = .slice B m d)
    (hr : Rd w 7 B m (ents ys)) (hn : n + m ≤ 1048576) (hbase : base ≤ w.heap.size)
    (h : ∀ A' c' w', w'.ownsRow base 66 7 (.slice A' (n + m) c') (n + m) (ents (xs ++ ys)) → w.grownBy w' (Value.slice A n c).ownBlock → wpList Try.prog ops Q rest (a.put o.dst (.slice A' (n + m) c')) w') :
    wpList Try.prog ops Q (o :: rest) a w := by
  obtain ⟨A', c', w', h1, h2, h3⟩ := run_apps w o.type hown hr (d := d) hn hbase
  exact Lib.wpList_append_run w hgd s x _ _ ho _ _ hs hx _ w' h1 (h A' c' w' h2 h3)
theorem step_apps (w : World) (hgd : o.guard = none) (s x : Operand)
    (ho : o.op = .call { callee := .builtin .append, args := #[s, x], argTypes := #[49, 49] }) {base n c : Nat} {A : Option Addr} {xs : List EntryT}
    (hs : a.eval s = .slice A n c) (hown : w.ownsRow base 66 7 (.slice A n c) n (ents xs)) {m d : Nat} {B : Option Addr} {ys : List EntryT} (hx : a.eval x = .slice B m d)
    (hr : Rd w 7 B m (ents ys)) (hn : n + m ≤ 1048576) (hbase : base ≤ w.heap.size)
    (h : ∀ A' c' w', w'.ownsRow base 66 7 (.slice A' (n + m) c') (n + m) (ents (xs ++ ys)) → w.grownBy w' (Value.slice A n c).ownBlock → K (a.put o.dst (.slice A' (n + m) c')) w') :
    if Region.wanted o (yielded ops a.tmps) = true then Oper.wp Try.prog o a w K Q else E := by
  obtain ⟨A', c', w', h1, h2, h3⟩ := run_apps w o.type hown hr (d := d) hn hbase
  rw [if_pos (by simp [Region.wanted, hgd])]
  exact Lib.wp_append_run w s x _ _ ho _ _ hs hx _ w' h1 (h A' c' w' h2 h3)
end
/-- Grow of the nil slice. -/
theorem grow_any (q : Nat) (hq : q ≤ 1048576) (w : World) :
    Calls Try.prog 140 #[.slice none 0 0, .int .i64 q] w fun e w' => ∃ A0 c0, e = .returned (.slice A0 0 c0) ∧ w'.ownsRow w.heap.size 66 7 (.slice A0 0 c0) 0 (ents []) ∧ Below w.heap.size w w' := by
  obtain ⟨i, hi, hz, hs1, hb1⟩ := info_parts Try.info_ent
  rcases Nat.eq_zero_or_pos q with h0 | h0
  · subst h0
    go_enter Try.func140, Try.ntmps140
    go_wp2_with fail
    go_ret
    exact ⟨none, 0, rfl, World.ownsRow_nil _ _ _ _, Below.refl _ _⟩
  · have hrun : ∀ ty, (Builtin.append_ #[49, 3] ty #[.slice none 0 0, .int .i64 q]).run Try.prog w = .ok (.slice (some ⟨w.heap.size, 0, none⟩) q (grownCap w q 0 66)) (w.drew.alloc (.cells (Builtin.zeroCells (Value.agg #[.int .i64 0, .int .i64 0, .int .i64 0, .int .i64 0, .int .i64 0, .int .i64 0, .int .i64 0]).cells q ++ Builtin.zeroCells (Value.agg #[.int .i64 0, .int .i64 0, .int .i64 0, .int .i64 0, .int .i64 0, .int .i64 0, .int .i64 0]).cells (grownCap w q 0 66 - q)) 66)) :=
      fun ty => Lib.run_append_nil_zeros w 49 3 ty 66 i (.agg #[.int .i64 0, .int .i64 0, .int .i64 0, .int .i64 0, .int .i64 0, .int .i64 0, .int .i64 0]) .i64 .i64 Try.underlying49 Try.underlying3 hi hz q h0 (by rw [hs1]; decide) (by omega) (by rw [hb1]; omega)
    have hG := grownCap_ge w q 0 66
    have hG2 := grownCap_le_maxLen w q 0 66 (by unfold maxLen; omega)
    generalize grownCap w q 0 66 = G at *
    have hown : (w.drew.alloc (.cells (Builtin.zeroCells (Value.agg #[.int .i64 0, .int .i64 0, .int .i64 0, .int .i64 0, .int .i64 0, .int .i64 0, .int .i64 0]).cells q ++ Builtin.zeroCells (Value.agg #[.int .i64 0, .int .i64 0, .int .i64 0, .int .i64 0, .int .i64 0, .int .i64 0, .int .i64 0]).cells (G - q)) 66)).ownsRow w.heap.size 66 7 (.slice (some ⟨w.heap.size, 0, none⟩) 0 G) 0 (ents []) :=
      ⟨rfl, .inr ⟨w.heap.size, G, _, rfl, Nat.le_refl _, heap_alloc_new w.drew _, Nat.zero_le _, hG2, by simp [Builtin.zeroCells, Value.cells]; omega, by simp [ents]⟩⟩
    have hbel : ∀ ob, Below w.heap.size w (w.drew.alloc ob) := fun ob => ((Below.refl w.heap.size w).trans (below_drewN' w.heap.size w 1)).alloc (Nat.le_refl _) ob
    generalize (Builtin.zeroCells (Value.agg #[.int .i64 0, .int .i64 0, .int .i64 0, .int .i64 0, .int .i64 0, .int .i64 0, .int .i64 0]).cells q ++ Builtin.zeroCells (Value.agg #[.int .i64 0, .int .i64 0, .int .i64 0, .int .i64 0, .int .i64 0, .int .i64 0, .int .i64 0]).cells (G - q)) = Z at *
    have HOW := Lib.hid hown; have HBE := Lib.hid hbel; have HRUN := Lib.hid hrun
    have hG63 : G ≤ 9223372036854775807 := by unfold maxLen at hG2; omega
    clear hown hbel hrun hG2 hi hz hs1 hb1
    go_enter Try.func140, Try.ntmps140
    go_wp2_with (at_builtin; refine Lib.wpList_append_run _ rfl _ _ _ _ rfl _ _ rfl rfl _ _ (HRUN.out _) ?_)
    go_ret
    exact ⟨_, _, rfl, HOW.out, HBE.out _⟩
end Go.Proofs.Ytdldcjnidajmpaa

/- Appending a number to an own row, and where the new row lies; what else stands. -/
import Derived.Test.YtalgdeieejpelaaZx
import Derived.Deep.AppendLies
namespace Go.Proofs.Ytalgdeieejpelaa
open Go.RowKit Go.Sort
set_option linter.unusedVariables false

theorem Try.info_num : (Try.prog.info? 2).map (fun i => (i.zero, i.size, i.bytes)) = some (some (.int .i64 0), 1, 8) := by kernel_rfl
theorem app_num {ops : Array Oper} {rest : List Oper} {o : Oper} {a : Act} {Q : Exit → Act → World → Prop} (w : World) (hgd : o.guard = none) (s x : Operand)
    (ho : o.op = .call { callee := .builtin .append, args := #[s, x], argTypes := #[26, 26] }) {base n c : Nat} {A : Option Addr} {xs : List Int} {y : Int}
    (hs : a.eval s = .slice A n c) (hown : w.ownsRow base 2 1 (.slice A n c) n (ints xs)) {b : Nat} (hx : a.eval x = .slice (some ⟨b, 0, none⟩) 1 1)
    (hc : w.heap[b]? = some (.cells #[.int .i64 y] 2 (0, 0))) (hn : n ≤ 1099511627776) (hbase : base ≤ w.heap.size)
    (h : ∀ g c' w', w'.ownsRow base 2 1 (.slice (some ⟨g, 0, none⟩) (n + 1) c') (n + 1) (ints (xs ++ [y])) → w.grownBy w' (Value.slice A n c).ownBlock → ((Value.slice A n c).ownBlock = some g ∨ g = w.heap.size) → g < w'.heap.size → wpList Try.prog ops Q rest (a.put o.dst (.slice (some ⟨g, 0, none⟩) (n + 1) c')) w') :
    wpList Try.prog ops Q (o :: rest) a w := by
  obtain ⟨i, hi, hz, hs1, hb1⟩ := info_parts Try.info_num
  have e : ints xs ++ [.int .i64 y] = ints (xs ++ [y]) := by rw [ints_append]; rfl
  exact wpList_append_lies w hgd s x 26 ho base 2 i (.int .i64 0) 1 8 Try.underlying26 hi hz hs1 hb1 rfl (by decide) (.slice A n c) n (ints xs) hs hown ⟨b, 0, none⟩ 1 1 [.int .i64 y] hx rfl (World.news_of_block (cs := #[.int .i64 y]) hc)
    (by intro u hu; simp at hu; subst hu; rfl) (by decide) (by unfold maxLen; omega) (by omega) hbase _ rfl (by rw [e]; exact h)
/-- A row that lies in block g0 of the old world or is new has grown: all else of the old world stands. -/
theorem chg_grow1 {a w w' : World} {g0 g : Nat} {v : Value} (h : Chg g0 (g0 + 1) a w) (hg : w.grownBy w' v.ownBlock) (hv : v.ownBlock = some g) (hr : g = g0 ∨ a.heap.size ≤ g) : Chg g0 (g0 + 1) a w' := by
  rw [hv] at hg
  refine ⟨hg.os.trans h.os, hg.tape.trans h.tape, hg.output.trans h.output, Nat.le_trans h.size hg.size, fun k hk hn => ?_⟩
  have hne : ¬ (some k = some g) := by intro e; injection e with e; omega
  exact (hg.block k (Nat.lt_of_lt_of_le hk h.size) hne).trans (h.block k hk hn)
theorem chg_bel {lo hi : Nat} {a w w' : World} (h : Chg lo hi a w) (k : Below w.heap.size w w') : Chg lo hi a w' := h.trans (Chg.of_below k)
theorem chg_wide2 {lo hi : Nat} {a w w' : World} (h : Chg lo hi a w) {g : Nat} (k : Chg g (g + 1) w w') (hr : (lo ≤ g ∧ g < hi) ∨ a.heap.size ≤ g) : Chg lo hi a w' :=
  ⟨k.os.trans h.os, k.tape.trans h.tape, k.output.trans h.output, Nat.le_trans h.size k.size, fun j hj hn => (k.block j (Nat.lt_of_lt_of_le hj h.size) (by omega)).trans (h.block j hj hn)⟩
/-- Result: new memory that holds numbers, in a block. -/
def RetG (w : World) (xs : List Int) (e : Ending) (w' : World) : Prop :=
  ∃ g n c, e = .returned (.slice (some ⟨g, 0, none⟩) n c) ∧ w'.ownsRow w.heap.size 2 1 (.slice (some ⟨g, 0, none⟩) n c) n (ints xs) ∧ n ≤ 1000 ∧ Below w.heap.size w w'
theorem col_at {rows : List (List Int)} {k bt : Nat} {p : List Int} {x : Int} (hd : rows.drop k = p :: rows.drop (k + 1)) (hx : p.getD bt 0 = x) : atI (colOf rows (bt : Int)) (k : Int) = x := by
  have h0 : (rows.drop k)[0]? = some p := by rw [hd]; rfl
  rw [List.getElem?_drop, Nat.add_zero] at h0
  unfold atI colOf
  rw [Int.toNat_natCast, List.getD_eq_getElem?_getD, List.getElem?_map, h0]
  show (some (atI p (bt : Int))).getD 0 = x
  unfold atI
  rw [Int.toNat_natCast, ← hx]
  rfl
theorem getD_of_drop2 {α : Type} {xs r : List α} {k : Nat} {x d : α} (h : xs.drop k = x :: r) : xs.getD k d = x := by
  have h0 : (xs.drop k)[0]? = some x := by rw [h]; rfl
  rw [List.getElem?_drop, Nat.add_zero] at h0
  rw [List.getD_eq_getElem?_getD, h0]
  rfl
end Go.Proofs.Ytalgdeieejpelaa

/- Walks: the numbers of words, both sides. -/
import Derived.Test.YthlnoahjfllhfaaGreatDoorQk
import Derived.Test.YthlnoahjfllhfaaGreatDoorQc
namespace Go.Proofs.YthlnoahjfllhfaaGreatDoor
open Go.RowKit Go.Sort
set_option linter.unusedVariables false
set_option maxRecDepth 100000

theorem Rd.str {w : World} {A : Option Addr} {n k : Nat} {ws : List (List UInt8)} (h : Rd w 1 A n (strs ws)) (hk : k < n) : ∃ b o x, A = some ⟨b, o, none⟩ ∧ ws[k]? = some x ∧ ws.drop k = x :: ws.drop (k + 1) ∧ w.cell? ⟨b, o + k, none⟩ = some (.string (str x)) := by
  obtain ⟨b, o, e, hc⟩ := h.pos (by omega)
  have hl : ws.length = n := by have := h.len; rw [strs_len] at this; omega
  have hx : ws[k]? = some ws[k] := List.getElem?_eq_getElem (by omega)
  exact ⟨b, o, ws[k], e, hx, List.drop_eq_getElem_cons (by omega), hc k _ (strs_get hx)⟩
theorem Rd.len_str {w : World} {A : Option Addr} {n : Nat} {ws : List (List UInt8)} (h : Rd w 1 A n (strs ws)) : ws.length = n := by have := h.len; rw [strs_len] at this; omega
theorem Tryz.info_num : (Tryz.prog.info? 2).map (fun i => (i.zero, i.size, i.bytes)) = some (some (.int .i64 0), 1, 8) := by kernel_rfl
theorem app_num {ops : Array Oper} {rest : List Oper} {o : Oper} {a : Act} {Q : Exit → Act → World → Prop} (w : World) (hgd : o.guard = none) (s x : Operand)
    (ho : o.op = .call { callee := .builtin .append, args := #[s, x], argTypes := #[33, 33] }) {base n c : Nat} {A : Option Addr} {xs : List Int} {y : Int}
    (hs : a.eval s = .slice A n c) (hown : w.ownsRow base 2 1 (.slice A n c) n (ints xs)) {b : Nat} (hx : a.eval x = .slice (some ⟨b, 0, none⟩) 1 1)
    (hc : w.heap[b]? = some (.cells #[.int .i64 y] 2 (0, 0))) (hn : n ≤ 1099511627776) (hbase : base ≤ w.heap.size)
    (h : ∀ g c' w', w'.ownsRow base 2 1 (.slice (some ⟨g, 0, none⟩) (n + 1) c') (n + 1) (ints (xs ++ [y])) → w.grownBy w' (Value.slice A n c).ownBlock → ((Value.slice A n c).ownBlock = some g ∨ g = w.heap.size) → g < w'.heap.size → wpList Tryz.prog ops Q rest (a.put o.dst (.slice (some ⟨g, 0, none⟩) (n + 1) c')) w') :
    wpList Tryz.prog ops Q (o :: rest) a w := by
  obtain ⟨i, hi, hz, hs1, hb1⟩ := info_parts Tryz.info_num
  have e : ints xs ++ [.int .i64 y] = ints (xs ++ [y]) := by rw [ints_append]; rfl
  exact wpList_append_lies w hgd s x 33 ho base 2 i (.int .i64 0) 1 8 Tryz.underlying33 hi hz hs1 hb1 rfl (by decide) (.slice A n c) n (ints xs) hs hown ⟨b, 0, none⟩ 1 1 [.int .i64 y] hx rfl (World.news_of_block (cs := #[.int .i64 y]) hc)
    (by intro u hu; simp at hu; subst hu; rfl) (by decide) (by unfold maxLen; omega) (by omega) hbase _ rfl (by rw [e]; exact h)
/-- Result: new memory that holds numbers. -/
def RetNs (w : World) (xs : List Int) (e : Ending) (w' : World) : Prop :=
  ∃ A n c, e = .returned (.slice A n c) ∧ Rd w' 1 A n (ints xs) ∧ Below w.heap.size w w'
def nums (ws : List (List UInt8)) : List Int := ws.map fun w => (numF w).1
end Go.Proofs.YthlnoahjfllhfaaGreatDoor

/- Walks: the laws' helpers on slices of Finish. -/
import Derived.Test.YtalgdeieejpelaaGreatZma
import Derived.StillTailTactics
import Derived.Deep.RegionHeld3
import Derived.Deep.AppendLies
namespace Go.Proofs.YtalgdeieejpelaaGreat
open Go.RowKit
set_option linter.unusedVariables false
set_option maxRecDepth 100000

abbrev FinishT := Int × Int × Int
def finC (p : FinishT) : List Value := [.int .i64 p.1, .int .i64 p.2.1, .int .i64 p.2.2]
theorem finC_len (p : FinishT) : (finC p).length = 3 := rfl
def fins (xs : List FinishT) : List Value := xs.flatMap finC
theorem zeroS3 (v : Value) (i : Nat) (h : i < (#[v, v, v] : Array Value).size) : (#[v, v, v] : Array Value)[i]! = v := by
  have : i = 0 ∨ i = 1 ∨ i = 2 := by simp at h; omega
  rcases this with rfl | rfl | rfl <;> rfl
theorem Rd.fin {w : World} {A : Option Addr} {n k : Nat} {xs : List FinishT} (h : Rd w 3 A n (fins xs)) (hk : k < n) :
    ∃ b o x0 x1 x2, A = some ⟨b, o, none⟩ ∧ xs[k]? = some (x0, x1, x2) ∧ xs.drop k = (x0, x1, x2) :: xs.drop (k + 1) ∧ w.cell? ⟨b, o + k * 3, none⟩ = some (.int .i64 x0) ∧ w.cell? ⟨b, o + k * 3 + 1, none⟩ = some (.int .i64 x1) ∧ w.cell? ⟨b, o + k * 3 + 2, none⟩ = some (.int .i64 x2) := by
  obtain ⟨b, o, ⟨x0, x1, x2⟩, e, h1, h2, h3⟩ := Rd.flat finC_len (by decide) h hk
  exact ⟨b, o, x0, x1, x2, e, h1, h2, h3 0 _ rfl, h3 1 _ rfl, h3 2 _ rfl⟩
theorem Rd.len_fin {w : World} {A : Option Addr} {n : Nat} {xs : List FinishT} (h : Rd w 3 A n (fins xs)) : xs.length = n := Rd.len_flat finC_len (by decide) h
theorem own_fin_at {w : World} {base e n c k : Nat} {A : Option Addr} {xs : List FinishT} (h : w.ownsRow base e 3 (.slice A n c) n (fins xs)) (hk : k < n) :
    ∃ g x0 x1 x2, A = some ⟨g, 0, none⟩ ∧ base ≤ g ∧ g < w.heap.size ∧ xs[k]? = some (x0, x1, x2) ∧ xs.drop k = (x0, x1, x2) :: xs.drop (k + 1) ∧ w.cell? ⟨g, k * 3, none⟩ = some (.int .i64 x0) ∧ w.cell? ⟨g, k * 3 + 1, none⟩ = some (.int .i64 x1) ∧ w.cell? ⟨g, k * 3 + 2, none⟩ = some (.int .i64 x2) ∧ w.frozen? ⟨g, k * 3, none⟩ = false ∧ w.frozen? ⟨g, k * 3 + 1, none⟩ = false ∧ w.frozen? ⟨g, k * 3 + 2, none⟩ = false := by
  obtain ⟨g, ⟨x0, x1, x2⟩, e, h1, h2, h3, h4, h5, h6⟩ := own_flat finC_len (by decide) h hk
  exact ⟨g, x0, x1, x2, e, h1, h2, h3, h4, h5 0 _ rfl, h5 1 _ rfl, h5 2 _ rfl, h6 _, h6 _, h6 _⟩
theorem own_fin_set {w : World} {base e g n c k : Nat} {xs : List FinishT} (h : w.ownsRow base e 3 (.slice (some ⟨g, 0, none⟩) n c) n (fins xs)) (hk : k < n) (x0 x1 x2 : Int) :
    (((w.setCell ⟨g, k * 3, none⟩ (.int .i64 x0)).setCell ⟨g, k * 3 + 1, none⟩ (.int .i64 x1)).setCell ⟨g, k * 3 + 2, none⟩ (.int .i64 x2)).ownsRow base e 3 (.slice (some ⟨g, 0, none⟩) n c) n (fins (xs.set k (x0, x1, x2))) := by
  have h1 := own_put (finC (x0, x1, x2)) (k * 3) h
  unfold fins at h1
  rw [flat_put finC_len xs k (x0, x1, x2) (by rw [own_len_flat finC_len (by decide) h]; exact hk)] at h1
  exact h1
theorem Tryz.info_fin : (Tryz.prog.info? 128).map (fun i => (i.zero, i.size, i.bytes)) = some (some (.agg #[.int .i64 0, .int .i64 0, .int .i64 0]), 3, 24) := by kernel_rfl
theorem run_make_fin (n : Nat) (h : n ≤ 1048576) (w : World) :
    (Instr.makeSlice 88 (.int .i64 (n : Int)) (.int .i64 (n : Int))).run Tryz.prog w = .ok (.slice (some ⟨w.heap.size, 0, none⟩) n n) (w.alloc (.cells (madeCells #[.int .i64 0, .int .i64 0, .int .i64 0] (n * 3)) 128)) := by
  obtain ⟨i, hi, hz, hs, hb⟩ := info_parts Tryz.info_fin
  have hr := run_make (P := Tryz.prog) w 88 128 i (.agg #[.int .i64 0, .int .i64 0, .int .i64 0]) Tryz.underlying88 hi hz .i64 .i64 n n (by omega) (by omega) (by rw [hb]; omega) (by omega)
  rw [hs, Int.toNat_natCast] at hr
  exact hr
/-- The copy of such a slice. -/
def RetFinishS (w : World) (xs : List FinishT) (e : Ending) (w' : World) : Prop :=
  ∃ A n c, e = .returned (.slice A n c) ∧ w'.ownsRow w.heap.size 128 3 (.slice A n c) n (fins xs) ∧ n ≤ 1048576 ∧ Below w.heap.size w w'
section
variable {ops : Array Oper} {rest : List Oper} {o : Oper} {a : Act} {K : Act → World → Prop} {Q : Exit → Act → World → Prop} {E : Prop}
theorem app_fin (w : World) (hgd : o.guard = none) (s x : Operand)
    (ho : o.op = .call { callee := .builtin .append, args := #[s, x], argTypes := #[88, 88] }) {base n c : Nat} {A : Option Addr} {xs : List FinishT}
    (hs : a.eval s = .slice A n c) (hown : w.ownsRow base 128 3 (.slice A n c) n (fins xs)) {b : Nat} {x0 x1 x2 : Int} (hx : a.eval x = .slice (some ⟨b, 0, none⟩) 1 1)
    (hc : w.heap[b]? = some (.cells #[.int .i64 x0, .int .i64 x1, .int .i64 x2] 128 (0, 0))) (hn : n ≤ 1099511627776) (hbase : base ≤ w.heap.size)
    (h : ∀ g c' w', w'.ownsRow base 128 3 (.slice (some ⟨g, 0, none⟩) (n + 1) c') (n + 1) (fins (xs ++ [(x0, x1, x2)])) → w.grownBy w' (Value.slice A n c).ownBlock → ((Value.slice A n c).ownBlock = some g ∨ g = w.heap.size) → g < w'.heap.size → wpList Tryz.prog ops Q rest (a.put o.dst (.slice (some ⟨g, 0, none⟩) (n + 1) c')) w') :
    wpList Tryz.prog ops Q (o :: rest) a w := by
  obtain ⟨i, hi, hz, hs1, hb1⟩ := info_parts Tryz.info_fin
  have e : ∀ (ys : List FinishT), fins ys ++ [.int .i64 x0, .int .i64 x1, .int .i64 x2] = fins (ys ++ [(x0, x1, x2)]) := fun ys => by unfold fins; rw [List.flatMap_append]; rfl
  exact wpList_append_lies w hgd s x 88 ho base 128 i (.agg #[.int .i64 0, .int .i64 0, .int .i64 0]) 3 24 Tryz.underlying88 hi hz hs1 hb1 rfl (by decide) (.slice A n c) n (fins xs) hs hown ⟨b, 0, none⟩ 1 1 [.int .i64 x0, .int .i64 x1, .int .i64 x2] hx rfl (World.news_of_block (cs := #[.int .i64 x0, .int .i64 x1, .int .i64 x2]) hc)
    (by intro u hu; simp at hu; rcases hu with rfl | rfl | rfl <;> rfl) (by decide) (by unfold maxLen; omega) (by omega) hbase _ rfl (by rw [e]; exact h)
theorem step_fin (w : World) (hgd : o.guard = none) (s x : Operand)
    (ho : o.op = .call { callee := .builtin .append, args := #[s, x], argTypes := #[88, 88] }) {base n c : Nat} {A : Option Addr} {xs : List FinishT}
    (hs : a.eval s = .slice A n c) (hown : w.ownsRow base 128 3 (.slice A n c) n (fins xs)) {b : Nat} {x0 x1 x2 : Int} (hx : a.eval x = .slice (some ⟨b, 0, none⟩) 1 1)
    (hc : w.heap[b]? = some (.cells #[.int .i64 x0, .int .i64 x1, .int .i64 x2] 128 (0, 0))) (hn : n ≤ 1099511627776) (hbase : base ≤ w.heap.size)
    (h : ∀ g c' w', w'.ownsRow base 128 3 (.slice (some ⟨g, 0, none⟩) (n + 1) c') (n + 1) (fins (xs ++ [(x0, x1, x2)])) → w.grownBy w' (Value.slice A n c).ownBlock → ((Value.slice A n c).ownBlock = some g ∨ g = w.heap.size) → g < w'.heap.size → K (a.put o.dst (.slice (some ⟨g, 0, none⟩) (n + 1) c')) w') :
    if Region.wanted o (yielded ops a.tmps) = true then Oper.wp Tryz.prog o a w K Q else E := by
  obtain ⟨i, hi, hz, hs1, hb1⟩ := info_parts Tryz.info_fin
  have e : ∀ (ys : List FinishT), fins ys ++ [.int .i64 x0, .int .i64 x1, .int .i64 x2] = fins (ys ++ [(x0, x1, x2)]) := fun ys => by unfold fins; rw [List.flatMap_append]; rfl
  exact step_append_lies w hgd s x 88 ho base 128 i (.agg #[.int .i64 0, .int .i64 0, .int .i64 0]) 3 24 Tryz.underlying88 hi hz hs1 hb1 rfl (by decide) (.slice A n c) n (fins xs) hs hown ⟨b, 0, none⟩ 1 1 [.int .i64 x0, .int .i64 x1, .int .i64 x2] hx rfl (World.news_of_block (cs := #[.int .i64 x0, .int .i64 x1, .int .i64 x2]) hc)
    (by intro u hu; simp at hu; rcases hu with rfl | rfl | rfl <;> rfl) (by decide) (by unfold maxLen; omega) (by omega) hbase _ rfl (by rw [e]; exact h)
end
/-- Numbers in a row, 3 an element. -/
def seqfin (k : Int) : Nat → List FinishT
  | 0 => []
  | n + 1 => (k, k + 1, k + 2) :: seqfin (k + 3) n
theorem seqfin_len (k : Int) (n : Nat) : (seqfin k n).length = n := by
  induction n generalizing k with
  | zero => rfl
  | succ n ih => simp [seqfin, ih]
theorem seqfin_snoc (k : Int) (n : Nat) : seqfin k (n + 1) = seqfin k n ++ [(k + 3 * n, k + 3 * n + 1, k + 3 * n + 2)] := by
  induction n generalizing k with
  | zero => simp [seqfin]
  | succ n ih =>
    rw [seqfin, ih, seqfin, List.cons_append]
    congr 3
    simp only [Prod.mk.injEq]
    omega
theorem seqfin_get (k : Int) (n j : Nat) (h : j < n) : (seqfin k n)[j]? = some (k + 3 * (j : Int), k + 3 * (j : Int) + 1, k + 3 * (j : Int) + 2) := by
  induction n generalizing k j with
  | zero => omega
  | succ n ih =>
    cases j with
    | zero => simp [seqfin]
    | succ j =>
      rw [seqfin, List.getElem?_cons_succ, ih _ _ (by omega)]
      simp only [Option.some.injEq, Prod.mk.injEq]
      omega
theorem seqfin_step (k : Int) (j : Nat) (xs : List FinishT) (h : j < xs.length) : (seqfin k j ++ xs.drop j).set j (k + 3 * (j : Int), k + 3 * (j : Int) + 1, k + 3 * (j : Int) + 2) = seqfin k (j + 1) ++ xs.drop (j + 1) := by
  rw [List.set_append, if_neg (by simp [seqfin_len]), seqfin_snoc, List.drop_eq_getElem_cons h, seqfin_len, Nat.sub_self, List.set_cons_zero, List.append_assoc]
  rfl
end Go.Proofs.YtalgdeieejpelaaGreat

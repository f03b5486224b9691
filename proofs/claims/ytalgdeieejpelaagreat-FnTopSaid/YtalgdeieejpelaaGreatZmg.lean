/- General and plain lemmas, and light walks (merged): Fs Rs Md Me S1 Mi Wl Yx. -/
import Derived.Test.YtalgdeieejpelaaGreatZma
import Derived.StillTailTactics
import Derived.Deep.RegionHeld3
import Derived.Deep.AppendLies
/- Walks: the laws' helpers on slices of Finish. -/
namespace Go.Proofs.YtalgdeieejpelaaGreat
open Go.RowKit
set_option linter.unusedVariables false
set_option maxRecDepth 100000

abbrev FinishT := Int × Int × Int
def finC (p : FinishT) : List Value := [.int .i64 p.1, .int .i64 p.2.1, .int .i64 p.2.2]
theorem finC_len (p : FinishT) : (finC p).length = 3 := rfl
def fins (xs : List FinishT) : List Value := xs.flatMap finC
theorem zeroS3 (v : Value) (i : Nat) (h : i < (#[v, v, v] : Array Value).size) : (#[v, v, v] : Array Value)[i]! = v := by
  have : i = 0 ∨ i = 1 ∨ i = 2 := by simp at h; omega
  rcases this with rfl | rfl | rfl <;> rfl
theorem Rd.fin {w : World} {A : Option Addr} {n k : Nat} {xs : List FinishT} (h : Rd w 3 A n (fins xs)) (hk : k < n) :
    ∃ b o x0 x1 x2, A = some ⟨b, o, none⟩ ∧ xs[k]? = some (x0, x1, x2) ∧ xs.drop k = (x0, x1, x2) :: xs.drop (k + 1) ∧ w.cell? ⟨b, o + k * 3, none⟩ = some (.int .i64 x0) ∧ w.cell? ⟨b, o + k * 3 + 1, none⟩ = some (.int .i64 x1) ∧ w.cell? ⟨b, o + k * 3 + 2, none⟩ = some (.int .i64 x2) := by
  obtain ⟨b, o, ⟨x0, x1, x2⟩, e, h1, h2, h3⟩ := Rd.flat finC_len (by decide) h hk
  exact ⟨b, o, x0, x1, x2, e, h1, h2, h3 0 _ rfl, h3 1 _ rfl, h3 2 _ rfl⟩
theorem Rd.len_fin {w : World} {A : Option Addr} {n : Nat} {xs : List FinishT} (h : Rd w 3 A n (fins xs)) : xs.length = n := Rd.len_flat finC_len (by decide) h
theorem own_fin_at {w : World} {base e n c k : Nat} {A : Option Addr} {xs : List FinishT} (h : w.ownsRow base e 3 (.slice A n c) n (fins xs)) (hk : k < n) :
    ∃ g x0 x1 x2, A = some ⟨g, 0, none⟩ ∧ base ≤ g ∧ g < w.heap.size ∧ xs[k]? = some (x0, x1, x2) ∧ xs.drop k = (x0, x1, x2) :: xs.drop (k + 1) ∧ w.cell? ⟨g, k * 3, none⟩ = some (.int .i64 x0) ∧ w.cell? ⟨g, k * 3 + 1, none⟩ = some (.int .i64 x1) ∧ w.cell? ⟨g, k * 3 + 2, none⟩ = some (.int .i64 x2) ∧ w.frozen? ⟨g, k * 3, none⟩ = false ∧ w.frozen? ⟨g, k * 3 + 1, none⟩ = false ∧ w.frozen? ⟨g, k * 3 + 2, none⟩ = false := by
  obtain ⟨g, ⟨x0, x1, x2⟩, e, h1, h2, h3, h4, h5, h6⟩ := own_flat finC_len (by decide) h hk
  exact ⟨g, x0, x1, x2, e, h1, h2, h3, h4, h5 0 _ rfl, h5 1 _ rfl, h5 2 _ rfl, h6 _, h6 _, h6 _⟩
theorem own_fin_set {w : World} {base e g n c k : Nat} {xs : List FinishT} (h : w.ownsRow base e 3 (.slice (some ⟨g, 0, none⟩) n c) n (fins xs)) (hk : k < n) (x0 x1 x2 : Int) :
    (((w.setCell ⟨g, k * 3, none⟩ (.int .i64 x0)).setCell ⟨g, k * 3 + 1, none⟩ (.int .i64 x1)).setCell ⟨g, k * 3 + 2, none⟩ (.int .i64 x2)).ownsRow base e 3 (.slice (some ⟨g, 0, none⟩) n c) n (fins (xs.set k (x0, x1, x2))) := by
  have h1 := own_put (finC (x0, x1, x2)) (k * 3) h
  unfold fins at h1
  rw [flat_put finC_len xs k (x0, x1, x2) (by rw [own_len_flat finC_len (by decide) h]; exact hk)] at h1
  exact h1
theorem Tryz.info_fin : (Tryz.prog.info? 128).map (fun i => (i.zero, i.size, i.bytes)) = some (some (.agg #[.int .i64 0, .int .i64 0, .int .i64 0]), 3, 24) := by kernel_rfl
theorem run_make_fin (n : Nat) (h : n ≤ 1048576) (w : World) :
    (Instr.makeSlice 88 (.int .i64 (n : Int)) (.int .i64 (n : Int))).run Tryz.prog w = .ok (.slice (some ⟨w.heap.size, 0, none⟩) n n) (w.alloc (.cells (madeCells #[.int .i64 0, .int .i64 0, .int .i64 0] (n * 3)) 128)) := by
  obtain ⟨i, hi, hz, hs, hb⟩ := info_parts Tryz.info_fin
  have hr := run_make (P := Tryz.prog) w 88 128 i (.agg #[.int .i64 0, .int .i64 0, .int .i64 0]) Tryz.underlying88 hi hz .i64 .i64 n n (by omega) (by omega) (by rw [hb]; omega) (by omega)
  rw [hs, Int.toNat_natCast] at hr
  exact hr
/-- The copy of such a slice. -/
def RetFinishS (w : World) (xs : List FinishT) (e : Ending) (w' : World) : Prop :=
  ∃ A n c, e = .returned (.slice A n c) ∧ w'.ownsRow w.heap.size 128 3 (.slice A n c) n (fins xs) ∧ n ≤ 1048576 ∧ Below w.heap.size w w'
section
variable {ops : Array Oper} {rest : List Oper} {o : Oper} {a : Act} {K : Act → World → Prop} {Q : Exit → Act → World → Prop} {E : Prop}
theorem app_fin (w : World) (hgd : o.guard = none) (s x : Operand)
    (ho : o.op = .call { callee := .builtin .append, args := #[s, x], argTypes := #[88, 88] }) {base n c : Nat} {A : Option Addr} {xs : List FinishT}
    (hs : a.eval s = .slice A n c) (hown : w.ownsRow base 128 3 (.slice A n c) n (fins xs)) {b : Nat} {x0 x1 x2 : Int} (hx : a.eval x = .slice (some ⟨b, 0, none⟩) 1 1)
    (hc : w.heap[b]? = some (.cells #[.int .i64 x0, .int .i64 x1, .int .i64 x2] 128 (0, 0))) (hn : n ≤ 1099511627776) (hbase : base ≤ w.heap.size)
    (h : ∀ g c' w', w'.ownsRow base 128 3 (.slice (some ⟨g, 0, none⟩) (n + 1) c') (n + 1) (fins (xs ++ [(x0, x1, x2)])) → w.grownBy w' (Value.slice A n c).ownBlock → ((Value.slice A n c).ownBlock = some g ∨ g = w.heap.size) → g < w'.heap.size → wpList Tryz.prog ops Q rest (a.put o.dst (.slice (some ⟨g, 0, none⟩) (n + 1) c')) w') :
    wpList Tryz.prog ops Q (o :: rest) a w := by
  obtain ⟨i, hi, hz, hs1, hb1⟩ := info_parts Tryz.info_fin
  have e : ∀ (ys : List FinishT), fins ys ++ [.int .i64 x0, .int .i64 x1, .int .i64 x2] = fins (ys ++ [(x0, x1, x2)]) := fun ys => by unfold fins; rw [List.flatMap_append]; rfl
  exact wpList_append_lies w hgd s x 88 ho base 128 i (.agg #[.int .i64 0, .int .i64 0, .int .i64 0]) 3 24 Tryz.underlying88 hi hz hs1 hb1 rfl (by decide) (.slice A n c) n (fins xs) hs hown ⟨b, 0, none⟩ 1 1 [.int .i64 x0, .int .i64 x1, .int .i64 x2] hx rfl (World.news_of_block (cs := #[.int .i64 x0, .int .i64 x1, .int .i64 x2]) hc)
    (by intro u hu; simp at hu; rcases hu with rfl | rfl | rfl <;> rfl) (by decide) (by unfold maxLen; omega) (by omega) hbase _ rfl (by rw [e]; exact h)
theorem step_fin (w : World) (hgd : o.guard = none) (s x : Operand)
    (ho : o.op = .call { callee := .builtin .append, args := #[s, x], argTypes := #[88, 88] }) {base n c : Nat} {A : Option Addr} {xs : List FinishT}
    (hs : a.eval s = .slice A n c) (hown : w.ownsRow base 128 3 (.slice A n c) n (fins xs)) {b : Nat} {x0 x1 x2 : Int} (hx : a.eval x = .slice (some ⟨b, 0, none⟩) 1 1)
    (hc : w.heap[b]? = some (.cells #[.int .i64 x0, .int .i64 x1, .int .i64 x2] 128 (0, 0))) (hn : n ≤ 1099511627776) (hbase : base ≤ w.heap.size)
    (h : ∀ g c' w', w'.ownsRow base 128 3 (.slice (some ⟨g, 0, none⟩) (n + 1) c') (n + 1) (fins (xs ++ [(x0, x1, x2)])) → w.grownBy w' (Value.slice A n c).ownBlock → ((Value.slice A n c).ownBlock = some g ∨ g = w.heap.size) → g < w'.heap.size → K (a.put o.dst (.slice (some ⟨g, 0, none⟩) (n + 1) c')) w') :
    if Region.wanted o (yielded ops a.tmps) = true then Oper.wp Tryz.prog o a w K Q else E := by
  obtain ⟨i, hi, hz, hs1, hb1⟩ := info_parts Tryz.info_fin
  have e : ∀ (ys : List FinishT), fins ys ++ [.int .i64 x0, .int .i64 x1, .int .i64 x2] = fins (ys ++ [(x0, x1, x2)]) := fun ys => by unfold fins; rw [List.flatMap_append]; rfl
  exact step_append_lies w hgd s x 88 ho base 128 i (.agg #[.int .i64 0, .int .i64 0, .int .i64 0]) 3 24 Tryz.underlying88 hi hz hs1 hb1 rfl (by decide) (.slice A n c) n (fins xs) hs hown ⟨b, 0, none⟩ 1 1 [.int .i64 x0, .int .i64 x1, .int .i64 x2] hx rfl (World.news_of_block (cs := #[.int .i64 x0, .int .i64 x1, .int .i64 x2]) hc)
    (by intro u hu; simp at hu; rcases hu with rfl | rfl | rfl <;> rfl) (by decide) (by unfold maxLen; omega) (by omega) hbase _ rfl (by rw [e]; exact h)
end
/-- Numbers in a row, 3 an element. -/
def seqfin (k : Int) : Nat → List FinishT
  | 0 => []
  | n + 1 => (k, k + 1, k + 2) :: seqfin (k + 3) n
theorem seqfin_len (k : Int) (n : Nat) : (seqfin k n).length = n := by
  induction n generalizing k with
  | zero => rfl
  | succ n ih => simp [seqfin, ih]
theorem seqfin_snoc (k : Int) (n : Nat) : seqfin k (n + 1) = seqfin k n ++ [(k + 3 * n, k + 3 * n + 1, k + 3 * n + 2)] := by
  induction n generalizing k with
  | zero => simp [seqfin]
  | succ n ih =>
    rw [seqfin, ih, seqfin, List.cons_append]
    congr 3
    simp only [Prod.mk.injEq]
    omega
theorem seqfin_get (k : Int) (n j : Nat) (h : j < n) : (seqfin k n)[j]? = some (k + 3 * (j : Int), k + 3 * (j : Int) + 1, k + 3 * (j : Int) + 2) := by
  induction n generalizing k j with
  | zero => omega
  | succ n ih =>
    cases j with
    | zero => simp [seqfin]
    | succ j =>
      rw [seqfin, List.getElem?_cons_succ, ih _ _ (by omega)]
      simp only [Option.some.injEq, Prod.mk.injEq]
      omega
theorem seqfin_step (k : Int) (j : Nat) (xs : List FinishT) (h : j < xs.length) : (seqfin k j ++ xs.drop j).set j (k + 3 * (j : Int), k + 3 * (j : Int) + 1, k + 3 * (j : Int) + 2) = seqfin k (j + 1) ++ xs.drop (j + 1) := by
  rw [List.set_append, if_neg (by simp [seqfin_len]), seqfin_snoc, List.drop_eq_getElem_cons h, seqfin_len, Nat.sub_self, List.set_cons_zero, List.append_assoc]
  rfl
end Go.Proofs.YtalgdeieejpelaaGreat

/- Walks: the laws' helpers on slices of Redress. -/
namespace Go.Proofs.YtalgdeieejpelaaGreat
open Go.RowKit
set_option linter.unusedVariables false
set_option maxRecDepth 100000

abbrev RedressT := Int × Int × Int × Int
def redC (p : RedressT) : List Value := [.int .i64 p.1, .int .i64 p.2.1, .int .i64 p.2.2.1, .int .i64 p.2.2.2]
theorem redC_len (p : RedressT) : (redC p).length = 4 := rfl
def reds (xs : List RedressT) : List Value := xs.flatMap redC
theorem zeroS4 (v : Value) (i : Nat) (h : i < (#[v, v, v, v] : Array Value).size) : (#[v, v, v, v] : Array Value)[i]! = v := by
  have : i = 0 ∨ i = 1 ∨ i = 2 ∨ i = 3 := by simp at h; omega
  rcases this with rfl | rfl | rfl | rfl <;> rfl
theorem Rd.red {w : World} {A : Option Addr} {n k : Nat} {xs : List RedressT} (h : Rd w 4 A n (reds xs)) (hk : k < n) :
    ∃ b o x0 x1 x2 x3, A = some ⟨b, o, none⟩ ∧ xs[k]? = some (x0, x1, x2, x3) ∧ xs.drop k = (x0, x1, x2, x3) :: xs.drop (k + 1) ∧ w.cell? ⟨b, o + k * 4, none⟩ = some (.int .i64 x0) ∧ w.cell? ⟨b, o + k * 4 + 1, none⟩ = some (.int .i64 x1) ∧ w.cell? ⟨b, o + k * 4 + 2, none⟩ = some (.int .i64 x2) ∧ w.cell? ⟨b, o + k * 4 + 3, none⟩ = some (.int .i64 x3) := by
  obtain ⟨b, o, ⟨x0, x1, x2, x3⟩, e, h1, h2, h3⟩ := Rd.flat redC_len (by decide) h hk
  exact ⟨b, o, x0, x1, x2, x3, e, h1, h2, h3 0 _ rfl, h3 1 _ rfl, h3 2 _ rfl, h3 3 _ rfl⟩
theorem Rd.len_red {w : World} {A : Option Addr} {n : Nat} {xs : List RedressT} (h : Rd w 4 A n (reds xs)) : xs.length = n := Rd.len_flat redC_len (by decide) h
theorem own_red_at {w : World} {base e n c k : Nat} {A : Option Addr} {xs : List RedressT} (h : w.ownsRow base e 4 (.slice A n c) n (reds xs)) (hk : k < n) :
    ∃ g x0 x1 x2 x3, A = some ⟨g, 0, none⟩ ∧ base ≤ g ∧ g < w.heap.size ∧ xs[k]? = some (x0, x1, x2, x3) ∧ xs.drop k = (x0, x1, x2, x3) :: xs.drop (k + 1) ∧ w.cell? ⟨g, k * 4, none⟩ = some (.int .i64 x0) ∧ w.cell? ⟨g, k * 4 + 1, none⟩ = some (.int .i64 x1) ∧ w.cell? ⟨g, k * 4 + 2, none⟩ = some (.int .i64 x2) ∧ w.cell? ⟨g, k * 4 + 3, none⟩ = some (.int .i64 x3) ∧ w.frozen? ⟨g, k * 4, none⟩ = false ∧ w.frozen? ⟨g, k * 4 + 1, none⟩ = false ∧ w.frozen? ⟨g, k * 4 + 2, none⟩ = false ∧ w.frozen? ⟨g, k * 4 + 3, none⟩ = false := by
  obtain ⟨g, ⟨x0, x1, x2, x3⟩, e, h1, h2, h3, h4, h5, h6⟩ := own_flat redC_len (by decide) h hk
  exact ⟨g, x0, x1, x2, x3, e, h1, h2, h3, h4, h5 0 _ rfl, h5 1 _ rfl, h5 2 _ rfl, h5 3 _ rfl, h6 _, h6 _, h6 _, h6 _⟩
theorem own_red_set {w : World} {base e g n c k : Nat} {xs : List RedressT} (h : w.ownsRow base e 4 (.slice (some ⟨g, 0, none⟩) n c) n (reds xs)) (hk : k < n) (x0 x1 x2 x3 : Int) :
    ((((w.setCell ⟨g, k * 4, none⟩ (.int .i64 x0)).setCell ⟨g, k * 4 + 1, none⟩ (.int .i64 x1)).setCell ⟨g, k * 4 + 2, none⟩ (.int .i64 x2)).setCell ⟨g, k * 4 + 3, none⟩ (.int .i64 x3)).ownsRow base e 4 (.slice (some ⟨g, 0, none⟩) n c) n (reds (xs.set k (x0, x1, x2, x3))) := by
  have h1 := own_put (redC (x0, x1, x2, x3)) (k * 4) h
  unfold reds at h1
  rw [flat_put redC_len xs k (x0, x1, x2, x3) (by rw [own_len_flat redC_len (by decide) h]; exact hk)] at h1
  exact h1
theorem Tryz.info_red : (Tryz.prog.info? 109).map (fun i => (i.zero, i.size, i.bytes)) = some (some (.agg #[.int .i64 0, .int .i64 0, .int .i64 0, .int .i64 0]), 4, 32) := by kernel_rfl
theorem run_make_red (n : Nat) (h : n ≤ 1048576) (w : World) :
    (Instr.makeSlice 105 (.int .i64 (n : Int)) (.int .i64 (n : Int))).run Tryz.prog w = .ok (.slice (some ⟨w.heap.size, 0, none⟩) n n) (w.alloc (.cells (madeCells #[.int .i64 0, .int .i64 0, .int .i64 0, .int .i64 0] (n * 4)) 109)) := by
  obtain ⟨i, hi, hz, hs, hb⟩ := info_parts Tryz.info_red
  have hr := run_make (P := Tryz.prog) w 105 109 i (.agg #[.int .i64 0, .int .i64 0, .int .i64 0, .int .i64 0]) Tryz.underlying105 hi hz .i64 .i64 n n (by omega) (by omega) (by rw [hb]; omega) (by omega)
  rw [hs, Int.toNat_natCast] at hr
  exact hr
/-- The copy of such a slice. -/
def RetRedressS (w : World) (xs : List RedressT) (e : Ending) (w' : World) : Prop :=
  ∃ A n c, e = .returned (.slice A n c) ∧ w'.ownsRow w.heap.size 109 4 (.slice A n c) n (reds xs) ∧ n ≤ 1048576 ∧ Below w.heap.size w w'
end Go.Proofs.YtalgdeieejpelaaGreat

/- Plain functions: the source of numbers of the drawn laws: no Go in sight. -/
namespace Go.Proofs.YtalgdeieejpelaaGreat
open Go.RowKit
set_option linter.unusedVariables false

/-- The state of a source: how many bytes are used up, the seed. -/
abbrev St := Nat × Int
def fromGo : List Int → Int → Int
  | [], h => h
  | c :: r, h => fromGo r ((h * 53 + c) % 2147483647)
def fromF (code : List Int) : St := (0, fromGo (code.take 64) 61657)
theorem fromGo_bd (code : List Int) (h : Int) (h0 : 0 ≤ h) (h1 : h < 2147483647) : 0 ≤ fromGo code h ∧ fromGo code h < 2147483647 := by
  induction code generalizing h with
  | nil => exact ⟨h0, h1⟩
  | cons c r ih => exact ih _ (by omega) (by omega)
def stepH (h : Int) : Int := (h * 48271 + 23) % 2147483647
def nextF (code : List Int) (s : St) (n : Int) : Int × St :=
  if n ≤ 1 then (0, s)
  else if s.1 < code.length then
    ((if n ≤ 256 ∧ (s.1 + 1) % 2 = 0 then code.getD s.1 0 else stepH s.2 / 17 + code.getD s.1 0) % n, (s.1 + 1, stepH s.2))
  else (stepH s.2 / 17 % n, (s.1, stepH s.2))
theorem stepH_bd (h : Int) : 0 ≤ stepH h ∧ stepH h < 2147483647 := by unfold stepH; omega
theorem nextF_bd (code : List Int) (s : St) (n : Int) (hn : 1 ≤ n) : 0 ≤ (nextF code s n).1 ∧ (nextF code s n).1 < n := by
  unfold nextF
  split
  · exact ⟨Int.le_refl _, by omega⟩
  · split
    · exact ⟨Int.emod_nonneg _ (by omega), Int.emod_lt_of_pos _ (by omega)⟩
    · exact ⟨Int.emod_nonneg _ (by omega), Int.emod_lt_of_pos _ (by omega)⟩
theorem nextF_nonneg (code : List Int) (s : St) (n : Int) : 0 ≤ (nextF code s n).1 := by
  by_cases h : 1 ≤ n
  · exact (nextF_bd code s n h).1
  · unfold nextF; rw [if_pos (by omega)]; exact Int.le_refl _

/-- A valid state. -/
def StOk (code : List Int) (s : St) : Prop := s.1 ≤ code.length ∧ 0 ≤ s.2 ∧ s.2 < 2147483647
theorem nextF_ok (code : List Int) (s : St) (n : Int) (h : StOk code s) : StOk code (nextF code s n).2 := by
  have hb := stepH_bd s.2
  unfold nextF
  split
  · exact h
  · split
    · exact ⟨by simp; omega, hb.1, hb.2⟩
    · exact ⟨h.1, hb.1, hb.2⟩
theorem fromF_ok (code : List Int) : StOk code (fromF code) := ⟨Nat.zero_le _, fromGo_bd _ _ (by omega) (by omega)⟩
end Go.Proofs.YtalgdeieejpelaaGreat

/- Plain functions: drawn orders and fleets: no Go in sight. -/
namespace Go.Proofs.YtalgdeieejpelaaGreat
open Go.RowKit
set_option linter.unusedVariables false

def boatsD (code : List Int) (s : St) : Int × St :=
  if (nextF code s 24).1 = 0 then (16 * (nextF code (nextF code s 24).2 2).1, (nextF code (nextF code s 24).2 2).2)
  else (1 + (nextF code (nextF code s 24).2 6).1, (nextF code (nextF code s 24).2 6).2)
def kD (code : List Int) (s : St) : Int × St :=
  if (nextF code s 24).1 = 0 then (5 * (nextF code (nextF code s 24).2 2).1, (nextF code (nextF code s 24).2 2).2)
  else (1 + (nextF code (nextF code s 24).2 4).1, (nextF code (nextF code s 24).2 4).2)
theorem boatsD_bd (code : List Int) (s : St) : 0 ≤ (boatsD code s).1 ∧ (boatsD code s).1 ≤ 16 := by
  unfold boatsD
  split
  · have := nextF_bd code (nextF code s 24).2 2 (by omega); simp only; omega
  · have := nextF_bd code (nextF code s 24).2 6 (by omega); simp only; omega
theorem kD_bd (code : List Int) (s : St) : 0 ≤ (kD code s).1 ∧ (kD code s).1 ≤ 5 := by
  unfold kD
  split
  · have := nextF_bd code (nextF code s 24).2 2 (by omega); simp only; omega
  · have := nextF_bd code (nextF code s 24).2 4 (by omega); simp only; omega
theorem boatsD_ok (code : List Int) (s : St) (h : StOk code s) : StOk code (boatsD code s).2 := by
  unfold boatsD
  split
  · exact nextF_ok _ _ _ (nextF_ok _ _ _ h)
  · exact nextF_ok _ _ _ (nextF_ok _ _ _ h)

/-- An order is drawn: i is put in at a drawn place. -/
def orderGo (code : List Int) : Nat → Nat → List Int → St → List Int × St
  | 0, _, out, s => (out, s)
  | m + 1, i, out, s =>
    orderGo code m (i + 1) (out.take (nextF code s ((i : Int) + 1)).1.toNat ++ [(i : Int)] ++ out.drop (nextF code s ((i : Int) + 1)).1.toNat) (nextF code s ((i : Int) + 1)).2
def orderD (code : List Int) (n : Nat) (s : St) : List Int × St := orderGo code n 0 [] s
theorem orderGo_len (code : List Int) (m i : Nat) (out : List Int) (s : St) : (orderGo code m i out s).1.length = out.length + m := by
  induction m generalizing i out s with
  | zero => rfl
  | succ m ih =>
    unfold orderGo
    rw [ih]
    simp only [List.length_append, List.length_take, List.length_drop, List.length_cons, List.length_nil]
    omega
theorem orderD_len (code : List Int) (n : Nat) (s : St) : (orderD code n s).1.length = n := by unfold orderD; rw [orderGo_len]; simp
def anyD (code : List Int) (s : St) : List Int × St :=
  if (orderD code (boatsD code s).1.toNat (boatsD code s).2).1.length = 0 then orderD code (boatsD code s).1.toNat (boatsD code s).2
  else if (nextF code (orderD code (boatsD code s).1.toNat (boatsD code s).2).2 16).1 = 0 then
    ((orderD code (boatsD code s).1.toNat (boatsD code s).2).1.set (nextF code (nextF code (orderD code (boatsD code s).1.toNat (boatsD code s).2).2 16).2 ((orderD code (boatsD code s).1.toNat (boatsD code s).2).1.length : Int)).1.toNat
      ((nextF code (nextF code (nextF code (orderD code (boatsD code s).1.toNat (boatsD code s).2).2 16).2 ((orderD code (boatsD code s).1.toNat (boatsD code s).2).1.length : Int)).2 8).1 - 1),
     (nextF code (nextF code (nextF code (orderD code (boatsD code s).1.toNat (boatsD code s).2).2 16).2 ((orderD code (boatsD code s).1.toNat (boatsD code s).2).1.length : Int)).2 8).2)
  else ((orderD code (boatsD code s).1.toNat (boatsD code s).2).1, (nextF code (orderD code (boatsD code s).1.toNat (boatsD code s).2).2 16).2)
theorem anyD_len (code : List Int) (s : St) : (anyD code s).1.length ≤ 16 := by
  have h := boatsD_bd code s
  unfold anyD
  split
  · rw [orderD_len]; omega
  · split
    · rw [List.length_set, orderD_len]; omega
    · rw [orderD_len]; omega
def snakeD (code : List Int) : List Int × Int := ((anyD code (fromF code)).1, (kD code (anyD code (fromF code)).2).1)
end Go.Proofs.YtalgdeieejpelaaGreat

/- One cell of one element of an own slice of structs is written. -/
namespace Go.Proofs.YtalgdeieejpelaaGreat
open Go.RowKit
set_option linter.unusedVariables false

theorem flat_set1 {α : Type} {f : α → List Value} {s : Nat} (hf : ∀ x, (f x).length = s) {j : Nat} (hj : j < s) (v : Value) {x y : α} (hy : f y = (f x).set j v) : ∀ (xs : List α) (k : Nat), xs[k]? = some x → (xs.flatMap f).set (k * s + j) v = (xs.set k y).flatMap f := by
  intro xs
  induction xs with
  | nil => intro k h; simp at h
  | cons a r ih =>
    intro k h
    cases k with
    | zero =>
      simp at h
      subst h
      rw [Nat.zero_mul, Nat.zero_add, List.flatMap_cons, List.set_cons_zero, List.flatMap_cons, List.set_append_left _ _ (by rw [hf]; exact hj), hy]
    | succ k =>
      have e : (k + 1) * s + j = s + (k * s + j) := by rw [Nat.add_mul, Nat.one_mul]; omega
      rw [List.flatMap_cons, List.set_cons_succ, List.flatMap_cons, e, List.set_append_right _ _ (by rw [hf]; omega), hf, Nat.add_sub_cancel_left, ih k (by simpa using h)]
theorem own_set1 {α : Type} {f : α → List Value} {s : Nat} (hf : ∀ x, (f x).length = s) {w : World} {base e g n c k : Nat} {xs : List α} (h : w.ownsRow base e s (.slice (some ⟨g, 0, none⟩) n c) n (xs.flatMap f)) {j : Nat} (hj : j < s) {x : α} (hx : xs[k]? = some x) (v : Value) (y : α) (hy : f y = (f x).set j v) :
    (w.setCell ⟨g, k * s + j, none⟩ v).ownsRow base e s (.slice (some ⟨g, 0, none⟩) n c) n ((xs.set k y).flatMap f) := by
  rw [← flat_set1 hf hj v hy xs k hx]
  exact (h.stored _ v).1
end Go.Proofs.YtalgdeieejpelaaGreat

/- Plain functions: drawn fleets and rounds: no Go in sight. -/
namespace Go.Proofs.YtalgdeieejpelaaGreat
open Go.RowKit
set_option linter.unusedVariables false

def fleetsGo (code : List Int) (K : Int) : Nat → List Int → St → List Int × St
  | 0, out, s => (out, s)
  | m + 1, out, s => fleetsGo code K m (out ++ [(nextF code s (max 1 K)).1]) (nextF code s (max 1 K)).2
theorem fleetsGo_len (code : List Int) (K : Int) (m : Nat) (out : List Int) (s : St) : (fleetsGo code K m out s).1.length = out.length + m := by
  induction m generalizing out s with
  | zero => rfl
  | succ m ih =>
    unfold fleetsGo
    rw [ih]
    simp only [List.length_append, List.length_cons, List.length_nil]
    omega
/-- The drawn list is spoiled now and then. -/
def spoilF (code : List Int) (K : Int) (r : List Int × St) : List Int × St :=
  if r.1.length = 0 then r
  else if (nextF code r.2 24).1 = 0 then (r.1.set 0 (K - (K + 1) * (nextF code (nextF code r.2 24).2 2).1), (nextF code (nextF code r.2 24).2 2).2)
  else (r.1, (nextF code r.2 24).2)
theorem spoilF_len (code : List Int) (K : Int) (r : List Int × St) : (spoilF code K r).1.length = r.1.length := by
  unfold spoilF
  split
  · rfl
  · split
    · simp
    · rfl
def fleetsD (code : List Int) (K : Int) (N : Nat) (s : St) : List Int × St := spoilF code K (fleetsGo code K N [] s)
theorem fleetsD_len (code : List Int) (K : Int) (N : Nat) (s : St) : (fleetsD code K N s).1.length = N := by
  unfold fleetsD
  rw [spoilF_len, fleetsGo_len]
  simp

def roundsGo1 (code : List Int) (n : Nat) (K : Int) : Nat → List (List Int) → St → List (List Int) × St
  | 0, rows, s => (rows, s)
  | m + 1, rows, s => roundsGo1 code n K m (rows ++ [(fleetsD code K (n + ((nextF code s 40).1 / 39).toNat) (nextF code s 40).2).1]) (fleetsD code K (n + ((nextF code s 40).1 / 39).toNat) (nextF code s 40).2).2
def roundsGo2 (code : List Int) (n : Nat) (K : Int) : Nat → List (List Int) → St → List (List Int) × St
  | 0, rows, s => (rows, s)
  | m + 1, rows, s => roundsGo2 code n K m (rows ++ [(fleetsD code K n s).1]) (fleetsD code K n s).2
def roundsEnd (code : List Int) (n : Nat) (K : Int) (r : List (List Int) × St) : List (List Int) × St :=
  if (nextF code r.2 24).1 = 0 then roundsGo2 code n K (13 - r.1.length) r.1 (nextF code r.2 24).2 else (r.1, (nextF code r.2 24).2)
def roundsD (code : List Int) : List (List Int) × Int :=
  ((roundsEnd code (boatsD code (kD code (fromF code)).2).1.toNat (kD code (fromF code)).1
      (roundsGo1 code (boatsD code (kD code (fromF code)).2).1.toNat (kD code (fromF code)).1
        (nextF code (boatsD code (kD code (fromF code)).2).2 6).1.toNat [] (nextF code (boatsD code (kD code (fromF code)).2).2 6).2)).1,
   (kD code (fromF code)).1)
end Go.Proofs.YtalgdeieejpelaaGreat

/- Walks: likeInts of the laws. -/
namespace Go.Proofs.YtalgdeieejpelaaGreat
open Go.RowKit
set_option linter.unusedVariables false

theorem likeInts_any (A A' : Option Addr) (n c n' c' : Nat) (xs ys : List Int) (w : World) (h : Rd w 1 A n (ints xs)) (h' : Rd w 1 A' n' (ints ys)) :
    Calls Tryz.prog 18 #[.slice A n c, .slice A' n' c'] w fun e w' => e = .returned (.bool (decide (xs = ys))) ∧ ∃ q, w' = w.drewN q := by
  have HN := Lib.hid h.len_int
  have HN' := Lib.hid h'.len_int
  have hm := h.le
  by_cases hl : n = n'
  · subst hl
    go_enter Tryz.func18, Tryz.ntmps18
    go_wp2
    go_loopw [5] (fun i wr => ∃ k : Nat, k ≤ n ∧ i = .int .i64 k ∧ (xs = ys ↔ xs.drop k = ys.drop k) ∧ ∃ q, wr = w.drewN q) (fun i _ => n - (intOf i).toNat)
    case atStart => exact ⟨0, Nat.zero_le _, rfl, by simp, 0, rfl⟩
    case round =>
      obtain ⟨k, hk, rfl, hall, q, rfl⟩ := hrel
      have HA := Lib.hid hall; clear hall
      by_cases hlt : k < n
      · obtain ⟨b, o, x, rfl, hx, hd, hc⟩ := h.int hlt
        obtain ⟨b', o', x', rfl, hx', hd', hc'⟩ := h'.int hlt
        clear hx hx'
        have HD := Lib.hid hd; clear hd
        have HD' := Lib.hid hd'; clear hd'
        by_cases hxx : x = x'
        · subst hxx
          go_wp2
          go_quiet (fail)
          go_wp2
          go_roundw
          case rel => exact ⟨k + 1, by omega, by go_num, by rw [HA.out, HD.out, HD'.out]; simp, _, rfl⟩
          case measure => simp [intOf]; omega
        · have hne : (x != x') = true := by simp [hxx]
          go_wp2
          go_quiet (fail)
          go_wp2
          go_ret
          exact ⟨ret_bool (by rw [eq_comm, decide_eq_false_iff_not, HA.out, HD.out, HD'.out]; simp [hxx]), _, World.drewN_drewN _ _ _⟩
      · obtain rfl : k = n := by omega
        go_wp2
        go_ret
        exact ⟨ret_bool (by rw [eq_comm, decide_eq_true_iff, HA.out, List.drop_eq_nil_of_le (by rw [HN.out]; omega), List.drop_eq_nil_of_le (by rw [HN'.out]; omega)]), _, rfl⟩
  · have hne : ((n : Int) != n') = true := by simp; omega
    go_enter Tryz.func18, Tryz.ntmps18
    go_wp2
    go_ret
    exact ⟨ret_bool (by rw [eq_comm, decide_eq_false_iff_not]; rintro rfl; exact hl (HN.out.symm.trans HN'.out)), 0, rfl⟩


theorem likeInts_below (A A' : Option Addr) (n c n' c' : Nat) (xs ys : List Int) (w : World) (h : Rd w 1 A n (ints xs)) (h' : Rd w 1 A' n' (ints ys)) :
    Calls Tryz.prog 18 #[.slice A n c, .slice A' n' c'] w fun e w' => e = .returned (.bool (decide (xs = ys))) ∧ Below w.heap.size w w' :=
  (likeInts_any A A' n c n' c' xs ys w h h').mono fun _ _ ⟨h1, q, h2⟩ => ⟨h1, by rw [h2]; exact below_drewN' _ _ _⟩
end Go.Proofs.YtalgdeieejpelaaGreat

/- Walks: likeRows, w6Tables of the laws. -/
namespace Go.Proofs.YtalgdeieejpelaaGreat
open Go.RowKit
set_option linter.unusedVariables false
set_option maxRecDepth 100000

theorem likeRows2_any (A A' : Option Addr) (n c n' c' : Nat) (xs ys : List (List Int)) (w : World) (h : RdRows w A n xs) (h' : RdRows w A' n' ys) :
    Calls Tryz.prog 31 #[.slice A n c, .slice A' n' c'] w fun e w' => e = .returned (.bool (decide (xs = ys))) ∧ Drawn w w' := by
  have HN := Lib.hid h.len
  have HN' := Lib.hid h'.len
  have hm := h.le
  by_cases hl : n = n'
  · subst hl
    go_enter Tryz.func31, Tryz.ntmps31
    go_wp2
    go_loopw [5] (fun i wr => ∃ k : Nat, k ≤ n ∧ i = .int .i64 k ∧ Hid (xs = ys ↔ xs.drop k = ys.drop k) ∧ Drawn w wr) (fun i _ => n - (intOf i).toNat)
    case atStart => exact ⟨0, Nat.zero_le _, rfl, Iff.rfl, Drawn.refl _⟩
    case round =>
      obtain ⟨k, hk, rfl, HA, hq⟩ := hrel
      by_cases hlt : k < n
      · obtain ⟨b, o, B, cB, x, rfl, _, hd, hc, hrd⟩ := (h.drawn hq).row hlt
        obtain ⟨b', o', B', cB', x', rfl, _, hd', hc', hrd'⟩ := (h'.drawn hq).row hlt
        have HD := Lib.hid hd; clear hd
        have HD' := Lib.hid hd'; clear hd'
        have hcall := fun q : Nat => likeInts_any B B' x.length cB x'.length cB' x x' (wr.drewN q) (hrd.drewN q) (hrd'.drewN q)
        by_cases hxx : x = x'
        · subst hxx
          simp only [decide_true] at hcall
          have HC := Lib.hid hcall; clear hcall
          go_wp2
          go_quiet ((go_at_call 18; exact Calls.quiet_of (HC.out _)))
          go_wp2
          go_roundw
          case rel => exact ⟨k + 1, by omega, by go_num, by unfold Hid; rw [HA.out, HD.out, HD'.out]; simp, hq.step _⟩
          case measure => simp [intOf]; omega
        · rw [decide_eq_false hxx] at hcall
          have HC := Lib.hid hcall; clear hcall
          go_wp2
          go_quiet ((go_at_call 18; exact Calls.quiet_of (HC.out _)))
          go_wp2
          go_ret
          exact ⟨ret_bool (by rw [eq_comm, decide_eq_false_iff_not, HA.out, HD.out, HD'.out]; simp [hxx]), hq.step _⟩
      · obtain rfl : k = n := by omega
        go_wp2
        go_ret
        exact ⟨ret_bool (by rw [eq_comm, decide_eq_true_iff, HA.out, List.drop_eq_nil_of_le (by rw [HN.out]; omega), List.drop_eq_nil_of_le (by rw [HN'.out]; omega)]), hq⟩
  · have hne : ((n : Int) != n') = true := by simp; omega
    go_enter Tryz.func31, Tryz.ntmps31
    go_wp2
    go_ret
    exact ⟨ret_bool (by rw [eq_comm, decide_eq_false_iff_not]; rintro rfl; exact hl (HN.out.symm.trans HN'.out)), Drawn.refl _⟩

set_option maxHeartbeats 2000000 in
/-- Two tables that hold the same are alike. -/
theorem w6Tables_same (P C P' C' : Option Addr) (n c m d n' c' m' d' : Nat) (t : Tb) (w : World) (h : RdT w P n C m t) (h' : RdT w P' n' C' m' t) :
    Calls Tryz.prog 25 #[.agg #[.int .i64 t.boats, .slice P n c, .slice C m d], .agg #[.int .i64 t.boats, .slice P' n' c', .slice C' m' d']] w fun e w' => e = .returned (.bool true) ∧ Below w.heap.size w w' := by
  obtain ⟨w1, hw1, X0, X1, hb1, hs1⟩ := two_boxes w #[.int .i64 t.boats, .slice P n c, .slice C m d] #[.int .i64 t.boats, .slice P' n' c', .slice C' m' d'] 53 53
  have HP := Lib.hid (fun w' (k : Below w.heap.size w w') => likeRows2_any P P' n c n' c' t.pts t.pts w' (h.pts.below k) (h'.pts.below k))
  have HC := Lib.hid (fun w' (k : Below w.heap.size w w') => likeRows2_any C C' m d m' d' t.cds t.cds w' (h.cds.below k) (h'.cds.below k))
  simp only [decide_true] at HP HC
  have HB1 := Lib.hid hb1
  have HX0 := Lib.hid X0
  have HX1 := Lib.hid X1
  have HW1 := Lib.hid hw1
  have FX := X0.f3
  have FY := X1.f3
  have hbb : (t.boats == t.boats) = true := by simp
  clear X0 X1 hb1 hs1 hw1 h h'
  go_enter Tryz.func25, Tryz.ntmps25
  go_wp2_with fail
  rw [← HW1.out]
  clear HW1
  go_wp2_with fail
  refine (HP.out _ HB1.out).mono ?_
  rintro e w2 ⟨rfl, hq⟩
  have hb2 := hq.below
  have FX2 := (HX0.out.below hb2).f3
  have FY2 := (HX1.out.below hb2).f3
  have HB2 := Lib.hid (HB1.out.trans (hb2.mono HB1.out.size))
  clear hq hb2 FX FY HP
  go_wp2_with fail
  refine (HC.out _ HB2.out).mono ?_
  rintro e w3 ⟨rfl, hq⟩
  have HB3 := Lib.hid (HB2.out.trans (hq.below.mono HB2.out.size))
  clear hq HC FX2 FY2
  go_wp2_with fail
  go_ret
  exact ⟨rfl, HB3.out⟩
end Go.Proofs.YtalgdeieejpelaaGreat

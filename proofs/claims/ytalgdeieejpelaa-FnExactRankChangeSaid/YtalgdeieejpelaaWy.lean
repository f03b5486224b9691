/- Walks: the laws' helpers on [][]int64: size, copy, compare, mark, hold. -/
import Derived.Test.YtalgdeieejpelaaWx
import Derived.Test.YtalgdeieejpelaaSs
namespace Go.Proofs.Ytalgdeieejpelaa
open Go.RowKit
set_option linter.unusedVariables false
set_option maxRecDepth 100000

theorem Try.info_ints : (Try.prog.info? 26).map (fun i => (i.zero, i.size, i.bytes)) = some (some (.slice none 0 0), 1, 24) := by kernel_rfl
theorem run_make_rows (n : Nat) (h : n ≤ 1048576) (w : World) :
    (Instr.makeSlice 22 (.int .i64 (n : Int)) (.int .i64 (n : Int))).run Try.prog w = .ok (.slice (some ⟨w.heap.size, 0, none⟩) n n) (w.alloc (.cells (madeCells #[.slice none 0 0] n) 26)) := by
  obtain ⟨i, hi, hz, hs, hb⟩ := info_parts Try.info_ints
  have hr := run_make (P := Try.prog) w 22 26 i (.slice none 0 0) Try.underlying22 hi hz .i64 .i64 n n (by omega) (by omega) (by rw [hb]; omega) (by omega)
  rw [hs, Nat.mul_one, Int.toNat_natCast] at hr
  exact hr

/-! ### Sizes -/
def szF (left : Int) (n : Nat) : Int := if left - n < 0 then -1 else left - n
def szGo (left : Int) : List (List Int) → Int
  | [] => left
  | x :: r => if left - x.length < 0 then -1 else szGo (left - x.length) r
def szRowsF (left : Int) (rows : List (List Int)) : Int := if left - rows.length < 0 then -1 else szGo (left - rows.length) rows
theorem szGo_le {left : Int} {rows : List (List Int)} (h : 0 ≤ szGo left rows) (h0 : 0 ≤ left) : szGo left rows ≤ left ∧ ∀ x ∈ rows, (x.length : Int) ≤ left := by
  induction rows generalizing left with
  | nil => exact ⟨Int.le_refl _, fun x hx => by cases hx⟩
  | cons y r ih =>
    unfold szGo at h ⊢
    split at h
    · omega
    · rename_i hn
      rw [if_neg hn]
      have := ih h (by omega)
      refine ⟨by omega, fun x hx => ?_⟩
      rcases List.mem_cons.1 hx with rfl | hx
      · omega
      · have := this.2 x hx; omega
theorem szRowsF_le {left : Int} {rows : List (List Int)} (h : 0 ≤ szRowsF left rows) (h0 : 0 ≤ left) : (rows.length : Int) ≤ left ∧ ∀ x ∈ rows, (x.length : Int) ≤ left := by
  unfold szRowsF at h
  split at h
  · omega
  · rename_i hn
    have := szGo_le h (by omega)
    exact ⟨by omega, fun x hx => by have := this.2 x hx; omega⟩

theorem szInt64S_any (A : Option Addr) (n c : Nat) (hn : n ≤ 9223372036854775807) (left : Int) (h0 : 0 ≤ left) (h1 : left ≤ 1048576) (w : World) :
    Calls Try.prog 27 #[.slice A n c, .int .i64 left] w fun e w' => e = .returned (.int .i64 (szF left n)) ∧ w = w' := by
  by_cases h : left - n < 0
  · have e : szF left n = -1 := by unfold szF; rw [if_pos h]
    rw [e]
    go_enter Try.func27, Try.ntmps27
    go_wp2_with fail
    go_ret
    exact ⟨rfl, rfl⟩
  · have e : szF left n = left - n := by unfold szF; rw [if_neg h]
    rw [e]
    go_enter Try.func27, Try.ntmps27
    go_wp2_with fail
    go_ret
    exact ⟨rfl, rfl⟩

theorem szInt64SS_any (A : Option Addr) (n c : Nat) (rows : List (List Int)) (left : Int) (h0 : 0 ≤ left) (h1 : left ≤ 1048576) (w : World) (h : RdRows w A n rows) :
    Calls Try.prog 14 #[.slice A n c, .int .i64 left] w fun e w' => e = .returned (.int .i64 (szRowsF left rows)) ∧ w = w' := by
  have HN := Lib.hid h.len
  have hle := h.le
  by_cases hl : left - n < 0
  · have e : szRowsF left rows = -1 := by unfold szRowsF; rw [HN.out, if_pos hl]
    rw [e]
    go_enter Try.func14, Try.ntmps14
    go_wp2_with fail
    go_ret
    exact ⟨rfl, rfl⟩
  · have e : szRowsF left rows = szGo (left - n) rows := by unfold szRowsF; rw [HN.out, if_neg hl]
    rw [e]
    go_enter Try.func14, Try.ntmps14
    go_wp2_with fail
    go_loop [1, 5] (fun t i => ∃ (k : Nat) (l : Int), k ≤ n ∧ i = .int .i64 k ∧ t = .int .i64 l ∧ 0 ≤ l ∧ l ≤ 1048576 ∧ szGo l (rows.drop k) = szGo (left - n) rows) (fun _ i => n - (intOf i).toNat)
    case atStart => exact ⟨0, _, Nat.zero_le _, rfl, rfl, by omega, by omega, rfl⟩
    case round =>
      obtain ⟨k, l, hk, rfl, rfl, hl0, hl1, hr⟩ := hrel
      have HR := Lib.hid hr; clear hr
      by_cases hlt : k < n
      · obtain ⟨b, o, A', c', xs, rfl, hx, hd, hc, hrd⟩ := h.row hlt
        have HD := Lib.hid hd; clear hd hx
        have hxl := hrd.le
        generalize hm : xs.length = m at *
        have HM := Lib.hid hm; clear hm
        have hc1 := fun w => szInt64S_any A' m c' hxl l hl0 hl1 w
        by_cases hneg : l - m < 0
        · have e : szF l m = -1 := by unfold szF; rw [if_pos hneg]
          rw [e] at hc1
          have HC := Lib.hid hc1; clear hc1
          go_wp2_with (go_at_call 27; refine (HC.out _).mono ?_; rintro e w' ⟨rfl, rfl⟩)
          go_ret
          exact ⟨ret_int (by rw [← HR.out, HD.out, szGo, HM.out, if_pos hneg]), rfl⟩
        · have e : szF l m = l - m := by unfold szF; rw [if_neg hneg]
          rw [e] at hc1
          have HC := Lib.hid hc1; clear hc1
          go_wp2_with (go_at_call 27; refine (HC.out _).mono ?_; rintro e w' ⟨rfl, rfl⟩)
          go_round
          case rel => exact ⟨k + 1, l - m, by omega, by go_num, rfl, by omega, by omega, by rw [← HR.out, HD.out, szGo, HM.out, if_neg (by omega)]⟩
          case measure => simp [intOf]; omega
      · obtain rfl : k = n := by omega
        go_wp2
        go_ret
        exact ⟨ret_int (by rw [← HR.out, List.drop_eq_nil_of_le (by rw [HN.out]; omega), szGo]), rfl⟩

/-! ### Lengths together -/
def sumLen : List (List Int) → Nat
  | [] => 0
  | x :: r => x.length + sumLen r
theorem sumLen_take_le (rows : List (List Int)) (j : Nat) : sumLen (rows.take j) ≤ sumLen rows := by
  induction rows generalizing j with
  | nil => simp
  | cons x r ih =>
    cases j with
    | zero => simp [sumLen]
    | succ j => simp only [List.take_succ_cons, sumLen]; have := ih j; omega
theorem sumLen_snoc (rows : List (List Int)) (x : List Int) : sumLen (rows ++ [x]) = sumLen rows + x.length := by
  induction rows with
  | nil => simp [sumLen]
  | cons y r ih => simp only [List.cons_append, sumLen, ih]; omega
theorem sumLen_le {rows : List (List Int)} {m : Nat} (h : ∀ x ∈ rows, x.length ≤ m) : sumLen rows ≤ rows.length * m := by
  induction rows with
  | nil => simp [sumLen]
  | cons x r ih =>
    have h1 := h x (by simp)
    have h2 := ih (fun y hy => h y (by simp [hy]))
    simp only [sumLen, List.length_cons, Nat.add_mul, Nat.one_mul]
    omega

/-! ### Copy -/
def RetRowsCopy (w : World) (rows : List (List Int)) (e : Ending) (w' : World) : Prop :=
  ∃ A n c vs, e = .returned (.slice A n c) ∧ OwnRows w' w.heap.size 26 2 A n c vs rows ∧ sumLen rows ≤ 576460752303423488 ∧ Below w.heap.size w w'

theorem toInt64SS_any (A : Option Addr) (n c : Nat) (rows : List (List Int)) (w : World) (h : RdRows w A n rows) (hn : n ≤ 1048576) (hrow : ∀ x ∈ rows, x.length ≤ 1048576) :
    Calls Try.prog 19 #[.slice A n c] w (RetRowsCopy w rows) := by
  have HN := Lib.hid h.len
  have HROW := Lib.hid hrow; clear hrow
  have hmk := run_make_rows n hn
  have hown := OwnRows.made w w.heap.size 26 2 n (Nat.le_refl _) (by omega)
  have hb0 : Below w.heap.size w (w.alloc (.cells (madeCells #[.slice none 0 0] n) 26)) := (Below.refl _ _).alloc (Nat.le_refl _) _
  go_enter Try.func19, Try.ntmps19
  go_wp2_with fail
  go_loopw [4] (fun i wr => ∃ (k : Nat) (vs : List Value), k ≤ n ∧ i = .int .i64 k ∧ OwnRows wr w.heap.size 26 2 (some ⟨w.heap.size, 0, none⟩) n n vs (rows.take k ++ List.replicate (n - k) []) ∧ Below w.heap.size w wr) (fun i _ => n - (intOf i).toNat)
  case atStart => exact ⟨0, _, Nat.zero_le _, rfl, by simpa using hown, hb0⟩
  case round =>
    obtain ⟨k, vs, hk, rfl, ho, hb⟩ := hrel
    clear hown hb0 hmk
    by_cases hlt : k < n
    · obtain ⟨b, o, A', c', xs, rfl, hx, _, hc, hrd⟩ := (h.below hb).row hlt
      have HX := Lib.hid hx
      have hxl := HROW.out xs (List.mem_of_getElem? hx)
      clear hx
      go_wp2_with fail
      refine (toInt64S_any _ _ _ _ _ hrd hxl).mono ?_
      rintro e w1 ⟨A1, n1, c1, rfl, ho1, hn1, hb1⟩
      have hl1 := own_len ho1
      subst hl1
      have ho' := ho.below hb1
      have hin := ho.in_
      obtain ⟨g, u, hg, hg1, hg2, _, hcy, hfy⟩ := own_at ho'.outer hlt
      obtain rfl : w.heap.size = g := by injection hg with hg; injection hg
      have hlt1 := ho1.lt
      have ho2 := ho'.put (by decide) (k := k) (own_base ho1 hb.size) (fun u hu b hb hb' => by have h1 := hlt1 b hb; have h2 := hin.2 u hu b hb'; omega)
      have hb2 := (hb.trans (hb1.mono hb.size)).setCell (p := ⟨w.heap.size, k, none⟩) (Nat.le_refl _) (.slice A1 xs.length c1)
      clear hg hin hlt1
      go_wp2_with fail
      go_roundw
      case rel => exact ⟨k + 1, _, by omega, by go_num, by rw [← copy_stepG [] rows n k xs HN.out HX.out hlt]; exact ho2, hb2⟩
      case measure => simp [intOf]; omega
    · obtain rfl : k = n := by omega
      go_wp2
      go_ret
      have hsum : sumLen rows ≤ 576460752303423488 := by
        have h1 := sumLen_le HROW.out
        have h2 := Nat.mul_le_mul_right 1048576 hn
        rw [HN.out] at h1
        omega
      refine ⟨_, _, _, vs, rfl, ?_, hsum, hb⟩
      have hl := HN.out
      simpa [← hl] using ho

/-! ### Compare -/
theorem eqInt64SS_any (A A' : Option Addr) (n c n' c' : Nat) (xs ys : List (List Int)) (w : World) (h : RdRows w A n xs) (h' : RdRows w A' n' ys) :
    Calls Try.prog 25 #[.slice A n c, .slice A' n' c'] w fun e w' => e = .returned (.bool (decide (xs = ys))) ∧ Drawn w w' := by
  have HN := Lib.hid h.len
  have HN' := Lib.hid h'.len
  have hm := h.le
  by_cases hl : n = n'
  · subst hl
    go_enter Try.func25, Try.ntmps25
    go_wp2
    go_loopw [5] (fun i wr => ∃ k : Nat, k ≤ n ∧ i = .int .i64 k ∧ Hid (xs = ys ↔ xs.drop k = ys.drop k) ∧ Drawn w wr) (fun i _ => n - (intOf i).toNat)
    case atStart => exact ⟨0, Nat.zero_le _, rfl, Iff.rfl, Drawn.refl _⟩
    case round =>
      obtain ⟨k, hk, rfl, HA, hq⟩ := hrel
      by_cases hlt : k < n
      · obtain ⟨b, o, B, cB, x, rfl, _, hd, hc, hrd⟩ := (h.drawn hq).row hlt
        obtain ⟨b', o', B', cB', x', rfl, _, hd', hc', hrd'⟩ := (h'.drawn hq).row hlt
        have HD := Lib.hid hd; clear hd
        have HD' := Lib.hid hd'; clear hd'
        have hcall := fun q : Nat => eqInt64S_any B B' x.length cB x'.length cB' x x' (wr.drewN q) (hrd.drewN q) (hrd'.drewN q)
        by_cases hxx : x = x'
        · subst hxx
          simp only [decide_true] at hcall
          have HC := Lib.hid hcall; clear hcall
          go_wp2
          go_quiet ((go_at_call 13; exact Calls.quiet_of (HC.out _)))
          go_wp2
          go_roundw
          case rel => exact ⟨k + 1, by omega, by go_num, by unfold Hid; rw [HA.out, HD.out, HD'.out]; simp, hq.step _⟩
          case measure => simp [intOf]; omega
        · rw [decide_eq_false hxx] at hcall
          have HC := Lib.hid hcall; clear hcall
          go_wp2
          go_quiet ((go_at_call 13; exact Calls.quiet_of (HC.out _)))
          go_wp2
          go_ret
          exact ⟨ret_bool (by rw [eq_comm, decide_eq_false_iff_not, HA.out, HD.out, HD'.out]; simp [hxx]), hq.step _⟩
      · obtain rfl : k = n := by omega
        go_wp2
        go_ret
        exact ⟨ret_bool (by rw [eq_comm, decide_eq_true_iff, HA.out, List.drop_eq_nil_of_le (by rw [HN.out]; omega), List.drop_eq_nil_of_le (by rw [HN'.out]; omega)]), hq⟩
  · have hne : ((n : Int) != n') = true := by simp; omega
    go_enter Try.func25, Try.ntmps25
    go_wp2
    go_ret
    exact ⟨ret_bool (by rw [eq_comm, decide_eq_false_iff_not]; rintro rfl; exact hl (HN.out.symm.trans HN'.out)), Drawn.refl _⟩

/-! ### Mark and hold -/
def seqRows (k : Int) : List (List Int) → List (List Int)
  | [] => []
  | x :: r => seqFrom k x.length :: seqRows (k + x.length) r
theorem seqRows_length (k : Int) (rows : List (List Int)) : (seqRows k rows).length = rows.length := by
  induction rows generalizing k with
  | nil => rfl
  | cons x r ih => simp [seqRows, ih]
theorem seqRows_sum (k : Int) (rows : List (List Int)) : sumLen (seqRows k rows) = sumLen rows := by
  induction rows generalizing k with
  | nil => rfl
  | cons x r ih => simp [seqRows, sumLen, ih, seqFrom_length]
theorem seqRows_get (k : Int) (rows : List (List Int)) (j : Nat) (x : List Int) (h : rows[j]? = some x) : (seqRows k rows)[j]? = some (seqFrom (k + sumLen (rows.take j)) x.length) := by
  induction rows generalizing k j with
  | nil => simp at h
  | cons y r ih =>
    cases j with
    | zero => simp at h; subst h; simp [seqRows, sumLen]
    | succ j =>
      simp only [seqRows, List.getElem?_cons_succ, List.take_succ_cons, sumLen]
      rw [ih _ _ (by simpa using h)]
      congr 2
      omega
theorem mix_set {α : Type} (ys xs : List α) (j : Nat) (y : α) (hl : ys.length = xs.length) (hy : ys[j]? = some y) : (ys.take j ++ xs.drop j).set j y = ys.take (j + 1) ++ xs.drop (j + 1) := by
  have hj : j < ys.length := (List.getElem?_eq_some_iff.1 hy).1
  have hj' : j < xs.length := by omega
  rw [List.set_append, if_neg (by simp; omega), take_snoc_get hy, List.drop_eq_getElem_cons hj']
  have e : j - (ys.take j).length = 0 := by simp; omega
  rw [e, List.set_cons_zero, List.append_assoc]
  rfl
theorem mix_get {α : Type} (ys xs : List α) (j : Nat) (hl : ys.length = xs.length) (hj : j < xs.length) : (ys.take j ++ xs.drop j)[j]? = xs[j]? := by
  rw [List.getElem?_append_right (by simp; omega)]
  have e : j - (ys.take j).length = 0 := by simp; omega
  rw [e, List.getElem?_drop]; simp

/-- Result: new rows and a code. -/
def RetR (w : World) (r : List (List Int) × Int) (e : Ending) (w' : World) : Prop :=
  ∃ A n c vs, e = .returned (.tuple #[.slice A n c, .int .i64 r.2]) ∧ OwnRows w' w.heap.size 26 2 A n c vs r.1 ∧ sumLen r.1 ≤ 576460752303423488 ∧ Below w.heap.size w w'
theorem RetR.nil (w w' : World) (code : Int) (h : Below w.heap.size w w') : RetR w ([], code) (.returned (.tuple #[.slice none 0 0, .int .i64 code])) w' :=
  ⟨none, 0, 0, [], rfl, OwnRows.nil _ _ _ _, by simp [sumLen], h⟩

/-- One row is appended to own rows. -/
theorem app_row {ops : Array Oper} {rest : List Oper} {o : Oper} {a : Act} {Q : Exit → Act → World → Prop} (w : World) (hgd : o.guard = none) (s x : Operand)
    (ho : o.op = .call { callee := .builtin .append, args := #[s, x], argTypes := #[22, 22] }) {base n c : Nat} {A : Option Addr} {vs : List Value}
    (hs : a.eval s = .slice A n c) (hown : w.ownsRow base 26 1 (.slice A n c) n vs) {ad : Addr} {B : Option Addr} {m d : Nat} (hx : a.eval x = .slice (some ad) 1 1)
    (hc : w.cell? ad = some (.slice B m d)) (hn : n ≤ 1099511627776) (hbase : base ≤ w.heap.size)
    (h : ∀ A' c' w', w'.ownsRow base 26 1 (.slice A' (n + 1) c') (n + 1) (vs ++ [.slice B m d]) → w.grownBy w' (Value.slice A n c).ownBlock → wpList Try.prog ops Q rest (a.put o.dst (.slice A' (n + 1) c')) w') :
    wpList Try.prog ops Q (o :: rest) a w := by
  obtain ⟨i, hi, hz, hs1, hb1⟩ := info_parts Try.info_ints
  refine wpList_append_own w hgd s x 22 ho base 26 i (.slice none 0 0) 1 24 Try.underlying22 hi hz hs1 hb1 rfl (by decide) (.slice A n c) n vs hs hown ad 1 1 [.slice B m d] hx rfl ?_ ?_ (by unfold maxLen; omega) (by omega) hbase ?_
  · intro j u hu
    have hj : j = 0 := by
      rcases j with _ | j
      · rfl
      · simp at hu
    subst hj
    have hadd : ad.add 0 = ad := by simp [Addr.add]
    rw [hadd, hc]
    simpa using hu
  · intro u hu
    simp at hu
    subst hu
    rfl
  · intro v' w' h1 h2 _
    rcases h1.2 with ⟨rfl, h0⟩ | ⟨g, cap, cur, rfl, _⟩
    · omega
    · exact h _ _ w' h1 h2
theorem eqInt64SS_below (A A' : Option Addr) (n c n' c' : Nat) (xs ys : List (List Int)) (w : World) (h : RdRows w A n xs) (h' : RdRows w A' n' ys) :
    Calls Try.prog 25 #[.slice A n c, .slice A' n' c'] w fun e w' => e = .returned (.bool (decide (xs = ys))) ∧ Below w.heap.size w w' :=
  (eqInt64SS_any A A' n c n' c' xs ys w h h').mono fun _ _ ⟨h1, h2⟩ => ⟨h1, h2.below⟩
end Go.Proofs.Ytalgdeieejpelaa

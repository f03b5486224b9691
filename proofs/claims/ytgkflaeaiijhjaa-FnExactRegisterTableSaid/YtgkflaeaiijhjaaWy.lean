/- Walks: the laws' helpers on [][]int64: size, copy, compare, mark, hold. -/
import Derived.Test.YtgkflaeaiijhjaaZma
namespace Go.Proofs.Ytgkflaeaiijhjaa
open Go.RowKit
set_option linter.unusedVariables false
set_option maxRecDepth 100000

theorem Try.info_ints : (Try.prog.info? 79).map (fun i => (i.zero, i.size, i.bytes)) = some (some (.slice none 0 0), 1, 24) := by kernel_rfl
theorem run_make_rows (n : Nat) (h : n ≤ 1048576) (w : World) :
    (Instr.makeSlice 26 (.int .i64 (n : Int)) (.int .i64 (n : Int))).run Try.prog w = .ok (.slice (some ⟨w.heap.size, 0, none⟩) n n) (w.alloc (.cells (madeCells #[.slice none 0 0] n) 79)) := by
  obtain ⟨i, hi, hz, hs, hb⟩ := info_parts Try.info_ints
  have hr := run_make (P := Try.prog) w 26 79 i (.slice none 0 0) Try.underlying26 hi hz .i64 .i64 n n (by omega) (by omega) (by rw [hb]; omega) (by omega)
  rw [hs, Nat.mul_one, Int.toNat_natCast] at hr
  exact hr

/-! ### Sizes -/
def szF (left : Int) (n : Nat) : Int := if left - n < 0 then -1 else left - n
def szGo (left : Int) : List (List Int) → Int
  | [] => left
  | x :: r => if left - x.length < 0 then -1 else szGo (left - x.length) r
def szRowsF (left : Int) (rows : List (List Int)) : Int := if left - rows.length < 0 then -1 else szGo (left - rows.length) rows
theorem szGo_le {left : Int} {rows : List (List Int)} (h : 0 ≤ szGo left rows) (h0 : 0 ≤ left) : szGo left rows ≤ left ∧ ∀ x ∈ rows, (x.length : Int) ≤ left := by
  induction rows generalizing left with
  | nil => exact ⟨Int.le_refl _, fun x hx => by cases hx⟩
  | cons y r ih =>
    unfold szGo at h ⊢
    split at h
    · omega
    · rename_i hn
      rw [if_neg hn]
      have := ih h (by omega)
      refine ⟨by omega, fun x hx => ?_⟩
      rcases List.mem_cons.1 hx with rfl | hx
      · omega
      · have := this.2 x hx; omega
theorem szRowsF_le {left : Int} {rows : List (List Int)} (h : 0 ≤ szRowsF left rows) (h0 : 0 ≤ left) : (rows.length : Int) ≤ left ∧ ∀ x ∈ rows, (x.length : Int) ≤ left := by
  unfold szRowsF at h
  split at h
  · omega
  · rename_i hn
    have := szGo_le h (by omega)
    exact ⟨by omega, fun x hx => by have := this.2 x hx; omega⟩

/-! ### Lengths together -/
def sumLen : List (List Int) → Nat
  | [] => 0
  | x :: r => x.length + sumLen r
theorem sumLen_take_le (rows : List (List Int)) (j : Nat) : sumLen (rows.take j) ≤ sumLen rows := by
  induction rows generalizing j with
  | nil => simp
  | cons x r ih =>
    cases j with
    | zero => simp [sumLen]
    | succ j => simp only [List.take_succ_cons, sumLen]; have := ih j; omega
theorem sumLen_snoc (rows : List (List Int)) (x : List Int) : sumLen (rows ++ [x]) = sumLen rows + x.length := by
  induction rows with
  | nil => simp [sumLen]
  | cons y r ih => simp only [List.cons_append, sumLen, ih]; omega
theorem sumLen_le {rows : List (List Int)} {m : Nat} (h : ∀ x ∈ rows, x.length ≤ m) : sumLen rows ≤ rows.length * m := by
  induction rows with
  | nil => simp [sumLen]
  | cons x r ih =>
    have h1 := h x (by simp)
    have h2 := ih (fun y hy => h y (by simp [hy]))
    simp only [sumLen, List.length_cons, Nat.add_mul, Nat.one_mul]
    omega

/-! ### Copy -/
def RetRowsCopy (w : World) (rows : List (List Int)) (e : Ending) (w' : World) : Prop :=
  ∃ A n c vs, e = .returned (.slice A n c) ∧ OwnRows w' w.heap.size 79 2 A n c vs rows ∧ sumLen rows ≤ 576460752303423488 ∧ Below w.heap.size w w'

/-! ### Compare -/
theorem eqInt64SS_any (A A' : Option Addr) (n c n' c' : Nat) (xs ys : List (List Int)) (w : World) (h : RdRows w A n xs) (h' : RdRows w A' n' ys) :
    Calls Try.prog 19 #[.slice A n c, .slice A' n' c'] w fun e w' => e = .returned (.bool (decide (xs = ys))) ∧ Drawn w w' := by
  have HN := Lib.hid h.len
  have HN' := Lib.hid h'.len
  have hm := h.le
  by_cases hl : n = n'
  · subst hl
    go_enter Try.func19, Try.ntmps19
    go_wp2
    go_loopw [5] (fun i wr => ∃ k : Nat, k ≤ n ∧ i = .int .i64 k ∧ Hid (xs = ys ↔ xs.drop k = ys.drop k) ∧ Drawn w wr) (fun i _ => n - (intOf i).toNat)
    case atStart => exact ⟨0, Nat.zero_le _, rfl, Iff.rfl, Drawn.refl _⟩
    case round =>
      obtain ⟨k, hk, rfl, HA, hq⟩ := hrel
      by_cases hlt : k < n
      · obtain ⟨b, o, B, cB, x, rfl, _, hd, hc, hrd⟩ := (h.drawn hq).row hlt
        obtain ⟨b', o', B', cB', x', rfl, _, hd', hc', hrd'⟩ := (h'.drawn hq).row hlt
        have HD := Lib.hid hd; clear hd
        have HD' := Lib.hid hd'; clear hd'
        have hcall := fun q : Nat => eqInt64S_any B B' x.length cB x'.length cB' x x' (wr.drewN q) (hrd.drewN q) (hrd'.drewN q)
        by_cases hxx : x = x'
        · subst hxx
          simp only [decide_true] at hcall
          have HC := Lib.hid hcall; clear hcall
          go_wp2
          go_quiet ((go_at_call 47; exact Calls.quiet_of (HC.out _)))
          go_wp2
          go_roundw
          case rel => exact ⟨k + 1, by omega, by go_num, by unfold Hid; rw [HA.out, HD.out, HD'.out]; simp, hq.step _⟩
          case measure => simp [intOf]; omega
        · rw [decide_eq_false hxx] at hcall
          have HC := Lib.hid hcall; clear hcall
          go_wp2
          go_quiet ((go_at_call 47; exact Calls.quiet_of (HC.out _)))
          go_wp2
          go_ret
          exact ⟨ret_bool (by rw [eq_comm, decide_eq_false_iff_not, HA.out, HD.out, HD'.out]; simp [hxx]), hq.step _⟩
      · obtain rfl : k = n := by omega
        go_wp2
        go_ret
        exact ⟨ret_bool (by rw [eq_comm, decide_eq_true_iff, HA.out, List.drop_eq_nil_of_le (by rw [HN.out]; omega), List.drop_eq_nil_of_le (by rw [HN'.out]; omega)]), hq⟩
  · have hne : ((n : Int) != n') = true := by simp; omega
    go_enter Try.func19, Try.ntmps19
    go_wp2
    go_ret
    exact ⟨ret_bool (by rw [eq_comm, decide_eq_false_iff_not]; rintro rfl; exact hl (HN.out.symm.trans HN'.out)), Drawn.refl _⟩

/-! ### Mark and hold -/
def seqRows (k : Int) : List (List Int) → List (List Int)
  | [] => []
  | x :: r => seqFrom k x.length :: seqRows (k + x.length) r
theorem seqRows_length (k : Int) (rows : List (List Int)) : (seqRows k rows).length = rows.length := by
  induction rows generalizing k with
  | nil => rfl
  | cons x r ih => simp [seqRows, ih]
theorem seqRows_sum (k : Int) (rows : List (List Int)) : sumLen (seqRows k rows) = sumLen rows := by
  induction rows generalizing k with
  | nil => rfl
  | cons x r ih => simp [seqRows, sumLen, ih, seqFrom_length]
theorem seqRows_get (k : Int) (rows : List (List Int)) (j : Nat) (x : List Int) (h : rows[j]? = some x) : (seqRows k rows)[j]? = some (seqFrom (k + sumLen (rows.take j)) x.length) := by
  induction rows generalizing k j with
  | nil => simp at h
  | cons y r ih =>
    cases j with
    | zero => simp at h; subst h; simp [seqRows, sumLen]
    | succ j =>
      simp only [seqRows, List.getElem?_cons_succ, List.take_succ_cons, sumLen]
      rw [ih _ _ (by simpa using h)]
      congr 2
      omega
theorem mix_set {α : Type} (ys xs : List α) (j : Nat) (y : α) (hl : ys.length = xs.length) (hy : ys[j]? = some y) : (ys.take j ++ xs.drop j).set j y = ys.take (j + 1) ++ xs.drop (j + 1) := by
  have hj : j < ys.length := (List.getElem?_eq_some_iff.1 hy).1
  have hj' : j < xs.length := by omega
  rw [List.set_append, if_neg (by simp; omega), take_snoc_get hy, List.drop_eq_getElem_cons hj']
  have e : j - (ys.take j).length = 0 := by simp; omega
  rw [e, List.set_cons_zero, List.append_assoc]
  rfl
theorem mix_get {α : Type} (ys xs : List α) (j : Nat) (hl : ys.length = xs.length) (hj : j < xs.length) : (ys.take j ++ xs.drop j)[j]? = xs[j]? := by
  rw [List.getElem?_append_right (by simp; omega)]
  have e : j - (ys.take j).length = 0 := by simp; omega
  rw [e, List.getElem?_drop]; simp

theorem markSS_any (base lo hi : Nat) (A : Option Addr) (n c : Nat) (vs : List Value) (rows : List (List Int)) (k : Int) (w : World) (h : OwnRows w base 79 2 A n c vs rows) (hv : RowsIn lo hi A n c vs)
    (hk0 : 0 ≤ k) (hk1 : k ≤ 576460752303423488) (hs : sumLen rows ≤ 576460752303423488) :
    Calls Try.prog 22 #[.slice A n c, .int .i64 k] w fun e' w' => e' = .returned (.int .i64 (k + sumLen rows)) ∧ OwnRows w' base 79 2 A n c vs (seqRows k rows) ∧ Chg lo hi w w' := by
  have HN := Lib.hid h.len
  have hnle := h.nle
  have HV := Lib.hid hv; clear hv
  go_enter Try.func22, Try.ntmps22
  go_wp2
  go_loopw [1, 5] (fun t i wr => ∃ j : Nat, j ≤ n ∧ i = .int .i64 j ∧ t = .int .i64 (k + (sumLen (rows.take j) : Nat)) ∧ OwnRows wr base 79 2 A n c vs ((seqRows k rows).take j ++ rows.drop j) ∧ Chg lo hi w wr) (fun _ i _ => n - (intOf i).toNat)
  case atStart => exact ⟨0, Nat.zero_le _, rfl, by simp [sumLen], by simpa using h, Chg.refl _ _ _⟩
  case round =>
    obtain ⟨j, hj, rfl, rfl, ho, hg⟩ := hrel
    clear h
    by_cases hlt : j < n
    · obtain ⟨v, A', c', x, hv1, hx1, hd1, he, hox⟩ := ho.get hlt
      obtain ⟨g, u, hA, _, _, hu, hcy, _⟩ := own_at ho.outer hlt
      obtain rfl : v = u := by rw [hv1] at hu; injection hu
      have hxr : rows[j]? = some x := by rw [← mix_get (seqRows k rows) rows j (seqRows_length _ _) (by rw [HN.out]; exact hlt)]; exact hx1
      have hvin := HV.out.2 v (List.mem_of_getElem? hv1)
      have hst := sumLen_take_le rows j
      have hst1 : sumLen (rows.take j) + x.length ≤ sumLen rows := by rw [← sumLen_snoc, ← take_snoc_get hxr]; exact sumLen_take_le _ _
      subst hA
      subst he
      have HX := Lib.hid hxr; have HV1 := Lib.hid hv1; have HX1 := Lib.hid hx1; have HVIN := Lib.hid hvin
      clear hu hxr hv1 hx1 hd1 hvin
      go_wp2_with fail
      refine (markInt64S_any _ _ _ _ _ _ _ _ hox (by omega) (by omega) (by omega)).mono ?_
      rintro e w1 ⟨rfl, ho1, hg1, _⟩
      have ho2 := ho.upd (by decide) HV1.out HX1.out (seqFrom_length (k + (sumLen (rows.take j) : Nat)) x.length) hg1 (by rw [seqFrom_length]; exact ho1)
      rw [mix_set _ rows j _ (seqRows_length _ _) (seqRows_get k rows j x HX.out)] at ho2
      have hg2 := hg.trans (Chg.of_grown hg1 HVIN.out)
      go_wp2_with fail
      go_roundw
      case rel => exact ⟨j + 1, by omega, by go_num, by rw [take_snoc_get HX.out, sumLen_snoc, Int.natCast_add, Int.add_assoc], ho2, hg2⟩
      case measure => simp [intOf]; omega
    · obtain rfl : j = n := by omega
      go_wp2
      go_ret
      refine ⟨ret_int (by rw [List.take_of_length_le (by rw [HN.out]; omega)]), ?_, hg⟩
      rw [List.take_of_length_le (by rw [seqRows_length, HN.out]; omega), List.drop_eq_nil_of_le (by rw [HN.out]; omega), List.append_nil] at ho
      exact ho

theorem heldSS_any (A : Option Addr) (n c : Nat) (rows : List (List Int)) (k : Int) (w : World) (h : RdRows w A n (seqRows k rows)) (hk0 : 0 ≤ k) (hk1 : k ≤ 576460752303423488) (hs : sumLen rows ≤ 576460752303423488) :
    Calls Try.prog 23 #[.slice A n c, .int .i64 k] w fun e w' => e = .returned (.int .i64 (k + sumLen rows)) ∧ w = w' := by
  have HN := Lib.hid ((seqRows_length k rows).symm.trans h.len)
  have hnle := h.le
  go_enter Try.func23, Try.ntmps23
  go_wp2
  go_loop [1, 5] (fun t i => ∃ j : Nat, j ≤ n ∧ i = .int .i64 j ∧ t = .int .i64 (k + (sumLen (rows.take j) : Nat))) (fun _ i => n - (intOf i).toNat)
  case atStart => exact ⟨0, Nat.zero_le _, rfl, by simp [sumLen]⟩
  case round =>
    obtain ⟨j, hj, rfl, rfl⟩ := hrel
    by_cases hlt : j < n
    · obtain ⟨b, o, A', c', z, rfl, hz, _, hc, hrd⟩ := h.row hlt
      obtain ⟨x, hx, _⟩ := drop_cons (xs := rows) (k := j) (by rw [HN.out]; exact hlt)
      have hz' := seqRows_get k rows j x hx
      rw [hz] at hz'
      injection hz' with hz'
      have hst1 : sumLen (rows.take j) + x.length ≤ sumLen rows := by rw [← sumLen_snoc, ← take_snoc_get hx]; exact sumLen_take_le _ _
      have hzl : z.length = x.length := by rw [hz', seqFrom_length]
      rw [hzl] at hrd hc
      rw [hz'] at hrd
      have HX := Lib.hid hx
      clear hz hz' hzl hx
      go_wp2_with fail
      refine (heldSeq_any _ _ _ _ _ hrd (by omega) (by omega) (by omega)).mono ?_
      rintro e w' ⟨rfl, rfl⟩
      go_wp2_with fail
      go_round
      case rel => exact ⟨j + 1, by omega, by go_num, by rw [take_snoc_get HX.out, sumLen_snoc, Int.natCast_add, Int.add_assoc]⟩
      case measure => simp [intOf]; omega
    · obtain rfl : j = n := by omega
      go_wp2
      go_ret
      exact ⟨ret_int (by rw [List.take_of_length_le (by rw [HN.out]; omega)]), rfl⟩

/-- Result: new rows and a code. -/
def RetR (w : World) (r : List (List Int) × Int) (e : Ending) (w' : World) : Prop :=
  ∃ A n c vs, e = .returned (.tuple #[.slice A n c, .int .i64 r.2]) ∧ OwnRows w' w.heap.size 79 2 A n c vs r.1 ∧ sumLen r.1 ≤ 576460752303423488 ∧ Below w.heap.size w w'
theorem RetR.nil (w w' : World) (code : Int) (h : Below w.heap.size w w') : RetR w ([], code) (.returned (.tuple #[.slice none 0 0, .int .i64 code])) w' :=
  ⟨none, 0, 0, [], rfl, OwnRows.nil _ _ _ _, by simp [sumLen], h⟩

/-- One row is appended to own rows. -/
theorem app_row {ops : Array Oper} {rest : List Oper} {o : Oper} {a : Act} {Q : Exit → Act → World → Prop} (w : World) (hgd : o.guard = none) (s x : Operand)
    (ho : o.op = .call { callee := .builtin .append, args := #[s, x], argTypes := #[26, 26] }) {base n c : Nat} {A : Option Addr} {vs : List Value}
    (hs : a.eval s = .slice A n c) (hown : w.ownsRow base 79 1 (.slice A n c) n vs) {ad : Addr} {B : Option Addr} {m d : Nat} (hx : a.eval x = .slice (some ad) 1 1)
    (hc : w.cell? ad = some (.slice B m d)) (hn : n ≤ 1099511627776) (hbase : base ≤ w.heap.size)
    (h : ∀ A' c' w', w'.ownsRow base 79 1 (.slice A' (n + 1) c') (n + 1) (vs ++ [.slice B m d]) → w.grownBy w' (Value.slice A n c).ownBlock → wpList Try.prog ops Q rest (a.put o.dst (.slice A' (n + 1) c')) w') :
    wpList Try.prog ops Q (o :: rest) a w := by
  obtain ⟨i, hi, hz, hs1, hb1⟩ := info_parts Try.info_ints
  refine wpList_append_own w hgd s x 26 ho base 79 i (.slice none 0 0) 1 24 Try.underlying26 hi hz hs1 hb1 rfl (by decide) (.slice A n c) n vs hs hown ad 1 1 [.slice B m d] hx rfl ?_ ?_ (by unfold maxLen; omega) (by omega) hbase ?_
  · intro j u hu
    have hj : j = 0 := by
      rcases j with _ | j
      · rfl
      · simp at hu
    subst hj
    have hadd : ad.add 0 = ad := by simp [Addr.add]
    rw [hadd, hc]
    simpa using hu
  · intro u hu
    simp at hu
    subst hu
    rfl
  · intro v' w' h1 h2 _
    rcases h1.2 with ⟨rfl, h0⟩ | ⟨g, cap, cur, rfl, _⟩
    · omega
    · exact h _ _ w' h1 h2
theorem eqInt64SS_below (A A' : Option Addr) (n c n' c' : Nat) (xs ys : List (List Int)) (w : World) (h : RdRows w A n xs) (h' : RdRows w A' n' ys) :
    Calls Try.prog 19 #[.slice A n c, .slice A' n' c'] w fun e w' => e = .returned (.bool (decide (xs = ys))) ∧ Below w.heap.size w w' :=
  (eqInt64SS_any A A' n c n' c' xs ys w h h').mono fun _ _ ⟨h1, h2⟩ => ⟨h1, h2.below⟩
end Go.Proofs.Ytgkflaeaiijhjaa

/- Walks: the laws' helpers on []int64: copy, compare, mark, hold. -/
import Derived.Test.YtalgdeieejpelaaLib
namespace Go.Proofs.Ytalgdeieejpelaa
open Go.RowKit
set_option linter.unusedVariables false

theorem Try.info_i64 : (Try.prog.info? 2).map (fun i => (i.zero, i.size, i.bytes)) = some (some (.int .i64 0), 1, 8) := by kernel_rfl

theorem run_make_i64 (n : Nat) (h : n ≤ 1048576) (w : World) :
    (Instr.makeSlice 26 (.int .i64 (n : Int)) (.int .i64 (n : Int))).run Try.prog w = .ok (.slice (some ⟨w.heap.size, 0, none⟩) n n) (w.alloc (.cells (madeCells #[.int .i64 0] n) 2)) := by
  obtain ⟨i, hi, hz, hs, hb⟩ := info_parts Try.info_i64
  have hr := run_make (P := Try.prog) w 26 2 i (.int .i64 0) Try.underlying26 hi hz .i64 .i64 n n (by omega) (by omega) (by rw [hb]; omega) (by omega)
  rw [hs, Nat.mul_one, Int.toNat_natCast] at hr
  exact hr

/-- The copy of a slice: what it returns. -/
def RetCopy (w : World) (xs : List Int) (e : Ending) (w' : World) : Prop :=
  ∃ A n c, e = .returned (.slice A n c) ∧ w'.ownsRow w.heap.size 2 1 (.slice A n c) n (ints xs) ∧ n ≤ 1048576 ∧ Below w.heap.size w w'

theorem toInt64S_any (A : Option Addr) (n c : Nat) (xs : List Int) (w : World) (h : Rd w 1 A n (ints xs)) (hn : n ≤ 1048576) :
    Calls Try.prog 9 #[.slice A n c] w (RetCopy w xs) := by
  have HN := Lib.hid h.len_int
  have hmk := run_make_i64 n hn
  have hown := own_made w w.heap.size 2 n (.int .i64 0) (Nat.le_refl _) (by omega)
  rw [← ints_replicate] at hown
  have hb0 : Below w.heap.size w (w.alloc (.cells (madeCells #[.int .i64 0] n) 2)) := (Below.refl _ _).alloc (Nat.le_refl _) _
  go_enter Try.func9, Try.ntmps9
  go_wp2
  go_loopw [4] (fun i wr => ∃ k : Nat, k ≤ n ∧ i = .int .i64 k ∧ wr.ownsRow w.heap.size 2 1 (.slice (some ⟨w.heap.size, 0, none⟩) n n) n (ints (xs.take k ++ List.replicate (n - k) 0)) ∧ Below w.heap.size w wr) (fun i _ => n - (intOf i).toNat)
  case atStart => exact ⟨0, Nat.zero_le _, rfl, by simpa using hown, hb0⟩
  case round =>
    obtain ⟨k, hk, rfl, ho, hb⟩ := hrel
    clear hown hb0 hmk
    by_cases hlt : k < n
    · obtain ⟨b, o, x, rfl, hx, hd, hc⟩ := (h.below hb).int hlt
      have HX := Lib.hid hx; clear hx hd
      obtain ⟨g, y, hg, hg1, hg2, hy, hcy, hfy⟩ := own_int_at ho hlt
      obtain rfl : w.heap.size = g := by injection hg with hg; injection hg
      have ho' := own_set (k := k) ho x
      have hb' := hb.setCell (p := ⟨w.heap.size, k, none⟩) (Nat.le_refl _) (.int .i64 x)
      clear hy hg
      go_wp2
      go_roundw
      case rel =>
        refine ⟨k + 1, by omega, by go_num, ?_, hb'⟩
        rw [← copy_step xs n k x HN.out HX.out hlt]
        exact ho'
      case measure => simp [intOf]; omega
    · obtain rfl : k = n := by omega
      go_wp2
      go_ret
      refine ⟨_, _, _, rfl, ?_, hn, hb⟩
      have hl := HN.out
      simpa [← hl] using ho

theorem eqInt64S_any (A A' : Option Addr) (n c n' c' : Nat) (xs ys : List Int) (w : World) (h : Rd w 1 A n (ints xs)) (h' : Rd w 1 A' n' (ints ys)) :
    Calls Try.prog 13 #[.slice A n c, .slice A' n' c'] w fun e w' => e = .returned (.bool (decide (xs = ys))) ∧ ∃ q, w' = w.drewN q := by
  have HN := Lib.hid h.len_int
  have HN' := Lib.hid h'.len_int
  have hm := h.le
  by_cases hl : n = n'
  · subst hl
    go_enter Try.func13, Try.ntmps13
    go_wp2
    go_loopw [5] (fun i wr => ∃ k : Nat, k ≤ n ∧ i = .int .i64 k ∧ (xs = ys ↔ xs.drop k = ys.drop k) ∧ ∃ q, wr = w.drewN q) (fun i _ => n - (intOf i).toNat)
    case atStart => exact ⟨0, Nat.zero_le _, rfl, by simp, 0, rfl⟩
    case round =>
      obtain ⟨k, hk, rfl, hall, q, rfl⟩ := hrel
      have HA := Lib.hid hall; clear hall
      by_cases hlt : k < n
      · obtain ⟨b, o, x, rfl, hx, hd, hc⟩ := h.int hlt
        obtain ⟨b', o', x', rfl, hx', hd', hc'⟩ := h'.int hlt
        clear hx hx'
        have HD := Lib.hid hd; clear hd
        have HD' := Lib.hid hd'; clear hd'
        by_cases hxx : x = x'
        · subst hxx
          go_wp2
          go_quiet (fail)
          go_wp2
          go_roundw
          case rel => exact ⟨k + 1, by omega, by go_num, by rw [HA.out, HD.out, HD'.out]; simp, _, rfl⟩
          case measure => simp [intOf]; omega
        · have hne : (x != x') = true := by simp [hxx]
          go_wp2
          go_quiet (fail)
          go_wp2
          go_ret
          exact ⟨ret_bool (by rw [eq_comm, decide_eq_false_iff_not, HA.out, HD.out, HD'.out]; simp [hxx]), _, World.drewN_drewN _ _ _⟩
      · obtain rfl : k = n := by omega
        go_wp2
        go_ret
        exact ⟨ret_bool (by rw [eq_comm, decide_eq_true_iff, HA.out, List.drop_eq_nil_of_le (by rw [HN.out]; omega), List.drop_eq_nil_of_le (by rw [HN'.out]; omega)]), _, rfl⟩
  · have hne : ((n : Int) != n') = true := by simp; omega
    go_enter Try.func13, Try.ntmps13
    go_wp2
    go_ret
    exact ⟨ret_bool (by rw [eq_comm, decide_eq_false_iff_not]; rintro rfl; exact hl (HN.out.symm.trans HN'.out)), 0, rfl⟩

/-- marking: the slice holds k, k+1, .. -/
def seqFrom (k : Int) : Nat → List Int
  | 0 => []
  | n + 1 => k :: seqFrom (k + 1) n
theorem seqFrom_length (k : Int) (n : Nat) : (seqFrom k n).length = n := by
  induction n generalizing k with
  | zero => rfl
  | succ n ih => simp [seqFrom, ih]
theorem seqFrom_get (k : Int) (n i : Nat) (h : i < n) : (seqFrom k n)[i]? = some (k + i) := by
  induction n generalizing k i with
  | zero => omega
  | succ n ih =>
    cases i with
    | zero => simp [seqFrom]
    | succ i => simp only [seqFrom, List.getElem?_cons_succ]; rw [ih _ _ (by omega)]; simp; omega

theorem seqFrom_snoc (k : Int) (j : Nat) : seqFrom k (j + 1) = seqFrom k j ++ [k + j] := by
  induction j generalizing k with
  | zero => simp [seqFrom]
  | succ j ih => rw [seqFrom, ih, seqFrom]; simp; omega
theorem seq_step (k : Int) (j : Nat) (xs : List Int) (h : j < xs.length) : (seqFrom k j ++ xs.drop j).set j (k + j) = seqFrom k (j + 1) ++ xs.drop (j + 1) := by
  rw [List.set_append, if_neg (by simp [seqFrom_length]), seqFrom_snoc, List.drop_eq_getElem_cons h, seqFrom_length, Nat.sub_self, List.set_cons_zero, List.append_assoc]
  rfl
/-- Held: are the marks still there? -/
def heldF (k : Int) : List Int → Int
  | [] => k
  | x :: r => if x = k then heldF (k + 1) r else -1
theorem heldF_seq (k : Int) (n : Nat) : heldF k (seqFrom k n) = k + n := by
  induction n generalizing k with
  | zero => simp [seqFrom, heldF]
  | succ n ih => simp only [seqFrom, heldF, if_true]; rw [ih]; omega

/-- One number is appended to an own row. -/
theorem app_i64 {ops : Array Oper} {rest : List Oper} {o : Oper} {a : Act} {Q : Exit → Act → World → Prop} (w : World) (hgd : o.guard = none) (s x : Operand)
    (ho : o.op = .call { callee := .builtin .append, args := #[s, x], argTypes := #[26, 26] }) {base n c : Nat} {A : Option Addr} {xs : List Int}
    (hs : a.eval s = .slice A n c) (hown : w.ownsRow base 2 1 (.slice A n c) n (ints xs)) {ad : Addr} {x0 : Int} (hx : a.eval x = .slice (some ad) 1 1)
    (hc : w.cell? ad = some (.int .i64 x0)) (hn : n ≤ 1099511627776) (hbase : base ≤ w.heap.size)
    (h : ∀ A' c' w', w'.ownsRow base 2 1 (.slice A' (n + 1) c') (n + 1) (ints (xs ++ [x0])) → w.grownBy w' (Value.slice A n c).ownBlock → wpList Try.prog ops Q rest (a.put o.dst (.slice A' (n + 1) c')) w') :
    wpList Try.prog ops Q (o :: rest) a w := by
  obtain ⟨i, hi, hz, hs1, hb1⟩ := info_parts Try.info_i64
  refine wpList_append_own w hgd s x 26 ho base 2 i (.int .i64 0) 1 8 Try.underlying26 hi hz hs1 hb1 rfl (by decide) (.slice A n c) n (ints xs) hs hown ad 1 1 [.int .i64 x0] hx rfl ?_ ?_ (by unfold maxLen; omega) (by omega) hbase ?_
  · intro j u hu
    have hj : j = 0 := by
      rcases j with _ | j
      · rfl
      · simp at hu
    subst hj
    have hadd : ad.add 0 = ad := by simp [Addr.add]
    rw [hadd, hc]
    simpa using hu
  · intro u hu
    simp at hu
    subst hu
    rfl
  · intro v' w' h1 h2 _
    rcases h1.2 with ⟨rfl, h0⟩ | ⟨g, cap, cur, rfl, _⟩
    · omega
    · refine h _ _ w' ?_ h2
      rw [ints_append]
      exact h1
theorem below_app {B base n c e : Nat} {w wr w1 : World} {A : Option Addr} {xs : List Value} {o : Obj} (hb : Below B w wr) (hB : B ≤ wr.heap.size) (hbase : B ≤ base) (hown : wr.ownsRow base e 1 (.slice A n c) n xs)
    (hg : (wr.alloc o).grownBy w1 (Value.slice A n c).ownBlock) : Below B w w1 :=
  (hb.alloc hB o).grown hg (by simp; omega) (fun k hk => Nat.le_trans hbase (hown.lt k hk).1)
theorem eqInt64S_below (A A' : Option Addr) (n c n' c' : Nat) (xs ys : List Int) (w : World) (h : Rd w 1 A n (ints xs)) (h' : Rd w 1 A' n' (ints ys)) :
    Calls Try.prog 13 #[.slice A n c, .slice A' n' c'] w fun e w' => e = .returned (.bool (decide (xs = ys))) ∧ Below w.heap.size w w' :=
  (eqInt64S_any A A' n c n' c' xs ys w h h').mono fun _ _ ⟨h1, q, h2⟩ => ⟨h1, by rw [h2]; exact below_drewN' _ _ _⟩
/-- Result: new integers and a code. -/
def RetI (w : World) (r : List Int × Int) (e : Ending) (w' : World) : Prop :=
  ∃ A n c, e = .returned (.tuple #[.slice A n c, .int .i64 r.2]) ∧ w'.ownsRow w.heap.size 2 1 (.slice A n c) n (ints r.1) ∧ n ≤ 1048576 ∧ Below w.heap.size w w'
theorem RetI.nil (w w' : World) (code : Int) (h : Below w.heap.size w w') : RetI w ([], code) (.returned (.tuple #[.slice none 0 0, .int .i64 code])) w' :=
  ⟨none, 0, 0, rfl, World.ownsRow_nil _ _ _ _, by omega, h⟩

end Go.Proofs.Ytalgdeieejpelaa

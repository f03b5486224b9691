/- Walks: the laws' helpers on slices of races and on series: compare, mark, held. -/
import Derived.Test.YtdldcjnidajmpaaSr
import Derived.Test.YtdldcjnidajmpaaRa
import Derived.StillTailTactics
namespace Go.Proofs.Ytdldcjnidajmpaa
open Go.RowKit
set_option linter.unusedVariables false
set_option maxRecDepth 100000

theorem mixr_set {α : Type} (ys xs : List α) (j : Nat) (y : α) (hl : ys.length = xs.length) (hy : ys[j]? = some y) : (ys.take j ++ xs.drop j).set j y = ys.take (j + 1) ++ xs.drop (j + 1) := by
  have hj : j < ys.length := (List.getElem?_eq_some_iff.1 hy).1
  have hj' : j < xs.length := by omega
  rw [List.set_append, if_neg (by simp; omega), take_snoc_get hy, List.drop_eq_getElem_cons hj']
  have e : j - (ys.take j).length = 0 := by simp; omega
  rw [e, List.set_cons_zero, List.append_assoc]
  rfl
theorem mixr_get {α : Type} (ys xs : List α) (j : Nat) (hl : ys.length = xs.length) (hj : j < xs.length) : (ys.take j ++ xs.drop j)[j]? = xs[j]? := by
  rw [List.getElem?_append_right (by simp; omega)]
  have e : j - (ys.take j).length = 0 := by simp; omega
  rw [e, List.getElem?_drop]; simp
/-- All numbers of all races. -/
def raceSum : List (List FinishT) → Nat
  | [] => 0
  | x :: r => 3 * x.length + raceSum r
theorem raceSum_take_le (rows : List (List FinishT)) (j : Nat) : raceSum (rows.take j) ≤ raceSum rows := by
  induction rows generalizing j with
  | nil => simp
  | cons x r ih =>
    cases j with
    | zero => simp [raceSum]
    | succ j => simp only [List.take_succ_cons, raceSum]; have := ih j; omega
theorem raceSum_snoc (rows : List (List FinishT)) (x : List FinishT) : raceSum (rows ++ [x]) = raceSum rows + 3 * x.length := by
  induction rows with
  | nil => simp [raceSum]
  | cons y r ih => simp only [List.cons_append, raceSum, ih]; omega
def seqRaces (k : Int) : List (List FinishT) → List (List FinishT)
  | [] => []
  | x :: r => seqfin k x.length :: seqRaces (k + 3 * x.length) r
theorem seqRaces_length (k : Int) (rows : List (List FinishT)) : (seqRaces k rows).length = rows.length := by
  induction rows generalizing k with
  | nil => rfl
  | cons x r ih => simp [seqRaces, ih]
theorem seqRaces_get (k : Int) (rows : List (List FinishT)) (j : Nat) (x : List FinishT) (h : rows[j]? = some x) : (seqRaces k rows)[j]? = some (seqfin (k + raceSum (rows.take j)) x.length) := by
  induction rows generalizing k j with
  | nil => simp at h
  | cons y r ih =>
    cases j with
    | zero => simp at h; subst h; simp [seqRaces, raceSum]
    | succ j =>
      simp only [seqRaces, List.getElem?_cons_succ, List.take_succ_cons, raceSum]
      rw [ih _ _ (by simpa using h)]
      congr 2
      omega
/-- Equal races compare as equal. -/
theorem eqRaceS_same (A A' : Option Addr) (n c n' c' : Nat) (xs : List (List FinishT)) (w : World) (h : RdRaces w A n xs) (h' : RdRaces w A' n' xs) :
    Calls Try.prog 110 #[.slice A n c, .slice A' n' c'] w fun e w' => e = .returned (.bool true) ∧ Below w.heap.size w w' := by
  obtain rfl : n = n' := h.len.symm.trans h'.len
  have hm := h.le
  have H := Lib.hid (fun w' (hb : Below w.heap.size w w') => h.below hb)
  have H' := Lib.hid (fun w' (hb : Below w.heap.size w w') => h'.below hb)
  clear h h'
  go_enter Try.func110, Try.ntmps110
  go_wp2_with fail
  go_loopw [5] (fun i wr => ∃ k : Nat, k ≤ n ∧ i = .int .i64 k ∧ Hid (Below w.heap.size w wr)) (fun i _ => n - (intOf i).toNat)
  case atStart => exact ⟨0, Nat.zero_le _, rfl, Lib.hid (Below.refl _ _)⟩
  case round =>
    obtain ⟨k, hk, rfl, HB⟩ := hrel
    by_cases hlt : k < n
    · obtain ⟨b, o, B, cB, x, rfl, hx, _, hc, hrd⟩ := (H.out _ HB.out).row hlt
      obtain ⟨b', o', B', cB', x', rfl, hx', _, hc', hrd'⟩ := (H'.out _ HB.out).row hlt
      obtain rfl : x = x' := by rw [hx] at hx'; injection hx'
      have HQ := Lib.hid (fun w' (hb : Below wr.heap.size wr w') => eqRace_any B x.length cB B' x.length cB' x w' (hrd.below hb) (hrd'.below hb))
      clear hx hx' hrd hrd'
      go_wp2_with fail
      go_still_tail 8, (by kernel_rfl)
      go_wp2_with fail
      refine (HQ.out _ (below_drewN' _ wr 1)).mono ?_
      rintro e w2 ⟨rfl, hb2⟩
      have HB2 := Lib.hid ((HB.out.trans ((below_drewN' wr.heap.size wr 1).mono HB.out.size)).trans (hb2.mono HB.out.size))
      clear hb2 HB hc hc'
      go_wp2_with fail
      go_roundw
      case rel => exact ⟨k + 1, by omega, by go_num, HB2⟩
      case measure => simp [intOf] <;> omega
    · obtain rfl : k = n := by omega
      go_wp2_with fail
      go_ret
      exact ⟨rfl, HB.out⟩
theorem markRaceS_any (base lo hi : Nat) (A : Option Addr) (n c : Nat) (vs : List Value) (rows : List (List FinishT)) (k : Int) (w : World) (h : OwnRaces w base 31 88 A n c vs rows) (hv : RowsIn lo hi A n c vs)
    (hk0 : 0 ≤ k) (hk1 : k ≤ 549755813888) (hs : raceSum rows ≤ 1048576) :
    Calls Try.prog 111 #[.slice A n c, .int .i64 k] w fun e' w' => e' = .returned (.int .i64 (k + raceSum rows)) ∧ OwnRaces w' base 31 88 A n c vs (seqRaces k rows) ∧ Chg lo hi w w' := by
  have HN := Lib.hid h.len
  have hnle := h.nle
  have HV := Lib.hid hv; clear hv
  go_enter Try.func111, Try.ntmps111
  go_wp2
  go_loopw [1, 5] (fun t i wr => ∃ j : Nat, j ≤ n ∧ i = .int .i64 j ∧ t = .int .i64 (k + (raceSum (rows.take j) : Nat)) ∧ OwnRaces wr base 31 88 A n c vs ((seqRaces k rows).take j ++ rows.drop j) ∧ Chg lo hi w wr) (fun _ i _ => n - (intOf i).toNat)
  case atStart => exact ⟨0, Nat.zero_le _, rfl, by simp [raceSum], by simpa using h, Chg.refl _ _ _⟩
  case round =>
    obtain ⟨j, hj, rfl, rfl, ho, hg⟩ := hrel
    clear h
    by_cases hlt : j < n
    · obtain ⟨v, A', c', x, hv1, hx1, hd1, he, hox⟩ := ho.get hlt
      obtain ⟨g, u, hA, _, _, hu, hcy, _⟩ := own_at ho.outer hlt
      obtain rfl : v = u := by rw [hv1] at hu; injection hu
      have hxr : rows[j]? = some x := by rw [← mixr_get (seqRaces k rows) rows j (seqRaces_length _ _) (by rw [HN.out]; exact hlt)]; exact hx1
      have hvin := HV.out.2 v (List.mem_of_getElem? hv1)
      have hst := raceSum_take_le rows j
      have hst1 : raceSum (rows.take j) + 3 * x.length ≤ raceSum rows := by rw [← raceSum_snoc, ← take_snoc_get hxr]; exact raceSum_take_le _ _
      subst hA
      subst he
      have HX := Lib.hid hxr; have HV1 := Lib.hid hv1; have HX1 := Lib.hid hx1; have HVIN := Lib.hid hvin
      clear hu hxr hv1 hx1 hd1 hvin
      go_wp2_with fail
      refine (markFinishS_seq _ _ _ _ _ _ _ _ hox (by omega) (by omega) (by omega)).mono ?_
      rintro e w1 ⟨rfl, ho1, hg1⟩
      have ho2 := ho.upd (by decide) HV1.out HX1.out (seqfin_len (k + (raceSum (rows.take j) : Nat)) x.length) hg1 (by rw [seqfin_len]; exact ho1)
      rw [mixr_set _ rows j _ (seqRaces_length _ _) (seqRaces_get k rows j x HX.out)] at ho2
      have hg2 := hg.trans (Chg.of_grown hg1 HVIN.out)
      go_wp2_with fail
      go_roundw
      case rel => exact ⟨j + 1, by omega, by go_num, by rw [take_snoc_get HX.out, raceSum_snoc, Int.natCast_add, Int.natCast_mul, Int.add_assoc]; rfl, ho2, hg2⟩
      case measure => simp [intOf]; omega
    · obtain rfl : j = n := by omega
      go_wp2
      go_ret
      refine ⟨ret_int (by rw [List.take_of_length_le (by rw [HN.out]; omega)]), ?_, hg⟩
      rw [List.take_of_length_le (by rw [seqRaces_length, HN.out]; omega), List.drop_eq_nil_of_le (by rw [HN.out]; omega), List.append_nil] at ho
      exact ho
theorem heldRaceS_any (A : Option Addr) (n c : Nat) (rows : List (List FinishT)) (k : Int) (w : World) (h : RdRaces w A n (seqRaces k rows)) (hk0 : 0 ≤ k) (hk1 : k ≤ 549755813888) (hs : raceSum rows ≤ 1048576) :
    Calls Try.prog 112 #[.slice A n c, .int .i64 k] w fun e w' => e = .returned (.int .i64 (k + raceSum rows)) ∧ w = w' := by
  have HN := Lib.hid ((seqRaces_length k rows).symm.trans h.len)
  have hnle := h.le
  go_enter Try.func112, Try.ntmps112
  go_wp2
  go_loop [1, 5] (fun t i => ∃ j : Nat, j ≤ n ∧ i = .int .i64 j ∧ t = .int .i64 (k + (raceSum (rows.take j) : Nat))) (fun _ i => n - (intOf i).toNat)
  case atStart => exact ⟨0, Nat.zero_le _, rfl, by simp [raceSum]⟩
  case round =>
    obtain ⟨j, hj, rfl, rfl⟩ := hrel
    by_cases hlt : j < n
    · obtain ⟨b, o, A', c', z, rfl, hz, _, hc, hrd⟩ := h.row hlt
      obtain ⟨x, hx, _⟩ := drop_cons (xs := rows) (k := j) (by rw [HN.out]; exact hlt)
      have hz' := seqRaces_get k rows j x hx
      rw [hz] at hz'
      injection hz' with hz'
      have hst1 : raceSum (rows.take j) + 3 * x.length ≤ raceSum rows := by rw [← raceSum_snoc, ← take_snoc_get hx]; exact raceSum_take_le _ _
      have hzl : z.length = x.length := by rw [hz', seqfin_len]
      rw [hzl] at hrd hc
      rw [hz'] at hrd
      have HX := Lib.hid hx
      clear hz hz' hzl hx
      go_wp2_with fail
      refine (heldFinishS_any _ _ _ _ _ hrd (by omega) (by omega) (by omega)).mono ?_
      rintro e w' ⟨rfl, rfl⟩
      go_wp2_with fail
      go_round
      case rel => exact ⟨j + 1, by omega, by go_num, by rw [take_snoc_get HX.out, raceSum_snoc, Int.natCast_add, Int.natCast_mul, Int.add_assoc]; rfl⟩
      case measure => simp [intOf]; omega
    · obtain rfl : j = n := by omega
      go_wp2
      go_ret
      exact ⟨ret_int (by rw [List.take_of_length_le (by rw [HN.out]; omega)]), rfl⟩
/-! ### Series -/
/-- A new series and a code. -/
def RetSer (w : World) (b s : Int) (rows : List (List FinishT)) (code : Int) (e : Ending) (w' : World) : Prop :=
  ∃ A n c vs, e = .returned (.tuple #[.agg #[.int .i64 b, .int .i64 s, .slice A n c], .int .i64 code]) ∧ OwnRaces w' w.heap.size 31 88 A n c vs rows ∧ raceSum rows ≤ 1048576 ∧ Below w.heap.size w w'
/-- A new series. -/
def RetSer1 (w : World) (b s : Int) (rows : List (List FinishT)) (e : Ending) (w' : World) : Prop :=
  ∃ A n c vs, e = .returned (.agg #[.int .i64 b, .int .i64 s, .slice A n c]) ∧ OwnRaces w' w.heap.size 31 88 A n c vs rows ∧ raceSum rows ≤ 1048576 ∧ Below w.heap.size w w'
theorem eqSeries_any (b s : Int) (A : Option Addr) (n c : Nat) (A' : Option Addr) (n' c' : Nat) (xs : List (List FinishT)) (w : World) (h : RdRaces w A n xs) (h' : RdRaces w A' n' xs) :
    Calls Try.prog 52 #[.agg #[.int .i64 b, .int .i64 s, .slice A n c], .agg #[.int .i64 b, .int .i64 s, .slice A' n' c']] w fun e w' => e = .returned (.bool true) ∧ Below w.heap.size w w' := by
  have HC := Lib.hid (fun w' (hb : Below w.heap.size w w') => eqRaceS_same A A' n c n' c' xs w' (h.below hb) (h'.below hb))
  clear h h'
  obtain ⟨w1, hw1, X0, X1, hb1, hs1⟩ := two_boxes w #[.int .i64 b, .int .i64 s, .slice A n c] #[.int .i64 b, .int .i64 s, .slice A' n' c'] 73 73
  go_enter Try.func52, Try.ntmps52
  go_wp2_with fail
  rw [← hw1]
  clear hw1
  refine (HC.out _ hb1).mono ?_
  rintro e w2 ⟨rfl, hb2⟩
  have HB2 := Lib.hid (hb1.trans (hb2.mono hb1.size))
  clear hb2 X0 X1
  go_wp2_with fail
  go_ret
  exact ⟨rfl, HB2.out⟩
theorem markSeries_any (base lo hi : Nat) (b s : Int) (A : Option Addr) (n c : Nat) (vs : List Value) (rows : List (List FinishT)) (k : Int) (w : World) (h : OwnRaces w base 31 88 A n c vs rows) (hv : RowsIn lo hi A n c vs)
    (hk0 : 0 ≤ k) (hk1 : k ≤ 549755813888) (hs : raceSum rows ≤ 1048576) :
    Calls Try.prog 53 #[.agg #[.int .i64 b, .int .i64 s, .slice A n c], .int .i64 k] w fun e' w' => e' = .returned (.int .i64 (k + raceSum rows)) ∧ OwnRaces w' base 31 88 A n c vs (seqRaces k rows) ∧ Chg lo hi w w' := by
  obtain ⟨w1, hw1, X0, hb1, hs1⟩ := one_box w #[.int .i64 b, .int .i64 s, .slice A n c] 73
  have HC := Lib.hid (markRaceS_any base lo hi A n c vs rows k w1 (h.below hb1) hv hk0 hk1 hs)
  clear h hv
  go_enter Try.func53, Try.ntmps53
  go_wp2_with fail
  rw [← hw1]
  clear hw1
  refine HC.out.mono ?_
  rintro e w2 ⟨rfl, ho2, hc2⟩
  have HC2 := Lib.hid ((Chg.of_below (lo := lo) (hi := hi) hb1).trans hc2)
  have HO2 := Lib.hid ho2
  clear hc2 ho2
  go_wp2_with fail
  go_ret
  exact ⟨rfl, HO2.out, HC2.out⟩
theorem heldSeries_any (b s : Int) (A : Option Addr) (n c : Nat) (rows : List (List FinishT)) (k : Int) (w : World) (h : RdRaces w A n (seqRaces k rows)) (hk0 : 0 ≤ k) (hk1 : k ≤ 549755813888) (hs : raceSum rows ≤ 1048576) :
    Calls Try.prog 54 #[.agg #[.int .i64 b, .int .i64 s, .slice A n c], .int .i64 k] w fun e' w' => e' = .returned (.int .i64 (k + raceSum rows)) ∧ Below w.heap.size w w' := by
  obtain ⟨w1, hw1, X0, hb1, hs1⟩ := one_box w #[.int .i64 b, .int .i64 s, .slice A n c] 73
  have HC := Lib.hid (heldRaceS_any A n c rows k w1 (h.below hb1) hk0 hk1 hs)
  have HB1 := Lib.hid hb1
  clear h hb1
  go_enter Try.func54, Try.ntmps54
  go_wp2_with fail
  rw [← hw1]
  clear hw1
  refine HC.out.mono ?_
  rintro e w2 ⟨rfl, rfl⟩
  go_wp2_with fail
  go_ret
  exact ⟨rfl, HB1.out⟩
end Go.Proofs.Ytdldcjnidajmpaa

/- General and plain lemmas, and light walks (merged): Th Ti. -/
import Derived.Test.YtmgkoldipchljaaTf
import Derived.Test.YtmgkoldipchljaaTg
/- Walks: codes and open redress of the program (chapter 29). -/
namespace Go.Proofs.Ytmgkoldipchljaa
open Go.RowKit Go.Sort
set_option linter.unusedVariables false
set_option maxRecDepth 100000

theorem redressCode_any (P : Option Addr) (n c : Nat) (C : Option Addr) (m d : Nat) (t : Tb) (A : Option Addr) (l cl : Nat) (xs : List RedT) (w : World) (h : RdT w P n C m t) (hl : Rd w 4 A l (reds xs)) :
    Calls Try.prog 37 #[.agg #[.int .i64 t.boats, .slice P n c, .slice C m d], .slice A l cl] w fun e w' => e = .returned (.int .i64 (redCodeF t xs)) ∧ Below w.heap.size w w' := by
  have HT := Lib.hid (fun w' (hb : Below w.heap.size w w') => implIsTable_any P n c C m d t w' (h.below hb))
  obtain ⟨w1, hw1, X0, hb1, hs1⟩ := one_box w #[.int .i64 t.boats, .slice P n c, .slice C m d] 26
  unfold redCodeF
  cases ht : tableB t with
  | false =>
    rw [ht] at HT
    rw [if_neg (by decide)]
    clear ht
    go_enter Try.func37, Try.ntmps37
    go_wp2_with fail
    rw [← hw1]
    clear hw1
    refine (HT.out _ hb1).mono ?_
    rintro e w2 ⟨rfl, hb2⟩
    have HB2 := Lib.hid (hb1.trans (hb2.mono hb1.size))
    have F0 := (X0.below hb2).f3
    clear hb1 hb2 X0
    go_wp2_with fail
    go_ret
    exact ⟨rfl, HB2.out⟩
  | true =>
    have HR := Lib.hid (fun w' (hb : Below w.heap.size w w') => areRedress_any P n c C m d t A l cl xs (tableB_ok ht) w' (h.below hb) (hl.below hb))
    rw [ht] at HT
    rw [if_pos rfl]
    clear ht
    cases hx : redsB t xs with
    | false =>
      rw [hx] at HR
      rw [if_neg (by decide)]
      clear hx
      go_enter Try.func37, Try.ntmps37
      go_wp2_with fail
      rw [← hw1]
      clear hw1
      refine (HT.out _ hb1).mono ?_
      rintro e w2 ⟨rfl, hb2⟩
      have HB2 := Lib.hid (hb1.trans (hb2.mono hb1.size))
      have F0 := (X0.below hb2).f3
      clear hb1 hb2 X0
      go_wp2_with fail
      refine (HR.out _ HB2.out).mono ?_
      rintro e w3 ⟨rfl, hb3⟩
      have HB3 := Lib.hid (HB2.out.trans (hb3.mono HB2.out.size))
      clear hb3
      go_wp2_with fail
      go_ret
      exact ⟨rfl, HB3.out⟩
    | true =>
      rw [hx] at HR
      rw [if_pos rfl]
      clear hx
      go_enter Try.func37, Try.ntmps37
      go_wp2_with fail
      rw [← hw1]
      clear hw1
      refine (HT.out _ hb1).mono ?_
      rintro e w2 ⟨rfl, hb2⟩
      have HB2 := Lib.hid (hb1.trans (hb2.mono hb1.size))
      have F0 := (X0.below hb2).f3
      clear hb1 hb2 X0
      go_wp2_with fail
      refine (HR.out _ HB2.out).mono ?_
      rintro e w3 ⟨rfl, hb3⟩
      have HB3 := Lib.hid (HB2.out.trans (hb3.mono HB2.out.size))
      clear hb3
      go_wp2_with fail
      go_ret
      exact ⟨rfl, HB3.out⟩
theorem l29Code_any (P : Option Addr) (n c : Nat) (C : Option Addr) (m d : Nat) (t : Tb) (A : Option Addr) (l cl : Nat) (xs : List RedT) (w : World) (h : RdT w P n C m t) (hl : Rd w 4 A l (reds xs)) :
    Calls Try.prog 39 #[.agg #[.int .i64 t.boats, .slice P n c, .slice C m d], .slice A l cl] w fun e w' => e = .returned (.int .i64 (redCodeF t xs)) ∧ Below w.heap.size w w' := by
  have HT := Lib.hid (fun w' (hb : Below w.heap.size w w') => specIsTable_any P n c C m d t w' (h.below hb))
  obtain ⟨w1, hw1, X0, hb1, hs1⟩ := one_box w #[.int .i64 t.boats, .slice P n c, .slice C m d] 26
  unfold redCodeF
  cases ht : tableB t with
  | false =>
    rw [ht] at HT
    rw [if_neg (by decide)]
    clear ht
    go_enter Try.func39, Try.ntmps39
    go_wp2_with fail
    rw [← hw1]
    clear hw1
    refine (HT.out _ hb1).mono ?_
    rintro e w2 ⟨rfl, hb2⟩
    have HB2 := Lib.hid (hb1.trans (hb2.mono hb1.size))
    have F0 := (X0.below hb2).f3
    clear hb1 hb2 X0
    go_wp2_with fail
    go_ret
    exact ⟨rfl, HB2.out⟩
  | true =>
    have HR := Lib.hid (fun w' (hb : Below w.heap.size w w') => l29Valid_any P n c C m d t A l cl xs (tableB_ok ht) w' (h.below hb) (hl.below hb))
    rw [ht] at HT
    rw [if_pos rfl]
    clear ht
    cases hx : redsB t xs with
    | false =>
      rw [hx] at HR
      rw [if_neg (by decide)]
      clear hx
      go_enter Try.func39, Try.ntmps39
      go_wp2_with fail
      rw [← hw1]
      clear hw1
      refine (HT.out _ hb1).mono ?_
      rintro e w2 ⟨rfl, hb2⟩
      have HB2 := Lib.hid (hb1.trans (hb2.mono hb1.size))
      have F0 := (X0.below hb2).f3
      clear hb1 hb2 X0
      go_wp2_with fail
      refine (HR.out _ HB2.out).mono ?_
      rintro e w3 ⟨rfl, hb3⟩
      have HB3 := Lib.hid (HB2.out.trans (hb3.mono HB2.out.size))
      clear hb3
      go_wp2_with fail
      go_ret
      exact ⟨rfl, HB3.out⟩
    | true =>
      rw [hx] at HR
      rw [if_pos rfl]
      clear hx
      go_enter Try.func39, Try.ntmps39
      go_wp2_with fail
      rw [← hw1]
      clear hw1
      refine (HT.out _ hb1).mono ?_
      rintro e w2 ⟨rfl, hb2⟩
      have HB2 := Lib.hid (hb1.trans (hb2.mono hb1.size))
      have F0 := (X0.below hb2).f3
      clear hb1 hb2 X0
      go_wp2_with fail
      refine (HR.out _ HB2.out).mono ?_
      rintro e w3 ⟨rfl, hb3⟩
      have HB3 := Lib.hid (HB2.out.trans (hb3.mono HB2.out.size))
      clear hb3
      go_wp2_with fail
      go_ret
      exact ⟨rfl, HB3.out⟩
/-- The first element for which p holds. -/
def givenF (p : RedressT → Bool) : Nat → List RedressT → Int
  | _, [] => -1
  | i, x :: r => if p x = true then (i : Int) else givenF p (i + 1) r
theorem givenF_any (p : RedressT → Bool) (i : Nat) (xs : List RedressT) : decide (0 ≤ givenF p i xs) = xs.any p := by
  induction xs generalizing i with
  | nil => rfl
  | cons x r ih =>
    unfold givenF
    by_cases h : p x = true
    · rw [if_pos h, List.any_cons, h]; simp
    · rw [if_neg h, ih, List.any_cons]; simp [h]
theorem given_any (A : Option Addr) (n c : Nat) (xs : List RedressT) (q0 q1 : Value) (p : RedressT → Bool) (w : World) (h : Rd w 4 A n (reds xs))
    (hp : ∀ x0 x1 x2 x3 w', Below w.heap.size w w' → Calls Try.prog 43 #[.agg #[.int .i64 x0, .int .i64 x1, .int .i64 x2, .int .i64 x3], q0, q1] w' fun e w'' => e = .returned (.bool (p (x0, x1, x2, x3))) ∧ Below w'.heap.size w' w'') :
    Calls Try.prog 62 #[.slice A n c, .func (.func 43) #[] #[q0, q1]] w fun e w' => e = .returned (.int .i64 (givenF p 0 xs)) ∧ Below w.heap.size w w' := by
  have HN := Lib.hid h.len_red
  have hm := h.le
  have HP := Lib.hid hp
  clear hp
  go_enter Try.func62, Try.ntmps62
  go_wp2_with fail
  go_loopw [8] (fun i wr => ∃ k : Nat, k ≤ n ∧ i = .int .i64 k ∧ Hid (givenF p k (xs.drop k) = givenF p 0 xs) ∧ Below w.heap.size w wr) (fun i _ => n - (intOf i).toNat)
  case atStart => exact ⟨0, Nat.zero_le _, rfl, Lib.hid rfl, Below.refl _ _⟩
  case round =>
    obtain ⟨k, hk, rfl, HR, hb⟩ := hrel
    by_cases hlt : k < n
    · obtain ⟨b, o, x0, x1, x2, x3, rfl, hx, hd, hc0, hc1, hc2, hc3⟩ := (h.below hb).red hlt
      have HD := Lib.hid hd; clear hd hx
      have HB := Lib.hid hb; clear hb
      have HC := Lib.hid (fun w' (hb : Below w.heap.size w w') => HP.out x0 x1 x2 x3 w' hb)
      cases hw : p (x0, x1, x2, x3) with
      | true =>
        rw [hw] at HC
        have HW := Lib.hid hw; clear hw
        go_wp2_with fail
        refine (HC.out _ HB.out).mono ?_
        rintro e w2 ⟨rfl, hb2⟩
        have HB2 := Lib.hid (HB.out.trans (hb2.mono HB.out.size))
        clear hb2 HB HC
        go_wp2_with fail
        go_ret
        exact ⟨ret_int (by rw [← HR.out, HD.out, givenF, if_pos HW.out]), HB2.out⟩
      | false =>
        rw [hw] at HC
        have HW := Lib.hid hw; clear hw
        go_wp2_with fail
        refine (HC.out _ HB.out).mono ?_
        rintro e w2 ⟨rfl, hb2⟩
        have HB2 := Lib.hid (HB.out.trans (hb2.mono HB.out.size))
        clear hb2 HB HC
        go_wp2_with fail
        go_roundw
        case rel => exact ⟨k + 1, by omega, by go_num, Lib.hid (by rw [← HR.out, HD.out, givenF, if_neg (by rw [HW.out]; decide)]), HB2.out⟩
        case measure => simp [intOf] <;> omega
    · obtain rfl : k = n := by omega
      go_wp2_with fail
      go_ret
      exact ⟨ret_int (by rw [← HR.out, List.drop_eq_nil_of_le (by rw [HN.out]; omega), givenF]), hb⟩
theorem givenC_any (A : Option Addr) (n c : Nat) (xs : List RedressT) (q0 q1 : Value) (p : RedressT → Bool) (w : World) (h : Rd w 4 A n (reds xs))
    (hp : ∀ x0 x1 x2 x3 w', Below w.heap.size w w' → Calls Try.prog 43 #[.agg #[.int .i64 x0, .int .i64 x1, .int .i64 x2, .int .i64 x3], q0, q1] w' fun e w'' => e = .returned (.bool (p (x0, x1, x2, x3))) ∧ Below w'.heap.size w' w'') :
    Calls Try.prog 44 #[.slice A n c, .func (.func 43) #[] #[q0, q1]] w fun e w' => e = .returned (.bool (xs.any p)) ∧ Below w.heap.size w w' := by
  have E := Lib.hid (givenF_any p 0 xs)
  have HC := Lib.hid (given_any A n c xs q0 q1 p w h hp)
  clear h hp
  generalize givenF p 0 xs = r at *
  go_enter Try.func44, Try.ntmps44
  go_wp2_with fail
  refine HC.out.mono ?_
  rintro e w2 ⟨rfl, hb2⟩
  go_wp2_with fail
  go_ret
  exact ⟨ret_bool E.out, hb2⟩
theorem givenP_any (K B x0 x1 x2 x3 : Int) (bk bb : Nat) (w : World) (hk : w.cell? ⟨bk, 0, none⟩ = some (.int .i64 K)) (hb : w.cell? ⟨bb, 0, none⟩ = some (.int .i64 B)) :
    Calls Try.prog 43 #[.agg #[.int .i64 x0, .int .i64 x1, .int .i64 x2, .int .i64 x3], .pointer (some ⟨bk, 0, none⟩), .pointer (some ⟨bb, 0, none⟩)] w fun e w' => e = .returned (.bool (x0 == K && x1 == B)) ∧ Below w.heap.size w w' := by
  have HB := Lib.hid (show ∀ o, Below w.heap.size w (w.alloc o) from fun o => (Below.refl _ _).alloc (Nat.le_refl _) o)
  have hlk := cell_lt hk
  have hlb := cell_lt hb
  have hlk' : bk ≠ w.heap.size := by simp at hlk; omega
  have hlb' : bb ≠ w.heap.size := by simp at hlb; omega
  by_cases h0 : x0 = K
  · have e0 : (x0 == K) = true := by simp [h0]
    subst h0
    go_enter Try.func43, Try.ntmps43
    go_wp2_with fail
    go_ret
    exact ⟨ret_bool (by simp), HB.out _⟩
  · have e0 : (x0 == K) = false := by simp [h0]
    rw [e0]
    go_enter Try.func43, Try.ntmps43
    go_wp2_with fail
    go_ret
    exact ⟨rfl, HB.out _⟩
end Go.Proofs.Ytmgkoldipchljaa

/- Walks: open redress (chapter 29), both sides. -/
namespace Go.Proofs.Ytmgkoldipchljaa
open Go.RowKit Go.Sort
set_option linter.unusedVariables false
set_option maxRecDepth 100000

theorem own_box_ne {w : World} {base e s n b : Nat} {v : Value} {xs : List Value} {vs : Array Value} {t : TypeId} (h : w.ownsRow base e s v n xs) (hb : Box w b vs t) (hne : e ≠ t) : v.ownBlock ≠ some b := by
  intro hv
  rcases h.2 with ⟨rfl, _⟩ | ⟨g1, cap, cur, rfl, _, hh, _⟩
  · simp [Value.ownBlock] at hv
  · simp [Value.ownBlock] at hv
    subst hv
    unfold Box at hb
    rw [hh] at hb
    injection hb with hb
    injection hb with _ ht
    exact hne ht
theorem redCode_ok {t : Tb} {xs : List RedT} (h : redCodeF t xs = 0) : tableB t = true ∧ redsB t xs = true := by
  unfold redCodeF at h
  by_cases h1 : tableB t = true
  · rw [if_pos h1] at h
    by_cases h2 : redsB t xs = true
    · exact ⟨h1, h2⟩
    · rw [if_neg h2] at h; cases h
  · rw [if_neg h1] at h; cases h
theorem pair_new (w : World) (base : Nat) (x y : Int) (hb : base ≤ w.heap.size) : (w.alloc (.cells #[.int .i64 x, .int .i64 y] 2)).ownsRow base 2 1 (.slice (some ⟨w.heap.size, 0, none⟩) [x, y].length 2) [x, y].length (ints [x, y]) := by
  have := World.ownsRow_lit (base := base) (e := 2) (size := 1) w #[.int .i64 x, .int .i64 y] 2 hb (by decide) (by simp)
  exact this
theorem openRow_end (xs : List RedT) (k j : Nat) : openRow xs k j [] = [] := rfl
/-- A row of two numbers has been appended. -/
theorem open_put {w w7 : World} {base n' c' A1b : Nat} {A' A1 : Option Addr} {vs : List Value} {rows : List (List Int)} {x y : Int} (h : OwnRows w base 31 2 A' n' c' vs rows) (hb : base ≤ w.heap.size) (o : Obj)
    (hg : ((w.alloc (.cells #[.int .i64 x, .int .i64 y] 2)).alloc o).grownBy w7 (Value.slice A' n' c').ownBlock) (ho : w7.ownsRow base 31 1 (.slice A1 (n' + 1) A1b) (n' + 1) (vs ++ [.slice (some ⟨w.heap.size, 0, none⟩) 2 2])) :
    OwnRows w7 base 31 2 A1 (n' + 1) A1b (vs ++ [.slice (some ⟨w.heap.size, 0, none⟩) 2 2]) (rows ++ [[x, y]]) := by
  have h1 := h.alloc (.cells #[.int .i64 x, .int .i64 y] 2)
  have hin := h.in_
  refine OwnRows.append (A' := some ⟨w.heap.size, 0, none⟩) (c' := 2) (ys := [x, y]) h1 (by decide) (pair_new w base x y hb) (fun u hu b hb' hub => ?_) o hg ho
  have e : b = w.heap.size := by simp [Value.ownBlock] at hb'; exact hb'.symm
  have := hin.2 u hu b hub
  omega
set_option maxHeartbeats 4000000 in
theorem implOpenRedress_any (P : Option Addr) (n c : Nat) (C : Option Addr) (m d : Nat) (t : Tb) (A : Option Addr) (l cl : Nat) (xs : List RedT) (w : World) (h : RdT w P n C m t) (hl : Rd w 4 A l (reds xs)) :
    Calls Try.prog 15 #[.agg #[.int .i64 t.boats, .slice P n c, .slice C m d], .slice A l cl] w (RetR w (openF t xs)) := by
  have hn := h.pts.le
  have hll := hl.le
  have HC := Lib.hid (fun w' (hb : Below w.heap.size w w') => redressCode_any P n c C m d t A l cl xs w' (h.below hb) (hl.below hb))
  obtain ⟨w1, hw1, X0, hb1, hs1⟩ := one_box w #[.int .i64 t.boats, .slice P n c, .slice C m d] 26
  by_cases hz : redCodeF t xs = 0
  rotate_left
  · have e1 : openF t xs = ([], redCodeF t xs) := by unfold openF; rw [if_neg hz]
    rw [e1]; clear e1
    generalize redCodeF t xs = code at *
    have hne : (code != 0) = true := by simp [hz]
    clear hz
    go_enter Try.func15, Try.ntmps15
    go_wp2_with fail
    rw [← hw1]
    clear hw1
    refine (HC.out _ hb1).mono ?_
    rintro e w2 ⟨rfl, hb2⟩
    have HB2 := Lib.hid (hb1.trans (hb2.mono hb1.size))
    clear hb1 hb2 X0
    go_wp2_with fail
    go_ret2
    exact RetR.nil _ _ _ HB2.out
  · have e1 : openF t xs = (openGo xs 0 t.cds, 0) := by unfold openF; rw [if_pos hz]
    rw [e1]; clear e1
    have ok := tableB_ok (redCode_ok hz).1
    have hn12 : n ≤ 12 := by have := ok.many; have := h.pts.len; omega
    have hnm : n = m := by have := ok.same; have := h.pts.len; have := h.cds.len; omega
    subst hnm
    have hb1' := ok.b1
    have hb2' := ok.b2
    have HLEN := Lib.hid h.cds.len
    have HNX := Lib.hid hl.len_red
    rw [hz] at HC
    have HOK := Lib.hid ok
    clear hz ok
    go_enter Try.func15, Try.ntmps15
    go_wp2_with fail
    rw [← hw1]
    clear hw1
    refine (HC.out _ hb1).mono ?_
    rintro e w2 ⟨rfl, hb2⟩
    have F0 := (X0.below hb2).f3
    have HT1 := Lib.hid (h.below hb1)
    have HL1 := Lib.hid (hl.below hb1)
    have hsb : w.heap.size < w1.heap.size := by omega
    have HB1 := Lib.hid hb1
    have HB2 := Lib.hid hb2
    clear hb1 hb2 h hl hs1
    go_wp2_with fail
    have HE := Lib.hid (OwnRows.empty w2 w1.heap.size 31 2 HB2.out.size)
    have HB3 := Lib.hid (HB2.out.alloc HB2.out.size (.cells #[] 31))
    go_loopw [7, 23] (fun s i wr => ∃ (k : Nat) (A' : Option Addr) (n' c' : Nat) (vs : List Value) (rows : List (List Int)), k ≤ n ∧ i = .int .i64 k ∧ s = .slice A' n' c' ∧ n' ≤ 16 * k ∧ Hid (OwnRows wr w1.heap.size 31 2 A' n' c' vs rows) ∧ Hid (∀ r ∈ rows, r.length ≤ 2) ∧ Hid (rows ++ openGo xs k (t.cds.drop k) = openGo xs 0 t.cds) ∧ Hid (Below w1.heap.size w1 wr)) (fun _ i _ => n - (intOf i).toNat)
    case atStart => exact ⟨0, _, 0, 0, [], [], Nat.zero_le _, rfl, rfl, by omega, HE, Lib.hid (fun r hr => by cases hr), Lib.hid (by simp), HB3⟩
    case round =>
      obtain ⟨k, A', n', c', vs, rows, hk, rfl, rfl, hn', HO, HL2, HR, HBW⟩ := hrel
      clear F0
      have F0 := (X0.below HBW.out).f3
      by_cases hlt : k < n
      · obtain ⟨b', o', A2, c2, q, hC, hq, hd', hc', hrd'⟩ := HT1.out.cds.row hlt
        subst hC
        have hql : (q.length : Int) = t.boats := by
          obtain ⟨p, hp, _⟩ := drop_cons (xs := t.pts) (k := k) (by have := HOK.out.same; have := HLEN.out; omega)
          exact (HOK.out.row k p q hp hq).2.1
        have HQL := Lib.hid hql
        clear hql
        have HD := Lib.hid hd'
        have HRQ := Lib.hid hrd'
        have hcq := (HBW.out.cell (p := ⟨b', o' + k, none⟩) (cell_lt hc')).trans hc'
        clear hd' hq hc' hrd'
        obtain ⟨wo, hwo⟩ : ∃ wo : World, wo = wr := ⟨_, rfl⟩
        subst hwo
        go_wp2_with fail
        obtain ⟨wk, hwk, XK0, hbk, hsk⟩ := one_box wo #[.int .i64 (k : Int)] 3
        rw [← hwk]
        clear hwk
        have XK := Lib.hid XK0
        have HOk := Lib.hid (HO.out.below hbk)
        have HBk := Lib.hid (HBW.out.trans (hbk.mono HBW.out.size))
        clear XK0 hbk hcq
        go_loopw [7, 30] (fun s i wr => ∃ (j : Nat) (A' : Option Addr) (n' c' : Nat) (vs : List Value) (rows : List (List Int)), j ≤ q.length ∧ i = .int .i64 j ∧ s = .slice A' n' c' ∧ n' ≤ 16 * k + j ∧ Hid (OwnRows wr w1.heap.size 31 2 A' n' c' vs rows) ∧ Hid (∀ r ∈ rows, r.length ≤ 2) ∧ Hid (rows ++ (openRow xs k j (q.drop j) ++ openGo xs (k + 1) (t.cds.drop (k + 1))) = openGo xs 0 t.cds) ∧ Hid (Below w1.heap.size w1 wr) ∧ Hid (Box wr wo.heap.size #[.int .i64 (k : Int)] 3)) (fun _ i _ => q.length - (intOf i).toNat)
        case atStart => exact ⟨0, _, _, _, _, _, Nat.zero_le _, rfl, rfl, by omega, HOk, HL2, Lib.hid (by rw [← HR.out, HD.out]; simp [openGo]), HBk, XK⟩
        case round =>
          clear HOk HBk XK HO HL2 HR HBW
          obtain ⟨j, A', n', c', vs, rows, hj, rfl, rfl, hn2, HO, HL2, HR, HBW, XK⟩ := hrel
          clear F0
          have F0 := (X0.below HBW.out).f3
          by_cases hjl : j < q.length
          · obtain ⟨b4, o4, y, hA2, hy, hyd, hyc⟩ := (HRQ.out.below HBW.out).int hjl
            subst hA2
            have HYD := Lib.hid hyd
            clear hy hyd
            obtain ⟨wi, hwi⟩ : ∃ wi : World, wi = wr := ⟨_, rfl⟩
            subst hwi
            have hqle : q.length ≤ 16 := by have := HQL.out; omega
            obtain ⟨wb, hwb, XB0, hbb, hsb2⟩ := one_box wi #[.int .i64 (j : Int)] 3
            have XB := Lib.hid XB0
            have hKB := XK.out.below hbb
            have XKb := Lib.hid hKB
            have HBb := Lib.hid (HBW.out.trans (hbb.mono HBW.out.size))
            have HOb := Lib.hid (HO.out.below hbb)
            have HGV := Lib.hid (fun w' (hb : Below wb.heap.size wb w') => givenC_any A l cl xs (.pointer (some ⟨wo.heap.size, 0, none⟩)) (.pointer (some ⟨wi.heap.size, 0, none⟩)) (fun x => x.1 == (k : Int) && x.2.1 == (j : Int)) w' ((HL1.out.below HBb.out).below hb) (fun x0 x1 x2 x3 w'' hb2 => givenP_any (k : Int) (j : Int) x0 x1 x2 x3 wo.heap.size wi.heap.size w'' (((XKb.out.below hb).below hb2).c1) (((XB.out.below hb).below hb2).c1)))
            have HNM := Lib.hid (show namedB xs (k : Int) (j : Int) = xs.any (fun x => x.1 == (k : Int) && x.2.1 == (j : Int)) from rfl)
            generalize (xs.any (fun x => x.1 == (k : Int) && x.2.1 == (j : Int))) = nm at *
            have FK := XKb.out.c1
            have FB := XB.out.c1
            clear XB0 hbb hKB HO XK HBW
            by_cases hy9 : y = 9
            · subst hy9
              cases nm with
              | true =>
                have HNX2 := Lib.hid (show rows ++ (openRow xs k (j + 1) (q.drop (j + 1)) ++ openGo xs (k + 1) (t.cds.drop (k + 1))) = openGo xs 0 t.cds from by rw [← HR.out, HYD.out, openRow, HNM.out]; simp)
                go_wp2_with fail
                rw [← hwb]
                clear hwb
                refine (HGV.out _ (Below.refl _ _)).mono ?_
                rintro e wc ⟨rfl, hbc⟩
                have HBc := Lib.hid (HBb.out.trans (hbc.mono HBb.out.size))
                have HOc := Lib.hid (HOb.out.below hbc)
                have XKc := Lib.hid (XKb.out.below hbc)
                clear hbc
                go_wp2_with fail
                go_roundw
                case rel => exact ⟨j + 1, _, _, _, _, _, by omega, by go_num, rfl, by omega, HOc, HL2, HNX2, HBc, XKc⟩
                case measure => simp [intOf] <;> omega
              | false =>
                have HNX2 := Lib.hid (show (rows ++ [[(k : Int), (j : Int)]]) ++ (openRow xs k (j + 1) (q.drop (j + 1)) ++ openGo xs (k + 1) (t.cds.drop (k + 1))) = openGo xs 0 t.cds from by rw [← HR.out, HYD.out, openRow, HNM.out]; simp)
                have HL3 := Lib.hid (show ∀ r ∈ rows ++ [[(k : Int), (j : Int)]], r.length ≤ 2 from fun r hr => by
                  rcases List.mem_append.1 hr with hr | hr
                  · exact HL2.out r hr
                  · simp at hr; subst hr; simp)
                go_wp2_with fail
                rw [← hwb]
                clear hwb
                refine (HGV.out _ (Below.refl _ _)).mono ?_
                rintro e wc ⟨rfl, hbc⟩
                have FK := (XKb.out.below hbc).c1
                have FB := (XB.out.below hbc).c1
                have HBc := Lib.hid (HBb.out.trans (hbc.mono HBb.out.size))
                have HOc := Lib.hid (HOb.out.below hbc)
                have XKc := Lib.hid (XKb.out.below hbc)
                have hzc := hbc.size
                clear hbc
                have OU := Lib.hid (HOc.out.outer)
                have HS1 := Lib.hid (show w1.heap.size ≤ wc.heap.size from HBc.out.size)
                go_wp2_with (at_builtin; refine app_row _ rfl _ _ rfl rfl (own_below (own_below OU.out ((Below.refl _ _).alloc (Nat.le_refl _) _)) ((Below.refl _ _).alloc (Nat.le_refl _) _)) rfl (cell_top _ _ _ (by simp) rfl) (by omega) ?cD ?_; rotate_left; intro A1 c1 w7 ho7 hgr7)
                · have HO7 := Lib.hid (open_put HOc.out HS1.out _ hgr7 ho7)
                  have HB7 := Lib.hid (below_app (HBc.out.alloc HS1.out _) (by simp; have := HS1.out; omega) (Nat.le_refl _) (own_below OU.out ((Below.refl _ _).alloc (Nat.le_refl _) _)) hgr7)
                  have XKc7 := Lib.hid (show Box w7 wo.heap.size _ _ from ((XKc.out.below ((Below.refl _ _).alloc (Nat.le_refl _) _)).below ((Below.refl _ _).alloc (Nat.le_refl _) _)).grown hgr7 (own_box_ne OU.out XKc.out (by decide)))
                  clear ho7 hgr7
                  go_wp2_with fail
                  go_roundw
                  case rel => exact ⟨j + 1, _, _, _, _, _, by omega, by go_num, rfl, by omega, HO7, HL3, HNX2, HB7, XKc7⟩
                  case measure => simp [intOf] <;> omega
                · try simp
                  have := HS1.out
                  omega
            · have e9 : (y == 9) = false := by simp [hy9]
              have HNX2 := Lib.hid (show rows ++ (openRow xs k (j + 1) (q.drop (j + 1)) ++ openGo xs (k + 1) (t.cds.drop (k + 1))) = openGo xs 0 t.cds from by rw [← HR.out, HYD.out, openRow, e9]; simp)
              go_wp2_with fail
              rw [← hwb]
              clear hwb
              go_roundw
              case rel => exact ⟨j + 1, _, _, _, _, _, by omega, by go_num, rfl, by omega, HOb, HL2, HNX2, HBb, XKb⟩
              case measure => simp [intOf] <;> omega
          · have hjq : j = q.length := by omega
            have HRN := Lib.hid (show rows ++ openGo xs (k + 1) (t.cds.drop (k + 1)) = openGo xs 0 t.cds from by rw [← HR.out, show q.drop j = [] from List.drop_eq_nil_of_le (by omega)]; simp [openRow])
            go_wp2_with fail
            have hqle : q.length ≤ 16 := by have := HQL.out; omega
            go_roundw
            case rel => exact ⟨k + 1, _, _, _, _, _, by omega, by go_num, rfl, by omega, HO, HL2, HRN, HBW⟩
            case measure => simp [intOf] <;> omega
      · obtain rfl : k = n := by omega
        have HRE := Lib.hid (show rows = openGo xs 0 t.cds from by rw [← HR.out, List.drop_eq_nil_of_le (by rw [HLEN.out]; omega)]; simp [openGo])
        have HSUM := Lib.hid (show sumLen rows ≤ 576460752303423488 from by
          have h1 := sumLen_le HL2.out
          have h2 := HO.out.len
          omega)
        go_wp2_with fail
        go_ret2
        exact ⟨_, _, _, vs, rfl, by rw [← HRE.out]; exact HO.out.base' (by omega), by rw [← HRE.out]; exact HSUM.out, HB1.out.trans (HBW.out.mono HB1.out.size)⟩
end Go.Proofs.Ytmgkoldipchljaa

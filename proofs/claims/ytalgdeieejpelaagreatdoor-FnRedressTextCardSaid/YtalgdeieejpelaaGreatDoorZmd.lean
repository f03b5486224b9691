/- General and plain lemmas, and light walks (merged): Zx Zy Wp Ap Zk Zl Te Tf Tg Th Ti Tk Md. -/
import Derived.Test.YtalgdeieejpelaaGreatDoorZw
import Derived.Test.YtalgdeieejpelaaGreatDoorZmc
import Derived.Test.YtalgdeieejpelaaGreatDoorZma
import Derived.Test.YtalgdeieejpelaaGreatDoorZmb
import Derived.Deep.AppendLies
import Derived.Lib.BufferMore
import Derived.RangeFuncNested
import Derived.RangeFuncBound
import Derived.RangeFuncCalls
import Derived.RangeFuncLeaves
import Derived.Shelf.Abstract
import Derived.OwnWalkIn
import Derived.TacticsInMore
import Derived.LoopNIn
import Derived.LoopIn
import Derived.OrdersIn
import Derived.IntWalk
import Derived.Lib.QuietBelow
/- Walks: slices.Contains; slices.Sort of few integers. -/
namespace Go.Proofs.YtalgdeieejpelaaGreatDoor
open Go.RowKit Go.Sort
set_option linter.unusedVariables false
set_option maxRecDepth 100000

/-- The first place of a number in a list. -/
def indexF (v : Int) : Nat → List Int → Int
  | _, [] => -1
  | i, x :: r => if v = x then (i : Int) else indexF v (i + 1) r
theorem indexF_get {v : Int} {xs : List Int} (h : v ∈ xs) (i : Nat) : ∃ j : Nat, xs[j]? = some v ∧ indexF v i xs = ((i + j : Nat) : Int) := by
  induction xs generalizing i with
  | nil => cases h
  | cons x r ih =>
    unfold indexF
    by_cases e : v = x
    · subst e
      exact ⟨0, rfl, by rw [if_pos rfl]; rfl⟩
    · rw [if_neg e]
      obtain ⟨j, h1, h2⟩ := ih (by rcases List.mem_cons.1 h with h | h; exact absurd h e; exact h) (i + 1)
      exact ⟨j + 1, by simpa using h1, by rw [h2]; omega⟩
theorem indexF_none {v : Int} {xs : List Int} (h : v ∉ xs) (i : Nat) : indexF v i xs = -1 := by
  induction xs generalizing i with
  | nil => rfl
  | cons x r ih =>
    unfold indexF
    rw [if_neg (fun e => h (by rw [e]; exact List.mem_cons_self)), ih (fun hm => h (List.mem_cons_of_mem _ hm))]
theorem indexF_mem (v : Int) (xs : List Int) : 0 ≤ indexF v 0 xs ↔ v ∈ xs := by
  by_cases h : v ∈ xs
  · obtain ⟨j, _, e⟩ := indexF_get h 0
    rw [e]
    exact ⟨fun _ => h, fun _ => by omega⟩
  · rw [indexF_none h 0]
    exact ⟨fun h2 => by omega, fun h2 => absurd h2 h⟩
theorem index_any (A : Option Addr) (n c : Nat) (xs : List Int) (v : Int) (w : World) (h : Rd w 1 A n (ints xs)) :
    Calls Tryz.prog 124 #[.slice A n c, .int .i64 v] w fun e w' => e = .returned (.int .i64 (indexF v 0 xs)) ∧ Drawn w w' := by
  have HN := Lib.hid h.len_int
  have hm := h.le
  go_enter Tryz.func124, Tryz.ntmps124
  go_wp2_with fail
  go_loopw [5, 8] (fun _ i wr => ∃ k : Nat, k ≤ n ∧ i = .int .i64 k ∧ Hid (indexF v k (xs.drop k) = indexF v 0 xs) ∧ Drawn w wr) (fun _ i _ => n - (intOf i).toNat)
  case atStart => exact ⟨0, Nat.zero_le _, rfl, rfl, Drawn.refl _⟩
  case round =>
    obtain ⟨k, hk, rfl, HR, hq⟩ := hrel
    by_cases hlt : k < n
    · obtain ⟨b, o, x, rfl, hx, hd, hc⟩ := (h.drawn hq).int hlt
      have HD := Lib.hid hd
      clear hx hd
      by_cases hvx : v = x
      · subst hvx
        go_wp2_with fail
        go_ret
        exact ⟨ret_int (by rw [← HR.out, HD.out, indexF, if_pos rfl]), hq⟩
      · have hne : (v == x) = false := by simpa using hvx
        have HVX := Lib.hid hvx
        clear hvx
        go_wp2_with fail
        go_roundw
        case rel => exact ⟨k + 1, by omega, by go_num, by unfold Hid; rw [← HR.out, HD.out, indexF, if_neg HVX.out], hq⟩
        case measure => simp [intOf]; omega
    · obtain rfl : k = n := by omega
      go_wp2
      go_ret
      exact ⟨ret_int (by rw [← HR.out, List.drop_eq_nil_of_le (by rw [HN.out]; omega)]; rfl), hq⟩

theorem contains_any (A : Option Addr) (n c : Nat) (xs : List Int) (v : Int) (w : World) (h : Rd w 1 A n (ints xs)) :
    Calls Tryz.prog 103 #[.slice A n c, .int .i64 v] w fun e w' => e = .returned (.bool (decide (v ∈ xs))) ∧ Drawn w w' := by
  have HI := Lib.hid (index_any A n c xs v w h)
  have hm : decide (0 ≤ indexF v 0 xs) = decide (v ∈ xs) := by rw [decide_eq_decide]; exact indexF_mem v xs
  rw [← hm]
  clear hm
  generalize indexF v 0 xs = r at *
  go_enter Tryz.func103, Tryz.ntmps103
  go_wp2_with fail
  refine HI.out.mono ?_
  rintro e w1 ⟨rfl, hq⟩
  go_wp2_with fail
  go_ret
  exact ⟨rfl, hq⟩

theorem isNaN_any (x : Int) (w : World) :
    Calls Tryz.prog 146 #[.int .i64 x] w fun e w' => e = .returned (.bool false) ∧ w = w' := by
  go_enter Tryz.func146, Tryz.ntmps146
  go_wp2
  go_ret
  exact ⟨rfl, rfl⟩
theorem less_any (x y : Int) (w : World) :
    Calls Tryz.prog 131 #[.int .i64 x, .int .i64 y] w fun e w' => e = .returned (.bool (decide (x < y))) ∧ w' = w := by
  go_enter Tryz.func131, Tryz.ntmps131
  go_wp2_with (go_at_call 146; refine (isNaN_any _ _).mono ?_; rintro e w' ⟨rfl, rfl⟩)
  go_ret
  exact ⟨rfl, rfl⟩

set_option maxHeartbeats 2000000 in
theorem insertionO_any (g c n base : Nat) (xs : List Int) (w : World) (hn16 : n ≤ 16)
    (hown : w.ownsRow base 2 1 (.slice (some ⟨g, 0, none⟩) n c) n (ints xs)) :
    Calls Tryz.prog 125 #[.slice (some ⟨g, 0, none⟩) n c, .int .i64 0, .int .i64 (n : Int)] w
      fun e w' => e = .returned (.tuple #[]) ∧ w'.ownsRow base 2 1 (.slice (some ⟨g, 0, none⟩) n c) n (ints (insSort ltI xs)) ∧ Chg g (g + 1) w w' := by
  have HN := Lib.hid (own_len hown)
  have hg := hown.lt g rfl
  go_enter Tryz.func125, Tryz.ntmps125
  go_wp2_with fail
  go_loopw [6] (fun i wr => ∃ (k : Nat) (out : List Int), 1 ≤ k ∧ k ≤ n + 1 ∧ k ≤ 17 ∧ i = .int .i64 k ∧ insOut ltI (n - k) k out = insSort ltI xs ∧ (∀ x ∈ out, x ∈ xs) ∧ wr.ownsRow base 2 1 (.slice (some ⟨g, 0, none⟩) n c) n (ints out) ∧ Chg g (g + 1) w wr) (fun i _ => n - (intOf i).toNat)
  case atStart => exact ⟨1, xs, by omega, by omega, by omega, rfl, by unfold insSort; rw [HN.out], fun x h => h, hown, Chg.refl _ _ _⟩
  case round =>
    obtain ⟨k, out, hk1, hkn, hk17, rfl, hr, hm, ho, hch⟩ := hrel
    clear hown
    have HR := Lib.hid hr; have HM := Lib.hid hm
    clear hr hm
    by_cases hlt : k < n
    · have e : n - k = (n - (k + 1)) + 1 := by omega
      rw [e, insOut] at HR
      clear e
      go_wp2_with fail
      go_loopw [7] (fun i wr => ∃ (j : Nat) (o2 : List Int), j ≤ k ∧ i = .int .i64 j ∧ Hid (insIn ltI j o2 = insIn ltI k out) ∧ (∀ x ∈ o2, x ∈ xs) ∧ wr.ownsRow base 2 1 (.slice (some ⟨g, 0, none⟩) n c) n (ints o2) ∧ Chg g (g + 1) w wr) (fun i _ => (intOf i).toNat)
      case atStart => exact ⟨k, out, Nat.le_refl _, rfl, rfl, HM.out, ho, hch⟩
      case round =>
        clear ho hch
        obtain ⟨j, o2, hjk, rfl, HI, hm2, ho, hch⟩ := hrel
        have HM2 := Lib.hid hm2; clear hm2
        by_cases hj : j = 0
        · subst hj
          go_wp2_with fail
          go_quiet (fail)
          go_wp2_with fail
          go_roundw
          case rel => exact ⟨k + 1, o2, by omega, by omega, by omega, by go_num, by rw [← HR.out, ← HI.out, insIn], HM2.out, (Drawn.refl _).own ho, chg_dN hch _⟩
          case measure => simp [intOf]; omega
        · obtain ⟨p, rfl⟩ : ∃ p, j = p + 1 := ⟨j - 1, by omega⟩
          obtain ⟨g1, x, hg1, _, _, hx, hcx, hfx⟩ := own_int_at ho (k := p + 1) (by omega)
          obtain rfl : g = g1 := by injection hg1 with e; injection e
          obtain ⟨g2, y, hg2, _, _, hy, hcy, hfy⟩ := own_int_at ho (k := p) (by omega)
          obtain rfl : g = g2 := by injection hg2 with e; injection e
          have hxm := HM2.out x (List.mem_of_getElem? hx)
          have hym := HM2.out y (List.mem_of_getElem? hy)
          have hstep : insIn ltI (p + 1) o2 = if ltI x y then insIn ltI p ((o2.set (p + 1) y).set p x) else o2 := by
            rw [insIn, swapAt, List.getD_eq_getElem?_getD, List.getD_eq_getElem?_getD, hx, hy]; rfl
          have HST := Lib.hid hstep
          have HX := Lib.hid hx; have HY := Lib.hid hy
          clear hg1 hg2 hstep hx hy
          have hw1 : IntKind.i64.wrap (((p + 1 : Nat) : Int) - 1) = (p : Int) := by rw [IntWalk.i64_in _ (by omega)]; omega
          by_cases hb : x < y
          · have hltb : decide (x < y) = true := decide_eq_true hb
            rw [if_pos (by unfold ltI; exact hltb)] at HST
            clear hb
            go_wp2_with fail
            go_quiet ((go_at_call 131; exact Calls.quiet_of_same (less_any _ _ _)))
            go_wp2_with fail
            obtain ⟨wq, hwq⟩ : ∃ wq, wq = wr.drewN nq := ⟨_, rfl⟩
            have hoq : wq.ownsRow base 2 1 (.slice (some ⟨g, 0, none⟩) n c) n (ints o2) := by rw [hwq]; exact ho
            have hchq : Chg g (g + 1) w wq := by rw [hwq]; exact chg_dN hch nq
            have hcx' : wq.cell? ⟨g, p + 1, none⟩ = some (.int .i64 x) := by rw [hwq]; exact hcx
            have hcy' : wq.cell? ⟨g, p, none⟩ = some (.int .i64 y) := by rw [hwq]; exact hcy
            have hfx' : wq.frozen? ⟨g, p + 1, none⟩ = false := by rw [hwq]; exact hfx
            have hfy' : wq.frozen? ⟨g, p, none⟩ = false := by rw [hwq]; exact hfy
            rw [← hwq]
            have HO := Lib.hid hoq; have HCH := Lib.hid hchq
            clear hwq hoq hchq hcx hcy hfx hfy ho hch hltb
            go_region
            have ho3 := own_set (k := p) (own_set (k := p + 1) HO.out y) x
            have hc3 := chg_dN (chg_sC (i := p) (chg_sC (i := p + 1) HCH.out (Nat.le_refl _) (Nat.lt_succ_self _) (.int .i64 y)) (Nat.le_refl _) (Nat.lt_succ_self _) (.int .i64 x)) 1
            have O3 := Lib.hid ho3; have C3 := Lib.hid hc3
            clear ho3 hc3
            go_wp2_with fail
            go_roundw
            case rel => exact ⟨p, _, by omega, by go_num, by unfold Hid; rw [← HI.out, HST.out], swap_mem HM2.out hxm hym, (Drawn.refl _).own O3.out, C3.out⟩
            case measure => simp [intOf]
          · have hltb : decide (x < y) = false := decide_eq_false hb
            rw [if_neg (by unfold ltI; rw [hltb]; simp)] at HST
            clear hb
            go_wp2_with fail
            go_quiet ((go_at_call 131; exact Calls.quiet_of_same (less_any _ _ _)))
            go_wp2_with fail
            go_roundw
            case rel => exact ⟨k + 1, o2, by omega, by omega, by omega, by go_num, by rw [← HR.out, ← HI.out, HST.out], HM2.out, (Drawn.refl _).own ho, chg_dN hch _⟩
            case measure => simp [intOf]; omega
    · have e : n - k = 0 := by omega
      rw [e, insOut] at HR
      go_wp2_with fail
      go_end0
      exact ⟨rfl, by rw [← HR.out]; exact ho, hch⟩
set_option maxHeartbeats 1000000 in
theorem pdq_any (g c n base : Nat) (xs : List Int) (limit : Int) (w : World) (hn12 : n ≤ 12)
    (hown : w.ownsRow base 2 1 (.slice (some ⟨g, 0, none⟩) n c) n (ints xs)) :
    Calls Tryz.prog 104 #[.slice (some ⟨g, 0, none⟩) n c, .int .i64 0, .int .i64 (n : Int), .int .i64 limit] w
      fun e w' => e = .returned (.tuple #[]) ∧ w'.ownsRow base 2 1 (.slice (some ⟨g, 0, none⟩) n c) n (ints (insSort ltI xs)) ∧ Chg g (g + 1) w w' := by
  have H := Lib.hid (insertionO_any g c n base xs w (by omega) hown)
  have hd : decide ((n : Int) ≤ 12) = true := by simp; omega
  clear hown
  go_enter Tryz.func104, Tryz.ntmps104
  go_wp2_with fail
  go_loopw [1, 2, 3, 8, 9] (fun p q r a b wr => p = .int .i64 0 ∧ q = .int .i64 (n : Int) ∧ r = .int .i64 limit ∧ a = .bool true ∧ b = .bool true ∧ wr = w) (fun _ _ _ _ _ _ => 0)
  case atStart => exact ⟨rfl, rfl, rfl, rfl, rfl, rfl⟩
  case round =>
    obtain ⟨rfl, rfl, rfl, rfl, rfl, rfl⟩ := hrel
    go_wp2_with fail
    refine H.out.mono ?_
    rintro e w1 ⟨rfl, ho1, hc1⟩
    go_wp2_with fail
    refine bodyPost_ret (v := .tuple #[]) (by simp [results, Tryz.results104, go_sem]) rfl ?_
    exact ⟨rfl, ho1, hc1⟩
theorem len64_any (n : Nat) (hn : n ≤ 12) (w : World) : Calls Tryz.prog 85 #[.int .u64 (n : Int)] w fun e w' => (∃ k, e = .returned (.int .i64 k)) ∧ w = w' := by
  have h : n = 0 ∨ n = 1 ∨ n = 2 ∨ n = 3 ∨ n = 4 ∨ n = 5 ∨ n = 6 ∨ n = 7 ∨ n = 8 ∨ n = 9 ∨ n = 10 ∨ n = 11 ∨ n = 12 := by omega
  rcases h with rfl | rfl | rfl | rfl | rfl | rfl | rfl | rfl | rfl | rfl | rfl | rfl | rfl
  all_goals
    go_enter Tryz.func85, Tryz.ntmps85
    go_wp2_with fail
    go_ret
    exact ⟨⟨_, rfl⟩, rfl⟩
theorem bitsLen_any (n : Nat) (hn : n ≤ 12) (w : World) : Calls Tryz.prog 105 #[.int .u64 (n : Int)] w fun e w' => (∃ k, e = .returned (.int .i64 k)) ∧ w = w' := by
  have H := Lib.hid (fun w' => len64_any n hn w')
  go_enter Tryz.func105, Tryz.ntmps105
  go_wp2_with fail
  refine (H.out _).mono ?_
  rintro e w1 ⟨⟨k, rfl⟩, rfl⟩
  go_wp2_with fail
  go_ret
  exact ⟨⟨_, rfl⟩, rfl⟩
theorem sortFew_any (g c n base : Nat) (xs : List Int) (w : World) (hn12 : n ≤ 12)
    (hown : w.ownsRow base 2 1 (.slice (some ⟨g, 0, none⟩) n c) n (ints xs)) :
    Calls Tryz.prog 81 #[.slice (some ⟨g, 0, none⟩) n c] w
      fun e w' => e = .returned (.tuple #[]) ∧ w'.ownsRow base 2 1 (.slice (some ⟨g, 0, none⟩) n c) n (ints (insSort ltI xs)) ∧ Chg g (g + 1) w w' := by
  have H := Lib.hid (fun k => pdq_any g c n base xs k w hn12 hown)
  have HB := Lib.hid (bitsLen_any n hn12 w)
  clear hown
  go_enter Tryz.func81, Tryz.ntmps81
  go_wp2_with fail
  refine HB.out.mono ?_
  rintro e w1 ⟨⟨k, rfl⟩, rfl⟩
  go_wp2_with fail
  refine (H.out _).mono ?_
  rintro e w1 ⟨rfl, ho1, hc1⟩
  go_wp2_with fail
  go_end0
  exact ⟨rfl, ho1, hc1⟩
end Go.Proofs.YtalgdeieejpelaaGreatDoor

/- Appending a number to an own row, and where the new row lies; what else stands. -/
namespace Go.Proofs.YtalgdeieejpelaaGreatDoor
open Go.RowKit Go.Sort
set_option linter.unusedVariables false

theorem Tryz.info_num : (Tryz.prog.info? 2).map (fun i => (i.zero, i.size, i.bytes)) = some (some (.int .i64 0), 1, 8) := by kernel_rfl
theorem app_num {ops : Array Oper} {rest : List Oper} {o : Oper} {a : Act} {Q : Exit → Act → World → Prop} (w : World) (hgd : o.guard = none) (s x : Operand)
    (ho : o.op = .call { callee := .builtin .append, args := #[s, x], argTypes := #[35, 35] }) {base n c : Nat} {A : Option Addr} {xs : List Int} {y : Int}
    (hs : a.eval s = .slice A n c) (hown : w.ownsRow base 2 1 (.slice A n c) n (ints xs)) {b : Nat} (hx : a.eval x = .slice (some ⟨b, 0, none⟩) 1 1)
    (hc : w.heap[b]? = some (.cells #[.int .i64 y] 2 (0, 0))) (hn : n ≤ 1099511627776) (hbase : base ≤ w.heap.size)
    (h : ∀ g c' w', w'.ownsRow base 2 1 (.slice (some ⟨g, 0, none⟩) (n + 1) c') (n + 1) (ints (xs ++ [y])) → w.grownBy w' (Value.slice A n c).ownBlock → ((Value.slice A n c).ownBlock = some g ∨ g = w.heap.size) → g < w'.heap.size → wpList Tryz.prog ops Q rest (a.put o.dst (.slice (some ⟨g, 0, none⟩) (n + 1) c')) w') :
    wpList Tryz.prog ops Q (o :: rest) a w := by
  obtain ⟨i, hi, hz, hs1, hb1⟩ := info_parts Tryz.info_num
  have e : ints xs ++ [.int .i64 y] = ints (xs ++ [y]) := by rw [ints_append]; rfl
  exact wpList_append_lies w hgd s x 35 ho base 2 i (.int .i64 0) 1 8 Tryz.underlying35 hi hz hs1 hb1 rfl (by decide) (.slice A n c) n (ints xs) hs hown ⟨b, 0, none⟩ 1 1 [.int .i64 y] hx rfl (World.news_of_block (cs := #[.int .i64 y]) hc)
    (by intro u hu; simp at hu; subst hu; rfl) (by decide) (by unfold maxLen; omega) (by omega) hbase _ rfl (by rw [e]; exact h)
/-- A row that lies in block g0 of the old world or is new has grown: all else of the old world stands. -/
theorem chg_grow1 {a w w' : World} {g0 g : Nat} {v : Value} (h : Chg g0 (g0 + 1) a w) (hg : w.grownBy w' v.ownBlock) (hv : v.ownBlock = some g) (hr : g = g0 ∨ a.heap.size ≤ g) : Chg g0 (g0 + 1) a w' := by
  rw [hv] at hg
  refine ⟨hg.os.trans h.os, hg.tape.trans h.tape, hg.output.trans h.output, Nat.le_trans h.size hg.size, fun k hk hn => ?_⟩
  have hne : ¬ (some k = some g) := by intro e; injection e with e; omega
  exact (hg.block k (Nat.lt_of_lt_of_le hk h.size) hne).trans (h.block k hk hn)
theorem chg_bel {lo hi : Nat} {a w w' : World} (h : Chg lo hi a w) (k : Below w.heap.size w w') : Chg lo hi a w' := h.trans (Chg.of_below k)
theorem chg_wide2 {lo hi : Nat} {a w w' : World} (h : Chg lo hi a w) {g : Nat} (k : Chg g (g + 1) w w') (hr : (lo ≤ g ∧ g < hi) ∨ a.heap.size ≤ g) : Chg lo hi a w' :=
  ⟨k.os.trans h.os, k.tape.trans h.tape, k.output.trans h.output, Nat.le_trans h.size k.size, fun j hj hn => (k.block j (Nat.lt_of_lt_of_le hj h.size) (by omega)).trans (h.block j hj hn)⟩
/-- Result: new memory that holds numbers, in a block. -/
def RetG (w : World) (xs : List Int) (e : Ending) (w' : World) : Prop :=
  ∃ g n c, e = .returned (.slice (some ⟨g, 0, none⟩) n c) ∧ w'.ownsRow w.heap.size 2 1 (.slice (some ⟨g, 0, none⟩) n c) n (ints xs) ∧ n ≤ 1000 ∧ Below w.heap.size w w'
theorem col_at {rows : List (List Int)} {k bt : Nat} {p : List Int} {x : Int} (hd : rows.drop k = p :: rows.drop (k + 1)) (hx : p.getD bt 0 = x) : atI (colOf rows (bt : Int)) (k : Int) = x := by
  have h0 : (rows.drop k)[0]? = some p := by rw [hd]; rfl
  rw [List.getElem?_drop, Nat.add_zero] at h0
  unfold atI colOf
  rw [Int.toNat_natCast, List.getD_eq_getElem?_getD, List.getElem?_map, h0]
  show (some (atI p (bt : Int))).getD 0 = x
  unfold atI
  rw [Int.toNat_natCast, ← hx]
  rfl
theorem getD_of_drop2 {α : Type} {xs r : List α} {k : Nat} {x d : α} (h : xs.drop k = x :: r) : xs.getD k d = x := by
  have h0 : (xs.drop k)[0]? = some x := by rw [h]; rfl
  rw [List.getElem?_drop, Nat.add_zero] at h0
  rw [List.getD_eq_getElem?_getD, h0]
  rfl
end Go.Proofs.YtalgdeieejpelaaGreatDoor

/- Walks: a permutation. -/
namespace Go.Proofs.YtalgdeieejpelaaGreatDoor
open Go.RowKit
set_option linter.unusedVariables false

theorem Tryz.info_bool : (Tryz.prog.info? 4).map (fun i => (i.zero, i.size, i.bytes)) = some (some (.bool false), 1, 1) := by kernel_rfl
theorem run_make_bool (n : Nat) (h : n ≤ 1048576) (w : World) :
    (Instr.makeSlice 114 (.int .i64 (n : Int)) (.int .i64 (n : Int))).run Tryz.prog w = .ok (.slice (some ⟨w.heap.size, 0, none⟩) n n) (w.alloc (.cells (madeCells #[.bool false] n) 4)) := by
  obtain ⟨i, hi, hz, hs, hb⟩ := info_parts Tryz.info_bool
  have hr := run_make (P := Tryz.prog) w 114 4 i (.bool false) Tryz.underlying114 hi hz .i64 .i64 n n (by omega) (by omega) (by rw [hb]; omega) (by omega)
  rw [hs, Nat.mul_one, Int.toNat_natCast] at hr
  exact hr

end Go.Proofs.YtalgdeieejpelaaGreatDoor

/- Appends: rows to rows, numbers to numbers, at a step of a drawn region and in a plain one; slices.Clone. -/
namespace Go.Proofs.YtalgdeieejpelaaGreatDoor
open Go.RowKit
set_option linter.unusedVariables false
set_option maxRecDepth 100000

theorem one_news {w : World} {ad : Addr} {v : Value} (hc : w.cell? ad = some v) : ∀ (j : Nat) (u : Value), [v][j]? = some u → w.cell? (ad.add j) = some u := by
  intro j u hu
  have hj : j = 0 := by
    rcases j with _ | j
    · rfl
    · simp at hu
  subst hj
  have hadd : ad.add 0 = ad := by simp [Addr.add]
  rw [hadd, hc]
  simpa using hu
theorem ints_one (k : IntKind) (ys : List Int) : ∀ u ∈ ints ys, u.oneCell' = true := by
  intro u hu
  unfold ints at hu
  obtain ⟨y, _, rfl⟩ := List.mem_map.1 hu
  rfl
theorem ints_news {w : World} {b o m : Nat} {ys : List Int} (h : Rd w 1 (some ⟨b, o, none⟩) m (ints ys)) : ∀ (j : Nat) (u : Value), (ints ys)[j]? = some u → w.cell? ((⟨b, o, none⟩ : Addr).add j) = some u := by
  intro j u hu
  have hl := h.len
  have hj := (List.getElem?_eq_some_iff.1 hu).1
  obtain ⟨b', o', e, hc⟩ := h.pos (by omega)
  injection e with e
  injection e with e1 e2
  subst e1 e2
  have hadd : (⟨b, o, none⟩ : Addr).add j = ⟨b, o + j, none⟩ := by unfold Addr.add; split <;> simp_all
  rw [hadd]
  exact hc j u hu
/-- Numbers are appended to a slice without room: the result lies in a new block, nothing else changes. -/
theorem run_fresh (w : World) (ty : TypeId) (e0 : Addr) {b f m d : Nat} {ys : List Int} (hr : Rd w 1 (some ⟨b, f, none⟩) m (ints ys)) (hm : 0 < m) (hn : m ≤ 1099511627776) :
    ∃ cap w', (Builtin.append_ #[35, 35] ty #[.slice (some e0) 0 0, .slice (some ⟨b, f, none⟩) m d]).run Tryz.prog w = .ok (.slice (some ⟨w.heap.size, 0, none⟩) m cap) w' ∧
      w'.ownsRow w.heap.size 2 1 (.slice (some ⟨w.heap.size, 0, none⟩) m cap) m (ints ys) ∧ Below w.heap.size w w' ∧ w.heap.size < w'.heap.size := by
  obtain ⟨i, hi, hz, hs1, hb1⟩ := info_parts Tryz.info_i64
  have hl := hr.len
  have hl1 : (ints ys).length = m * i.size := by rw [hs1, hl]
  have hx := run_append_grow (P := Tryz.prog) w 35 ty 2 i (.int .i64 0) Tryz.underlying35 hi hz e0 0 0 [] (by simp) (fun j v h => by simp at h) ⟨b, f, none⟩ m d (ints ys) hl1 (ints_news hr) (by omega) (by omega) (growslice_fits (by omega) (by rw [hb1]; omega))
  rw [Nat.zero_add] at hx
  refine ⟨_, _, hx, ⟨hl, .inr ⟨w.heap.size, _, _, rfl, Nat.le_refl _, heap_alloc_new _ _, grownCap_ge _ _ _ _, grownCap_le_maxLen _ _ _ _ (by unfold maxLen; omega), ?_, ?_⟩⟩, (below_drewN' _ w 1).alloc (Nat.le_refl _) _, by simp⟩
  · have hg := grownCap_ge w m 0 2
    simp [Builtin.zeroCells, Value.cells, hl]
    omega
  · have hl' : (ints ys).length = m := by rw [hl, Nat.mul_one]
    rw [Nat.mul_one, Array.toList_append, Array.toList_append, List.append_assoc]
    have e : ([] : List Value).toArray.toList = [] := rfl
    rw [e, List.nil_append, List.take_append_of_le_length (by rw [List.toList_toArray, hl']; exact Nat.le_refl _), List.toList_toArray, List.take_of_length_le (by rw [hl']; exact Nat.le_refl _)]
section
variable {ops : Array Oper} {rest : List Oper} {o : Oper} {a : Act} {K : Act → World → Prop} {Q : Exit → Act → World → Prop} {E : Prop}
/-- One row is appended, at a step of a drawn region. -/
theorem step_row (w : World) (hgd : o.guard = none) (s x : Operand)
    (ho : o.op = .call { callee := .builtin .append, args := #[s, x], argTypes := #[31, 31] }) {base n c : Nat} {A : Option Addr} {vs : List Value}
    (hs : a.eval s = .slice A n c) (hown : w.ownsRow base 35 1 (.slice A n c) n vs) {ad : Addr} {B : Option Addr} {m d : Nat} (hx : a.eval x = .slice (some ad) 1 1)
    (hc : w.cell? ad = some (.slice B m d)) (hn : n ≤ 1099511627776) (hbase : base ≤ w.heap.size)
    (h : ∀ g c' w', w'.ownsRow base 35 1 (.slice (some ⟨g, 0, none⟩) (n + 1) c') (n + 1) (vs ++ [.slice B m d]) → w.grownBy w' (Value.slice A n c).ownBlock → ((Value.slice A n c).ownBlock = some g ∨ g = w.heap.size) → g < w'.heap.size → K (a.put o.dst (.slice (some ⟨g, 0, none⟩) (n + 1) c')) w') :
    if Region.wanted o (yielded ops a.tmps) = true then Oper.wp Tryz.prog o a w K Q else E := by
  obtain ⟨i, hi, hz, hs1, hb1⟩ := info_parts Tryz.info_ints
  exact step_append_lies w hgd s x 31 ho base 35 i (.slice none 0 0) 1 24 Tryz.underlying31 hi hz hs1 hb1 rfl (by decide) (.slice A n c) n vs hs hown ad 1 1 [.slice B m d] hx rfl (one_news hc)
    (by intro u hu; simp at hu; subst hu; rfl) (by decide) (by unfold maxLen; omega) (by omega) hbase _ rfl h
/-- Numbers are appended, at a step of a drawn region; the source is not empty. -/
theorem step_ints (w : World) (hgd : o.guard = none) (s x : Operand)
    (ho : o.op = .call { callee := .builtin .append, args := #[s, x], argTypes := #[35, 35] }) {base n c : Nat} {A : Option Addr} {xs : List Int}
    (hs : a.eval s = .slice A n c) (hown : w.ownsRow base 2 1 (.slice A n c) n (ints xs)) {b f m d : Nat} {ys : List Int} (hx : a.eval x = .slice (some ⟨b, f, none⟩) m d)
    (hr : Rd w 1 (some ⟨b, f, none⟩) m (ints ys)) (hm : 0 < m) (hn : n + m ≤ 1099511627776) (hbase : base ≤ w.heap.size) (N' : Nat) (hN' : n + m = N')
    (h : ∀ g c' w', w'.ownsRow base 2 1 (.slice (some ⟨g, 0, none⟩) N' c') N' (ints (xs ++ ys)) → w.grownBy w' (Value.slice A n c).ownBlock → ((Value.slice A n c).ownBlock = some g ∨ g = w.heap.size) → g < w'.heap.size → K (a.put o.dst (.slice (some ⟨g, 0, none⟩) N' c')) w') :
    if Region.wanted o (yielded ops a.tmps) = true then Oper.wp Tryz.prog o a w K Q else E := by
  subst hN'
  obtain ⟨i, hi, hz, hs1, hb1⟩ := info_parts Tryz.info_i64
  exact step_append_lies w hgd s x 35 ho base 2 i (.int .i64 0) 1 8 Tryz.underlying35 hi hz hs1 hb1 rfl (by decide) (.slice A n c) n (ints xs) hs hown ⟨b, f, none⟩ m d (ints ys) hx (by have := hr.len; omega) (ints_news hr)
    (ints_one .i64 ys) hm (by unfold maxLen; omega) (by omega) hbase _ rfl (by rw [← ints_append]; exact h)
/-- Numbers are appended, in a plain region. -/
theorem app_ints (w : World) (hgd : o.guard = none) (s x : Operand)
    (ho : o.op = .call { callee := .builtin .append, args := #[s, x], argTypes := #[35, 35] }) {base n c : Nat} {A : Option Addr} {xs : List Int}
    (hs : a.eval s = .slice A n c) (hown : w.ownsRow base 2 1 (.slice A n c) n (ints xs)) {b f m d : Nat} {ys : List Int} (hx : a.eval x = .slice (some ⟨b, f, none⟩) m d)
    (hr : Rd w 1 (some ⟨b, f, none⟩) m (ints ys)) (hm : 0 < m) (hn : n + m ≤ 1099511627776) (hbase : base ≤ w.heap.size) (N' : Nat) (hN' : n + m = N')
    (h : ∀ g c' w', w'.ownsRow base 2 1 (.slice (some ⟨g, 0, none⟩) N' c') N' (ints (xs ++ ys)) → w.grownBy w' (Value.slice A n c).ownBlock → ((Value.slice A n c).ownBlock = some g ∨ g = w.heap.size) → g < w'.heap.size → wpList Tryz.prog ops Q rest (a.put o.dst (.slice (some ⟨g, 0, none⟩) N' c')) w') :
    wpList Tryz.prog ops Q (o :: rest) a w := by
  subst hN'
  obtain ⟨i, hi, hz, hs1, hb1⟩ := info_parts Tryz.info_i64
  exact wpList_append_lies w hgd s x 35 ho base 2 i (.int .i64 0) 1 8 Tryz.underlying35 hi hz hs1 hb1 rfl (by decide) (.slice A n c) n (ints xs) hs hown ⟨b, f, none⟩ m d (ints ys) hx (by have := hr.len; omega) (ints_news hr)
    (ints_one .i64 ys) hm (by unfold maxLen; omega) (by omega) hbase _ rfl (by rw [← ints_append]; exact h)
/-- Numbers are appended to a slice without room, at a step of a drawn region. -/
theorem step_fresh (w : World) (hgd : o.guard = none) (s x : Operand)
    (ho : o.op = .call { callee := .builtin .append, args := #[s, x], argTypes := #[35, 35] }) {e0 : Addr}
    (hs : a.eval s = .slice (some e0) 0 0) {b f m d : Nat} {ys : List Int} (hx : a.eval x = .slice (some ⟨b, f, none⟩) m d)
    (hr : Rd w 1 (some ⟨b, f, none⟩) m (ints ys)) (hm : 0 < m) (hn : m ≤ 1099511627776)
    (h : ∀ c' w', w'.ownsRow w.heap.size 2 1 (.slice (some ⟨w.heap.size, 0, none⟩) m c') m (ints ys) → Below w.heap.size w w' → w.heap.size < w'.heap.size → K (a.put o.dst (.slice (some ⟨w.heap.size, 0, none⟩) m c')) w') :
    if Region.wanted o (yielded ops a.tmps) = true then Oper.wp Tryz.prog o a w K Q else E := by
  have hw : Region.wanted o (yielded ops a.tmps) = true := by simp [Region.wanted, hgd]
  rw [if_pos hw]
  obtain ⟨cap, w', hrun, h1, h2, h3⟩ := run_fresh w o.type e0 (d := d) hr hm hn
  unfold Oper.wp execOp
  simp only [ho, resolve, invoke, builtin, Sem.run_bind, Sem.run_pure, Result.andThen_ok, List.map_toArray, List.map_cons, List.map_nil, hs, hx, hrun]
  exact h cap w' h1 h2 h3
/-- One row is appended, in a plain region. -/
theorem app_rows (w : World) (hgd : o.guard = none) (s x : Operand)
    (ho : o.op = .call { callee := .builtin .append, args := #[s, x], argTypes := #[31, 31] }) {base n c : Nat} {A : Option Addr} {vs : List Value}
    (hs : a.eval s = .slice A n c) (hown : w.ownsRow base 35 1 (.slice A n c) n vs) {ad : Addr} {B : Option Addr} {m d : Nat} (hx : a.eval x = .slice (some ad) 1 1)
    (hc : w.cell? ad = some (.slice B m d)) (hn : n ≤ 1099511627776) (hbase : base ≤ w.heap.size)
    (h : ∀ g c' w', w'.ownsRow base 35 1 (.slice (some ⟨g, 0, none⟩) (n + 1) c') (n + 1) (vs ++ [.slice B m d]) → w.grownBy w' (Value.slice A n c).ownBlock → ((Value.slice A n c).ownBlock = some g ∨ g = w.heap.size) → g < w'.heap.size → wpList Tryz.prog ops Q rest (a.put o.dst (.slice (some ⟨g, 0, none⟩) (n + 1) c')) w') :
    wpList Tryz.prog ops Q (o :: rest) a w := by
  obtain ⟨i, hi, hz, hs1, hb1⟩ := info_parts Tryz.info_ints
  exact wpList_append_lies w hgd s x 31 ho base 35 i (.slice none 0 0) 1 24 Tryz.underlying31 hi hz hs1 hb1 rfl (by decide) (.slice A n c) n vs hs hown ad 1 1 [.slice B m d] hx rfl (one_news hc)
    (by intro u hu; simp at hu; subst hu; rfl) (by decide) (by unfold maxLen; omega) (by omega) hbase _ rfl h
end
/-- A new copy of numbers that are not none. -/
def RetNew (w : World) (xs : List Int) (e : Ending) (w' : World) : Prop :=
  ∃ g c, e = .returned (.slice (some ⟨g, 0, none⟩) xs.length c) ∧ w'.ownsRow w.heap.size 2 1 (.slice (some ⟨g, 0, none⟩) xs.length c) xs.length (ints xs) ∧ w.heap.size ≤ g ∧ Below w.heap.size w w'
theorem clone_any (b f c : Nat) (xs : List Int) (w : World) (h : Rd w 1 (some ⟨b, f, none⟩) xs.length (ints xs)) (h0 : 0 < xs.length) (h1 : xs.length ≤ 1048576) :
    Calls Tryz.prog 63 #[.slice (some ⟨b, f, none⟩) xs.length c] w (RetNew w xs) := by
  have HO := Lib.hid (own_empty w w.heap.size 2 (Nat.le_refl _))
  have HR := Lib.hid (h.below ((Below.refl _ _).alloc (Nat.le_refl _) (.cells #[] 2)))
  have hnil : ∀ W, (binOp .eql 35 (.slice (some ⟨b, f, none⟩) xs.length c) (.slice none 0 0)).run Tryz.prog W = .ok (.bool false) W := fun W => Lib.run_eql_slice_some_nil W _ _ _ Tryz.underlying35
  clear h
  go_enter Tryz.func63, Tryz.ntmps63
  go_wp2_with (at_builtin; refine app_ints _ rfl _ _ rfl (xs := []) rfl HO.out rfl HR.out h0 (by omega) (by simp) xs.length (by omega) ?_; intro g1 c1 w1 ho1 hg1 hw1 hl1)
  have HO1 := Lib.hid ho1; have HG1 := Lib.hid hg1; have HW1 := Lib.hid hw1
  clear ho1 hg1 hw1
  go_wp2_with fail
  go_ret
  refine ⟨g1, c1, rfl, by simpa using HO1.out, (HO1.out.lt g1 rfl).1, ?_⟩
  exact ((Below.refl _ _).alloc (Nat.le_refl _) _).grown HG1.out (by simp) (fun k hk => by simp [Value.ownBlock] at hk; omega)
end Go.Proofs.YtalgdeieejpelaaGreatDoor

/- Walks: the library's iterator over rows, from the last to the first. -/
namespace Go.Proofs.YtalgdeieejpelaaGreatDoor
open Go.RowKit Go.Shelf
set_option linter.unusedVariables false
set_option maxRecDepth 100000
attribute [local go_sem] Oper.semAt_some

/-- What has come behind k rounds of len: len - 1, len - 2, .. -/
def revN (len k : Nat) : List Nat := (List.range k).map fun j => len - 1 - j
theorem revN_succ (len k : Nat) : revN len (k + 1) = revN len k ++ [len - 1 - k] := by unfold revN; rw [List.range_succ, List.map_append]; rfl
theorem revN_len (len k : Nat) : (revN len k).length = k := by simp [revN]
theorem revN_mem {len k x : Nat} : x ∈ revN len k ↔ ∃ j, j < k ∧ x = len - 1 - j := by
  unfold revN
  rw [List.mem_map]
  constructor
  · rintro ⟨j, hj, rfl⟩
    exact ⟨j, List.mem_range.1 hj, rfl⟩
  · rintro ⟨j, hj, rfl⟩
    exact ⟨j, List.mem_range.2 hj, rfl⟩
/-- A place below len. -/
abbrev Pl (len : Nat) := { k : Nat // k < len }
def encP (len : Nat) (rv : Nat → Value) (x : Pl len) : Array Value := #[.int .i64 (x.1 : Int), rv x.1]
set_option maxHeartbeats 2000000 in
theorem back1_in (F : Fence) (n : Nat) (hF : F.fn 82) (hro : F.round = none) (hn : 1 ≤ n) (l Bs n₀ : Nat) (A : Option Addr) (len cap : Nat) (hlen : len ≤ 1048576) (rv : Nat → Value) (J Jx : List (Pl len) → World → Prop) (W : World)
    (hY : ∀ pre x W, J pre W → pre.length < len → YieldAt F (n - 1) Tryz.prog l (encP len rv x) W fun e W' =>
      (e = .returned (.bool true) ∧ J (pre ++ [x]) W' ∧ Below n₀ W W') ∨ (e = .returned (.bool false) ∧ Jx (pre ++ [x]) W'))
    (hBn : Bs < n₀) (hBs : W.cell? ⟨Bs, 0, none⟩ = some (.slice A len cap)) (hc : ∀ b o, A = some ⟨b, o, none⟩ → ∀ j, j < len → b < n₀ ∧ W.cell? ⟨b, o + j, none⟩ = some (rv j)) (hA : 0 < len → ∃ b o, A = some ⟨b, o, none⟩) (h0 : J [] W) :
    CallsIn F n Tryz.prog 82 #[.func (.yield l) #[] #[], .pointer (some ⟨Bs, 0, none⟩)] W fun e W' => (∃ v, e = .returned v) ∧
      ((∃ ys, ys.map (·.1) = revN len len ∧ J ys W') ∨ (∃ pre, (∃ k, k < len ∧ pre.map (·.1) = revN len (k + 1)) ∧ Jx pre W')) := by
  refine callsIn_of_wp Tryz.func82 rfl hF ?_ hro
  simp only [Tryz.ntmps82, List.size_toArray, List.length_cons, List.length_nil, Nat.reduceAdd, Nat.reduceSub, Array.replicate_succ, Array.replicate_zero, List.push_toArray, List.append_toArray, List.nil_append, List.cons_append]
  gi_wp2
  gi_loopw [3] (fun i wr => ∃ (z : Int) (pre : List (Pl len)), i = .int .i64 z ∧ -1 ≤ z ∧ z ≤ (len : Int) - 1 ∧ pre.map (·.1) = revN len ((len : Int) - 1 - z).toNat ∧ J pre wr ∧ Below n₀ W wr) (fun i _ => (intOf i + 1).toNat)
  case atStart => exact ⟨(len : Int) - 1, [], by first | rfl | go_num, by omega, by omega, by rw [show ((len : Int) - 1 - ((len : Int) - 1)).toNat = 0 by omega]; rfl, h0, Below.refl _ _⟩
  case round =>
    obtain ⟨z, pre, rfl, hz1, hz2, hp, hJs, hnx⟩ := hrel
    have HP := Lib.hid hp
    clear hp
    have hbs := (hnx.cell (p := ⟨Bs, 0, none⟩) hBn).trans hBs
    by_cases hpos : 0 ≤ z
    · obtain ⟨j, rfl⟩ := int_up z hpos
      have hjl : j < len := by omega
      obtain ⟨b, o, rfl⟩ := hA (by omega)
      obtain ⟨hbn, hcj⟩ := hc b o rfl j hjl
      have hcw := (hnx.cell (p := ⟨b, o + j, none⟩) hbn).trans hcj
      have hpl : pre.length < len := by
        have := congrArg List.length HP.out
        rw [List.length_map, revN_len] at this
        omega
      obtain ⟨fn, tmps, assign, body, hy, hR⟩ := hY pre ⟨j, hjl⟩ wr hJs hpl
      have hpn : (pre ++ [(⟨j, hjl⟩ : Pl len)]).map (·.1) = revN len (len - 1 - j + 1) := by
        rw [List.map_append, HP.out, show ((len : Int) - 1 - (j : Int)).toNat = len - 1 - j by omega, revN_succ]
        congr 1
        show [j] = [len - 1 - (len - 1 - j)]
        congr 1
        omega
      have HPN := Lib.hid hpn
      have HNX := Lib.hid hnx
      simp only [encP] at hy
      have hd0 : decide ((0 : Int) ≤ (j : Int)) = true := by simp
      clear hcj hpl hpn hnx hpos hJs
      gi_wp2
      refine hR.mono ?_
      rintro e W3 (⟨rfl, hJ3, hk3⟩ | ⟨rfl, hJx3⟩)
      · gi_wp2
        go_roundw
        case rel => exact ⟨(j : Int) - 1, pre ++ [⟨j, hjl⟩], by first | rfl | go_num, by omega, by omega, by rw [HPN.out]; congr 1; omega, hJ3, HNX.out.trans hk3⟩
        case measure => simp [intOf] <;> omega
      · gi_wp2
        refine bodyPost_ret (results_none rfl _ _ _) rfl ?_
        exact ⟨⟨_, rfl⟩, .inr ⟨_, ⟨len - 1 - j, by omega, HPN.out⟩, hJx3⟩⟩
    · have hz : z = -1 := by omega
      subst hz
      have hp2 := HP.out
      rw [show ((len : Int) - 1 - (-1)).toNat = len by omega] at hp2
      have HP2 := Lib.hid hp2
      clear hp2 HP
      gi_wp2
      go_end0
      exact ⟨⟨_, rfl⟩, .inl ⟨_, HP2.out, hJs⟩⟩
set_option maxHeartbeats 1000000 in
theorem backward_in (F : Fence) (n : Nat) (hF : F.fn 62) (hro : F.round = none) (A : Option Addr) (len cap : Nat) (w : World) :
    CallsIn F n Tryz.prog 62 #[.slice A len cap] w fun e w' => e = .returned (.func (.func 82) #[] #[.pointer (some ⟨w.heap.size, 0, none⟩)]) ∧ w' = w.alloc (.cells #[.slice A len cap] 31) := by
  refine callsIn_of_wp Tryz.func62 rfl hF ?_ hro
  simp only [Tryz.ntmps62, List.size_toArray, List.length_cons, List.length_nil, Nat.reduceAdd, Nat.reduceSub, Array.replicate_succ, Array.replicate_zero, List.push_toArray, List.append_toArray, List.nil_append, List.cons_append]
  gi_wp2
  go_ret
  exact ⟨rfl, rfl⟩
theorem backward_stops (F : Fence) (n : Nat) (hF : F.fn 82) (hro : F.round = none) (hn : 1 ≤ n) (Bs n₀ : Nat) (A : Option Addr) (len cap : Nat) (hlen : len ≤ 1048576) (rv : Nat → Value) (w : World) (hBn : Bs < n₀) (hn₀ : n₀ ≤ w.heap.size)
    (hBs : w.cell? ⟨Bs, 0, none⟩ = some (.slice A len cap)) (hc : ∀ b o, A = some ⟨b, o, none⟩ → ∀ j, j < len → b < n₀ ∧ w.cell? ⟨b, o + j, none⟩ = some (rv j)) (hA : 0 < len → ∃ b o, A = some ⟨b, o, none⟩) :
    SeqStopsK F n Tryz.prog 82 #[.pointer (some ⟨Bs, 0, none⟩)] (encP len rv) (Below n₀) (fun ys => ys.map (·.1) = revN len len) (fun pre => ∃ k, k < len ∧ pre.map (·.1) = revN len (k + 1)) len w := fun l J Jx W hW hJ _ hY h0 =>
  back1_in F n hF hro hn l Bs n₀ A len cap hlen rv J Jx W hY hBn ((hW.cell (p := ⟨Bs, 0, none⟩) (show Bs < w.heap.size by omega)).trans hBs) (fun b o e j hj => ⟨(hc b o e j hj).1, (hW.cell (p := ⟨b, o + j, none⟩) (show b < w.heap.size by have := (hc b o e j hj).1; omega)).trans (hc b o e j hj).2⟩) hA h0
end Go.Proofs.YtalgdeieejpelaaGreatDoor

/- Walks: a drawn region inside a round of a range over a function, by the region theorem Rt. No Go function in sight. -/
namespace Go.Proofs.YtalgdeieejpelaaGreatDoor
open Go.RowKit
set_option linter.unusedVariables false

section
variable {P : Program} {ops : Array Oper} {Q : Exit → Act → World → Prop} {md : Region.Mode}

theorem rowsIn_round {l n : Nat} {row : String} {args : Array Value} {w : World} {R : Value → World → Prop} (h : Rows P row args w R) : Go.RowsIn (Fence.wide.inRound l) n P row args w R :=
  fun c cs _ => let ⟨v, w', r, s⟩ := h c cs; ⟨v, w', r, stepsIn_wide.2 s⟩
theorem callsIn_round {l n : Nat} {f : FuncId} {args : Array Value} {w : World} {R : Ending → World → Prop} (h : Calls P f args w R) : CallsIn (Fence.wide.inRound l) n P f args w R :=
  (callsIn_wide (n := n)).2 h
theorem wideRound_depth (l n : Nat) : (Fence.wide.inRound l).depth.isSome = true → 1 ≤ n := fun h => by simp [Fence.wide] at h
theorem Oper.wp_round {l n : Nat} {o : Oper} {a : Act} {w : World} {K : Act → World → Prop} (hnd : ∀ c, o.op ≠ .defer c) (h : o.wp P a w K Q) : o.wpIn (Fence.wide.inRound l) n P a w K Q := by
  unfold Go.Oper.wp at h
  unfold Go.Oper.wpIn
  refine ⟨fun _ _ => trivial, ?_⟩
  rw [Oper.semAt_eq _ _ _ hnd]
  generalize (execOp a.eval o).run P w = r at *
  cases r with
  | ok x w' =>
    cases x <;> simp only [Oper.upon, Oper.uponIn] at h ⊢ <;>
      first
        | exact h
        | exact ⟨wideRound_depth l n, callsIn_round h⟩
        | exact ⟨wideRound_depth l n, rowsIn_round h⟩
        | exact h.elim
  | halt x w' => cases x <;> simp only [Oper.upon, Oper.uponIn] at h ⊢ <;> exact h
theorem wpOp_round {l n i : Nat} {a : Act} {w : World} {K : Act → World → Prop} (hQ : ¬ LetsOut Q) (hnd : ∀ o, ops[i]? = some o → ∀ c, o.op ≠ .defer c) (h : wpOp P ops Q i K a w) :
    wpOpIn (Fence.wide.inRound l) n P ops Q i K a w := by
  unfold wpOp at h
  unfold wpOpIn
  cases ho : ops[i]? with
  | none => simpa [ho] using h
  | some o =>
    simp only [ho] at h ⊢
    by_cases hw : Region.wanted o (yielded ops a.tmps) = true
    · rw [if_pos hw] at h
      rw [if_pos hw]
      rcases h with h | h
      · exact Oper.wp_round (hnd o ho) h
      · exact absurd h.2 hQ
    · rw [if_neg hw] at h
      rw [if_neg hw]
      exact ⟨fun _ _ => trivial, h⟩
theorem wpAny_round {l n : Nat} (hQ : ¬ LetsOut Q) (hnd : ∀ (i : Nat) o, ops[i]? = some o → ∀ c, o.op ≠ .defer c) : ∀ (fuel : Nat) (listed : Array Bool) (a : Act) (w : World),
    wpAny P md ops Q fuel listed a w → wpAnyIn (Fence.wide.inRound l) n P md ops Q fuel listed a w
  | 0, _, _, _, h => h
  | fuel + 1, listed, a, w, h => ⟨h.1, fun i hi => wpOpIn_mono (fun a' w' h' => wpAny_round hQ hnd fuel _ a' w' h') (wpOp_round hQ (hnd i) (h.2 i hi))⟩
/-- No operation is a defer. -/
def ndB (ops : Array Oper) : Bool := ops.all fun o => match o.op with | .defer _ => false | _ => true
theorem ndB_spec (h : ndB ops = true) : ∀ (i : Nat) o, ops[i]? = some o → ∀ c, o.op ≠ .defer c := by
  intro i o ho c hc
  unfold ndB at h
  have h1 := (Array.all_eq_true'.1 h) o (Array.mem_of_getElem? ho)
  rw [hc] at h1
  cases h1
/-- The region goes on in its normal way alone. -/
def NormQ (Q : Exit → Act → World → Prop) : Exit → Act → World → Prop := fun e a w => match e with | .normal => Q .normal a w | _ => False
theorem wp_norm {c : Code} {a : Act} {w : World} (h : c.wp P (NormQ Q) a w) : c.wp P Q a w :=
  Code.wp_mono (fun e a w hq => by cases e <;> first | exact hq | exact hq.elim) h
theorem normQ_not : ¬ LetsOut (NormQ Q) := fun ⟨_, _, h⟩ => h
theorem wpIn_round_T2 (S : World → Prop) (late : Nat → Bool) {l m n : Nat} {id : Nat} {a : Act} {w : World} (hm : P.follows .mixedOrders = true) (hn : ops.size = n) (hnd : ndB ops = true)
    (h : ∀ ops', Hid (ops' = ops) → wpAnyT P .any ops' (NormQ Q) S late n (Array.replicate n false) a w.drew) : (Code.region id ops true).wpIn (Fence.wide.inRound l) m P Q a w := by
  subst hn
  exact Go.wpIn_mono (wpIn_region_any hm (wpAny_round normQ_not (ndB_spec hnd) _ _ _ _ (wpAny_of_T _ _ _ _ (h ops (Lib.hid rfl)))))
    (fun e a w hq => by cases e <;> first | exact hq | exact hq.elim)
/-- What holds with a condition holds without one: an operation that reads no memory may be taken ahead of it. -/
theorem wpAnyT_weaken {S : World → Prop} {late : Nat → Bool} : ∀ (fuel : Nat) (listed : Array Bool) (a : Act) (w : World), wpAnyT P md ops Q S late fuel listed a w → wpAnyT P md ops Q (fun _ => True) (fun _ => false) fuel listed a w
  | 0, _, _, _, h => h
  | fuel + 1, _, _, _, h => ⟨h.1, fun i hi => wpOp_mono (fun a' w' h' => ⟨.inr trivial, wpAnyT_weaken fuel _ a' w' h'.2⟩) (h.2 i hi)⟩
end
end Go.Proofs.YtalgdeieejpelaaGreatDoor

/- Walks: lists of redress (chapter 29), both sides. -/
namespace Go.Proofs.YtalgdeieejpelaaGreatDoor
open Go.RowKit
set_option linter.unusedVariables false
set_option maxRecDepth 100000

/-- Points of a redress, and whether there are some. -/
def redPtF (t : Tb) (x : RedT) : Int × Bool := if x.2.2.1 = 3 then (x.2.2.2, true) else avgF t x.1 x.2.1 x.2.2.1
theorem redB_ok {t : Tb} {x : RedT} (a1 : withinB x.1 0 ((t.pts.length : Int) - 1) = true) (a2 : withinB x.2.1 0 (t.boats - 1) = true) (a3 : isRedBT x.2.2.1 x.2.2.2 = true) (a4 : codeAt t x.1 x.2.1 = 9) : redB t x = (redPtF t x).2 := by
  unfold redB redPtF
  rw [a1, a2, a3, a4]
  by_cases h : x.2.2.1 = 3
  · simp [h]
  · simp [h]
theorem redB_no {t : Tb} {x : RedT} (h : withinB x.1 0 ((t.pts.length : Int) - 1) = false ∨ withinB x.2.1 0 (t.boats - 1) = false ∨ isRedBT x.2.2.1 x.2.2.2 = false ∨ codeAt t x.1 x.2.1 ≠ 9) : redB t x = false := by
  unfold redB
  rcases h with h | h | h | h
  · rw [h]; simp
  · rw [h]; simp
  · rw [h]; simp
  · have : (codeAt t x.1 x.2.1 == 9) = false := by simpa using h
    rw [this]; simp
def prevR (xs : List RedT) : Nat → Option RedT
  | 0 => none
  | k + 1 => xs[k]?
theorem reds_no {t : Tb} {x : RedT} {p : Option RedT} {r : List RedT} (h : redB t x = false) : redsGo t p (x :: r) = false := by
  cases p <;> simp [redsGo, h]
theorem reds_first {t : Tb} {x : RedT} {r : List RedT} (h : redB t x = true) : redsGo t none (x :: r) = redsGo t (some x) r := by simp [redsGo, h]
theorem reds_next {t : Tb} {x y : RedT} {r : List RedT} (h : redB t x = true) (hl : ltRB y x = true) : redsGo t (some y) (x :: r) = redsGo t (some x) r := by simp [redsGo, h, hl]
theorem reds_bad {t : Tb} {x y : RedT} {r : List RedT} (hl : ltRB y x = false) : redsGo t (some y) (x :: r) = false := by simp [redsGo, hl]
theorem isRedB_kind {k p : Int} (h : isRedBT k p = true) : k = 1 ∨ k = 2 ∨ k = 3 := by
  unfold isRedBT at h
  by_cases h3 : k = 3
  · exact .inr (.inr h3)
  · rw [if_neg h3] at h
    simp only [Bool.and_eq_true, withinB_iff] at h
    omega
theorem within_litT {n a b : Int} {r : Bool} (h : withinB n a b = r) (w : World) : Calls Tryz.prog 17 #[.int .i64 n, .int .i64 a, .int .i64 b] w fun e w' => e = .returned (.bool r) ∧ w = w' := by
  subst h; exact within_any n a b w
theorem l01In_litT {n a b : Int} {r : Bool} (h : withinB n a b = r) (w : World) : Calls Tryz.prog 25 #[.int .i64 n, .int .i64 a, .int .i64 b] w fun e w' => e = .returned (.bool r) ∧ w = w' := by
  subst h; exact l01In_any n a b w
theorem isRedress_anyT (x0 x1 x2 x3 : Int) (w : World) :
    Calls Tryz.prog 19 #[.agg #[.int .i64 x0, .int .i64 x1, .int .i64 x2, .int .i64 x3]] w fun e w' => e = .returned (.bool (isRedBT x2 x3)) ∧ Below w.heap.size w w' := by
  have HB := Lib.hid (show ∀ o, Below w.heap.size w (w.alloc o) from fun o => (Below.refl _ _).alloc (Nat.le_refl _) o)
  unfold isRedBT
  by_cases h3 : x2 = 3
  · subst h3
    rw [if_pos rfl]
    go_enter Tryz.func19, Tryz.ntmps19
    go_wp2_with (go_at_call 17; refine (within_any _ _ _ _).mono ?_; rintro e w' ⟨rfl, rfl⟩)
    go_ret
    exact ⟨rfl, HB.out _⟩
  · rw [if_neg h3]
    have e3 : (x2 == 3) = false := by simp [h3]
    cases h12 : withinB x2 1 2 with
    | false =>
      have HWL := Lib.hid (fun w => within_litT h12 w)
      clear h12
      go_enter Tryz.func19, Tryz.ntmps19
      go_wp2_with (go_at_call 17; refine (HWL.out _).mono ?_; rintro e w' ⟨rfl, rfl⟩)
      go_ret
      exact ⟨rfl, HB.out _⟩
    | true =>
      have HWL := Lib.hid (fun w => within_litT h12 w)
      clear h12
      go_enter Tryz.func19, Tryz.ntmps19
      go_wp2_with (go_at_call 17; refine (HWL.out _).mono ?_; rintro e w' ⟨rfl, rfl⟩)
      go_ret
      exact ⟨ret_bool (by simp), HB.out _⟩
theorem redressPoints_any (P : Option Addr) (n c : Nat) (C : Option Addr) (m d : Nat) (t : Tb) (x0 : Int) (bt : Nat) (x2 x3 : Int) (hk : x2 = 1 ∨ x2 = 2 ∨ x2 = 3) (ok : TabOk t) (hbt : (bt : Int) < t.boats) (w : World) (h : RdT w P n C m t) :
    Calls Tryz.prog 49 #[.agg #[.int .i64 t.boats, .slice P n c, .slice C m d], .agg #[.int .i64 x0, .int .i64 bt, .int .i64 x2, .int .i64 x3]] w fun e w' => e = .returned (.tuple #[.int .i64 (redPtF t (x0, (bt : Int), x2, x3)).1, .bool (redPtF t (x0, (bt : Int), x2, x3)).2]) ∧ Below w.heap.size w w' := by
  have HB := Lib.hid (show ∀ o1 o2, Below w.heap.size w ((w.alloc o1).alloc o2) from fun o1 o2 => ((Below.refl _ _).alloc (Nat.le_refl _) _).alloc (by simp) _)
  unfold redPtF
  show Calls _ _ _ _ fun e w' => e = .returned (.tuple #[.int .i64 (if x2 = 3 then (x3, true) else avgF t x0 bt x2).1, .bool (if x2 = 3 then (x3, true) else avgF t x0 bt x2).2]) ∧ Below w.heap.size w w'
  by_cases h3 : x2 = 3
  · subst h3
    rw [if_pos rfl]
    go_enter Tryz.func49, Tryz.ntmps49
    go_wp2_with fail
    go_ret2
    exact ⟨rfl, HB.out _ _⟩
  · rw [if_neg h3]
    have e3 : (x2 == 3) = false := by simp [h3]
    have HA := Lib.hid (fun w' (hb : Below w.heap.size w w') => implAvg_any P n c C m d t x0 bt x2 (by omega) ok hbt w' (h.below hb))
    generalize avgF t x0 bt x2 = R at *
    clear h hk hbt ok h3
    go_enter Tryz.func49, Tryz.ntmps49
    go_wp2_with fail
    refine (HA.out _ (HB.out _ _)).mono ?_
    rintro e w2 ⟨rfl, hb2⟩
    have HB2 := Lib.hid ((HB.out _ _).trans (hb2.mono (HB.out _ _).size))
    clear hb2
    go_wp2_with fail
    go_ret2
    exact ⟨rfl, HB2.out⟩
end Go.Proofs.YtalgdeieejpelaaGreatDoor

/- Walks: lists of redress of the program (chapter 29). -/
namespace Go.Proofs.YtalgdeieejpelaaGreatDoor
open Go.RowKit Go.Sort
set_option linter.unusedVariables false
set_option maxRecDepth 100000

theorem within_bl {n a b : Int} {r : Bool} (h : withinB n a b = r) (w : World) : Calls Tryz.prog 17 #[.int .i64 n, .int .i64 a, .int .i64 b] w fun e w' => e = .returned (.bool r) ∧ Below w.heap.size w w' :=
  (within_litT h w).mono fun _ _ ⟨a, b⟩ => ⟨a, by rw [b]; exact Below.refl _ _⟩
set_option maxHeartbeats 4000000 in
theorem areRedress_any (P : Option Addr) (n c : Nat) (C : Option Addr) (m d : Nat) (t : Tb) (A : Option Addr) (l cl : Nat) (xs : List RedT) (ok : TabOk t) (w : World) (h : RdT w P n C m t) (hl : Rd w 4 A l (reds xs)) :
    Calls Tryz.prog 45 #[.agg #[.int .i64 t.boats, .slice P n c, .slice C m d], .slice A l cl] w fun e w' => e = .returned (.bool (redsB t xs)) ∧ Below w.heap.size w w' := by
  have hn := h.pts.le
  have hll := hl.le
  have hn12 : n ≤ 12 := by have := ok.many; have := h.pts.len; omega
  have HN := Lib.hid h.pts.len
  have HL := Lib.hid hl.len_red
  have hnm : n = m := by have := ok.same; have := h.pts.len; have := h.cds.len; omega
  subst hnm
  have hb1' := ok.b1
  have hb2' := ok.b2
  have E := Lib.hid (show redsB t xs = redsGo t none xs from rfl)
  generalize redsB t xs = R at *
  have HOK := Lib.hid ok
  clear ok
  go_enter Tryz.func45, Tryz.ntmps45
  go_wp2_with fail
  obtain ⟨w1, hw1, X0, hb1, hs1⟩ := one_box w #[.int .i64 t.boats, .slice P n c, .slice C n d] 33
  rw [← hw1]
  have hs1 : w.heap.size < w1.heap.size := by omega
  clear hw1
  have h1 := h.below hb1
  have HL1 := Lib.hid (hl.below hb1)
  have HB1 := Lib.hid hb1
  clear h hb1 hl
  go_loopw [11] (fun i wr => ∃ k : Nat, k ≤ l ∧ i = .int .i64 k ∧ Hid (redsGo t (prevR xs k) (xs.drop k) = redsGo t none xs) ∧ Below w1.heap.size w1 wr) (fun i _ => l - (intOf i).toNat)
  case atStart => exact ⟨0, Nat.zero_le _, rfl, Lib.hid rfl, Below.refl _ _⟩
  case round =>
    obtain ⟨k, hk, rfl, HR, hb⟩ := hrel
    by_cases hlt : k < l
    · obtain ⟨b, o, x0, x1, x2, x3, rfl, hx, hd, hc0, hc1, hc2, hc3⟩ := (HL1.out.below hb).red hlt
      have HD := Lib.hid hd; have HX := Lib.hid hx
      clear hd hx
      go_wp2_with fail
      clear hc0 hc1 hc2 hc3
      obtain ⟨wa, hwa, XA, hba, hsa⟩ := one_box wr #[.int .i64 x0, .int .i64 x1, .int .i64 x2, .int .i64 x3] 25
      rw [← hwa]
      have hsr := hb.size
      have hsa : wr.heap.size < wa.heap.size := by omega
      have F0 := ((X0.below hb).below hba).f3
      have FA := XA.f4
      have HBW := Lib.hid (hb.trans (hba.mono hb.size))
      have HX0 := Lib.hid (show Box wa w.heap.size _ _ from (X0.below hb).below hba)
      have HXA := Lib.hid XA
      clear hwa hb hba X0 XA
      cases a1 : withinB x0 0 ((n : Int) - 1) with
      | false =>
        have HA1 := Lib.hid (show withinB x0 0 ((t.pts.length : Int) - 1) = false by rw [HN.out]; exact a1)
        have HW1 := Lib.hid (fun w => within_bl a1 w)
        clear a1
        have kq0 := cell_regrown (F0.1)
        have kq1 := cell_regrown (F0.2.1)
        have kq2 := cell_regrown (F0.2.2.1)
        have kq3 := cell_regrown (FA.1)
        have kq4 := cell_regrown (FA.2.1)
        have kq5 := cell_regrown (FA.2.2.1)
        have kq6 := cell_regrown (FA.2.2.2.1)
        refine wp_region_quiet_below (by kernel_rfl) (by kernel_rfl) ?_
        repeat (first | go_big_quiet_step ((first | (go_at_call 17; (with_reducible exact Calls.regrown_of (HW1.out _))))) | quiet_step ((first | (go_at_call 17; (with_reducible exact Calls.regrown_of (HW1.out _))))))
        refine wpQuiet_nil ?_
        intro _ hw'
        obtain ⟨⟨dq, osq⟩, hw''⟩ := hw'
        subst hw''
        obtain ⟨wq, hq0, hq⟩ : ∃ wq, wq = grow (redrawn wa dq) osq ∧ Below wa.heap.size wa wq := ⟨_, rfl, below_regrown _ _ _⟩
        rw [← hq0]
        clear hq0 kq0 kq1 kq2 kq3 kq4 kq5 kq6
        go_wp2_with fail
        go_ret
        exact ⟨ret_bool (by rw [E.out, ← HR.out, HD.out]; exact (reds_no (redB_no (.inl HA1.out))).symm), HB1.out.trans ((HBW.out.trans (hq.mono HBW.out.size)).mono HB1.out.size)⟩
      | true =>
        have HA1 := Lib.hid (show withinB x0 0 ((t.pts.length : Int) - 1) = true by rw [HN.out]; exact a1)
        have HW1 := Lib.hid (fun w => within_bl a1 w)
        have r1 := withinB_iff.1 a1
        clear a1
        cases a2 : withinB x1 0 (t.boats - 1) with
        | false =>
          have HA2 := Lib.hid a2
          have HW2 := Lib.hid (fun w => within_bl a2 w)
          clear a2
          have kq0 := cell_regrown (F0.1)
          have kq1 := cell_regrown (F0.2.1)
          have kq2 := cell_regrown (F0.2.2.1)
          have kq3 := cell_regrown (FA.1)
          have kq4 := cell_regrown (FA.2.1)
          have kq5 := cell_regrown (FA.2.2.1)
          have kq6 := cell_regrown (FA.2.2.2.1)
          refine wp_region_quiet_below (by kernel_rfl) (by kernel_rfl) ?_
          repeat (first | go_big_quiet_step ((first | (go_at_call 17; (with_reducible exact Calls.regrown_of (HW1.out _))) | (go_at_call 17; (with_reducible exact Calls.regrown_of (HW2.out _))))) | quiet_step ((first | (go_at_call 17; (with_reducible exact Calls.regrown_of (HW1.out _))) | (go_at_call 17; (with_reducible exact Calls.regrown_of (HW2.out _))))))
          refine wpQuiet_nil ?_
          intro _ hw'
          obtain ⟨⟨dq, osq⟩, hw''⟩ := hw'
          subst hw''
          obtain ⟨wq, hq0, hq⟩ : ∃ wq, wq = grow (redrawn wa dq) osq ∧ Below wa.heap.size wa wq := ⟨_, rfl, below_regrown _ _ _⟩
          rw [← hq0]
          clear hq0 kq0 kq1 kq2 kq3 kq4 kq5 kq6
          go_wp2_with fail
          go_ret
          exact ⟨ret_bool (by rw [E.out, ← HR.out, HD.out]; exact (reds_no (redB_no (.inr (.inl HA2.out)))).symm), HB1.out.trans ((HBW.out.trans (hq.mono HBW.out.size)).mono HB1.out.size)⟩
        | true =>
          have HA2 := Lib.hid a2
          have HW2 := Lib.hid (fun w => within_bl a2 w)
          have r2 := withinB_iff.1 a2
          clear a2
          have HRED := Lib.hid (fun w => isRedress_anyT x0 x1 x2 x3 w)
          have wp1 : IntKind.i64.wrap ((n : Int) - 1) = (n : Int) - 1 := IntWalk.i64_in _ (by omega)
          have wp2 : IntKind.i64.wrap (t.boats - 1) = t.boats - 1 := IntWalk.i64_in _ (by omega)
          cases a3 : isRedBT x2 x3 with
          | false =>
            rw [a3] at HRED
            have HA3 := Lib.hid a3
            clear a3
            have kq0 := cell_regrown (F0.1)
            have kq1 := cell_regrown (F0.2.1)
            have kq2 := cell_regrown (F0.2.2.1)
            have kq3 := cell_regrown (FA.1)
            have kq4 := cell_regrown (FA.2.1)
            have kq5 := cell_regrown (FA.2.2.1)
            have kq6 := cell_regrown (FA.2.2.2.1)
            refine wp_region_quiet_below (by kernel_rfl) (by kernel_rfl) ?_
            repeat (first | go_big_quiet_step ((first | (go_at_call 17; (with_reducible exact Calls.regrown_of (HW1.out _))) | (go_at_call 17; (with_reducible exact Calls.regrown_of (HW2.out _))) | (go_at_call 19; (with_reducible exact Calls.regrown_of (HRED.out _))))) | quiet_step ((first | (go_at_call 17; (with_reducible exact Calls.regrown_of (HW1.out _))) | (go_at_call 17; (with_reducible exact Calls.regrown_of (HW2.out _))) | (go_at_call 19; (with_reducible exact Calls.regrown_of (HRED.out _))))))
            refine wpQuiet_nil ?_
            intro _ hw'
            obtain ⟨⟨dq, osq⟩, hw''⟩ := hw'
            subst hw''
            obtain ⟨wq, hq0, hq⟩ : ∃ wq, wq = grow (redrawn wa dq) osq ∧ Below wa.heap.size wa wq := ⟨_, rfl, below_regrown _ _ _⟩
            rw [← hq0]
            clear hq0 kq0 kq1 kq2 kq3 kq4 kq5 kq6
            go_wp2_with fail
            go_ret
            exact ⟨ret_bool (by rw [E.out, ← HR.out, HD.out]; exact (reds_no (redB_no (.inr (.inr (.inl HA3.out))))).symm), HB1.out.trans ((HBW.out.trans (hq.mono HBW.out.size)).mono HB1.out.size)⟩
          | true =>
            rw [a3] at HRED
            have HA3 := Lib.hid a3
            clear a3
            obtain ⟨rc, rfl⟩ := int_up x0 r1.1
            obtain ⟨bt, rfl⟩ := int_up x1 r2.1
            have hrn : rc < n := by omega
            have hbt : (bt : Int) < t.boats := by omega
            have HT := Lib.hid ((h1.below HBW.out))
            obtain ⟨b5, o5, A5, c5, p5, b6, o6, A6, c6, q5, px, py, b7, o7, b8, o8, rfl, rfl, _, hq5, _, hcC, rfl, rfl, _, hbq, _, hq16, _, hpy, _, _, _, hyc⟩ := tab_row HT.out HOK.out hrn hbt
            have HCA := Lib.hid (show codeAt t (rc : Int) (bt : Int) = py from by rw [← hpy, ← getD_of_drop hq5]; rfl)
            clear hq5 hpy
            by_cases a4 : py = 9
            · subst a4
              have kq0 := cell_regrown (F0.1)
              have kq1 := cell_regrown (F0.2.1)
              have kq2 := cell_regrown (F0.2.2.1)
              have kq3 := cell_regrown (FA.1)
              have kq4 := cell_regrown (FA.2.1)
              have kq5 := cell_regrown (FA.2.2.1)
              have kq6 := cell_regrown (FA.2.2.2.1)
              have kq7 := cell_regrown (hcC)
              have kq8 := cell_regrown (hyc)
              refine wp_region_quiet_below (by kernel_rfl) (by kernel_rfl) ?_
              repeat (first | go_big_quiet_step ((first | (go_at_call 17; (with_reducible exact Calls.regrown_of (HW1.out _))) | (go_at_call 17; (with_reducible exact Calls.regrown_of (HW2.out _))) | (go_at_call 19; (with_reducible exact Calls.regrown_of (HRED.out _))))) | quiet_step ((first | (go_at_call 17; (with_reducible exact Calls.regrown_of (HW1.out _))) | (go_at_call 17; (with_reducible exact Calls.regrown_of (HW2.out _))) | (go_at_call 19; (with_reducible exact Calls.regrown_of (HRED.out _))))))
              refine wpQuiet_nil ?_
              intro _ hw'
              obtain ⟨⟨dq, osq⟩, hw''⟩ := hw'
              subst hw''
              obtain ⟨wq, hq0, hq⟩ : ∃ wq, wq = grow (redrawn wa dq) osq ∧ Below wa.heap.size wa wq := ⟨_, rfl, below_regrown _ _ _⟩
              rw [← hq0]
              clear hq0 kq0 kq1 kq2 kq3 kq4 kq5 kq6 kq7 kq8
              have HBQ := Lib.hid (HBW.out.trans (hq.mono HBW.out.size))
              have F0 := (HX0.out.below hq).f3
              have FA := (HXA.out.below hq).f4
              clear hq hcC hyc
              have HRB := Lib.hid (redB_ok (t := t) (x := ((rc : Int), (bt : Int), x2, x3)) HA1.out HA2.out HA3.out HCA.out)
              have HRP := Lib.hid (fun w' (h : RdT w' (some ⟨b5, o5, none⟩) n (some ⟨b6, o6, none⟩) n t) => redressPoints_any _ n c _ n d t rc bt x2 x3 (isRedB_kind HA3.out) HOK.out hbt w' h)
              obtain ⟨rv, rr, hrp⟩ : ∃ a b, redPtF t ((rc : Int), (bt : Int), x2, x3) = (a, b) := ⟨_, _, rfl⟩
              rw [hrp] at HRP HRB
              clear hrp
              have HPV := Lib.hid (show ∀ j, k = j + 1 → ∃ y, xs[j]? = some y from fun j e => ⟨xs[j]'(by rw [HL.out]; omega), List.getElem?_eq_getElem _⟩)
              have HPP := Lib.hid (show prevR xs (k + 1) = some ((rc : Int), (bt : Int), x2, x3) from HX.out)
              rcases Nat.eq_zero_or_pos k with hk0 | hk0
              · have HK0 := Lib.hid hk0
                have e0 : decide (0 < (k : Int)) = false := by simp; omega
                go_wp2_with fail
                go_quiet (fail)
                clear e0
                cases rr with
                | false =>
                  go_wp2_with fail
                  refine (HRP.out _ (h1.below (HBQ.out.trans (below_drewN' _ _ _)))).mono ?_
                  rintro e wp ⟨rfl, hbp⟩
                  have HBP := Lib.hid ((HBQ.out.trans (below_drewN' _ _ _)).trans (hbp.mono (HBQ.out.trans (below_drewN' _ _ _)).size))
                  clear hbp
                  go_wp2_with fail
                  go_ret
                  exact ⟨ret_bool (by rw [E.out, ← HR.out, HD.out]; exact (reds_no HRB.out).symm), HB1.out.trans (HBP.out.mono HB1.out.size)⟩
                | true =>
                  go_wp2_with fail
                  refine (HRP.out _ (h1.below (HBQ.out.trans (below_drewN' _ _ _)))).mono ?_
                  rintro e wp ⟨rfl, hbp⟩
                  have HBP := Lib.hid ((HBQ.out.trans (below_drewN' _ _ _)).trans (hbp.mono (HBQ.out.trans (below_drewN' _ _ _)).size))
                  clear hbp
                  go_wp2_with fail
                  go_roundw
                  case rel => exact ⟨k + 1, by omega, by go_num, Lib.hid (by rw [HPP.out, ← HR.out, HD.out, HK0.out, show prevR xs 0 = none from rfl]; exact (reds_first HRB.out).symm), HBP.out⟩
                  case measure => simp [intOf] <;> omega
              · obtain ⟨j, rfl⟩ : ∃ j, k = j + 1 := ⟨k - 1, by omega⟩
                obtain ⟨bj, oj, y0, y1, y2, y3, hbj, hyj, _, hy0, hy1, _, _⟩ := (HL1.out.below HBQ.out).red (k := j) (by omega)
                injection hbj with hbj; injection hbj with hbj hoj; subst hbj; subst hoj
                have HPJ := Lib.hid (show prevR xs (j + 1) = some (y0, y1, y2, y3) from hyj)
                clear hyj
                by_cases g1 : (rc : Int) < y0
                · go_wp2_with fail
                  go_quiet (fail)
                  go_wp2_with fail
                  go_ret
                  exact ⟨ret_bool (by rw [E.out, ← HR.out, HD.out, HPJ.out]; exact (reds_bad (by unfold ltRB; simp; omega)).symm), HB1.out.trans ((HBQ.out.trans (below_drewN' _ _ _)).mono HB1.out.size)⟩
                · by_cases g2 : y0 = rc
                  · subst g2
                    by_cases g3 : (bt : Int) ≤ y1
                    · go_wp2_with fail
                      go_quiet (fail)
                      go_wp2_with fail
                      go_ret
                      exact ⟨ret_bool (by rw [E.out, ← HR.out, HD.out, HPJ.out]; exact (reds_bad (by unfold ltRB; simp; omega)).symm), HB1.out.trans ((HBQ.out.trans (below_drewN' _ _ _)).mono HB1.out.size)⟩
                    · have HLT := Lib.hid (show ltRB (((rc : Nat) : Int), y1, y2, y3) ((rc : Int), (bt : Int), x2, x3) = true from by unfold ltRB; simp; omega)
                      go_wp2_with fail
                      go_quiet (fail)
                      cases rr with
                      | false =>
                        go_wp2_with fail
                        refine (HRP.out _ (h1.below (HBQ.out.trans (below_drewN' _ _ _)))).mono ?_
                        rintro e wp ⟨rfl, hbp⟩
                        have HBP := Lib.hid ((HBQ.out.trans (below_drewN' _ _ _)).trans (hbp.mono (HBQ.out.trans (below_drewN' _ _ _)).size))
                        clear hbp
                        go_wp2_with fail
                        go_ret
                        exact ⟨ret_bool (by rw [E.out, ← HR.out, HD.out]; exact (reds_no HRB.out).symm), HB1.out.trans (HBP.out.mono HB1.out.size)⟩
                      | true =>
                        go_wp2_with fail
                        refine (HRP.out _ (h1.below (HBQ.out.trans (below_drewN' _ _ _)))).mono ?_
                        rintro e wp ⟨rfl, hbp⟩
                        have HBP := Lib.hid ((HBQ.out.trans (below_drewN' _ _ _)).trans (hbp.mono (HBQ.out.trans (below_drewN' _ _ _)).size))
                        clear hbp
                        go_wp2_with fail
                        go_roundw
                        case rel => exact ⟨(j + 1) + 1, by omega, by go_num, Lib.hid (by rw [HPP.out, ← HR.out, HD.out, HPJ.out]; exact (reds_next HRB.out HLT.out).symm), HBP.out⟩
                        case measure => simp [intOf] <;> omega
                  · have g2' : (y0 == (rc : Int)) = false := by simp; omega
                    have g1' : decide ((rc : Int) < y0) = false := by simp; omega
                    have HLT := Lib.hid (show ltRB (y0, y1, y2, y3) ((rc : Int), (bt : Int), x2, x3) = true from by unfold ltRB; simp; omega)
                    go_wp2_with fail
                    go_quiet (fail)
                    cases rr with
                    | false =>
                      go_wp2_with fail
                      refine (HRP.out _ (h1.below (HBQ.out.trans (below_drewN' _ _ _)))).mono ?_
                      rintro e wp ⟨rfl, hbp⟩
                      have HBP := Lib.hid ((HBQ.out.trans (below_drewN' _ _ _)).trans (hbp.mono (HBQ.out.trans (below_drewN' _ _ _)).size))
                      clear hbp
                      go_wp2_with fail
                      go_ret
                      exact ⟨ret_bool (by rw [E.out, ← HR.out, HD.out]; exact (reds_no HRB.out).symm), HB1.out.trans (HBP.out.mono HB1.out.size)⟩
                    | true =>
                      go_wp2_with fail
                      refine (HRP.out _ (h1.below (HBQ.out.trans (below_drewN' _ _ _)))).mono ?_
                      rintro e wp ⟨rfl, hbp⟩
                      have HBP := Lib.hid ((HBQ.out.trans (below_drewN' _ _ _)).trans (hbp.mono (HBQ.out.trans (below_drewN' _ _ _)).size))
                      clear hbp
                      go_wp2_with fail
                      go_roundw
                      case rel => exact ⟨(j + 1) + 1, by omega, by go_num, Lib.hid (by rw [HPP.out, ← HR.out, HD.out, HPJ.out]; exact (reds_next HRB.out HLT.out).symm), HBP.out⟩
                      case measure => simp [intOf] <;> omega
            · have g4 : (py == 9) = false := by simp [a4]
              have g4' : (py != 9) = true := by simp [a4]
              have kq0 := cell_regrown (F0.1)
              have kq1 := cell_regrown (F0.2.1)
              have kq2 := cell_regrown (F0.2.2.1)
              have kq3 := cell_regrown (FA.1)
              have kq4 := cell_regrown (FA.2.1)
              have kq5 := cell_regrown (FA.2.2.1)
              have kq6 := cell_regrown (FA.2.2.2.1)
              have kq7 := cell_regrown (hcC)
              have kq8 := cell_regrown (hyc)
              refine wp_region_quiet_below (by kernel_rfl) (by kernel_rfl) ?_
              repeat (first | go_big_quiet_step ((first | (go_at_call 17; (with_reducible exact Calls.regrown_of (HW1.out _))) | (go_at_call 17; (with_reducible exact Calls.regrown_of (HW2.out _))) | (go_at_call 19; (with_reducible exact Calls.regrown_of (HRED.out _))))) | quiet_step ((first | (go_at_call 17; (with_reducible exact Calls.regrown_of (HW1.out _))) | (go_at_call 17; (with_reducible exact Calls.regrown_of (HW2.out _))) | (go_at_call 19; (with_reducible exact Calls.regrown_of (HRED.out _))))))
              refine wpQuiet_nil ?_
              intro _ hw'
              obtain ⟨⟨dq, osq⟩, hw''⟩ := hw'
              subst hw''
              obtain ⟨wq, hq0, hq⟩ : ∃ wq, wq = grow (redrawn wa dq) osq ∧ Below wa.heap.size wa wq := ⟨_, rfl, below_regrown _ _ _⟩
              rw [← hq0]
              clear hq0 kq0 kq1 kq2 kq3 kq4 kq5 kq6 kq7 kq8
              go_wp2_with fail
              go_ret
              exact ⟨ret_bool (by rw [E.out, ← HR.out, HD.out]; exact (reds_no (redB_no (.inr (.inr (.inr (by rw [HCA.out]; exact a4)))))).symm), HB1.out.trans ((HBW.out.trans (hq.mono HBW.out.size)).mono HB1.out.size)⟩
    · obtain rfl : k = l := by omega
      go_wp2_with fail
      go_ret
      exact ⟨ret_bool (by rw [E.out, ← HR.out, List.drop_eq_nil_of_le (by rw [HL.out]; omega)]; cases prevR xs k <;> rfl), HB1.out.trans (hb.mono HB1.out.size)⟩
end Go.Proofs.YtalgdeieejpelaaGreatDoor

/- Walks: lists of redress of the reference (chapter 29). -/
namespace Go.Proofs.YtalgdeieejpelaaGreatDoor
open Go.RowKit Go.Sort
set_option linter.unusedVariables false
set_option maxRecDepth 100000

theorem isRedB_no {k p : Int} (h : withinB k 1 3 = false ∨ withinB p 0 10000 = false) : isRedBT k p = false := by
  unfold isRedBT
  by_cases h3 : k = 3
  · rw [if_pos h3]
    rcases h with h | h
    · subst h3; simp [withinB] at h
    · exact h
  · rw [if_neg h3]
    rcases h with h | h
    · have : withinB k 1 2 = false := by rw [withinB_not] at h ⊢; omega
      rw [this]; rfl
    · have : (p == 0) = false := by
        rw [withinB_not] at h
        simp; omega
      rw [this, Bool.and_false]
theorem isRedB_yes {k p : Int} (h : withinB k 1 3 = true) (h2 : withinB p 0 10000 = true) (h3 : k = 3 ∨ p = 0) : isRedBT k p = true := by
  unfold isRedBT
  by_cases h4 : k = 3
  · rw [if_pos h4]; exact h2
  · rw [if_neg h4]
    have e : p = 0 := by omega
    rw [withinB_iff] at h
    have : withinB k 1 2 = true := withinB_iff.2 (by omega)
    rw [this, e]; rfl
set_option maxHeartbeats 4000000 in
theorem l29Valid_any (P : Option Addr) (n c : Nat) (C : Option Addr) (m d : Nat) (t : Tb) (A : Option Addr) (l cl : Nat) (xs : List RedT) (ok : TabOk t) (w : World) (h : RdT w P n C m t) (hl : Rd w 4 A l (reds xs)) :
    Calls Tryz.prog 51 #[.agg #[.int .i64 t.boats, .slice P n c, .slice C m d], .slice A l cl] w fun e w' => e = .returned (.bool (redsB t xs)) ∧ Below w.heap.size w w' := by
  have hn := h.pts.le
  have hll := hl.le
  have hn12 : n ≤ 12 := by have := ok.many; have := h.pts.len; omega
  have HN := Lib.hid h.pts.len
  have HL := Lib.hid hl.len_red
  have hnm : n = m := by have := ok.same; have := h.pts.len; have := h.cds.len; omega
  subst hnm
  have hb1' := ok.b1
  have hb2' := ok.b2
  have E := Lib.hid (show redsB t xs = redsGo t none xs from rfl)
  generalize redsB t xs = R at *
  have HOK := Lib.hid ok
  clear ok
  go_enter Tryz.func51, Tryz.ntmps51
  go_wp2_with fail
  obtain ⟨w1, hw1, X0, hb1, hs1⟩ := one_box w #[.int .i64 t.boats, .slice P n c, .slice C n d] 33
  rw [← hw1]
  have hs1 : w.heap.size < w1.heap.size := by omega
  clear hw1
  have h1 := h.below hb1
  have HL1 := Lib.hid (hl.below hb1)
  have HB1 := Lib.hid hb1
  clear h hb1 hl
  go_loopw [5] (fun i wr => ∃ k : Nat, k ≤ l ∧ i = .int .i64 k ∧ Hid (redsGo t (prevR xs k) (xs.drop k) = redsGo t none xs) ∧ Below w1.heap.size w1 wr) (fun i _ => l - (intOf i).toNat)
  case atStart => exact ⟨0, Nat.zero_le _, rfl, Lib.hid rfl, Below.refl _ _⟩
  case round =>
    obtain ⟨k, hk, rfl, HR, hb⟩ := hrel
    by_cases hlt : k < l
    · obtain ⟨b, o, x0, x1, x2, x3, rfl, hx, hd, hc0, hc1, hc2, hc3⟩ := (HL1.out.below hb).red hlt
      have HD := Lib.hid hd; have HX := Lib.hid hx
      clear hd hx
      obtain ⟨wa, hwa, XA, hba, hsa⟩ := one_box wr #[.int .i64 x0, .int .i64 x1, .int .i64 x2, .int .i64 x3] 25
      have F0 := ((X0.below hb).below hba).f3
      have FA := XA.f4
      have hsr := hb.size
      have hsa : wr.heap.size < wa.heap.size := by omega
      have HX0 := Lib.hid (show Box wa w.heap.size _ _ from (X0.below hb).below hba)
      have HXA := Lib.hid XA
      have HBW := Lib.hid (hb.trans (hba.mono hb.size))
      have F00 := (X0.below hb).f3
      clear hb hba X0 XA
      cases a1 : withinB x0 0 ((n : Int) - 1) with
      | false =>
        have HA1 := Lib.hid (show withinB x0 0 ((t.pts.length : Int) - 1) = false by rw [HN.out]; exact a1)
        have HW1 := Lib.hid (fun w => l01In_litT a1 w)
        clear a1
        go_wp2_with fail
        rw [← hwa]
        clear hwa F00 hc0 hc1 hc2 hc3
        go_wp2_with (go_at_call 25; (first | (with_reducible refine (HW1.out _).mono ?_)); rintro e w' ⟨rfl, rfl⟩)
        go_ret
        exact ⟨ret_bool (by rw [E.out, ← HR.out, HD.out]; exact (reds_no (redB_no (.inl HA1.out))).symm), HB1.out.trans (HBW.out.mono HB1.out.size)⟩
      | true =>
        have HA1 := Lib.hid (show withinB x0 0 ((t.pts.length : Int) - 1) = true by rw [HN.out]; exact a1)
        have HW1 := Lib.hid (fun w => l01In_litT a1 w)
        have r1 := withinB_iff.1 a1
        clear a1
        cases a2 : withinB x1 0 (t.boats - 1) with
        | false =>
          have HA2 := Lib.hid a2
          have HW2 := Lib.hid (fun w => l01In_litT a2 w)
          clear a2
          go_wp2_with fail
          rw [← hwa]
          clear hwa F00 hc0 hc1 hc2 hc3
          go_wp2_with (go_at_call 25; (first | (with_reducible refine (HW1.out _).mono ?_) | (with_reducible refine (HW2.out _).mono ?_)); rintro e w' ⟨rfl, rfl⟩)
          go_ret
          exact ⟨ret_bool (by rw [E.out, ← HR.out, HD.out]; exact (reds_no (redB_no (.inr (.inl HA2.out)))).symm), HB1.out.trans (HBW.out.mono HB1.out.size)⟩
        | true =>
          have HA2 := Lib.hid a2
          have HW2 := Lib.hid (fun w => l01In_litT a2 w)
          have r2 := withinB_iff.1 a2
          clear a2
          cases a6 : withinB x2 1 3 with
          | false =>
            have HA6 := Lib.hid a6
            have HW6 := Lib.hid (fun w => l01In_litT a6 w)
            clear a6
            go_wp2_with fail
            rw [← hwa]
            clear hwa F00 hc0 hc1 hc2 hc3
            go_wp2_with (go_at_call 25; (first | (with_reducible refine (HW1.out _).mono ?_) | (with_reducible refine (HW2.out _).mono ?_) | (with_reducible refine (HW6.out _).mono ?_)); rintro e w' ⟨rfl, rfl⟩)
            go_ret
            exact ⟨ret_bool (by rw [E.out, ← HR.out, HD.out]; exact (reds_no (redB_no (.inr (.inr (.inl (isRedB_no (.inl HA6.out))))))).symm), HB1.out.trans (HBW.out.mono HB1.out.size)⟩
          | true =>
            have HA6 := Lib.hid a6
            have HW6 := Lib.hid (fun w => l01In_litT a6 w)
            clear a6
            obtain ⟨rc, rfl⟩ := int_up x0 r1.1
            obtain ⟨bt, rfl⟩ := int_up x1 r2.1
            go_wp2_with fail
            rw [← hwa]
            clear hwa F00 hc0 hc1 hc2 hc3
            have hrn : rc < n := by omega
            have hbt : (bt : Int) < t.boats := by omega
            have HT := Lib.hid ((h1.below HBW.out))
            obtain ⟨b5, o5, A5, c5, p5, b6, o6, A6, c6, q5, px, py, b7, o7, b8, o8, rfl, rfl, _, hq5, _, hcC, rfl, rfl, _, hbq, _, hq16, _, hpy, _, _, _, hyc⟩ := tab_row HT.out HOK.out hrn hbt
            have HCA := Lib.hid (show codeAt t (rc : Int) (bt : Int) = py from by rw [← hpy, ← getD_of_drop hq5]; rfl)
            clear hq5 hpy
            have HPV := Lib.hid (show ∀ j, k = j + 1 → ∃ y, xs[j]? = some y from fun j e => ⟨xs[j]'(by rw [HL.out]; omega), List.getElem?_eq_getElem _⟩)
            have HPP := Lib.hid (show prevR xs (k + 1) = some ((rc : Int), (bt : Int), x2, x3) from HX.out)
            rcases Nat.eq_zero_or_pos k with hk0 | hk0
            · have HK0 := Lib.hid hk0
              have e0 : decide (0 < (k : Int)) = false := by simp; omega
              go_wp2_with (go_at_call 25; (first | (with_reducible refine (HW1.out _).mono ?_) | (with_reducible refine (HW2.out _).mono ?_) | (with_reducible refine (HW6.out _).mono ?_)); rintro e w' ⟨rfl, rfl⟩)
              go_quiet (fail)
              clear e0
              obtain ⟨wo, hwo, hbo⟩ : ∃ wo, wo = wa.drewN nq ∧ Below wa.heap.size wa wo := ⟨_, rfl, below_drewN' _ _ _⟩
              rw [← hwo]
              clear hwo
              have F0 := (HX0.out.below hbo).f3
              have FA := (HXA.out.below hbo).f4
              have hcC := (hbo.cell (p := ⟨b6, o6 + rc, none⟩) (cell_lt hcC)).trans hcC
              have hyc := (hbo.cell (p := ⟨b8, o8 + bt, none⟩) (cell_lt hyc)).trans hyc
              have HBO := Lib.hid (HBW.out.trans (hbo.mono HBW.out.size))
              have HBO2 := Lib.hid (show Below w1.heap.size w1 (wo.drewN 1) from HBO.out.trans (below_drewN' _ _ _))
              have HBAO := Lib.hid hbo
              clear hbo
              by_cases a4 : py = 9
              · subst a4
                cases a5 : withinB x3 0 10000 with
                | false =>
                  have HW5 := Lib.hid (fun w => l01In_litT a5 w)
                  have HA5 := Lib.hid a5
                  clear a5
                  go_wp2_with fail
                  go_quiet ((go_at_call 25; (first | (with_reducible exact Calls.quiet_of_same ((HW5.out _).mono fun _ _ ⟨a, b⟩ => ⟨a, b.symm⟩)))))
                  go_wp2_with fail
                  go_ret
                  exact ⟨ret_bool (by rw [E.out, ← HR.out, HD.out]; exact (reds_no (redB_no (.inr (.inr (.inl (isRedB_no (.inr HA5.out))))))).symm), HB1.out.trans ((HBO.out.trans (below_drewN' _ _ _)).mono HB1.out.size)⟩
                | true =>
                  have HW5 := Lib.hid (fun w => l01In_litT a5 w)
                  have HA5 := Lib.hid a5
                  clear a5
                  go_wp2_with fail
                  go_quiet ((go_at_call 25; (first | (with_reducible exact Calls.quiet_of_same ((HW5.out _).mono fun _ _ ⟨a, b⟩ => ⟨a, b.symm⟩)))))
                  clear hcC hyc FA F0
                  obtain ⟨wz, hwz, hbz⟩ : ∃ wz, wz = wo.drewN nq ∧ Below wo.heap.size wo wz := ⟨_, rfl, below_drewN' _ _ _⟩
                  rw [← hwz]
                  clear hwz HBO2
                  have HBO2 := Lib.hid (HBO.out.trans (hbz.mono HBO.out.size))
                  have HBZ := Lib.hid (HBAO.out.trans (hbz.mono HBAO.out.size))
                  clear hbz
                  have F0 := (HX0.out.below HBZ.out).f3
                  have FA := (HXA.out.below HBZ.out).f4
                  obtain ⟨av, ar, hav⟩ : ∃ a b, avgF t (rc : Int) (bt : Int) x2 = (a, b) := ⟨_, _, rfl⟩
                  have HAV := Lib.hid (fun w' (h : RdT w' (some ⟨b5, o5, none⟩) n (some ⟨b6, o6, none⟩) n t) => specAvg_any _ n c _ n d t rc bt x2 HOK.out hbt w' h)
                  rw [hav] at HAV
                  have HAVE := Lib.hid hav
                  clear hav
                  by_cases g5 : x2 = 3
                  · have HRB := Lib.hid (show redB t ((rc : Int), (bt : Int), x2, x3) = true from by rw [redB_ok (t := t) (x := ((rc : Int), (bt : Int), x2, x3)) HA1.out HA2.out (isRedB_yes HA6.out HA5.out (.inl g5)) HCA.out]; unfold redPtF; rw [if_pos g5])
                    have g5' : (x2 != 3) = false := by simp [g5]
                    subst g5
                    go_wp2_with fail
                    refine (HAV.out _ (h1.below HBO2.out)).mono ?_
                    rintro e wp ⟨rfl, hbp⟩
                    have FA := (HXA.out.below ((HBZ.out).trans (hbp.mono (HBZ.out).size))).f4
                    have HBP := Lib.hid (HBO2.out.trans (hbp.mono HBO2.out.size))
                    clear hbp
                    go_wp2_with fail
                    go_roundw
                    case rel => exact ⟨k + 1, by omega, by go_num, Lib.hid (by rw [HPP.out, ← HR.out, HD.out, HK0.out, show prevR xs 0 = none from rfl]; exact (reds_first HRB.out).symm), HBP.out⟩
                    case measure => simp [intOf] <;> omega
                  · have g5' : (x2 != 3) = true := by simp [g5]
                    by_cases g6 : x3 = 0
                    · subst g6
                      have HRB := Lib.hid (show redB t ((rc : Int), (bt : Int), x2, 0) = ar from by rw [redB_ok (t := t) (x := ((rc : Int), (bt : Int), x2, 0)) HA1.out HA2.out (isRedB_yes HA6.out HA5.out (.inr rfl)) HCA.out]; unfold redPtF; rw [if_neg g5]; show (avgF t rc bt x2).2 = ar; rw [HAVE.out])
                      cases ar with
                      | false =>
                        go_wp2_with fail
                        refine (HAV.out _ (h1.below HBO2.out)).mono ?_
                        rintro e wp ⟨rfl, hbp⟩
                        have FA := (HXA.out.below ((HBZ.out).trans (hbp.mono (HBZ.out).size))).f4
                        have HBP := Lib.hid (HBO2.out.trans (hbp.mono HBO2.out.size))
                        clear hbp
                        go_wp2_with fail
                        go_ret
                        exact ⟨ret_bool (by rw [E.out, ← HR.out, HD.out]; exact (reds_no (HRB.out)).symm), HB1.out.trans (HBP.out.mono HB1.out.size)⟩
                      | true =>
                        go_wp2_with fail
                        refine (HAV.out _ (h1.below HBO2.out)).mono ?_
                        rintro e wp ⟨rfl, hbp⟩
                        have FA := (HXA.out.below ((HBZ.out).trans (hbp.mono (HBZ.out).size))).f4
                        have HBP := Lib.hid (HBO2.out.trans (hbp.mono HBO2.out.size))
                        clear hbp
                        go_wp2_with fail
                        go_roundw
                        case rel => exact ⟨k + 1, by omega, by go_num, Lib.hid (by rw [HPP.out, ← HR.out, HD.out, HK0.out, show prevR xs 0 = none from rfl]; exact (reds_first HRB.out).symm), HBP.out⟩
                        case measure => simp [intOf] <;> omega
                    · have g6' : (x3 != 0) = true := by simp [g6]
                      have HI := Lib.hid (show isRedBT x2 x3 = false from by unfold isRedBT; rw [if_neg g5]; simp [g6])
                      go_wp2_with fail
                      refine (HAV.out _ (h1.below HBO2.out)).mono ?_
                      rintro e wp ⟨rfl, hbp⟩
                      have FA := (HXA.out.below ((HBZ.out).trans (hbp.mono (HBZ.out).size))).f4
                      have HBP := Lib.hid (HBO2.out.trans (hbp.mono HBO2.out.size))
                      clear hbp
                      go_wp2_with fail
                      go_ret
                      exact ⟨ret_bool (by rw [E.out, ← HR.out, HD.out]; exact (reds_no (redB_no (.inr (.inr (.inl HI.out))))).symm), HB1.out.trans (HBP.out.mono HB1.out.size)⟩
              · have g4 : (py == 9) = false := by simp [a4]
                have g4' : (py != 9) = true := by simp [a4]
                go_wp2_with fail
                go_quiet (fail)
                go_wp2_with fail
                go_ret
                exact ⟨ret_bool (by rw [E.out, ← HR.out, HD.out]; exact (reds_no (redB_no (.inr (.inr (.inr (by rw [HCA.out]; exact a4)))))).symm), HB1.out.trans ((HBO.out.trans (below_drewN' _ _ _)).mono HB1.out.size)⟩
            · obtain ⟨j, rfl⟩ : ∃ j, k = j + 1 := ⟨k - 1, by omega⟩
              obtain ⟨bj, oj, y0, y1, y2, y3, hbj, hyj, _, hy0, hy1, _, _⟩ := (HL1.out.below HBW.out).red (k := j) (by omega)
              injection hbj with hbj; injection hbj with hbj hoj; subst hbj; subst hoj
              have HPJ := Lib.hid (show prevR xs (j + 1) = some (y0, y1, y2, y3) from hyj)
              clear hyj
              by_cases g1 : (rc : Int) < y0
              · skip
                go_wp2_with (go_at_call 25; (first | (with_reducible refine (HW1.out _).mono ?_) | (with_reducible refine (HW2.out _).mono ?_) | (with_reducible refine (HW6.out _).mono ?_)); rintro e w' ⟨rfl, rfl⟩)
                go_quiet (fail)
                go_wp2_with fail
                go_ret
                exact ⟨ret_bool (by rw [E.out, ← HR.out, HD.out, HPJ.out]; exact (reds_bad (by unfold ltRB; simp; omega)).symm), HB1.out.trans ((HBW.out.trans (below_drewN' _ _ _)).mono HB1.out.size)⟩
              · by_cases g2 : y0 = rc
                · subst g2
                  by_cases g3 : (bt : Int) ≤ y1
                  · skip
                    go_wp2_with (go_at_call 25; (first | (with_reducible refine (HW1.out _).mono ?_) | (with_reducible refine (HW2.out _).mono ?_) | (with_reducible refine (HW6.out _).mono ?_)); rintro e w' ⟨rfl, rfl⟩)
                    go_quiet (fail)
                    go_wp2_with fail
                    go_ret
                    exact ⟨ret_bool (by rw [E.out, ← HR.out, HD.out, HPJ.out]; exact (reds_bad (by unfold ltRB; simp; omega)).symm), HB1.out.trans ((HBW.out.trans (below_drewN' _ _ _)).mono HB1.out.size)⟩
                  · have HLT := Lib.hid (show ltRB (((rc : Nat) : Int), y1, y2, y3) ((rc : Int), (bt : Int), x2, x3) = true from by unfold ltRB; simp; omega)
                    go_wp2_with (go_at_call 25; (first | (with_reducible refine (HW1.out _).mono ?_) | (with_reducible refine (HW2.out _).mono ?_) | (with_reducible refine (HW6.out _).mono ?_)); rintro e w' ⟨rfl, rfl⟩)
                    go_quiet (fail)
                    obtain ⟨wo, hwo, hbo⟩ : ∃ wo, wo = wa.drewN nq ∧ Below wa.heap.size wa wo := ⟨_, rfl, below_drewN' _ _ _⟩
                    rw [← hwo]
                    clear hwo
                    have F0 := (HX0.out.below hbo).f3
                    have FA := (HXA.out.below hbo).f4
                    have hcC := (hbo.cell (p := ⟨b6, o6 + rc, none⟩) (cell_lt hcC)).trans hcC
                    have hyc := (hbo.cell (p := ⟨b8, o8 + bt, none⟩) (cell_lt hyc)).trans hyc
                    have HBO := Lib.hid (HBW.out.trans (hbo.mono HBW.out.size))
                    have HBO2 := Lib.hid (show Below w1.heap.size w1 (wo.drewN 1) from HBO.out.trans (below_drewN' _ _ _))
                    have HBAO := Lib.hid hbo
                    clear hbo
                    by_cases a4 : py = 9
                    · subst a4
                      cases a5 : withinB x3 0 10000 with
                      | false =>
                        have HW5 := Lib.hid (fun w => l01In_litT a5 w)
                        have HA5 := Lib.hid a5
                        clear a5
                        go_wp2_with fail
                        go_quiet ((go_at_call 25; (first | (with_reducible exact Calls.quiet_of_same ((HW5.out _).mono fun _ _ ⟨a, b⟩ => ⟨a, b.symm⟩)))))
                        go_wp2_with fail
                        go_ret
                        exact ⟨ret_bool (by rw [E.out, ← HR.out, HD.out]; exact (reds_no (redB_no (.inr (.inr (.inl (isRedB_no (.inr HA5.out))))))).symm), HB1.out.trans ((HBO.out.trans (below_drewN' _ _ _)).mono HB1.out.size)⟩
                      | true =>
                        have HW5 := Lib.hid (fun w => l01In_litT a5 w)
                        have HA5 := Lib.hid a5
                        clear a5
                        go_wp2_with fail
                        go_quiet ((go_at_call 25; (first | (with_reducible exact Calls.quiet_of_same ((HW5.out _).mono fun _ _ ⟨a, b⟩ => ⟨a, b.symm⟩)))))
                        clear hcC hyc FA F0
                        obtain ⟨wz, hwz, hbz⟩ : ∃ wz, wz = wo.drewN nq ∧ Below wo.heap.size wo wz := ⟨_, rfl, below_drewN' _ _ _⟩
                        rw [← hwz]
                        clear hwz HBO2
                        have HBO2 := Lib.hid (HBO.out.trans (hbz.mono HBO.out.size))
                        have HBZ := Lib.hid (HBAO.out.trans (hbz.mono HBAO.out.size))
                        clear hbz
                        have F0 := (HX0.out.below HBZ.out).f3
                        have FA := (HXA.out.below HBZ.out).f4
                        obtain ⟨av, ar, hav⟩ : ∃ a b, avgF t (rc : Int) (bt : Int) x2 = (a, b) := ⟨_, _, rfl⟩
                        have HAV := Lib.hid (fun w' (h : RdT w' (some ⟨b5, o5, none⟩) n (some ⟨b6, o6, none⟩) n t) => specAvg_any _ n c _ n d t rc bt x2 HOK.out hbt w' h)
                        rw [hav] at HAV
                        have HAVE := Lib.hid hav
                        clear hav
                        by_cases g5 : x2 = 3
                        · have HRB := Lib.hid (show redB t ((rc : Int), (bt : Int), x2, x3) = true from by rw [redB_ok (t := t) (x := ((rc : Int), (bt : Int), x2, x3)) HA1.out HA2.out (isRedB_yes HA6.out HA5.out (.inl g5)) HCA.out]; unfold redPtF; rw [if_pos g5])
                          have g5' : (x2 != 3) = false := by simp [g5]
                          subst g5
                          go_wp2_with fail
                          refine (HAV.out _ (h1.below HBO2.out)).mono ?_
                          rintro e wp ⟨rfl, hbp⟩
                          have FA := (HXA.out.below ((HBZ.out).trans (hbp.mono (HBZ.out).size))).f4
                          have HBP := Lib.hid (HBO2.out.trans (hbp.mono HBO2.out.size))
                          clear hbp
                          go_wp2_with fail
                          go_roundw
                          case rel => exact ⟨(j + 1) + 1, by omega, by go_num, Lib.hid (by rw [HPP.out, ← HR.out, HD.out, HPJ.out]; exact (reds_next HRB.out HLT.out).symm), HBP.out⟩
                          case measure => simp [intOf] <;> omega
                        · have g5' : (x2 != 3) = true := by simp [g5]
                          by_cases g6 : x3 = 0
                          · subst g6
                            have HRB := Lib.hid (show redB t ((rc : Int), (bt : Int), x2, 0) = ar from by rw [redB_ok (t := t) (x := ((rc : Int), (bt : Int), x2, 0)) HA1.out HA2.out (isRedB_yes HA6.out HA5.out (.inr rfl)) HCA.out]; unfold redPtF; rw [if_neg g5]; show (avgF t rc bt x2).2 = ar; rw [HAVE.out])
                            cases ar with
                            | false =>
                              go_wp2_with fail
                              refine (HAV.out _ (h1.below HBO2.out)).mono ?_
                              rintro e wp ⟨rfl, hbp⟩
                              have FA := (HXA.out.below ((HBZ.out).trans (hbp.mono (HBZ.out).size))).f4
                              have HBP := Lib.hid (HBO2.out.trans (hbp.mono HBO2.out.size))
                              clear hbp
                              go_wp2_with fail
                              go_ret
                              exact ⟨ret_bool (by rw [E.out, ← HR.out, HD.out]; exact (reds_no (HRB.out)).symm), HB1.out.trans (HBP.out.mono HB1.out.size)⟩
                            | true =>
                              go_wp2_with fail
                              refine (HAV.out _ (h1.below HBO2.out)).mono ?_
                              rintro e wp ⟨rfl, hbp⟩
                              have FA := (HXA.out.below ((HBZ.out).trans (hbp.mono (HBZ.out).size))).f4
                              have HBP := Lib.hid (HBO2.out.trans (hbp.mono HBO2.out.size))
                              clear hbp
                              go_wp2_with fail
                              go_roundw
                              case rel => exact ⟨(j + 1) + 1, by omega, by go_num, Lib.hid (by rw [HPP.out, ← HR.out, HD.out, HPJ.out]; exact (reds_next HRB.out HLT.out).symm), HBP.out⟩
                              case measure => simp [intOf] <;> omega
                          · have g6' : (x3 != 0) = true := by simp [g6]
                            have HI := Lib.hid (show isRedBT x2 x3 = false from by unfold isRedBT; rw [if_neg g5]; simp [g6])
                            go_wp2_with fail
                            refine (HAV.out _ (h1.below HBO2.out)).mono ?_
                            rintro e wp ⟨rfl, hbp⟩
                            have FA := (HXA.out.below ((HBZ.out).trans (hbp.mono (HBZ.out).size))).f4
                            have HBP := Lib.hid (HBO2.out.trans (hbp.mono HBO2.out.size))
                            clear hbp
                            go_wp2_with fail
                            go_ret
                            exact ⟨ret_bool (by rw [E.out, ← HR.out, HD.out]; exact (reds_no (redB_no (.inr (.inr (.inl HI.out))))).symm), HB1.out.trans (HBP.out.mono HB1.out.size)⟩
                    · have g4 : (py == 9) = false := by simp [a4]
                      have g4' : (py != 9) = true := by simp [a4]
                      go_wp2_with fail
                      go_quiet (fail)
                      go_wp2_with fail
                      go_ret
                      exact ⟨ret_bool (by rw [E.out, ← HR.out, HD.out]; exact (reds_no (redB_no (.inr (.inr (.inr (by rw [HCA.out]; exact a4)))))).symm), HB1.out.trans ((HBO.out.trans (below_drewN' _ _ _)).mono HB1.out.size)⟩
                · have g2' : (y0 == (rc : Int)) = false := by simp; omega
                  have g1' : decide ((rc : Int) < y0) = false := by simp; omega
                  have HLT := Lib.hid (show ltRB (y0, y1, y2, y3) ((rc : Int), (bt : Int), x2, x3) = true from by unfold ltRB; simp; omega)
                  go_wp2_with (go_at_call 25; (first | (with_reducible refine (HW1.out _).mono ?_) | (with_reducible refine (HW2.out _).mono ?_) | (with_reducible refine (HW6.out _).mono ?_)); rintro e w' ⟨rfl, rfl⟩)
                  go_quiet (fail)
                  obtain ⟨wo, hwo, hbo⟩ : ∃ wo, wo = wa.drewN nq ∧ Below wa.heap.size wa wo := ⟨_, rfl, below_drewN' _ _ _⟩
                  rw [← hwo]
                  clear hwo
                  have F0 := (HX0.out.below hbo).f3
                  have FA := (HXA.out.below hbo).f4
                  have hcC := (hbo.cell (p := ⟨b6, o6 + rc, none⟩) (cell_lt hcC)).trans hcC
                  have hyc := (hbo.cell (p := ⟨b8, o8 + bt, none⟩) (cell_lt hyc)).trans hyc
                  have HBO := Lib.hid (HBW.out.trans (hbo.mono HBW.out.size))
                  have HBO2 := Lib.hid (show Below w1.heap.size w1 (wo.drewN 1) from HBO.out.trans (below_drewN' _ _ _))
                  have HBAO := Lib.hid hbo
                  clear hbo
                  by_cases a4 : py = 9
                  · subst a4
                    cases a5 : withinB x3 0 10000 with
                    | false =>
                      have HW5 := Lib.hid (fun w => l01In_litT a5 w)
                      have HA5 := Lib.hid a5
                      clear a5
                      go_wp2_with fail
                      go_quiet ((go_at_call 25; (first | (with_reducible exact Calls.quiet_of_same ((HW5.out _).mono fun _ _ ⟨a, b⟩ => ⟨a, b.symm⟩)))))
                      go_wp2_with fail
                      go_ret
                      exact ⟨ret_bool (by rw [E.out, ← HR.out, HD.out]; exact (reds_no (redB_no (.inr (.inr (.inl (isRedB_no (.inr HA5.out))))))).symm), HB1.out.trans ((HBO.out.trans (below_drewN' _ _ _)).mono HB1.out.size)⟩
                    | true =>
                      have HW5 := Lib.hid (fun w => l01In_litT a5 w)
                      have HA5 := Lib.hid a5
                      clear a5
                      go_wp2_with fail
                      go_quiet ((go_at_call 25; (first | (with_reducible exact Calls.quiet_of_same ((HW5.out _).mono fun _ _ ⟨a, b⟩ => ⟨a, b.symm⟩)))))
                      clear hcC hyc FA F0
                      obtain ⟨wz, hwz, hbz⟩ : ∃ wz, wz = wo.drewN nq ∧ Below wo.heap.size wo wz := ⟨_, rfl, below_drewN' _ _ _⟩
                      rw [← hwz]
                      clear hwz HBO2
                      have HBO2 := Lib.hid (HBO.out.trans (hbz.mono HBO.out.size))
                      have HBZ := Lib.hid (HBAO.out.trans (hbz.mono HBAO.out.size))
                      clear hbz
                      have F0 := (HX0.out.below HBZ.out).f3
                      have FA := (HXA.out.below HBZ.out).f4
                      obtain ⟨av, ar, hav⟩ : ∃ a b, avgF t (rc : Int) (bt : Int) x2 = (a, b) := ⟨_, _, rfl⟩
                      have HAV := Lib.hid (fun w' (h : RdT w' (some ⟨b5, o5, none⟩) n (some ⟨b6, o6, none⟩) n t) => specAvg_any _ n c _ n d t rc bt x2 HOK.out hbt w' h)
                      rw [hav] at HAV
                      have HAVE := Lib.hid hav
                      clear hav
                      by_cases g5 : x2 = 3
                      · have HRB := Lib.hid (show redB t ((rc : Int), (bt : Int), x2, x3) = true from by rw [redB_ok (t := t) (x := ((rc : Int), (bt : Int), x2, x3)) HA1.out HA2.out (isRedB_yes HA6.out HA5.out (.inl g5)) HCA.out]; unfold redPtF; rw [if_pos g5])
                        have g5' : (x2 != 3) = false := by simp [g5]
                        subst g5
                        go_wp2_with fail
                        refine (HAV.out _ (h1.below HBO2.out)).mono ?_
                        rintro e wp ⟨rfl, hbp⟩
                        have FA := (HXA.out.below ((HBZ.out).trans (hbp.mono (HBZ.out).size))).f4
                        have HBP := Lib.hid (HBO2.out.trans (hbp.mono HBO2.out.size))
                        clear hbp
                        go_wp2_with fail
                        go_roundw
                        case rel => exact ⟨(j + 1) + 1, by omega, by go_num, Lib.hid (by rw [HPP.out, ← HR.out, HD.out, HPJ.out]; exact (reds_next HRB.out HLT.out).symm), HBP.out⟩
                        case measure => simp [intOf] <;> omega
                      · have g5' : (x2 != 3) = true := by simp [g5]
                        by_cases g6 : x3 = 0
                        · subst g6
                          have HRB := Lib.hid (show redB t ((rc : Int), (bt : Int), x2, 0) = ar from by rw [redB_ok (t := t) (x := ((rc : Int), (bt : Int), x2, 0)) HA1.out HA2.out (isRedB_yes HA6.out HA5.out (.inr rfl)) HCA.out]; unfold redPtF; rw [if_neg g5]; show (avgF t rc bt x2).2 = ar; rw [HAVE.out])
                          cases ar with
                          | false =>
                            go_wp2_with fail
                            refine (HAV.out _ (h1.below HBO2.out)).mono ?_
                            rintro e wp ⟨rfl, hbp⟩
                            have FA := (HXA.out.below ((HBZ.out).trans (hbp.mono (HBZ.out).size))).f4
                            have HBP := Lib.hid (HBO2.out.trans (hbp.mono HBO2.out.size))
                            clear hbp
                            go_wp2_with fail
                            go_ret
                            exact ⟨ret_bool (by rw [E.out, ← HR.out, HD.out]; exact (reds_no (HRB.out)).symm), HB1.out.trans (HBP.out.mono HB1.out.size)⟩
                          | true =>
                            go_wp2_with fail
                            refine (HAV.out _ (h1.below HBO2.out)).mono ?_
                            rintro e wp ⟨rfl, hbp⟩
                            have FA := (HXA.out.below ((HBZ.out).trans (hbp.mono (HBZ.out).size))).f4
                            have HBP := Lib.hid (HBO2.out.trans (hbp.mono HBO2.out.size))
                            clear hbp
                            go_wp2_with fail
                            go_roundw
                            case rel => exact ⟨(j + 1) + 1, by omega, by go_num, Lib.hid (by rw [HPP.out, ← HR.out, HD.out, HPJ.out]; exact (reds_next HRB.out HLT.out).symm), HBP.out⟩
                            case measure => simp [intOf] <;> omega
                        · have g6' : (x3 != 0) = true := by simp [g6]
                          have HI := Lib.hid (show isRedBT x2 x3 = false from by unfold isRedBT; rw [if_neg g5]; simp [g6])
                          go_wp2_with fail
                          refine (HAV.out _ (h1.below HBO2.out)).mono ?_
                          rintro e wp ⟨rfl, hbp⟩
                          have FA := (HXA.out.below ((HBZ.out).trans (hbp.mono (HBZ.out).size))).f4
                          have HBP := Lib.hid (HBO2.out.trans (hbp.mono HBO2.out.size))
                          clear hbp
                          go_wp2_with fail
                          go_ret
                          exact ⟨ret_bool (by rw [E.out, ← HR.out, HD.out]; exact (reds_no (redB_no (.inr (.inr (.inl HI.out))))).symm), HB1.out.trans (HBP.out.mono HB1.out.size)⟩
                  · have g4 : (py == 9) = false := by simp [a4]
                    have g4' : (py != 9) = true := by simp [a4]
                    go_wp2_with fail
                    go_quiet (fail)
                    go_wp2_with fail
                    go_ret
                    exact ⟨ret_bool (by rw [E.out, ← HR.out, HD.out]; exact (reds_no (redB_no (.inr (.inr (.inr (by rw [HCA.out]; exact a4)))))).symm), HB1.out.trans ((HBO.out.trans (below_drewN' _ _ _)).mono HB1.out.size)⟩
    · obtain rfl : k = l := by omega
      go_wp2_with fail
      go_ret
      exact ⟨ret_bool (by rw [E.out, ← HR.out, List.drop_eq_nil_of_le (by rw [HL.out]; omega)]; cases prevR xs k <;> rfl), HB1.out.trans (hb.mono HB1.out.size)⟩
end Go.Proofs.YtalgdeieejpelaaGreatDoor

/- Walks: codes and open redress of the program (chapter 29). -/
namespace Go.Proofs.YtalgdeieejpelaaGreatDoor
open Go.RowKit Go.Sort
set_option linter.unusedVariables false
set_option maxRecDepth 100000

theorem redressCode_any (P : Option Addr) (n c : Nat) (C : Option Addr) (m d : Nat) (t : Tb) (A : Option Addr) (l cl : Nat) (xs : List RedT) (w : World) (h : RdT w P n C m t) (hl : Rd w 4 A l (reds xs)) :
    Calls Tryz.prog 30 #[.agg #[.int .i64 t.boats, .slice P n c, .slice C m d], .slice A l cl] w fun e w' => e = .returned (.int .i64 (redCodeF t xs)) ∧ Below w.heap.size w w' := by
  have HT := Lib.hid (fun w' (hb : Below w.heap.size w w') => implIsTable_any P n c C m d t w' (h.below hb))
  obtain ⟨w1, hw1, X0, hb1, hs1⟩ := one_box w #[.int .i64 t.boats, .slice P n c, .slice C m d] 33
  unfold redCodeF
  cases ht : tableB t with
  | false =>
    rw [ht] at HT
    rw [if_neg (by decide)]
    clear ht
    go_enter Tryz.func30, Tryz.ntmps30
    go_wp2_with fail
    rw [← hw1]
    clear hw1
    refine (HT.out _ hb1).mono ?_
    rintro e w2 ⟨rfl, hb2⟩
    have HB2 := Lib.hid (hb1.trans (hb2.mono hb1.size))
    have F0 := (X0.below hb2).f3
    clear hb1 hb2 X0
    go_wp2_with fail
    go_ret
    exact ⟨rfl, HB2.out⟩
  | true =>
    have HR := Lib.hid (fun w' (hb : Below w.heap.size w w') => areRedress_any P n c C m d t A l cl xs (tableB_ok ht) w' (h.below hb) (hl.below hb))
    rw [ht] at HT
    rw [if_pos rfl]
    clear ht
    cases hx : redsB t xs with
    | false =>
      rw [hx] at HR
      rw [if_neg (by decide)]
      clear hx
      go_enter Tryz.func30, Tryz.ntmps30
      go_wp2_with fail
      rw [← hw1]
      clear hw1
      refine (HT.out _ hb1).mono ?_
      rintro e w2 ⟨rfl, hb2⟩
      have HB2 := Lib.hid (hb1.trans (hb2.mono hb1.size))
      have F0 := (X0.below hb2).f3
      clear hb1 hb2 X0
      go_wp2_with fail
      refine (HR.out _ HB2.out).mono ?_
      rintro e w3 ⟨rfl, hb3⟩
      have HB3 := Lib.hid (HB2.out.trans (hb3.mono HB2.out.size))
      clear hb3
      go_wp2_with fail
      go_ret
      exact ⟨rfl, HB3.out⟩
    | true =>
      rw [hx] at HR
      rw [if_pos rfl]
      clear hx
      go_enter Tryz.func30, Tryz.ntmps30
      go_wp2_with fail
      rw [← hw1]
      clear hw1
      refine (HT.out _ hb1).mono ?_
      rintro e w2 ⟨rfl, hb2⟩
      have HB2 := Lib.hid (hb1.trans (hb2.mono hb1.size))
      have F0 := (X0.below hb2).f3
      clear hb1 hb2 X0
      go_wp2_with fail
      refine (HR.out _ HB2.out).mono ?_
      rintro e w3 ⟨rfl, hb3⟩
      have HB3 := Lib.hid (HB2.out.trans (hb3.mono HB2.out.size))
      clear hb3
      go_wp2_with fail
      go_ret
      exact ⟨rfl, HB3.out⟩
theorem l29Code_any (P : Option Addr) (n c : Nat) (C : Option Addr) (m d : Nat) (t : Tb) (A : Option Addr) (l cl : Nat) (xs : List RedT) (w : World) (h : RdT w P n C m t) (hl : Rd w 4 A l (reds xs)) :
    Calls Tryz.prog 35 #[.agg #[.int .i64 t.boats, .slice P n c, .slice C m d], .slice A l cl] w fun e w' => e = .returned (.int .i64 (redCodeF t xs)) ∧ Below w.heap.size w w' := by
  have HT := Lib.hid (fun w' (hb : Below w.heap.size w w') => specIsTable_any P n c C m d t w' (h.below hb))
  obtain ⟨w1, hw1, X0, hb1, hs1⟩ := one_box w #[.int .i64 t.boats, .slice P n c, .slice C m d] 33
  unfold redCodeF
  cases ht : tableB t with
  | false =>
    rw [ht] at HT
    rw [if_neg (by decide)]
    clear ht
    go_enter Tryz.func35, Tryz.ntmps35
    go_wp2_with fail
    rw [← hw1]
    clear hw1
    refine (HT.out _ hb1).mono ?_
    rintro e w2 ⟨rfl, hb2⟩
    have HB2 := Lib.hid (hb1.trans (hb2.mono hb1.size))
    have F0 := (X0.below hb2).f3
    clear hb1 hb2 X0
    go_wp2_with fail
    go_ret
    exact ⟨rfl, HB2.out⟩
  | true =>
    have HR := Lib.hid (fun w' (hb : Below w.heap.size w w') => l29Valid_any P n c C m d t A l cl xs (tableB_ok ht) w' (h.below hb) (hl.below hb))
    rw [ht] at HT
    rw [if_pos rfl]
    clear ht
    cases hx : redsB t xs with
    | false =>
      rw [hx] at HR
      rw [if_neg (by decide)]
      clear hx
      go_enter Tryz.func35, Tryz.ntmps35
      go_wp2_with fail
      rw [← hw1]
      clear hw1
      refine (HT.out _ hb1).mono ?_
      rintro e w2 ⟨rfl, hb2⟩
      have HB2 := Lib.hid (hb1.trans (hb2.mono hb1.size))
      have F0 := (X0.below hb2).f3
      clear hb1 hb2 X0
      go_wp2_with fail
      refine (HR.out _ HB2.out).mono ?_
      rintro e w3 ⟨rfl, hb3⟩
      have HB3 := Lib.hid (HB2.out.trans (hb3.mono HB2.out.size))
      clear hb3
      go_wp2_with fail
      go_ret
      exact ⟨rfl, HB3.out⟩
    | true =>
      rw [hx] at HR
      rw [if_pos rfl]
      clear hx
      go_enter Tryz.func35, Tryz.ntmps35
      go_wp2_with fail
      rw [← hw1]
      clear hw1
      refine (HT.out _ hb1).mono ?_
      rintro e w2 ⟨rfl, hb2⟩
      have HB2 := Lib.hid (hb1.trans (hb2.mono hb1.size))
      have F0 := (X0.below hb2).f3
      clear hb1 hb2 X0
      go_wp2_with fail
      refine (HR.out _ HB2.out).mono ?_
      rintro e w3 ⟨rfl, hb3⟩
      have HB3 := Lib.hid (HB2.out.trans (hb3.mono HB2.out.size))
      clear hb3
      go_wp2_with fail
      go_ret
      exact ⟨rfl, HB3.out⟩
/-- The first element for which p holds. -/
def givenF (p : RedressT → Bool) : Nat → List RedressT → Int
  | _, [] => -1
  | i, x :: r => if p x = true then (i : Int) else givenF p (i + 1) r
theorem givenF_any (p : RedressT → Bool) (i : Nat) (xs : List RedressT) : decide (0 ≤ givenF p i xs) = xs.any p := by
  induction xs generalizing i with
  | nil => rfl
  | cons x r ih =>
    unfold givenF
    by_cases h : p x = true
    · rw [if_pos h, List.any_cons, h]; simp
    · rw [if_neg h, ih, List.any_cons]; simp [h]
end Go.Proofs.YtalgdeieejpelaaGreatDoor

/- Walks: open redress (chapter 29), both sides. -/
namespace Go.Proofs.YtalgdeieejpelaaGreatDoor
open Go.RowKit Go.Sort
set_option linter.unusedVariables false
set_option maxRecDepth 100000

theorem own_box_ne {w : World} {base e s n b : Nat} {v : Value} {xs : List Value} {vs : Array Value} {t : TypeId} (h : w.ownsRow base e s v n xs) (hb : Box w b vs t) (hne : e ≠ t) : v.ownBlock ≠ some b := by
  intro hv
  rcases h.2 with ⟨rfl, _⟩ | ⟨g1, cap, cur, rfl, _, hh, _⟩
  · simp [Value.ownBlock] at hv
  · simp [Value.ownBlock] at hv
    subst hv
    unfold Box at hb
    rw [hh] at hb
    injection hb with hb
    injection hb with _ ht
    exact hne ht
theorem redCode_ok {t : Tb} {xs : List RedT} (h : redCodeF t xs = 0) : tableB t = true ∧ redsB t xs = true := by
  unfold redCodeF at h
  by_cases h1 : tableB t = true
  · rw [if_pos h1] at h
    by_cases h2 : redsB t xs = true
    · exact ⟨h1, h2⟩
    · rw [if_neg h2] at h; cases h
  · rw [if_neg h1] at h; cases h
theorem pair_new (w : World) (base : Nat) (x y : Int) (hb : base ≤ w.heap.size) : (w.alloc (.cells #[.int .i64 x, .int .i64 y] 2)).ownsRow base 2 1 (.slice (some ⟨w.heap.size, 0, none⟩) [x, y].length 2) [x, y].length (ints [x, y]) := by
  have := World.ownsRow_lit (base := base) (e := 2) (size := 1) w #[.int .i64 x, .int .i64 y] 2 hb (by decide) (by simp)
  exact this
theorem openRow_end (xs : List RedT) (k j : Nat) : openRow xs k j [] = [] := rfl
/-- A row of two numbers has been appended. -/
theorem open_put {w w7 : World} {base n' c' A1b : Nat} {A' A1 : Option Addr} {vs : List Value} {rows : List (List Int)} {x y : Int} (h : OwnRows w base 35 2 A' n' c' vs rows) (hb : base ≤ w.heap.size) (o : Obj)
    (hg : ((w.alloc (.cells #[.int .i64 x, .int .i64 y] 2)).alloc o).grownBy w7 (Value.slice A' n' c').ownBlock) (ho : w7.ownsRow base 35 1 (.slice A1 (n' + 1) A1b) (n' + 1) (vs ++ [.slice (some ⟨w.heap.size, 0, none⟩) 2 2])) :
    OwnRows w7 base 35 2 A1 (n' + 1) A1b (vs ++ [.slice (some ⟨w.heap.size, 0, none⟩) 2 2]) (rows ++ [[x, y]]) := by
  have h1 := h.alloc (.cells #[.int .i64 x, .int .i64 y] 2)
  have hin := h.in_
  refine OwnRows.append (A' := some ⟨w.heap.size, 0, none⟩) (c' := 2) (ys := [x, y]) h1 (by decide) (pair_new w base x y hb) (fun u hu b hb' hub => ?_) o hg ho
  have e : b = w.heap.size := by simp [Value.ownBlock] at hb'; exact hb'.symm
  have := hin.2 u hu b hub
  omega
end Go.Proofs.YtalgdeieejpelaaGreatDoor

/- Plain memory: a row is appended to both columns of a table of one's own. -/
namespace Go.Proofs.YtalgdeieejpelaaGreatDoor
open Go.RowKit
set_option linter.unusedVariables false

theorem OwnRows.grown {w w' : World} {base eo ei n c : Nat} {A : Option Addr} {vs : List Value} {rows : List (List Int)} {r : Option Nat} (h : OwnRows w base eo ei A n c vs rows) (hg : w.grownBy w' r)
    (h1 : ∀ b, (Value.slice A n c).ownBlock = some b → r ≠ some b) (h2 : ∀ v ∈ vs, ∀ b, v.ownBlock = some b → r ≠ some b) : OwnRows w' base eo ei A n c vs rows := by
  have key : ∀ (u : Value) (e m : Nat) (zs : List Value), w.ownsRow base e 1 u m zs → (∀ b, u.ownBlock = some b → r ≠ some b) → w'.ownsRow base e 1 u m zs := by
    intro u e m zs hu hr
    refine hu.kept hg ?_
    rcases hb : u.ownBlock with _ | b
    · exact .inl rfl
    · exact .inr (fun he => hr b hb he.symm)
  exact ⟨key _ _ _ _ h.outer h1, h.len, fun i v xs e1 e2 => by
    obtain ⟨A', c', e, ho⟩ := h.row i v xs e1 e2
    exact ⟨A', c', e, key _ _ _ _ ho (h2 v (List.mem_of_getElem? e1))⟩, h.apart⟩
theorem OwnRows.row_ty {w : World} {base eo ei n c : Nat} {A : Option Addr} {vs : List Value} {rows : List (List Int)} (h : OwnRows w base eo ei A n c vs rows) {v : Value} (hv : v ∈ vs) : ∃ m zs, w.ownsRow base ei 1 v m zs := by
  obtain ⟨k, hk⟩ := List.mem_iff_getElem?.1 hv
  have hkn : k < n := by have := (List.getElem?_eq_some_iff.1 hk).1; rw [h.vlen] at this; exact this
  obtain ⟨u, A2, c2, xs, h1, h2, _, e, ho⟩ := h.get hkn
  obtain rfl : v = u := by rw [hk] at h1; injection h1
  exact ⟨_, _, by rw [e]; exact ho⟩
/-- A row is appended to own rows: where all lies. -/
structure Pushed (wr w' : World) (base : Nat) (A : Option Addr) (n c : Nat) (vs : List Value) (rows : List (List Int)) (ga ca g1 c1 : Nat) (p : List Int) : Prop where
  own : OwnRows w' base 35 2 (some ⟨ga, 0, none⟩) (n + 1) ca (vs ++ [.slice (some ⟨g1, 0, none⟩) p.length c1]) (rows ++ [p])
  lies : (Value.slice A n c).ownBlock = some ga ∨ wr.heap.size ≤ ga
  new : wr.heap.size ≤ g1 ∧ g1 < w'.heap.size
  ltA : ga < w'.heap.size
  size : wr.heap.size ≤ w'.heap.size
  keep : ∀ b, b < wr.heap.size → (Value.slice A n c).ownBlock ≠ some b → w'.heap[b]? = wr.heap[b]?
  frame : w'.os = wr.os ∧ w'.tape = wr.tape ∧ w'.output = wr.output
theorem push_row {wr wq w5 : World} {base b1 n c ga ca g1 c1 : Nat} {A : Option Addr} {vs : List Value} {rows : List (List Int)} {p : List Int} {o1 : Obj} (h : OwnRows wr base 35 2 A n c vs rows) (hbs : base ≤ wr.heap.size)
    (hb : Below wr.heap.size wr wq) (og : wq.ownsRow b1 2 1 (.slice (some ⟨g1, 0, none⟩) p.length c1) p.length (ints p)) (hg1 : wr.heap.size ≤ g1) (hb1 : base ≤ b1)
    (hga : (wq.alloc o1).grownBy w5 (Value.slice A n c).ownBlock) (ho : w5.ownsRow base 35 1 (.slice (some ⟨ga, 0, none⟩) (n + 1) ca) (n + 1) (vs ++ [.slice (some ⟨g1, 0, none⟩) p.length c1]))
    (hla : (Value.slice A n c).ownBlock = some ga ∨ ga = (wq.alloc o1).heap.size) : Pushed wr w5 base A n c vs rows ga ca g1 c1 p := by
  have hin := h.in_
  have hs := hb.size
  have hs5 := hga.size
  simp only [World.size_alloc] at hs5
  have hlt := (og.lt g1 rfl).2
  refine ⟨OwnRows.append (h.below hb) (by decide) (own_base og hb1) (fun u hu b hb' hub => ?_) o1 hga ho, ?_, ⟨hg1, by omega⟩, (ho.lt ga rfl).2, by omega, fun b hbl hne => ?_, ⟨hga.os.trans hb.os, hga.tape.trans hb.tape, hga.output.trans hb.output⟩⟩
  · have e : b = g1 := by simp [Value.ownBlock] at hb'; exact hb'.symm
    have := hin.2 u hu b hub
    omega
  · rcases hla with hla | hla
    · exact .inl hla
    · right; rw [hla]; simp; omega
  · have h2 := hga.block b (by simp; omega) (fun e => hne e.symm)
    rw [h2, ((Below.refl _ wq).alloc (Nat.le_refl _) o1).block b (by omega)]
    exact hb.block b hbl
/-- .. the world ahead of the append however it came about. -/
theorem push_row0 {wr wd w5 : World} {base b1 n c ga ca g1 c1 : Nat} {A : Option Addr} {vs : List Value} {rows : List (List Int)} {p : List Int} (h : OwnRows wr base 35 2 A n c vs rows) (hbs : base ≤ wr.heap.size)
    (hb : Below wr.heap.size wr wd) (og : wd.ownsRow b1 2 1 (.slice (some ⟨g1, 0, none⟩) p.length c1) p.length (ints p)) (hg1 : wr.heap.size ≤ g1) (hb1 : base ≤ b1)
    (hga : wd.grownBy w5 (Value.slice A n c).ownBlock) (ho : w5.ownsRow base 35 1 (.slice (some ⟨ga, 0, none⟩) (n + 1) ca) (n + 1) (vs ++ [.slice (some ⟨g1, 0, none⟩) p.length c1]))
    (hla : (Value.slice A n c).ownBlock = some ga ∨ ga = wd.heap.size) : Pushed wr w5 base A n c vs rows ga ca g1 c1 p := by
  have hin := h.in_
  have hs := hb.size
  have hs5 := hga.size
  have hlt := (og.lt g1 rfl).2
  have hW := h.below hb
  have og0 := own_base og hb1
  refine ⟨⟨ho, by simp [h.len], ?_, ?_⟩, ?_, ⟨hg1, by omega⟩, (ho.lt ga rfl).2, by omega, fun b hbl hne => ?_, ⟨hga.os.trans hb.os, hga.tape.trans hb.tape, hga.output.trans hb.output⟩⟩
  · have keep : ∀ (u : Value) (m : Nat) (zs : List Value), wd.ownsRow base 2 1 u m zs → w5.ownsRow base 2 1 u m zs := by
      intro u m zs hu
      refine hu.kept hga ?_
      rcases hb : u.ownBlock with _ | b
      · exact .inl rfl
      · exact .inr (fun he => own_type_ne hW.outer hu (by decide) b he.symm hb)
    intro i u zs h1 h2
    by_cases hi : i < n
    · rw [List.getElem?_append_left (by rw [h.vlen]; exact hi)] at h1
      rw [List.getElem?_append_left (by rw [h.len]; exact hi)] at h2
      obtain ⟨A'', c'', e, hr⟩ := hW.row i u zs h1 h2
      exact ⟨A'', c'', e, keep _ _ _ hr⟩
    · rw [List.getElem?_append_right (by rw [h.vlen]; omega), h.vlen] at h1
      rw [List.getElem?_append_right (by rw [h.len]; omega), h.len] at h2
      have h0 : i - n = 0 := by
        rcases Nat.eq_zero_or_pos (i - n) with h | h
        · exact h
        · rw [List.getElem?_eq_none (by simp; omega)] at h1; cases h1
      rw [h0] at h1 h2
      simp at h1 h2
      subst h1; subst h2
      exact ⟨_, c1, rfl, keep _ _ _ og0⟩
  · intro i j u v hij h1 h2 b hb hb'
    have split : ∀ (q : Nat) (x : Value), (vs ++ [Value.slice (some ⟨g1, 0, none⟩) p.length c1])[q]? = some x → (q < n ∧ vs[q]? = some x) ∨ (q = n ∧ x = .slice (some ⟨g1, 0, none⟩) p.length c1) := by
      intro q x hx
      by_cases hq : q < n
      · rw [List.getElem?_append_left (by rw [h.vlen]; exact hq)] at hx; exact .inl ⟨hq, hx⟩
      · rw [List.getElem?_append_right (by rw [h.vlen]; omega), h.vlen] at hx
        have h0 : q - n = 0 := by
          rcases Nat.eq_zero_or_pos (q - n) with h | h
          · exact h
          · rw [List.getElem?_eq_none (by simp; omega)] at hx; cases hx
        rw [h0] at hx
        simp at hx
        exact .inr ⟨by omega, hx.symm⟩
    have isg : ∀ b, (Value.slice (some ⟨g1, 0, none⟩) p.length c1).ownBlock = some b → b = g1 := fun b e => by simp [Value.ownBlock] at e; exact e.symm
    rcases split i u h1 with ⟨hi, hu⟩ | ⟨hi, rfl⟩ <;> rcases split j v h2 with ⟨hj, hv⟩ | ⟨hj, rfl⟩
    · exact h.apart i j u v hij hu hv b hb hb'
    · have := (hin.2 u (List.mem_of_getElem? hu) b hb).2; have := isg b hb'; omega
    · have := (hin.2 v (List.mem_of_getElem? hv) b hb').2; have := isg b hb; omega
    · omega
  · rcases hla with hla | hla
    · exact .inl hla
    · right; omega
  · have h2 := hga.block b (by omega) (fun e => hne e.symm)
    rw [h2]
    exact hb.block b hbl
/-- Both columns, one behind the other. -/
theorem push_two {wr w5 w9 : World} {base n c d ga ca gb cb g1 c1 g2 c2 : Nat} {A C : Option Addr} {vs us : List Value} {pts cds : List (List Int)} {B : Int} {p q : List Int}
    (h : OwnT wr base A n c vs C n d us ⟨B, pts, cds⟩) (hbs : base ≤ wr.heap.size)
    (h1 : Pushed wr w5 base A n c vs pts ga ca g1 c1 p)
    (h2 : OwnRows w5 base 35 2 C n d us cds → Pushed w5 w9 base C n d us cds gb cb g2 c2 q) :
    OwnT w9 base (some ⟨ga, 0, none⟩) (n + 1) ca (vs ++ [.slice (some ⟨g1, 0, none⟩) p.length c1]) (some ⟨gb, 0, none⟩) (n + 1) cb (us ++ [.slice (some ⟨g2, 0, none⟩) q.length c2]) ⟨B, pts ++ [p], cds ++ [q]⟩ := by
  have hpi := h.pts.in_
  have hci := h.cds.in_
  have hg5 : wr.grownBy w5 (Value.slice A n c).ownBlock := ⟨h1.frame.1, h1.frame.2.1, h1.frame.2.2, h1.size, fun k hk hn => h1.keep k hk (fun e => hn e.symm)⟩
  have hcd5 : OwnRows w5 base 35 2 C n d us cds := h.cds.grown hg5 (fun b hb e => h.apO b e hb) (fun v hv b hb e => by
    obtain ⟨m, zs, ho⟩ := h.cds.row_ty hv
    exact own_type_ne h.pts.outer ho (by decide) b e hb)
  have h2 := h2 hcd5
  have hg9 : w5.grownBy w9 (Value.slice C n d).ownBlock := ⟨h2.frame.1, h2.frame.2.1, h2.frame.2.2, h2.size, fun k hk hn => h2.keep k hk (fun e => hn e.symm)⟩
  have hne : ∀ b, (Value.slice C n d).ownBlock = some b → ga ≠ b := by
    rintro b hb rfl
    rcases h1.lies with e | e
    · exact h.apO ga e hb
    · have := (hci.1 ga hb).2; omega
  refine ⟨h1.own.grown hg9 (fun b hb e => ?_) (fun v hv b hb e => ?_), h2.own, ?_, ?_⟩
  · have e2 : ga = b := by simp [Value.ownBlock] at hb; exact hb
    exact hne b e e2
  · obtain ⟨m, zs, ho⟩ := h1.own.row_ty hv
    exact own_type_ne hcd5.outer ho (by decide) b e hb
  · intro g hg hg'
    have e1 : ga = g := by simpa [Value.ownBlock] using hg
    have e2 : gb = g := by simpa [Value.ownBlock] using hg'
    rcases h2.lies with e | e
    · exact hne gb e (by omega)
    · have := h1.ltA; omega
  · intro v hv u hu g hg hg'
    have hgl : g < w5.heap.size := by
      obtain ⟨m, zs, ho⟩ := h1.own.row_ty hv
      exact (ho.lt g hg).2
    rcases List.mem_append.1 hu with hu | hu
    · rcases List.mem_append.1 hv with hv | hv
      · exact h.apR v hv u hu g hg hg'
      · simp at hv; subst hv
        have e1 : g1 = g := by simpa [Value.ownBlock] using hg
        have := (hci.2 u hu g hg').2
        have := h1.new.1
        omega
    · simp at hu; subst hu
      have e1 : g2 = g := by simpa [Value.ownBlock] using hg'
      have := h2.new.1
      omega
theorem Pushed.below {wr w' : World} {base n c ga ca g1 c1 : Nat} {A : Option Addr} {vs : List Value} {rows : List (List Int)} {p : List Int} (h : Pushed wr w' base A n c vs rows ga ca g1 c1 p) (ho : OwnRows wr base 35 2 A n c vs rows) (hb : base ≤ wr.heap.size) : Below base wr w' :=
  ⟨h.frame.1, h.frame.2.1, h.frame.2.2, h.size, fun k hk => h.keep k (by omega) (fun e => by have := (ho.in_.1 k e).1; omega)⟩
end Go.Proofs.YtalgdeieejpelaaGreatDoor

/- Plain functions: the source of numbers of the drawn laws: no Go in sight. -/
namespace Go.Proofs.YtalgdeieejpelaaGreatDoor
open Go.RowKit
set_option linter.unusedVariables false

/-- The state of a source: how many bytes are used up, the seed. -/
abbrev St := Nat × Int
def fromGo : List Int → Int → Int
  | [], h => h
  | c :: r, h => fromGo r ((h * 53 + c) % 2147483647)
def fromF (code : List Int) : St := (0, fromGo (code.take 64) 61657)
theorem fromGo_bd (code : List Int) (h : Int) (h0 : 0 ≤ h) (h1 : h < 2147483647) : 0 ≤ fromGo code h ∧ fromGo code h < 2147483647 := by
  induction code generalizing h with
  | nil => exact ⟨h0, h1⟩
  | cons c r ih => exact ih _ (by omega) (by omega)
def stepH (h : Int) : Int := (h * 48271 + 23) % 2147483647
def nextF (code : List Int) (s : St) (n : Int) : Int × St :=
  if n ≤ 1 then (0, s)
  else if s.1 < code.length then
    ((if n ≤ 256 ∧ (s.1 + 1) % 2 = 0 then code.getD s.1 0 else stepH s.2 / 17 + code.getD s.1 0) % n, (s.1 + 1, stepH s.2))
  else (stepH s.2 / 17 % n, (s.1, stepH s.2))
theorem stepH_bd (h : Int) : 0 ≤ stepH h ∧ stepH h < 2147483647 := by unfold stepH; omega
theorem nextF_bd (code : List Int) (s : St) (n : Int) (hn : 1 ≤ n) : 0 ≤ (nextF code s n).1 ∧ (nextF code s n).1 < n := by
  unfold nextF
  split
  · exact ⟨Int.le_refl _, by omega⟩
  · split
    · exact ⟨Int.emod_nonneg _ (by omega), Int.emod_lt_of_pos _ (by omega)⟩
    · exact ⟨Int.emod_nonneg _ (by omega), Int.emod_lt_of_pos _ (by omega)⟩
theorem nextF_nonneg (code : List Int) (s : St) (n : Int) : 0 ≤ (nextF code s n).1 := by
  by_cases h : 1 ≤ n
  · exact (nextF_bd code s n h).1
  · unfold nextF; rw [if_pos (by omega)]; exact Int.le_refl _

/-- A valid state. -/
def StOk (code : List Int) (s : St) : Prop := s.1 ≤ code.length ∧ 0 ≤ s.2 ∧ s.2 < 2147483647
theorem nextF_ok (code : List Int) (s : St) (n : Int) (h : StOk code s) : StOk code (nextF code s n).2 := by
  have hb := stepH_bd s.2
  unfold nextF
  split
  · exact h
  · split
    · exact ⟨by simp; omega, hb.1, hb.2⟩
    · exact ⟨h.1, hb.1, hb.2⟩
theorem fromF_ok (code : List Int) : StOk code (fromF code) := ⟨Nat.zero_le _, fromGo_bd _ _ (by omega) (by omega)⟩
end Go.Proofs.YtalgdeieejpelaaGreatDoor

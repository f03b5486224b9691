/- Walks: slices.Contains; slices.Sort of few integers. -/
import Derived.Test.YtalgdeieejpelaaGreatZw
import Derived.Test.YtalgdeieejpelaaGreatZc
namespace Go.Proofs.YtalgdeieejpelaaGreat
open Go.RowKit Go.Sort
set_option linter.unusedVariables false
set_option maxRecDepth 100000

/-- The first place of a number in a list. -/
def indexF (v : Int) : Nat → List Int → Int
  | _, [] => -1
  | i, x :: r => if v = x then (i : Int) else indexF v (i + 1) r
theorem indexF_get {v : Int} {xs : List Int} (h : v ∈ xs) (i : Nat) : ∃ j : Nat, xs[j]? = some v ∧ indexF v i xs = ((i + j : Nat) : Int) := by
  induction xs generalizing i with
  | nil => cases h
  | cons x r ih =>
    unfold indexF
    by_cases e : v = x
    · subst e
      exact ⟨0, rfl, by rw [if_pos rfl]; rfl⟩
    · rw [if_neg e]
      obtain ⟨j, h1, h2⟩ := ih (by rcases List.mem_cons.1 h with h | h; exact absurd h e; exact h) (i + 1)
      exact ⟨j + 1, by simpa using h1, by rw [h2]; omega⟩
theorem indexF_none {v : Int} {xs : List Int} (h : v ∉ xs) (i : Nat) : indexF v i xs = -1 := by
  induction xs generalizing i with
  | nil => rfl
  | cons x r ih =>
    unfold indexF
    rw [if_neg (fun e => h (by rw [e]; exact List.mem_cons_self)), ih (fun hm => h (List.mem_cons_of_mem _ hm))]
theorem indexF_mem (v : Int) (xs : List Int) : 0 ≤ indexF v 0 xs ↔ v ∈ xs := by
  by_cases h : v ∈ xs
  · obtain ⟨j, _, e⟩ := indexF_get h 0
    rw [e]
    exact ⟨fun _ => h, fun _ => by omega⟩
  · rw [indexF_none h 0]
    exact ⟨fun h2 => by omega, fun h2 => absurd h2 h⟩
theorem index_any (A : Option Addr) (n c : Nat) (xs : List Int) (v : Int) (w : World) (h : Rd w 1 A n (ints xs)) :
    Calls Tryz.prog 149 #[.slice A n c, .int .i64 v] w fun e w' => e = .returned (.int .i64 (indexF v 0 xs)) ∧ Drawn w w' := by
  have HN := Lib.hid h.len_int
  have hm := h.le
  go_enter Tryz.func149, Tryz.ntmps149
  go_wp2_with fail
  go_loopw [5, 8] (fun _ i wr => ∃ k : Nat, k ≤ n ∧ i = .int .i64 k ∧ Hid (indexF v k (xs.drop k) = indexF v 0 xs) ∧ Drawn w wr) (fun _ i _ => n - (intOf i).toNat)
  case atStart => exact ⟨0, Nat.zero_le _, rfl, rfl, Drawn.refl _⟩
  case round =>
    obtain ⟨k, hk, rfl, HR, hq⟩ := hrel
    by_cases hlt : k < n
    · obtain ⟨b, o, x, rfl, hx, hd, hc⟩ := (h.drawn hq).int hlt
      have HD := Lib.hid hd
      clear hx hd
      by_cases hvx : v = x
      · subst hvx
        go_wp2_with fail
        go_ret
        exact ⟨ret_int (by rw [← HR.out, HD.out, indexF, if_pos rfl]), hq⟩
      · have hne : (v == x) = false := by simpa using hvx
        have HVX := Lib.hid hvx
        clear hvx
        go_wp2_with fail
        go_roundw
        case rel => exact ⟨k + 1, by omega, by go_num, by unfold Hid; rw [← HR.out, HD.out, indexF, if_neg HVX.out], hq⟩
        case measure => simp [intOf]; omega
    · obtain rfl : k = n := by omega
      go_wp2
      go_ret
      exact ⟨ret_int (by rw [← HR.out, List.drop_eq_nil_of_le (by rw [HN.out]; omega)]; rfl), hq⟩

theorem contains_any (A : Option Addr) (n c : Nat) (xs : List Int) (v : Int) (w : World) (h : Rd w 1 A n (ints xs)) :
    Calls Tryz.prog 131 #[.slice A n c, .int .i64 v] w fun e w' => e = .returned (.bool (decide (v ∈ xs))) ∧ Drawn w w' := by
  have HI := Lib.hid (index_any A n c xs v w h)
  have hm : decide (0 ≤ indexF v 0 xs) = decide (v ∈ xs) := by rw [decide_eq_decide]; exact indexF_mem v xs
  rw [← hm]
  clear hm
  generalize indexF v 0 xs = r at *
  go_enter Tryz.func131, Tryz.ntmps131
  go_wp2_with fail
  refine HI.out.mono ?_
  rintro e w1 ⟨rfl, hq⟩
  go_wp2_with fail
  go_ret
  exact ⟨rfl, hq⟩

theorem isNaN_any (x : Int) (w : World) :
    Calls Tryz.prog 169 #[.int .i64 x] w fun e w' => e = .returned (.bool false) ∧ w = w' := by
  go_enter Tryz.func169, Tryz.ntmps169
  go_wp2
  go_ret
  exact ⟨rfl, rfl⟩
theorem less_any (x y : Int) (w : World) :
    Calls Tryz.prog 156 #[.int .i64 x, .int .i64 y] w fun e w' => e = .returned (.bool (decide (x < y))) ∧ w' = w := by
  go_enter Tryz.func156, Tryz.ntmps156
  go_wp2_with (go_at_call 169; refine (isNaN_any _ _).mono ?_; rintro e w' ⟨rfl, rfl⟩)
  go_ret
  exact ⟨rfl, rfl⟩

set_option maxHeartbeats 2000000 in
theorem insertionO_any (g c n base : Nat) (xs : List Int) (w : World) (hn16 : n ≤ 16)
    (hown : w.ownsRow base 2 1 (.slice (some ⟨g, 0, none⟩) n c) n (ints xs)) :
    Calls Tryz.prog 150 #[.slice (some ⟨g, 0, none⟩) n c, .int .i64 0, .int .i64 (n : Int)] w
      fun e w' => e = .returned (.tuple #[]) ∧ w'.ownsRow base 2 1 (.slice (some ⟨g, 0, none⟩) n c) n (ints (insSort ltI xs)) ∧ Chg g (g + 1) w w' := by
  have HN := Lib.hid (own_len hown)
  have hg := hown.lt g rfl
  go_enter Tryz.func150, Tryz.ntmps150
  go_wp2_with fail
  go_loopw [6] (fun i wr => ∃ (k : Nat) (out : List Int), 1 ≤ k ∧ k ≤ n + 1 ∧ k ≤ 17 ∧ i = .int .i64 k ∧ insOut ltI (n - k) k out = insSort ltI xs ∧ (∀ x ∈ out, x ∈ xs) ∧ wr.ownsRow base 2 1 (.slice (some ⟨g, 0, none⟩) n c) n (ints out) ∧ Chg g (g + 1) w wr) (fun i _ => n - (intOf i).toNat)
  case atStart => exact ⟨1, xs, by omega, by omega, by omega, rfl, by unfold insSort; rw [HN.out], fun x h => h, hown, Chg.refl _ _ _⟩
  case round =>
    obtain ⟨k, out, hk1, hkn, hk17, rfl, hr, hm, ho, hch⟩ := hrel
    clear hown
    have HR := Lib.hid hr; have HM := Lib.hid hm
    clear hr hm
    by_cases hlt : k < n
    · have e : n - k = (n - (k + 1)) + 1 := by omega
      rw [e, insOut] at HR
      clear e
      go_wp2_with fail
      go_loopw [7] (fun i wr => ∃ (j : Nat) (o2 : List Int), j ≤ k ∧ i = .int .i64 j ∧ Hid (insIn ltI j o2 = insIn ltI k out) ∧ (∀ x ∈ o2, x ∈ xs) ∧ wr.ownsRow base 2 1 (.slice (some ⟨g, 0, none⟩) n c) n (ints o2) ∧ Chg g (g + 1) w wr) (fun i _ => (intOf i).toNat)
      case atStart => exact ⟨k, out, Nat.le_refl _, rfl, rfl, HM.out, ho, hch⟩
      case round =>
        clear ho hch
        obtain ⟨j, o2, hjk, rfl, HI, hm2, ho, hch⟩ := hrel
        have HM2 := Lib.hid hm2; clear hm2
        by_cases hj : j = 0
        · subst hj
          go_wp2_with fail
          go_quiet (fail)
          go_wp2_with fail
          go_roundw
          case rel => exact ⟨k + 1, o2, by omega, by omega, by omega, by go_num, by rw [← HR.out, ← HI.out, insIn], HM2.out, (Drawn.refl _).own ho, chg_dN hch _⟩
          case measure => simp [intOf]; omega
        · obtain ⟨p, rfl⟩ : ∃ p, j = p + 1 := ⟨j - 1, by omega⟩
          obtain ⟨g1, x, hg1, _, _, hx, hcx, hfx⟩ := own_int_at ho (k := p + 1) (by omega)
          obtain rfl : g = g1 := by injection hg1 with e; injection e
          obtain ⟨g2, y, hg2, _, _, hy, hcy, hfy⟩ := own_int_at ho (k := p) (by omega)
          obtain rfl : g = g2 := by injection hg2 with e; injection e
          have hxm := HM2.out x (List.mem_of_getElem? hx)
          have hym := HM2.out y (List.mem_of_getElem? hy)
          have hstep : insIn ltI (p + 1) o2 = if ltI x y then insIn ltI p ((o2.set (p + 1) y).set p x) else o2 := by
            rw [insIn, swapAt, List.getD_eq_getElem?_getD, List.getD_eq_getElem?_getD, hx, hy]; rfl
          have HST := Lib.hid hstep
          have HX := Lib.hid hx; have HY := Lib.hid hy
          clear hg1 hg2 hstep hx hy
          have hw1 : IntKind.i64.wrap (((p + 1 : Nat) : Int) - 1) = (p : Int) := by rw [IntWalk.i64_in _ (by omega)]; omega
          by_cases hb : x < y
          · have hltb : decide (x < y) = true := decide_eq_true hb
            rw [if_pos (by unfold ltI; exact hltb)] at HST
            clear hb
            go_wp2_with fail
            go_quiet ((go_at_call 156; exact Calls.quiet_of_same (less_any _ _ _)))
            go_wp2_with fail
            obtain ⟨wq, hwq⟩ : ∃ wq, wq = wr.drewN nq := ⟨_, rfl⟩
            have hoq : wq.ownsRow base 2 1 (.slice (some ⟨g, 0, none⟩) n c) n (ints o2) := by rw [hwq]; exact ho
            have hchq : Chg g (g + 1) w wq := by rw [hwq]; exact chg_dN hch nq
            have hcx' : wq.cell? ⟨g, p + 1, none⟩ = some (.int .i64 x) := by rw [hwq]; exact hcx
            have hcy' : wq.cell? ⟨g, p, none⟩ = some (.int .i64 y) := by rw [hwq]; exact hcy
            have hfx' : wq.frozen? ⟨g, p + 1, none⟩ = false := by rw [hwq]; exact hfx
            have hfy' : wq.frozen? ⟨g, p, none⟩ = false := by rw [hwq]; exact hfy
            rw [← hwq]
            have HO := Lib.hid hoq; have HCH := Lib.hid hchq
            clear hwq hoq hchq hcx hcy hfx hfy ho hch hltb
            go_region
            have ho3 := own_set (k := p) (own_set (k := p + 1) HO.out y) x
            have hc3 := chg_dN (chg_sC (i := p) (chg_sC (i := p + 1) HCH.out (Nat.le_refl _) (Nat.lt_succ_self _) (.int .i64 y)) (Nat.le_refl _) (Nat.lt_succ_self _) (.int .i64 x)) 1
            have O3 := Lib.hid ho3; have C3 := Lib.hid hc3
            clear ho3 hc3
            go_wp2_with fail
            go_roundw
            case rel => exact ⟨p, _, by omega, by go_num, by unfold Hid; rw [← HI.out, HST.out], swap_mem HM2.out hxm hym, (Drawn.refl _).own O3.out, C3.out⟩
            case measure => simp [intOf]
          · have hltb : decide (x < y) = false := decide_eq_false hb
            rw [if_neg (by unfold ltI; rw [hltb]; simp)] at HST
            clear hb
            go_wp2_with fail
            go_quiet ((go_at_call 156; exact Calls.quiet_of_same (less_any _ _ _)))
            go_wp2_with fail
            go_roundw
            case rel => exact ⟨k + 1, o2, by omega, by omega, by omega, by go_num, by rw [← HR.out, ← HI.out, HST.out], HM2.out, (Drawn.refl _).own ho, chg_dN hch _⟩
            case measure => simp [intOf]; omega
    · have e : n - k = 0 := by omega
      rw [e, insOut] at HR
      go_wp2_with fail
      go_end0
      exact ⟨rfl, by rw [← HR.out]; exact ho, hch⟩
set_option maxHeartbeats 1000000 in
theorem pdq_any (g c n base : Nat) (xs : List Int) (limit : Int) (w : World) (hn12 : n ≤ 12)
    (hown : w.ownsRow base 2 1 (.slice (some ⟨g, 0, none⟩) n c) n (ints xs)) :
    Calls Tryz.prog 132 #[.slice (some ⟨g, 0, none⟩) n c, .int .i64 0, .int .i64 (n : Int), .int .i64 limit] w
      fun e w' => e = .returned (.tuple #[]) ∧ w'.ownsRow base 2 1 (.slice (some ⟨g, 0, none⟩) n c) n (ints (insSort ltI xs)) ∧ Chg g (g + 1) w w' := by
  have H := Lib.hid (insertionO_any g c n base xs w (by omega) hown)
  have hd : decide ((n : Int) ≤ 12) = true := by simp; omega
  clear hown
  go_enter Tryz.func132, Tryz.ntmps132
  go_wp2_with fail
  go_loopw [1, 2, 3, 8, 9] (fun p q r a b wr => p = .int .i64 0 ∧ q = .int .i64 (n : Int) ∧ r = .int .i64 limit ∧ a = .bool true ∧ b = .bool true ∧ wr = w) (fun _ _ _ _ _ _ => 0)
  case atStart => exact ⟨rfl, rfl, rfl, rfl, rfl, rfl⟩
  case round =>
    obtain ⟨rfl, rfl, rfl, rfl, rfl, rfl⟩ := hrel
    go_wp2_with fail
    refine H.out.mono ?_
    rintro e w1 ⟨rfl, ho1, hc1⟩
    go_wp2_with fail
    refine bodyPost_ret (v := .tuple #[]) (by simp [results, Tryz.results132, go_sem]) rfl ?_
    exact ⟨rfl, ho1, hc1⟩
theorem len64_any (n : Nat) (hn : n ≤ 12) (w : World) : Calls Tryz.prog 144 #[.int .u64 (n : Int)] w fun e w' => (∃ k, e = .returned (.int .i64 k)) ∧ w = w' := by
  have h : n = 0 ∨ n = 1 ∨ n = 2 ∨ n = 3 ∨ n = 4 ∨ n = 5 ∨ n = 6 ∨ n = 7 ∨ n = 8 ∨ n = 9 ∨ n = 10 ∨ n = 11 ∨ n = 12 := by omega
  rcases h with rfl | rfl | rfl | rfl | rfl | rfl | rfl | rfl | rfl | rfl | rfl | rfl | rfl
  all_goals
    go_enter Tryz.func144, Tryz.ntmps144
    go_wp2_with fail
    go_ret
    exact ⟨⟨_, rfl⟩, rfl⟩
theorem bitsLen_any (n : Nat) (hn : n ≤ 12) (w : World) : Calls Tryz.prog 126 #[.int .u64 (n : Int)] w fun e w' => (∃ k, e = .returned (.int .i64 k)) ∧ w = w' := by
  have H := Lib.hid (fun w' => len64_any n hn w')
  go_enter Tryz.func126, Tryz.ntmps126
  go_wp2_with fail
  refine (H.out _).mono ?_
  rintro e w1 ⟨⟨k, rfl⟩, rfl⟩
  go_wp2_with fail
  go_ret
  exact ⟨⟨_, rfl⟩, rfl⟩
theorem sortFew_any (g c n base : Nat) (xs : List Int) (w : World) (hn12 : n ≤ 12)
    (hown : w.ownsRow base 2 1 (.slice (some ⟨g, 0, none⟩) n c) n (ints xs)) :
    Calls Tryz.prog 114 #[.slice (some ⟨g, 0, none⟩) n c] w
      fun e w' => e = .returned (.tuple #[]) ∧ w'.ownsRow base 2 1 (.slice (some ⟨g, 0, none⟩) n c) n (ints (insSort ltI xs)) ∧ Chg g (g + 1) w w' := by
  have H := Lib.hid (fun k => pdq_any g c n base xs k w hn12 hown)
  have HB := Lib.hid (bitsLen_any n hn12 w)
  clear hown
  go_enter Tryz.func114, Tryz.ntmps114
  go_wp2_with fail
  refine HB.out.mono ?_
  rintro e w1 ⟨⟨k, rfl⟩, rfl⟩
  go_wp2_with fail
  refine (H.out _).mono ?_
  rintro e w1 ⟨rfl, ho1, hc1⟩
  go_wp2_with fail
  go_end0
  exact ⟨rfl, ho1, hc1⟩
end Go.Proofs.YtalgdeieejpelaaGreat

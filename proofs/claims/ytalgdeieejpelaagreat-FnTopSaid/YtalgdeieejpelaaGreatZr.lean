/- Walks: the laws' dice; turned indices; shuffled indices. -/
import Derived.Test.YtalgdeieejpelaaGreatZmo
import Derived.Test.YtalgdeieejpelaaGreatZml
import Derived.Test.YtalgdeieejpelaaGreatZma
import Derived.Laws.BitsAllLaws
namespace Go.Proofs.YtalgdeieejpelaaGreat
open Go.RowKit Go.Sort
set_option linter.unusedVariables false
set_option maxRecDepth 100000

theorem Tryz.info_int : (Tryz.prog.info? 3).map (fun i => (i.zero, i.size, i.bytes)) = some (some (.int .i64 0), 1, 8) := by kernel_rfl
/-- A number is appended to an own row of ints. -/
theorem app_int {ops : Array Oper} {rest : List Oper} {o : Oper} {a : Act} {Q : Exit → Act → World → Prop} (w : World) (hgd : o.guard = none) (s x : Operand)
    (ho : o.op = .call { callee := .builtin .append, args := #[s, x], argTypes := #[43, 43] }) {base n c : Nat} {A : Option Addr} {xs : List Int}
    (hs : a.eval s = .slice A n c) (hown : w.ownsRow base 3 1 (.slice A n c) n (ints xs)) {ad : Addr} {x0 : Int} (hx : a.eval x = .slice (some ad) 1 1)
    (hc : w.cell? ad = some (.int .i64 x0)) (hn : n ≤ 1099511627776) (hbase : base ≤ w.heap.size)
    (h : ∀ A' c' w', w'.ownsRow base 3 1 (.slice A' (n + 1) c') (n + 1) (ints (xs ++ [x0])) → w.grownBy w' (Value.slice A n c).ownBlock → wpList Tryz.prog ops Q rest (a.put o.dst (.slice A' (n + 1) c')) w') :
    wpList Tryz.prog ops Q (o :: rest) a w := by
  obtain ⟨i, hi, hz, hs1, hb1⟩ := info_parts Tryz.info_int
  refine wpList_append_own w hgd s x 43 ho base 3 i (.int .i64 0) 1 8 Tryz.underlying43 hi hz hs1 hb1 rfl (by decide) (.slice A n c) n (ints xs) hs hown ad 1 1 [.int .i64 x0] hx rfl ?_ ?_ (by unfold maxLen; omega) (by omega) hbase ?_
  · intro j u hu
    have hj : j = 0 := by
      rcases j with _ | j
      · rfl
      · simp at hu
    subst hj
    have hadd : ad.add 0 = ad := by simp [Addr.add]
    rw [hadd, hc]
    simpa using hu
  · intro u hu
    simp at hu
    subst hu
    rfl
  · intro v' w' h1 h2 _
    have e : ints xs ++ [.int .i64 x0] = ints (xs ++ [x0]) := by simp [ints]
    rw [e] at h1
    rcases h1.2 with ⟨rfl, h0⟩ | ⟨g, cap, cur, rfl, _⟩
    · exact absurd h0 (by omega)
    · exact h _ _ w' h1 h2
/-- i turned indices out of n, turned by k. -/
def turnI (n k i : Nat) : List Int := (List.range i).map fun (j : Nat) => ((j : Int) + (k : Int)) % (n : Int)
theorem turnI_succ (n k i : Nat) : turnI n k (i + 1) = turnI n k i ++ [((i : Int) + (k : Int)) % (n : Int)] := by unfold turnI; rw [List.range_succ, List.map_append]; rfl
theorem turnI_get {n k i j : Nat} (h : j < i) : (turnI n k i)[j]? = some (((j + k) % n : Nat) : Int) := by
  unfold turnI
  rw [List.getElem?_map, List.getElem?_range h]
  rfl
set_option maxHeartbeats 2000000 in
theorem w6Turned_any (n k : Nat) (hn : n ≤ 400) (hk : k ≤ n) (w : World) :
    Calls Tryz.prog 19 #[.int .i64 (n : Int), .int .i64 (k : Int)] w fun e w' => ∃ A c, e = .returned (.slice A n c) ∧ w'.ownsRow w.heap.size 3 1 (.slice A n c) n (ints (turnI n k n)) ∧ Below w.heap.size w w' := by
  have hoe := own_empty w w.heap.size 3 (Nat.le_refl _)
  have HOE := Lib.hid hoe
  clear hoe
  go_enter Tryz.func19, Tryz.ntmps19
  go_wp2_with fail
  go_loopw [5, 6] (fun l i wr => ∃ (j c' : Nat) (A' : Option Addr), j ≤ n ∧ i = .int .i64 (j : Int) ∧ l = .slice A' j c' ∧ Hid (wr.ownsRow w.heap.size 3 1 (.slice A' j c') j (ints (turnI n k j))) ∧ Hid (Below w.heap.size w wr)) (fun _ i _ => n - (intOf i).toNat)
  case atStart => exact ⟨0, 0, _, by omega, rfl, rfl, Lib.hid HOE.out, Lib.hid ((Below.refl _ _).alloc (Nat.le_refl _) _)⟩
  case round =>
    clear HOE
    obtain ⟨j, c', A'', hj, rfl, rfl, HOL, HBL⟩ := hrel
    have hsl := HBL.out.size
    by_cases hlt : j < n
    · have hli : decide ((j : Int) < (n : Int)) = true := decide_eq_true (by omega)
      have hw1 : IntKind.i64.wrap ((j : Int) + (k : Int)) = (j : Int) + (k : Int) := IntWalk.i64_in _ (by omega)
      have hn0 : ((n : Int) == 0) = false := by simp; omega
      have hn1 : ((n : Int) = 0) = False := by simp; omega
      go_wp2_with (at_builtin; refine app_int (x0 := ((j : Int) + (k : Int)) % (n : Int)) _ rfl _ _ rfl rfl (own_below HOL.out ((Below.refl _ _).alloc (Nat.le_refl _) _)) rfl (cell_new1 _ _ _) (by omega) (by simp; omega) ?_; intro A9 c9 w9 ho9 hgr9)
      have HO9 := Lib.hid ho9
      have HB9 := Lib.hid ((HBL.out.alloc hsl _).grown hgr9 (by simp; omega) (fun k hk => (HOL.out.lt k hk).1))
      clear ho9 hgr9
      go_roundw
      case rel => exact ⟨j + 1, _, _, by omega, by go_num, rfl, Lib.hid (by rw [turnI_succ]; exact HO9.out), HB9⟩
      case measure => simp [intOf] <;> omega
    · obtain rfl : j = n := by omega
      have hli : decide ((j : Int) < (j : Int)) = false := by simp
      go_wp2_with fail
      go_ret
      exact ⟨_, _, rfl, HOL.out, HBL.out⟩
/-- The dice in memory: what they show is not told. -/
def Dice (w0 w : World) (A : Option Addr) (n cap g : Nat) : Prop := ∃ (i : Nat) (h : Int), i ≤ n ∧ Box w g #[.slice A n cap, .int .i64 (i : Int), .int .u64 h] 84 ∧ w0.heap.size ≤ g ∧ Below w0.heap.size w0 w
theorem Dice.below {w0 w w' : World} {A : Option Addr} {n cap g : Nat} (h : Dice w0 w A n cap g) (k : Below w.heap.size w w') : Dice w0 w' A n cap g := by
  obtain ⟨i, x, h1, h2, h3, h4⟩ := h
  exact ⟨i, x, h1, h2.below k, h3, h4.trans (k.mono h4.size)⟩
set_option maxHeartbeats 2000000 in
theorem roll_any (w0 : World) (A : Option Addr) (n cap : Nat) (code : List Int) (hcode : Code0 w0 A n code) (seed : Int) (w : World) (hb : Below w0.heap.size w0 w) :
    Calls Tryz.prog 20 #[.slice A n cap, .int .u64 seed] w fun e w' => ∃ g, e = .returned (.pointer (some ⟨g, 0, none⟩)) ∧ Dice w0 w' A n cap g ∧ w.heap.size ≤ g ∧ Below w.heap.size w w' := by
  have hb0 := hb.size
  have HB := Lib.hid hb
  clear hb
  have hn4 := hcode.n4
  go_enter Tryz.func20, Tryz.ntmps20
  go_wp2_with fail
  go_loopw [6] (fun i wr => ∃ (k : Nat) (h : Int), k ≤ n ∧ i = .int .i64 (k : Int) ∧ Hid (Box wr w.heap.size #[.slice A n cap, .int .i64 0, .int .u64 h] 84) ∧ Hid (Below w.heap.size w wr)) (fun i _ => n - (intOf i).toNat)
  case atStart => exact ⟨0, _, Nat.zero_le _, rfl, Lib.hid (Box.new _ _ _), Lib.hid ((Below.refl _ _).alloc (Nat.le_refl _) _)⟩
  case round =>
    obtain ⟨k, h, hk, rfl, HX, HBL⟩ := hrel
    by_cases hlt : k < n
    · have hli : decide ((k : Int) < (n : Int)) = true := decide_eq_true (by omega)
      obtain ⟨b, o, c, rfl, hcc, hc0, hc1, hcell⟩ := hcode.at_ (HB.out.trans (HBL.out.mono HB.out.size)) hlt
      have F2 := HX.out.f3
      have HX2 := Lib.hid (show ∀ v, Box (wr.setCell ⟨w.heap.size, 2, none⟩ (.int .u64 v)) w.heap.size #[.slice (some ⟨b, o, none⟩) n cap, .int .i64 0, .int .u64 v] 84 from fun v => by have := HX.out.set 2 (.int .u64 v); simpa using this)
      go_wp2_with fail
      go_region
      go_wp2_with fail
      go_roundw
      case rel => exact ⟨k + 1, _, by omega, by go_num, Lib.hid ((HX2.out _).below (below_drewN' _ _ 1)), Lib.hid ((HBL.out.setCell (p := ⟨w.heap.size, 2, none⟩) (Nat.le_refl _) _).drew)⟩
      case measure => simp [intOf] <;> omega
    · obtain rfl : k = n := by omega
      have hli : decide ((k : Int) < (k : Int)) = false := by simp
      go_wp2_with fail
      go_ret
      exact ⟨w.heap.size, rfl, ⟨0, h, by omega, HX.out, hb0, HB.out.trans (HBL.out.mono HB.out.size)⟩, Nat.le_refl _, HBL.out⟩
theorem dice_bd (x : Int) : 0 ≤ wrap64 (bits .and .u64 (IntKind.u64.wrap x / 8589934592) 16777215) ∧ wrap64 (bits .and .u64 (IntKind.u64.wrap x / 8589934592) 16777215) ≤ 16777215 := by
  have hy : 0 ≤ IntKind.u64.wrap x ∧ IntKind.u64.wrap x < 18446744073709551616 := by
    simp [IntKind.wrap, IntKind.bits, IntKind.signed]; omega
  generalize IntKind.u64.wrap x = y at *
  rw [u64_and _ _ (by omega) (by omega) (by omega) (by omega)]
  have e : (16777215 : Int).toNat = 16777215 := rfl
  rw [e, nat_mask24]
  unfold wrap64
  omega
set_option maxHeartbeats 2000000 in
theorem below_any (w0 : World) (A : Option Addr) (n cap : Nat) (code : List Int) (hcode : Code0 w0 A n code) (g : Nat) (m : Int) (hm1 : 1 ≤ m) (hm2 : m ≤ 1000000) (w : World) (hd : Dice w0 w A n cap g) :
    Calls Tryz.prog 21 #[.pointer (some ⟨g, 0, none⟩), .int .i64 m] w fun e w' => ∃ x, e = .returned (.int .i64 x) ∧ 0 ≤ x ∧ x < m ∧ Dice w0 w' A n cap g ∧ Chg g (g + 1) w w' := by
  obtain ⟨i, h, hi, hx, hg, hb⟩ := hd
  have hn4 := hcode.n4
  have HX := Lib.hid hx
  have F := hx.f3
  have hgl := hx.lt
  have HB := Lib.hid hb
  clear hx hb
  obtain ⟨h2, hh2⟩ : ∃ h2, h2 = IntKind.u64.wrap (IntKind.u64.wrap (h * 6364136223846793005) + 1442695040888963407) := ⟨_, rfl⟩
  obtain ⟨x0, hx0⟩ : ∃ x0, x0 = wrap64 (bits .and .u64 (h2 / 8589934592) 16777215) := ⟨_, rfl⟩
  have hbd : 0 ≤ x0 ∧ x0 ≤ 16777215 := by rw [hx0, hh2]; exact dice_bd _
  obtain ⟨w2, hw2⟩ : ∃ w2 : World, w2 = w.setCell ⟨g, 2, none⟩ (.int .u64 h2) := ⟨_, rfl⟩
  have HX2 := Lib.hid (show Box w2 g #[.slice A n cap, .int .i64 (i : Int), .int .u64 h2] 84 from by rw [hw2]; have := HX.out.set 2 (.int .u64 h2); simpa using this)
  have HC2 := Lib.hid (show Chg g (g + 1) w w2 from by rw [hw2]; exact chg_set (Chg.refl _ _ _) (Nat.le_refl _) (by omega) _)
  have HB2 := Lib.hid (below_chg HB.out HC2.out (by omega) HB.out.size)
  have HH2 := Lib.hid hh2; have HX0 := Lib.hid hx0; have HW2 := Lib.hid hw2
  clear hh2 hx0 hw2
  have F2 := HX2.out.f3
  have hm0 : (m == 0) = false := by simp; omega
  go_enter Tryz.func21, Tryz.ntmps21
  go_wp2_with fail
  rw [← HH2.out, ← HX0.out, ← HW2.out]
  clear HW2 HX0 HH2 F
  obtain ⟨hbd0, hbd1⟩ := hbd
  by_cases hin : i < n
  · obtain ⟨b, o, c, rfl, hcc, hc0, hc1, hcell⟩ := hcode.at_ HB2.out hin
    have hid : decide ((i : Int) < (n : Int)) = true := decide_eq_true (by omega)
    clear hcc
    have HW1 : IntKind.i64.wrap (x0 + c) = x0 + c := IntWalk.i64_in _ (by omega)
    go_region
    go_wp2_with fail
    go_region
    go_wp2_with fail
    go_ret
    refine ⟨(x0 + c) % m, rfl, Int.emod_nonneg _ (by omega), Int.emod_lt_of_pos _ (by omega), ⟨i + 1, h2, by omega, ?_, hg, ?_⟩, ?_⟩
    · have h9 := HX2.out.set 1 (.int .i64 ((i : Int) + 1))
      have h8 : Box (w2.setCell ⟨g, 1, none⟩ (.int .i64 ((i : Int) + 1))) g #[.slice (some ⟨b, o, none⟩) n cap, .int .i64 ((i + 1 : Nat) : Int), .int .u64 h2] 84 := by simpa using h9
      exact (h8.below (below_drewN' _ _ 1)).below (below_drewN' _ _ 1)
    · exact ((HB2.out.setCell (p := ⟨g, 1, none⟩) hg _).drew).drew
    · exact chg_drewN (chg_drewN (chg_set HC2.out (Nat.le_refl _) (by omega) _) 1) 1
  · have hid : decide ((i : Int) < (n : Int)) = false := decide_eq_false (by omega)
    go_region
    go_wp2_with fail
    go_ret
    refine ⟨x0 % m, rfl, Int.emod_nonneg _ (by omega), Int.emod_lt_of_pos _ (by omega), ⟨i, h2, by omega, ?_, hg, ?_⟩, ?_⟩
    · exact HX2.out.below (below_drewN' _ _ 1)
    · exact HB2.out.drew
    · exact chg_drewN HC2.out 1
theorem chg_newset {lo hi b i : Nat} {w W : World} (h : Chg lo hi w W) (hb : w.heap.size ≤ b) (v : Value) : Chg lo hi w (W.setCell ⟨b, i, none⟩ v) :=
  ⟨h.os, h.tape, h.output, by simpa [World.setCell] using h.size, fun k hk hn => (Below.heap_setCell _ _ _ _ (by simp; omega)).trans (h.block k hk hn)⟩
theorem Dice.new {w0 w w' : World} {A : Option Addr} {n cap g b i : Nat} (h : Dice w0 w A n cap g) (hb : g < b) (v : Value) : Dice w0 (w.setCell ⟨b, i, none⟩ v) A n cap g := by
  obtain ⟨j, x, h1, h2, h3, h4⟩ := h
  exact ⟨j, x, h1, h2.other (by omega) v, h3, h4.setCell (p := ⟨b, i, none⟩) (by show w0.heap.size ≤ b; omega) v⟩
theorem Dice.lt {w0 w : World} {A : Option Addr} {n cap g : Nat} (h : Dice w0 w A n cap g) : g < w.heap.size := by
  obtain ⟨j, x, h1, h2, h3, h4⟩ := h
  exact h2.lt
set_option maxHeartbeats 4000000 in
theorem shuffled_any (w0 : World) (A : Option Addr) (n cap : Nat) (code : List Int) (hcode : Code0 w0 A n code) (g m : Nat) (hm : m ≤ 400) (w : World) (hd : Dice w0 w A n cap g) :
    Calls Tryz.prog 28 #[.pointer (some ⟨g, 0, none⟩), .int .i64 (m : Int)] w fun e w' => ∃ A' c p, e = .returned (.slice A' m c) ∧ p.Perm (idx m) ∧ w'.ownsRow w.heap.size 2 1 (.slice A' m c) m (ints p) ∧ Dice w0 w' A n cap g ∧ Chg g (g + 1) w w' := by
  have hgl := hd.lt
  have HD := Lib.hid hd
  have hoe := own_empty w w.heap.size 2 (Nat.le_refl _)
  have HOE := Lib.hid hoe
  clear hoe hd
  go_enter Tryz.func28, Tryz.ntmps28
  go_wp2_with fail
  go_loopw [5, 6] (fun l i wr => ∃ (j c' : Nat) (A' : Option Addr), j ≤ m ∧ i = .int .i64 (j : Int) ∧ l = .slice A' j c' ∧ Hid (wr.ownsRow w.heap.size 2 1 (.slice A' j c') j (ints (idx j))) ∧ Hid (Below w.heap.size w wr)) (fun _ i _ => m - (intOf i).toNat)
  case atStart => exact ⟨0, 0, _, by omega, rfl, rfl, Lib.hid HOE.out, Lib.hid ((Below.refl _ _).alloc (Nat.le_refl _) _)⟩
  case round =>
    clear HOE
    obtain ⟨j, c', A', hj, rfl, rfl, HOL, HBL⟩ := hrel
    have hsl := HBL.out.size
    by_cases hlt : j < m
    · have hli : decide ((j : Int) < (m : Int)) = true := decide_eq_true (by omega)
      go_wp2_with (at_builtin; refine app_i64 (x0 := (j : Int)) _ rfl _ _ rfl rfl (own_below HOL.out ((Below.refl _ _).alloc (Nat.le_refl _) _)) rfl (cell_new1 _ _ _) (by omega) (by simp; omega) ?_; intro A9 c9 w9 ho9 hgr9)
      have HO9 := Lib.hid ho9
      have HB9 := Lib.hid ((HBL.out.alloc hsl _).grown hgr9 (by simp; omega) (fun k hk => (HOL.out.lt k hk).1))
      clear ho9 hgr9
      go_roundw
      case rel => exact ⟨j + 1, _, _, by omega, by go_num, rfl, Lib.hid (by rw [show idx (j + 1) = idx j ++ [(j : Int)] from by simp [idx, List.range_succ]]; exact HO9.out), HB9⟩
      case measure => simp [intOf] <;> omega
    · obtain rfl : j = m := by omega
      have hli : decide ((j : Int) < (j : Int)) = false := by simp
      have HD1 := Lib.hid (HD.out.below HBL.out)
      have HC1 := Lib.hid (show Chg g (g + 1) w wr from Chg.of_below HBL.out)
      clear HD HBL
      go_wp2_with fail
      go_loopw [7] (fun i ws => ∃ (q : Nat) (p : List Int) (zi : Int), q ≤ j ∧ zi = (q : Int) - 1 ∧ i = .int .i64 zi ∧ p.Perm (idx j) ∧ Hid (ws.ownsRow w.heap.size 2 1 (.slice A' j c') j (ints p)) ∧ Hid (Dice w0 ws A n cap g) ∧ Hid (Chg g (g + 1) w ws)) (fun i _ => (intOf i).toNat)
      case atStart => exact ⟨j, idx j, (j : Int) - 1, Nat.le_refl _, rfl, rfl, List.Perm.refl _, HOL, HD1, HC1⟩
      case round =>
        clear HOL HD1 HC1
        obtain ⟨q, p, zi, hqj, hi, rfl, hp, HOL, HD1, HC1⟩ := hrel
        have hend : ∀ z : Int, z ≤ 0 → decide (z > 0) = false := fun z hz => decide_eq_false (by omega)
        cases q with
        | zero =>
          have hi2 : zi = -1 := by rw [hi]; rfl
          subst hi2
          clear hi
          have hd := hend (-1) (by omega)
          go_wp2_with fail
          go_ret
          exact ⟨A', c', p, rfl, hp, HOL.out, HD1.out, HC1.out⟩
        | succ q =>
          have hi2 : zi = (q : Int) := by omega
          subst hi2
          clear hi
          by_cases hq0 : q = 0
          · subst hq0
            have hd := hend ((0 : Nat) : Int) (by omega)
            go_wp2_with fail
            go_ret
            exact ⟨A', c', p, rfl, hp, HOL.out, HD1.out, HC1.out⟩
          · have hgt : decide ((q : Int) > 0) = true := decide_eq_true (by omega)
            have hgt2 : decide (0 < (q : Int)) = true := decide_eq_true (by omega)
            have hgt3 : decide (0 < q) = true := decide_eq_true (by omega)
            have hgt4 : 0 < q := by omega
            clear hend hq0
            go_wp2_with fail
            refine (below_any w0 A n cap code hcode g ((q : Int) + 1) (by omega) (by omega) _ HD1.out).mono ?_
            rintro e wb ⟨x, rfl, hx0, hx1, hd2, hc2⟩
            obtain ⟨k, rfl⟩ := int_up x hx0
            have hk : k < j := by omega
            have HD2 := Lib.hid hd2
            have HC2 := Lib.hid (HC1.out.trans hc2)
            have HO2 := Lib.hid (own_ne_chg HOL.out hc2 (by omega))
            clear hd2 hc2 HC1 HOL HD1
            obtain ⟨gp, y, rfl, hgp, hgp2, hy, hcy, hfy⟩ := own_int_at HO2.out (k := q) (by omega)
            obtain ⟨gp', z, hgpe, -, -, hz, hcz, hfz⟩ := own_int_at HO2.out (k := k) hk
            obtain rfl : gp = gp' := by injection hgpe with e; injection e
            have HP := Lib.hid ((set_perm hy hz).trans hp)
            have HO3 := Lib.hid (own_set (k := k) (own_set (k := q) HO2.out z) y)
            have HD3 := Lib.hid ((HD2.out.new (w' := w) (i := q) (show g < gp by omega) (.int .i64 z)).new (w' := w) (i := k) (show g < gp by omega) (.int .i64 y))
            have HC3 := Lib.hid (chg_newset (i := k) (chg_newset (i := q) HC2.out hgp (.int .i64 z)) hgp (.int .i64 y))
            obtain ⟨gp2, z2, hgpe2, -, -, -, hcz2, hfz2⟩ := own_int_at (own_set (k := q) HO2.out z) (k := k) hk
            obtain rfl : gp = gp2 := by injection hgpe2 with e; injection e
            clear hgpe hy hz hgpe2
            go_wp2_with fail
            go_roundw
            case rel => exact ⟨q, _, (q : Int) - 1, by omega, rfl, rfl, HP.out, HO3, HD3, HC3⟩
            case measure => simp [intOf] <;> omega
end Go.Proofs.YtalgdeieejpelaaGreat

/- Walks: the laws' helpers on winds and grids. -/
import Derived.Test.YtpaamhkgokkgpaaWx
import Derived.Test.YtpaamhkgokkgpaaSt
import Derived.StillTailTactics
import Derived.Deep.RegionHeld3
namespace Go.Proofs.Ytpaamhkgokkgpaa
open Go.RowKit
set_option linter.unusedVariables false
set_option maxRecDepth 100000

theorem toWind_any (x y : Int) (w : World) :
    Calls Try.prog 74 #[.agg #[.int .i64 x, .int .i64 y]] w fun e w' => e = .returned (.agg #[.int .i64 x, .int .i64 y]) ∧ Below w.heap.size w w' := by
  go_enter Try.func74, Try.ntmps74
  go_wp2_with fail
  refine bodyPost_ret (v := .agg #[.int .i64 x, .int .i64 y]) (by simp [results, Try.results74, go_sem]) rfl ⟨rfl, ?_⟩
  exact (((Below.refl _ _).alloc (Nat.le_refl _) _).alloc (by simp) _).alloc (by simp; omega) _
theorem eqWind_any (x y x' y' : Int) (w : World) :
    Calls Try.prog 76 #[.agg #[.int .i64 x, .int .i64 y], .agg #[.int .i64 x', .int .i64 y']] w fun e w' => e = .returned (.bool (decide ((x, y) = (x', y')))) ∧ Below w.heap.size w w' := by
  have hb : ∀ o1 o2, Below w.heap.size w ((w.alloc o1).alloc o2) := fun o1 o2 => ((Below.refl _ _).alloc (Nat.le_refl _) _).alloc (by simp) _
  have HB := Lib.hid hb; clear hb
  by_cases h1 : x = x'
  · subst h1
    by_cases h2 : y = y'
    · subst h2
      go_enter Try.func76, Try.ntmps76
      go_wp2_with fail
      go_ret
      exact ⟨ret_bool (by simp), HB.out _ _⟩
    · have hne : (y != y') = true := by simp [h2]
      go_enter Try.func76, Try.ntmps76
      go_wp2_with fail
      go_ret
      exact ⟨ret_bool (by simp [h2]), HB.out _ _⟩
  · have hne : (x != x') = true := by simp [h1]
    go_enter Try.func76, Try.ntmps76
    go_wp2_with fail
    go_ret
    exact ⟨ret_bool (by simp [h1]), HB.out _ _⟩
theorem Try.info_wind : (Try.prog.info? 65).map (fun i => (i.zero, i.size, i.bytes)) = some (some (.agg #[.int .i64 0, .int .i64 0]), 2, 16) := by kernel_rfl
theorem run_make_wind (n : Nat) (h : n ≤ 1048576) (w : World) :
    (Instr.makeSlice 27 (.int .i64 (n : Int)) (.int .i64 (n : Int))).run Try.prog w = .ok (.slice (some ⟨w.heap.size, 0, none⟩) n n) (w.alloc (.cells (madeCells #[.int .i64 0, .int .i64 0] (n * 2)) 65)) := by
  obtain ⟨i, hi, hz, hs, hb⟩ := info_parts Try.info_wind
  have hr := run_make (P := Try.prog) w 27 65 i (.agg #[.int .i64 0, .int .i64 0]) Try.underlying27 hi hz .i64 .i64 n n (by omega) (by omega) (by rw [hb]; omega) (by omega)
  rw [hs, Int.toNat_natCast] at hr
  exact hr
/-- The copy of a slice of winds. -/
def RetWinds (w : World) (xs : List (Int × Int)) (e : Ending) (w' : World) : Prop :=
  ∃ A n c, e = .returned (.slice A n c) ∧ w'.ownsRow w.heap.size 65 2 (.slice A n c) n (winds xs) ∧ n ≤ 1048576 ∧ Below w.heap.size w w'
theorem toWindS_any (A : Option Addr) (n c : Nat) (xs : List (Int × Int)) (w : World) (h : Rd w 2 A n (winds xs)) (hn : n ≤ 1048576) :
    Calls Try.prog 49 #[.slice A n c] w (RetWinds w xs) := by
  have HN := Lib.hid h.len_wind
  have hmk := run_make_wind n hn
  have hown := own_madeS w w.heap.size 65 n 2 #[.int .i64 0, .int .i64 0] (.int .i64 0) (by decide) (zero2 _) (Nat.le_refl _) (by omega)
  rw [← flat_replicate (f := windC) (s := 2) n (0, 0) (.int .i64 0) rfl] at hown
  have hb0 : Below w.heap.size w (w.alloc (.cells (madeCells #[.int .i64 0, .int .i64 0] (n * 2)) 65)) := (Below.refl _ _).alloc (Nat.le_refl _) _
  go_enter Try.func49, Try.ntmps49
  go_wp2
  go_loopw [4] (fun i wr => ∃ k : Nat, k ≤ n ∧ i = .int .i64 k ∧ wr.ownsRow w.heap.size 65 2 (.slice (some ⟨w.heap.size, 0, none⟩) n n) n (winds (xs.take k ++ List.replicate (n - k) (0, 0))) ∧ Below w.heap.size w wr) (fun i _ => n - (intOf i).toNat)
  case atStart => exact ⟨0, Nat.zero_le _, rfl, by simpa [winds] using hown, hb0⟩
  case round =>
    obtain ⟨k, hk, rfl, ho, hb⟩ := hrel
    clear hown hb0 hmk
    by_cases hlt : k < n
    · obtain ⟨b, o, x, y, rfl, hx, hd, hc1, hc2⟩ := (h.below hb).wind hlt
      have HX := Lib.hid hx; clear hx hd
      have HO := Lib.hid ho; have HB := Lib.hid hb
      clear ho hb
      go_wp2_with fail
      refine (toWind_any x y _).mono ?_
      rintro e w2 ⟨rfl, hb2⟩
      have ho2 := own_below HO.out hb2
      obtain ⟨g, x0, y0, hg, hg1, hg2, _, _, hcx, hcy, hfx, hfy⟩ := own_wind_at ho2 hlt
      obtain rfl : w.heap.size = g := by injection hg with hg; injection hg
      have HO2 := Lib.hid ho2
      have HB2 := Lib.hid (HB.out.trans (hb2.mono HB.out.size))
      clear ho2 hb2 hg HO HB
      go_wp2_with fail
      go_roundw
      case rel =>
        refine ⟨k + 1, by omega, by go_num, ?_, ?_⟩
        · rw [← copy_stepG (0, 0) xs n k (x, y) HN.out HX.out hlt]
          exact own_wind_set HO2.out hlt x y
        · exact (HB2.out.setCell (p := ⟨w.heap.size, k * 2, none⟩) (Nat.le_refl _) _).setCell (p := ⟨w.heap.size, k * 2 + 1, none⟩) (Nat.le_refl _) _
      case measure => simp [intOf] <;> omega
    · obtain rfl : k = n := by omega
      go_wp2
      go_ret
      refine ⟨_, _, _, rfl, ?_, hn, hb⟩
      have hl := HN.out
      simpa [← hl] using ho
theorem eqWindS_any (A A' : Option Addr) (n c n' c' : Nat) (xs ys : List (Int × Int)) (w : World) (h : Rd w 2 A n (winds xs)) (h' : Rd w 2 A' n' (winds ys)) :
    Calls Try.prog 54 #[.slice A n c, .slice A' n' c'] w fun e w' => e = .returned (.bool (decide (xs = ys))) ∧ Below w.heap.size w w' := by
  have HN := Lib.hid h.len_wind
  have HN' := Lib.hid h'.len_wind
  have hm := h.le
  by_cases hl : n = n'
  · subst hl
    go_enter Try.func54, Try.ntmps54
    go_wp2
    go_loopw [5] (fun i wr => ∃ k : Nat, k ≤ n ∧ i = .int .i64 k ∧ (xs = ys ↔ xs.drop k = ys.drop k) ∧ Below w.heap.size w wr) (fun i _ => n - (intOf i).toNat)
    case atStart => exact ⟨0, Nat.zero_le _, rfl, by simp, Below.refl _ _⟩
    case round =>
      obtain ⟨k, hk, rfl, hall, hb⟩ := hrel
      have HA := Lib.hid hall; clear hall
      by_cases hlt : k < n
      · obtain ⟨b, o, x, y, rfl, hx, hd, hc1, hc2⟩ := (h.below hb).wind hlt
        obtain ⟨b', o', x', y', rfl, hx', hd', hc1', hc2'⟩ := (h'.below hb).wind hlt
        clear hx hx'
        have HD := Lib.hid hd; clear hd
        have HD' := Lib.hid hd'; clear hd'
        have HB := Lib.hid hb; clear hb
        have HE := Lib.hid (eqWind_any x y x' y')
        by_cases hxx : (x, y) = (x', y')
        · have hdec : decide ((x, y) = (x', y')) = true := by simpa using hxx
          rw [hdec] at HE
          rw [hxx] at HD
          clear hxx hdec
          go_wp2_with fail
          go_still_tail 8, (by kernel_rfl)
          go_wp2_with fail
          refine (HE.out _).mono ?_
          rintro e w2 ⟨rfl, hb2⟩
          have HB2 := Lib.hid ((HB.out.trans (((Drawn.refl wr).step 1).below.mono HB.out.size)).trans (hb2.mono HB.out.size))
          clear hb2 HB
          go_wp2_with fail
          go_roundw
          case rel => exact ⟨k + 1, by omega, by go_num, by rw [HA.out, HD.out, HD'.out]; simp, HB2.out⟩
          case measure => simp [intOf] <;> omega
        · have hdec : decide ((x, y) = (x', y')) = false := by simpa using hxx
          rw [hdec] at HE
          have HX := Lib.hid hxx
          clear hxx hdec
          go_wp2_with fail
          go_still_tail 8, (by kernel_rfl)
          go_wp2_with fail
          refine (HE.out _).mono ?_
          rintro e w2 ⟨rfl, hb2⟩
          have HB2 := Lib.hid ((HB.out.trans (((Drawn.refl wr).step 1).below.mono HB.out.size)).trans (hb2.mono HB.out.size))
          clear hb2 HB
          go_wp2_with fail
          go_ret
          exact ⟨ret_bool (by rw [eq_comm, decide_eq_false_iff_not, HA.out, HD.out, HD'.out]; intro e; injection e with e _; exact HX.out e), HB2.out⟩
      · obtain rfl : k = n := by omega
        go_wp2
        go_ret
        exact ⟨ret_bool (by rw [eq_comm, decide_eq_true_iff, HA.out, List.drop_eq_nil_of_le (by rw [HN.out]; omega), List.drop_eq_nil_of_le (by rw [HN'.out]; omega)]), hb⟩
  · have hne : ((n : Int) != n') = true := by simp; omega
    go_enter Try.func54, Try.ntmps54
    go_wp2
    go_ret
    exact ⟨ret_bool (by rw [eq_comm, decide_eq_false_iff_not]; rintro rfl; exact hl (HN.out.symm.trans HN'.out)), Below.refl _ _⟩
theorem szWindS_any (A : Option Addr) (n c : Nat) (left : Int) (w : World) (h0 : 0 ≤ left) (h1 : left ≤ 1048576) (hn : n ≤ 9223372036854775807) :
    Calls Try.prog 46 #[.slice A n c, .int .i64 left] w fun e w' => e = .returned (.int .i64 (if left < n then -1 else left - n)) ∧ w = w' := by
  by_cases h : left < n
  · rw [if_pos h]
    go_enter Try.func46, Try.ntmps46
    go_wp2
    go_ret
    exact ⟨rfl, rfl⟩
  · rw [if_neg h]
    go_enter Try.func46, Try.ntmps46
    go_wp2
    go_ret
    exact ⟨rfl, rfl⟩
/-- What is left of a bound behind a grid. -/
def szGridF (left : Int) (n : Nat) : Int := if left < n then -1 else left - n
theorem szGridF_le {left : Int} {n : Nat} (h : 0 ≤ szGridF left n) (h1 : left ≤ 1048576) : n ≤ 1048576 := by
  unfold szGridF at h
  split at h <;> omega
theorem szWindGrid_any (W H : Int) (A : Option Addr) (n c : Nat) (xs : List (Int × Int)) (left : Int) (h0 : 0 ≤ left) (h1 : left ≤ 1048576) (w : World) (hr : Rd w 2 A n (winds xs)) :
    Calls Try.prog 15 #[.agg #[.int .i64 W, .int .i64 H, .slice A n c], .int .i64 left] w fun e w' => e = .returned (.int .i64 (szGridF left n)) ∧ Below w.heap.size w w' := by
  have hn := hr.le
  unfold szGridF
  have HB := Lib.hid (show ∀ o, Below w.heap.size w (w.alloc o) from fun o => (Below.refl _ _).alloc (Nat.le_refl _) o)
  have HS := Lib.hid (fun w => szWindS_any A n c left w h0 h1 hn)
  by_cases h : left < n
  · rw [if_pos h] at HS ⊢
    go_enter Try.func15, Try.ntmps15
    go_wp2_with fail
    refine (HS.out _).mono ?_
    rintro e w2 ⟨rfl, rfl⟩
    go_wp2_with fail
    go_ret
    exact ⟨rfl, HB.out _⟩
  · rw [if_neg h] at HS ⊢
    go_enter Try.func15, Try.ntmps15
    go_wp2_with fail
    refine (HS.out _).mono ?_
    rintro e w2 ⟨rfl, rfl⟩
    go_wp2_with fail
    go_ret
    exact ⟨rfl, HB.out _⟩
/-- The copy of a grid. -/
def RetGrid (w : World) (W H : Int) (xs : List (Int × Int)) (e : Ending) (w' : World) : Prop :=
  ∃ A n c, e = .returned (.agg #[.int .i64 W, .int .i64 H, .slice A n c]) ∧ w'.ownsRow w.heap.size 65 2 (.slice A n c) n (winds xs) ∧ n ≤ 1048576 ∧ Below w.heap.size w w'
theorem toWindGrid_any (W H : Int) (A : Option Addr) (n c : Nat) (xs : List (Int × Int)) (w : World) (h : Rd w 2 A n (winds xs)) (hn : n ≤ 1048576) :
    Calls Try.prog 17 #[.agg #[.int .i64 W, .int .i64 H, .slice A n c]] w (RetGrid w W H xs) := by
  have hb : ∀ o1 o2 o3, Below w.heap.size w (((w.alloc o1).alloc o2).alloc o3) := fun o1 o2 o3 => (((Below.refl _ _).alloc (Nat.le_refl _) _).alloc (by simp) _).alloc (by simp; omega) _
  have HB := Lib.hid hb; clear hb
  have HC := Lib.hid (fun w' (hb : Below w.heap.size w w') => toWindS_any A n c xs w' (h.below hb) hn)
  go_enter Try.func17, Try.ntmps17
  go_wp2_with fail
  refine (HC.out _ (HB.out _ _ _)).mono ?_
  rintro e w2 ⟨A2, n2, c2, rfl, ho, hn2, hb2⟩
  have c0 : w2.cell? ⟨w.heap.size + 1 + 1, 0, none⟩ = some (.int .i64 W) := (hb2.cell (p := ⟨w.heap.size + 1 + 1, 0, none⟩) (by simp)).trans (cell_top _ _ _ (by simp) rfl)
  have c1 : w2.cell? ⟨w.heap.size + 1 + 1, 1, none⟩ = some (.int .i64 H) := (hb2.cell (p := ⟨w.heap.size + 1 + 1, 1, none⟩) (by simp)).trans (cell_top _ _ _ (by simp) rfl)
  have c2' : w2.cell? ⟨w.heap.size + 1 + 1, 2, none⟩ = some (.slice none 0 0) := (hb2.cell (p := ⟨w.heap.size + 1 + 1, 2, none⟩) (by simp)).trans (cell_top _ _ _ (by simp) rfl)
  have d0 : w2.cell? ⟨w.heap.size + 1, 0, none⟩ = some (.int .i64 0) := (hb2.cell (p := ⟨w.heap.size + 1, 0, none⟩) (by simp <;> omega)).trans (cell_under _ _ (by simp) (cell_top _ _ _ (by simp) rfl))
  have d1 : w2.cell? ⟨w.heap.size + 1, 1, none⟩ = some (.int .i64 0) := (hb2.cell (p := ⟨w.heap.size + 1, 1, none⟩) (by simp <;> omega)).trans (cell_under _ _ (by simp) (cell_top _ _ _ (by simp) rfl))
  have d2 : w2.cell? ⟨w.heap.size + 1, 2, none⟩ = some (.slice none 0 0) := (hb2.cell (p := ⟨w.heap.size + 1, 2, none⟩) (by simp <;> omega)).trans (cell_under _ _ (by simp) (cell_top _ _ _ (by simp) rfl))
  have f2 : w2.frozen? ⟨w.heap.size + 1 + 1, 2, none⟩ = false := (hb2.frozen (p := ⟨w.heap.size + 1 + 1, 2, none⟩) (by simp)).trans (fz_top _ _ _ (by simp))
  have g0 : w2.frozen? ⟨w.heap.size + 1, 0, none⟩ = false := (hb2.frozen (p := ⟨w.heap.size + 1, 0, none⟩) (by simp <;> omega)).trans (fz_under _ _ (by simp) (fz_top _ _ _ (by simp)))
  have g1 : w2.frozen? ⟨w.heap.size + 1, 1, none⟩ = false := (hb2.frozen (p := ⟨w.heap.size + 1, 1, none⟩) (by simp <;> omega)).trans (fz_under _ _ (by simp) (fz_top _ _ _ (by simp)))
  have g2 : w2.frozen? ⟨w.heap.size + 1, 2, none⟩ = false := (hb2.frozen (p := ⟨w.heap.size + 1, 2, none⟩) (by simp <;> omega)).trans (fz_under _ _ (by simp) (fz_top _ _ _ (by simp)))
  have HO := Lib.hid ho
  have HB2 := Lib.hid hb2
  clear ho hb2 HC
  go_wp2_with fail
  refine bodyPost_ret (v := .agg #[.int .i64 W, .int .i64 H, .slice A2 n2 c2]) (by simp [results, Try.results17, go_sem, d0, d1, d2]) rfl ?_
  have hs0 : w.heap.size ≤ w2.heap.size := by have := HB2.out.size; simp at this; omega
  refine ⟨A2, n2, c2, rfl, ?_, hn2, ?_⟩
  · have hlo := fun b hb => (HO.out.lt b hb).1
    simp only [World.size_alloc] at hlo
    have hch := put_chg (g := w.heap.size + 1) [.int .i64 W, .int .i64 H, .slice A2 n2 c2] 0 (put_chg (g := w.heap.size + 1 + 1) [.slice A2 n2 c2] 2 (Chg.refl (w.heap.size + 1) (w.heap.size + 1 + 1 + 1) w2) (by omega) (by omega)) (by omega) (by omega)
    exact own_base (own_chg HO.out hch (fun b hb => .inr (by have := hlo b hb; omega))) (by simp; omega)
  · exact put_below (g := w.heap.size + 1) [.int .i64 W, .int .i64 H, .slice A2 n2 c2] 0 (put_below (g := w.heap.size + 1 + 1) [.slice A2 n2 c2] 2 ((HB.out _ _ _).trans (HB2.out.mono (HB.out _ _ _).size)) (by omega)) (by omega)
theorem eqWindGrid_any (W H : Int) (A : Option Addr) (n c : Nat) (xs : List (Int × Int)) (W' H' : Int) (A' : Option Addr) (n' c' : Nat) (ys : List (Int × Int)) (w : World) (h : Rd w 2 A n (winds xs)) (h' : Rd w 2 A' n' (winds ys)) (hW : W = W') (hH : H = H') (hx : xs = ys) :
    Calls Try.prog 19 #[.agg #[.int .i64 W, .int .i64 H, .slice A n c], .agg #[.int .i64 W', .int .i64 H', .slice A' n' c']] w fun e w' => e = .returned (.bool true) ∧ Below w.heap.size w w' := by
  subst hW hH hx
  have hb : ∀ o1 o2, Below w.heap.size w ((w.alloc o1).alloc o2) := fun o1 o2 => ((Below.refl _ _).alloc (Nat.le_refl _) _).alloc (by simp) _
  have HB := Lib.hid hb; clear hb
  have HC := Lib.hid (fun w' (hb : Below w.heap.size w w') => eqWindS_any A A' n c n' c' xs xs w' (h.below hb) (h'.below hb))
  rw [show decide (xs = xs) = true by simp] at HC
  clear h h'
  go_enter Try.func19, Try.ntmps19
  go_wp2_with fail
  refine (HC.out _ (HB.out _ _)).mono ?_
  rintro e w2 ⟨rfl, hb2⟩
  have HB2 := Lib.hid ((HB.out _ _).trans (hb2.mono (HB.out _ _).size))
  clear hb2 HB HC
  go_wp2_with fail
  go_ret
  exact ⟨rfl, HB2.out⟩
theorem eqWindGrid_below (W H : Int) (A : Option Addr) (n c : Nat) (A' : Option Addr) (n' c' : Nat) (xs : List (Int × Int)) (w : World) (h : Rd w 2 A n (winds xs)) (h' : Rd w 2 A' n' (winds xs)) :
    Calls Try.prog 19 #[.agg #[.int .i64 W, .int .i64 H, .slice A n c], .agg #[.int .i64 W, .int .i64 H, .slice A' n' c']] w fun e w' => e = .returned (.bool true) ∧ Below w.heap.size w w' :=
  eqWindGrid_any W H A n c xs W H A' n' c' xs w h h' rfl rfl rfl
theorem markWindS_any (base lo hi e : Nat) (A : Option Addr) (n c : Nat) (xs : List (Int × Int)) (k : Int) (w : World) (h : w.ownsRow base e 2 (.slice A n c) n (winds xs)) (hv : ∀ b, (Value.slice A n c).ownBlock = some b → lo ≤ b ∧ b < hi)
    (hk0 : 0 ≤ k) (hk1 : k ≤ 1152921504606846976) (hn : n ≤ 1048576) :
    Calls Try.prog 64 #[.slice A n c, .int .i64 k] w fun e' w' => e' = .returned (.int .i64 (k + 2 * n)) ∧ Chg lo hi w w' := by
  go_enter Try.func64, Try.ntmps64
  go_wp2
  go_loopw [1, 5] (fun t i wr => ∃ (j : Nat) (ys : List (Int × Int)), j ≤ n ∧ i = .int .i64 j ∧ t = .int .i64 (k + 2 * j) ∧ wr.ownsRow base e 2 (.slice A n c) n (winds ys) ∧ Chg lo hi w wr) (fun _ i _ => n - (intOf i).toNat)
  case atStart => exact ⟨0, xs, Nat.zero_le _, rfl, by simp, h, Chg.refl _ _ _⟩
  case round =>
    obtain ⟨j, ys, hj, rfl, rfl, ho, hg⟩ := hrel
    clear h
    by_cases hlt : j < n
    · obtain ⟨g, x, y, rfl, hg1, hg2, _, _, hc1, hc2, hf1, hf2⟩ := own_wind_at ho hlt
      have hv' := hv g rfl
      have HO := Lib.hid (own_wind_set ho hlt (k + 2 * j) (k + 2 * j + 1))
      have HG := Lib.hid (put_chg (g := g) [.int .i64 (k + 2 * j), .int .i64 (k + 2 * j + 1)] (j * 2) hg hv'.1 hv'.2)
      have HV := Lib.hid hv
      clear ho hg hv hv'
      go_wp2_with fail
      go_roundw
      case rel => exact ⟨j + 1, _, by omega, by go_num, by rw [show k + 2 * (j : Int) + 1 + 1 = k + 2 * ((j + 1 : Nat) : Int) from by omega], HO.out, HG.out⟩
      case measure => simp [intOf] <;> omega
    · obtain rfl : j = n := by omega
      go_wp2
      go_ret
      exact ⟨rfl, hg⟩
theorem markWindGrid_any (base lo hi e : Nat) (W H : Int) (A : Option Addr) (n c : Nat) (xs : List (Int × Int)) (k : Int) (w : World) (h : w.ownsRow base e 2 (.slice A n c) n (winds xs)) (hv : ∀ b, (Value.slice A n c).ownBlock = some b → lo ≤ b ∧ b < hi)
    (hhi : hi ≤ w.heap.size) (hk0 : 0 ≤ k) (hk1 : k ≤ 1152921504606846976) (hn : n ≤ 1048576) :
    Calls Try.prog 32 #[.agg #[.int .i64 W, .int .i64 H, .slice A n c], .int .i64 k] w fun e' w' => e' = .returned (.int .i64 (k + 2 * n)) ∧ Chg lo hi w w' := by
  have HB := Lib.hid (show ∀ o, Below w.heap.size w (w.alloc o) from fun o => (Below.refl _ _).alloc (Nat.le_refl _) o)
  have HC := Lib.hid (fun w' (hb : Below w.heap.size w w') => markWindS_any base lo hi e A n c xs k w' (own_below h hb) hv hk0 hk1 hn)
  clear h hv
  go_enter Try.func32, Try.ntmps32
  go_wp2_with fail
  refine (HC.out _ (HB.out _)).mono ?_
  rintro e w2 ⟨rfl, hc2⟩
  have HC2 := Lib.hid ((Chg.of_below (lo := lo) (hi := hi) (HB.out _)).trans hc2)
  clear hc2
  go_wp2_with fail
  go_ret
  exact ⟨rfl, HC2.out⟩
end Go.Proofs.Ytpaamhkgokkgpaa

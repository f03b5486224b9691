/- Walks: the laws' helpers on slices of Redress. -/
import Derived.Test.YtalgdeieejpelaaWx
import Derived.Test.YtalgdeieejpelaaSt
import Derived.StillTailTactics
import Derived.Deep.RegionHeld3
namespace Go.Proofs.Ytalgdeieejpelaa
open Go.RowKit
set_option linter.unusedVariables false
set_option maxRecDepth 100000

abbrev RedressT := Int × Int × Int × Int
def redC (p : RedressT) : List Value := [.int .i64 p.1, .int .i64 p.2.1, .int .i64 p.2.2.1, .int .i64 p.2.2.2]
theorem redC_len (p : RedressT) : (redC p).length = 4 := rfl
def reds (xs : List RedressT) : List Value := xs.flatMap redC
theorem zeroS4 (v : Value) (i : Nat) (h : i < (#[v, v, v, v] : Array Value).size) : (#[v, v, v, v] : Array Value)[i]! = v := by
  have : i = 0 ∨ i = 1 ∨ i = 2 ∨ i = 3 := by simp at h; omega
  rcases this with rfl | rfl | rfl | rfl <;> rfl
theorem Rd.red {w : World} {A : Option Addr} {n k : Nat} {xs : List RedressT} (h : Rd w 4 A n (reds xs)) (hk : k < n) :
    ∃ b o x0 x1 x2 x3, A = some ⟨b, o, none⟩ ∧ xs[k]? = some (x0, x1, x2, x3) ∧ xs.drop k = (x0, x1, x2, x3) :: xs.drop (k + 1) ∧ w.cell? ⟨b, o + k * 4, none⟩ = some (.int .i64 x0) ∧ w.cell? ⟨b, o + k * 4 + 1, none⟩ = some (.int .i64 x1) ∧ w.cell? ⟨b, o + k * 4 + 2, none⟩ = some (.int .i64 x2) ∧ w.cell? ⟨b, o + k * 4 + 3, none⟩ = some (.int .i64 x3) := by
  obtain ⟨b, o, ⟨x0, x1, x2, x3⟩, e, h1, h2, h3⟩ := Rd.flat redC_len (by decide) h hk
  exact ⟨b, o, x0, x1, x2, x3, e, h1, h2, h3 0 _ rfl, h3 1 _ rfl, h3 2 _ rfl, h3 3 _ rfl⟩
theorem Rd.len_red {w : World} {A : Option Addr} {n : Nat} {xs : List RedressT} (h : Rd w 4 A n (reds xs)) : xs.length = n := Rd.len_flat redC_len (by decide) h
theorem own_red_at {w : World} {base e n c k : Nat} {A : Option Addr} {xs : List RedressT} (h : w.ownsRow base e 4 (.slice A n c) n (reds xs)) (hk : k < n) :
    ∃ g x0 x1 x2 x3, A = some ⟨g, 0, none⟩ ∧ base ≤ g ∧ g < w.heap.size ∧ xs[k]? = some (x0, x1, x2, x3) ∧ xs.drop k = (x0, x1, x2, x3) :: xs.drop (k + 1) ∧ w.cell? ⟨g, k * 4, none⟩ = some (.int .i64 x0) ∧ w.cell? ⟨g, k * 4 + 1, none⟩ = some (.int .i64 x1) ∧ w.cell? ⟨g, k * 4 + 2, none⟩ = some (.int .i64 x2) ∧ w.cell? ⟨g, k * 4 + 3, none⟩ = some (.int .i64 x3) ∧ w.frozen? ⟨g, k * 4, none⟩ = false ∧ w.frozen? ⟨g, k * 4 + 1, none⟩ = false ∧ w.frozen? ⟨g, k * 4 + 2, none⟩ = false ∧ w.frozen? ⟨g, k * 4 + 3, none⟩ = false := by
  obtain ⟨g, ⟨x0, x1, x2, x3⟩, e, h1, h2, h3, h4, h5, h6⟩ := own_flat redC_len (by decide) h hk
  exact ⟨g, x0, x1, x2, x3, e, h1, h2, h3, h4, h5 0 _ rfl, h5 1 _ rfl, h5 2 _ rfl, h5 3 _ rfl, h6 _, h6 _, h6 _, h6 _⟩
theorem own_red_set {w : World} {base e g n c k : Nat} {xs : List RedressT} (h : w.ownsRow base e 4 (.slice (some ⟨g, 0, none⟩) n c) n (reds xs)) (hk : k < n) (x0 x1 x2 x3 : Int) :
    ((((w.setCell ⟨g, k * 4, none⟩ (.int .i64 x0)).setCell ⟨g, k * 4 + 1, none⟩ (.int .i64 x1)).setCell ⟨g, k * 4 + 2, none⟩ (.int .i64 x2)).setCell ⟨g, k * 4 + 3, none⟩ (.int .i64 x3)).ownsRow base e 4 (.slice (some ⟨g, 0, none⟩) n c) n (reds (xs.set k (x0, x1, x2, x3))) := by
  have h1 := own_put (redC (x0, x1, x2, x3)) (k * 4) h
  unfold reds at h1
  rw [flat_put redC_len xs k (x0, x1, x2, x3) (by rw [own_len_flat redC_len (by decide) h]; exact hk)] at h1
  exact h1
theorem toRedress_any (x0 x1 x2 x3 : Int) (w : World) :
    Calls Try.prog 20 #[.agg #[.int .i64 x0, .int .i64 x1, .int .i64 x2, .int .i64 x3]] w fun e w' => e = .returned (.agg #[.int .i64 x0, .int .i64 x1, .int .i64 x2, .int .i64 x3]) ∧ Below w.heap.size w w' := by
  go_enter Try.func20, Try.ntmps20
  go_wp2_with fail
  refine bodyPost_ret (v := .agg #[.int .i64 x0, .int .i64 x1, .int .i64 x2, .int .i64 x3]) (by simp [results, Try.results20, go_sem]) rfl ⟨rfl, ?_⟩
  exact (((Below.refl _ _).alloc (Nat.le_refl _) _).alloc (by simp) _).alloc (by simp; omega) _
theorem eqRedress_any (x0 x1 x2 x3 y0 y1 y2 y3 : Int) (w : World) :
    Calls Try.prog 26 #[.agg #[.int .i64 x0, .int .i64 x1, .int .i64 x2, .int .i64 x3], .agg #[.int .i64 y0, .int .i64 y1, .int .i64 y2, .int .i64 y3]] w fun e w' => e = .returned (.bool (decide ((x0, x1, x2, x3) = (y0, y1, y2, y3)))) ∧ Below w.heap.size w w' := by
  have hb : ∀ o1 o2, Below w.heap.size w ((w.alloc o1).alloc o2) := fun o1 o2 => ((Below.refl _ _).alloc (Nat.le_refl _) _).alloc (by simp) _
  have HB := Lib.hid hb; clear hb
  by_cases h0 : x0 = y0
  · subst h0
    by_cases h1 : x1 = y1
    · subst h1
      by_cases h2 : x2 = y2
      · subst h2
        by_cases h3 : x3 = y3
        · subst h3
          go_enter Try.func26, Try.ntmps26
          go_wp2_with fail
          go_ret
          exact ⟨ret_bool (by simp), HB.out _ _⟩
        · have hne : (x3 != y3) = true := by simp [h3]
          go_enter Try.func26, Try.ntmps26
          go_wp2_with fail
          go_ret
          exact ⟨ret_bool (by simp [h3]), HB.out _ _⟩
      · have hne : (x2 != y2) = true := by simp [h2]
        go_enter Try.func26, Try.ntmps26
        go_wp2_with fail
        go_ret
        exact ⟨ret_bool (by simp [h2]), HB.out _ _⟩
    · have hne : (x1 != y1) = true := by simp [h1]
      go_enter Try.func26, Try.ntmps26
      go_wp2_with fail
      go_ret
      exact ⟨ret_bool (by simp [h1]), HB.out _ _⟩
  · have hne : (x0 != y0) = true := by simp [h0]
    go_enter Try.func26, Try.ntmps26
    go_wp2_with fail
    go_ret
    exact ⟨ret_bool (by simp [h0]), HB.out _ _⟩
theorem Try.info_red : (Try.prog.info? 46).map (fun i => (i.zero, i.size, i.bytes)) = some (some (.agg #[.int .i64 0, .int .i64 0, .int .i64 0, .int .i64 0]), 4, 32) := by kernel_rfl
theorem run_make_red (n : Nat) (h : n ≤ 1048576) (w : World) :
    (Instr.makeSlice 33 (.int .i64 (n : Int)) (.int .i64 (n : Int))).run Try.prog w = .ok (.slice (some ⟨w.heap.size, 0, none⟩) n n) (w.alloc (.cells (madeCells #[.int .i64 0, .int .i64 0, .int .i64 0, .int .i64 0] (n * 4)) 46)) := by
  obtain ⟨i, hi, hz, hs, hb⟩ := info_parts Try.info_red
  have hr := run_make (P := Try.prog) w 33 46 i (.agg #[.int .i64 0, .int .i64 0, .int .i64 0, .int .i64 0]) Try.underlying33 hi hz .i64 .i64 n n (by omega) (by omega) (by rw [hb]; omega) (by omega)
  rw [hs, Int.toNat_natCast] at hr
  exact hr
/-- The copy of such a slice. -/
def RetRedressS (w : World) (xs : List RedressT) (e : Ending) (w' : World) : Prop :=
  ∃ A n c, e = .returned (.slice A n c) ∧ w'.ownsRow w.heap.size 46 4 (.slice A n c) n (reds xs) ∧ n ≤ 1048576 ∧ Below w.heap.size w w'
theorem toRedressS_any (A : Option Addr) (n c : Nat) (xs : List RedressT) (w : World) (h : Rd w 4 A n (reds xs)) (hn : n ≤ 1048576) :
    Calls Try.prog 8 #[.slice A n c] w (RetRedressS w xs) := by
  have HN := Lib.hid h.len_red
  have hmk := run_make_red n hn
  have hown := own_madeS w w.heap.size 46 n 4 #[.int .i64 0, .int .i64 0, .int .i64 0, .int .i64 0] (.int .i64 0) (by decide) (zeroS4 _) (Nat.le_refl _) (by omega)
  rw [← flat_replicate (f := redC) (s := 4) n (0, 0, 0, 0) (.int .i64 0) rfl] at hown
  have hb0 : Below w.heap.size w (w.alloc (.cells (madeCells #[.int .i64 0, .int .i64 0, .int .i64 0, .int .i64 0] (n * 4)) 46)) := (Below.refl _ _).alloc (Nat.le_refl _) _
  go_enter Try.func8, Try.ntmps8
  go_wp2
  go_loopw [4] (fun i wr => ∃ k : Nat, k ≤ n ∧ i = .int .i64 k ∧ wr.ownsRow w.heap.size 46 4 (.slice (some ⟨w.heap.size, 0, none⟩) n n) n (reds (xs.take k ++ List.replicate (n - k) (0, 0, 0, 0))) ∧ Below w.heap.size w wr) (fun i _ => n - (intOf i).toNat)
  case atStart => exact ⟨0, Nat.zero_le _, rfl, by simpa [reds] using hown, hb0⟩
  case round =>
    obtain ⟨k, hk, rfl, ho, hb⟩ := hrel
    clear hown hb0 hmk
    by_cases hlt : k < n
    · obtain ⟨b, o, x0, x1, x2, x3, rfl, hx, hd, hc0, hc1, hc2, hc3⟩ := (h.below hb).red hlt
      have HX := Lib.hid hx; clear hx hd
      have HO := Lib.hid ho; have HB := Lib.hid hb
      clear ho hb
      go_wp2_with fail
      refine (toRedress_any x0 x1 x2 x3 _).mono ?_
      rintro e w2 ⟨rfl, hb2⟩
      have ho2 := own_below HO.out hb2
      obtain ⟨g, z0, z1, z2, z3, hg, hg1, hg2, _, _, hz0, hz1, hz2, hz3, hf0, hf1, hf2, hf3⟩ := own_red_at ho2 hlt
      obtain rfl : w.heap.size = g := by injection hg with hg; injection hg
      have HO2 := Lib.hid ho2
      have HB2 := Lib.hid (HB.out.trans (hb2.mono HB.out.size))
      clear ho2 hb2 hg HO HB
      go_wp2_with fail
      go_roundw
      case rel =>
        refine ⟨k + 1, by omega, by go_num, ?_, ?_⟩
        · rw [← copy_stepG (0, 0, 0, 0) xs n k (x0, x1, x2, x3) HN.out HX.out hlt]
          exact own_red_set HO2.out hlt x0 x1 x2 x3
        · exact put_below [.int .i64 x0, .int .i64 x1, .int .i64 x2, .int .i64 x3] (k * 4) HB2.out (Nat.le_refl _)
      case measure => simp [intOf] <;> omega
    · obtain rfl : k = n := by omega
      go_wp2
      go_ret
      refine ⟨_, _, _, rfl, ?_, hn, hb⟩
      have hl := HN.out
      simpa [← hl] using ho
theorem eqRedressS_any (A A' : Option Addr) (n c n' c' : Nat) (xs ys : List RedressT) (w : World) (h : Rd w 4 A n (reds xs)) (h' : Rd w 4 A' n' (reds ys)) :
    Calls Try.prog 12 #[.slice A n c, .slice A' n' c'] w fun e w' => e = .returned (.bool (decide (xs = ys))) ∧ Below w.heap.size w w' := by
  have HN := Lib.hid h.len_red
  have HN' := Lib.hid h'.len_red
  have hm := h.le
  by_cases hl : n = n'
  · subst hl
    go_enter Try.func12, Try.ntmps12
    go_wp2
    go_loopw [5] (fun i wr => ∃ k : Nat, k ≤ n ∧ i = .int .i64 k ∧ (xs = ys ↔ xs.drop k = ys.drop k) ∧ Below w.heap.size w wr) (fun i _ => n - (intOf i).toNat)
    case atStart => exact ⟨0, Nat.zero_le _, rfl, by simp, Below.refl _ _⟩
    case round =>
      obtain ⟨k, hk, rfl, hall, hb⟩ := hrel
      have HA := Lib.hid hall; clear hall
      by_cases hlt : k < n
      · obtain ⟨b, o, x0, x1, x2, x3, rfl, hx, hd, hc0, hc1, hc2, hc3⟩ := (h.below hb).red hlt
        obtain ⟨b', o', y0, y1, y2, y3, rfl, hx', hd', hd0, hd1, hd2, hd3⟩ := (h'.below hb).red hlt
        clear hx hx'
        have HD := Lib.hid hd; clear hd
        have HD' := Lib.hid hd'; clear hd'
        have HB := Lib.hid hb; clear hb
        have HE := Lib.hid (eqRedress_any x0 x1 x2 x3 y0 y1 y2 y3)
        by_cases hxx : (x0, x1, x2, x3) = (y0, y1, y2, y3)
        · have hdec : decide ((x0, x1, x2, x3) = (y0, y1, y2, y3)) = true := by simpa using hxx
          rw [hdec] at HE
          rw [hxx] at HD
          clear hxx hdec
          go_wp2_with fail
          go_still_tail 8, (by kernel_rfl)
          go_wp2_with fail
          refine (HE.out _).mono ?_
          rintro e w2 ⟨rfl, hb2⟩
          have HB2 := Lib.hid ((HB.out.trans (((Drawn.refl wr).step 1).below.mono HB.out.size)).trans (hb2.mono HB.out.size))
          clear hb2 HB
          go_wp2_with fail
          go_roundw
          case rel => exact ⟨k + 1, by omega, by go_num, by rw [HA.out, HD.out, HD'.out]; simp, HB2.out⟩
          case measure => simp [intOf] <;> omega
        · have hdec : decide ((x0, x1, x2, x3) = (y0, y1, y2, y3)) = false := by simpa using hxx
          rw [hdec] at HE
          have HX := Lib.hid hxx
          clear hxx hdec
          go_wp2_with fail
          go_still_tail 8, (by kernel_rfl)
          go_wp2_with fail
          refine (HE.out _).mono ?_
          rintro e w2 ⟨rfl, hb2⟩
          have HB2 := Lib.hid ((HB.out.trans (((Drawn.refl wr).step 1).below.mono HB.out.size)).trans (hb2.mono HB.out.size))
          clear hb2 HB
          go_wp2_with fail
          go_ret
          exact ⟨ret_bool (by rw [eq_comm, decide_eq_false_iff_not, HA.out, HD.out, HD'.out]; intro e; injection e with e _; exact HX.out e), HB2.out⟩
      · obtain rfl : k = n := by omega
        go_wp2
        go_ret
        exact ⟨ret_bool (by rw [eq_comm, decide_eq_true_iff, HA.out, List.drop_eq_nil_of_le (by rw [HN.out]; omega), List.drop_eq_nil_of_le (by rw [HN'.out]; omega)]), hb⟩
  · have hne : ((n : Int) != n') = true := by simp; omega
    go_enter Try.func12, Try.ntmps12
    go_wp2
    go_ret
    exact ⟨ret_bool (by rw [eq_comm, decide_eq_false_iff_not]; rintro rfl; exact hl (HN.out.symm.trans HN'.out)), Below.refl _ _⟩
theorem eqRedressS_same (A A' : Option Addr) (n c n' c' : Nat) (xs : List RedressT) (w : World) (h : Rd w 4 A n (reds xs)) (h' : Rd w 4 A' n' (reds xs)) :
    Calls Try.prog 12 #[.slice A n c, .slice A' n' c'] w fun e w' => e = .returned (.bool true) ∧ Below w.heap.size w w' :=
  (eqRedressS_any A A' n c n' c' xs xs w h h').mono fun _ _ ⟨a, b⟩ => ⟨by rw [a, decide_eq_true rfl], b⟩
theorem szRedressS_any (A : Option Addr) (n c : Nat) (left : Int) (w : World) (h0 : 0 ≤ left) (h1 : left ≤ 1048576) (hn : n ≤ 9223372036854775807) :
    Calls Try.prog 5 #[.slice A n c, .int .i64 left] w fun e w' => e = .returned (.int .i64 (if left < n then -1 else left - n)) ∧ w = w' := by
  by_cases h : left < n
  · rw [if_pos h]
    go_enter Try.func5, Try.ntmps5
    go_wp2
    go_ret
    exact ⟨rfl, rfl⟩
  · rw [if_neg h]
    go_enter Try.func5, Try.ntmps5
    go_wp2
    go_ret
    exact ⟨rfl, rfl⟩
end Go.Proofs.Ytalgdeieejpelaa

/- Walks: the laws' helpers on slices of Finish. -/
import Derived.Test.YtdldcjnidajmpaaZma
import Derived.StillTailTactics
import Derived.Deep.RegionHeld3
import Derived.Deep.AppendLies
namespace Go.Proofs.Ytdldcjnidajmpaa
open Go.RowKit
set_option linter.unusedVariables false
set_option maxRecDepth 100000

abbrev FinishT := Int × Int × Int
def finC (p : FinishT) : List Value := [.int .i64 p.1, .int .i64 p.2.1, .int .i64 p.2.2]
theorem finC_len (p : FinishT) : (finC p).length = 3 := rfl
def fins (xs : List FinishT) : List Value := xs.flatMap finC
theorem zeroS3 (v : Value) (i : Nat) (h : i < (#[v, v, v] : Array Value).size) : (#[v, v, v] : Array Value)[i]! = v := by
  have : i = 0 ∨ i = 1 ∨ i = 2 := by simp at h; omega
  rcases this with rfl | rfl | rfl <;> rfl
theorem Rd.fin {w : World} {A : Option Addr} {n k : Nat} {xs : List FinishT} (h : Rd w 3 A n (fins xs)) (hk : k < n) :
    ∃ b o x0 x1 x2, A = some ⟨b, o, none⟩ ∧ xs[k]? = some (x0, x1, x2) ∧ xs.drop k = (x0, x1, x2) :: xs.drop (k + 1) ∧ w.cell? ⟨b, o + k * 3, none⟩ = some (.int .i64 x0) ∧ w.cell? ⟨b, o + k * 3 + 1, none⟩ = some (.int .i64 x1) ∧ w.cell? ⟨b, o + k * 3 + 2, none⟩ = some (.int .i64 x2) := by
  obtain ⟨b, o, ⟨x0, x1, x2⟩, e, h1, h2, h3⟩ := Rd.flat finC_len (by decide) h hk
  exact ⟨b, o, x0, x1, x2, e, h1, h2, h3 0 _ rfl, h3 1 _ rfl, h3 2 _ rfl⟩
theorem Rd.len_fin {w : World} {A : Option Addr} {n : Nat} {xs : List FinishT} (h : Rd w 3 A n (fins xs)) : xs.length = n := Rd.len_flat finC_len (by decide) h
theorem own_fin_at {w : World} {base e n c k : Nat} {A : Option Addr} {xs : List FinishT} (h : w.ownsRow base e 3 (.slice A n c) n (fins xs)) (hk : k < n) :
    ∃ g x0 x1 x2, A = some ⟨g, 0, none⟩ ∧ base ≤ g ∧ g < w.heap.size ∧ xs[k]? = some (x0, x1, x2) ∧ xs.drop k = (x0, x1, x2) :: xs.drop (k + 1) ∧ w.cell? ⟨g, k * 3, none⟩ = some (.int .i64 x0) ∧ w.cell? ⟨g, k * 3 + 1, none⟩ = some (.int .i64 x1) ∧ w.cell? ⟨g, k * 3 + 2, none⟩ = some (.int .i64 x2) ∧ w.frozen? ⟨g, k * 3, none⟩ = false ∧ w.frozen? ⟨g, k * 3 + 1, none⟩ = false ∧ w.frozen? ⟨g, k * 3 + 2, none⟩ = false := by
  obtain ⟨g, ⟨x0, x1, x2⟩, e, h1, h2, h3, h4, h5, h6⟩ := own_flat finC_len (by decide) h hk
  exact ⟨g, x0, x1, x2, e, h1, h2, h3, h4, h5 0 _ rfl, h5 1 _ rfl, h5 2 _ rfl, h6 _, h6 _, h6 _⟩
theorem own_fin_set {w : World} {base e g n c k : Nat} {xs : List FinishT} (h : w.ownsRow base e 3 (.slice (some ⟨g, 0, none⟩) n c) n (fins xs)) (hk : k < n) (x0 x1 x2 : Int) :
    (((w.setCell ⟨g, k * 3, none⟩ (.int .i64 x0)).setCell ⟨g, k * 3 + 1, none⟩ (.int .i64 x1)).setCell ⟨g, k * 3 + 2, none⟩ (.int .i64 x2)).ownsRow base e 3 (.slice (some ⟨g, 0, none⟩) n c) n (fins (xs.set k (x0, x1, x2))) := by
  have h1 := own_put (finC (x0, x1, x2)) (k * 3) h
  unfold fins at h1
  rw [flat_put finC_len xs k (x0, x1, x2) (by rw [own_len_flat finC_len (by decide) h]; exact hk)] at h1
  exact h1
theorem toFinish_any (x0 x1 x2 : Int) (w : World) :
    Calls Try.prog 119 #[.agg #[.int .i64 x0, .int .i64 x1, .int .i64 x2]] w fun e w' => e = .returned (.agg #[.int .i64 x0, .int .i64 x1, .int .i64 x2]) ∧ Below w.heap.size w w' := by
  go_enter Try.func119, Try.ntmps119
  go_wp2_with fail
  refine bodyPost_ret (v := .agg #[.int .i64 x0, .int .i64 x1, .int .i64 x2]) (by simp [results, Try.results119, go_sem]) rfl ⟨rfl, ?_⟩
  exact (((Below.refl _ _).alloc (Nat.le_refl _) _).alloc (by simp) _).alloc (by simp; omega) _
theorem eqFinish_any (x0 x1 x2 y0 y1 y2 : Int) (w : World) :
    Calls Try.prog 123 #[.agg #[.int .i64 x0, .int .i64 x1, .int .i64 x2], .agg #[.int .i64 y0, .int .i64 y1, .int .i64 y2]] w fun e w' => e = .returned (.bool (decide ((x0, x1, x2) = (y0, y1, y2)))) ∧ Below w.heap.size w w' := by
  have hb : ∀ o1 o2, Below w.heap.size w ((w.alloc o1).alloc o2) := fun o1 o2 => ((Below.refl _ _).alloc (Nat.le_refl _) _).alloc (by simp) _
  have HB := Lib.hid hb; clear hb
  by_cases h0 : x0 = y0
  · subst h0
    by_cases h1 : x1 = y1
    · subst h1
      by_cases h2 : x2 = y2
      · subst h2
        go_enter Try.func123, Try.ntmps123
        go_wp2_with fail
        go_ret
        exact ⟨ret_bool (by simp), HB.out _ _⟩
      · have hne : (x2 != y2) = true := by simp [h2]
        go_enter Try.func123, Try.ntmps123
        go_wp2_with fail
        go_ret
        exact ⟨ret_bool (by simp [h2]), HB.out _ _⟩
    · have hne : (x1 != y1) = true := by simp [h1]
      go_enter Try.func123, Try.ntmps123
      go_wp2_with fail
      go_ret
      exact ⟨ret_bool (by simp [h1]), HB.out _ _⟩
  · have hne : (x0 != y0) = true := by simp [h0]
    go_enter Try.func123, Try.ntmps123
    go_wp2_with fail
    go_ret
    exact ⟨ret_bool (by simp [h0]), HB.out _ _⟩
theorem Try.info_fin : (Try.prog.info? 88).map (fun i => (i.zero, i.size, i.bytes)) = some (some (.agg #[.int .i64 0, .int .i64 0, .int .i64 0]), 3, 24) := by kernel_rfl
theorem run_make_fin (n : Nat) (h : n ≤ 1048576) (w : World) :
    (Instr.makeSlice 29 (.int .i64 (n : Int)) (.int .i64 (n : Int))).run Try.prog w = .ok (.slice (some ⟨w.heap.size, 0, none⟩) n n) (w.alloc (.cells (madeCells #[.int .i64 0, .int .i64 0, .int .i64 0] (n * 3)) 88)) := by
  obtain ⟨i, hi, hz, hs, hb⟩ := info_parts Try.info_fin
  have hr := run_make (P := Try.prog) w 29 88 i (.agg #[.int .i64 0, .int .i64 0, .int .i64 0]) Try.underlying29 hi hz .i64 .i64 n n (by omega) (by omega) (by rw [hb]; omega) (by omega)
  rw [hs, Int.toNat_natCast] at hr
  exact hr
/-- The copy of such a slice. -/
def RetFinishS (w : World) (xs : List FinishT) (e : Ending) (w' : World) : Prop :=
  ∃ A n c, e = .returned (.slice A n c) ∧ w'.ownsRow w.heap.size 88 3 (.slice A n c) n (fins xs) ∧ n ≤ 1048576 ∧ Below w.heap.size w w'
theorem toFinishS_any (A : Option Addr) (n c : Nat) (xs : List FinishT) (w : World) (h : Rd w 3 A n (fins xs)) (hn : n ≤ 1048576) :
    Calls Try.prog 68 #[.slice A n c] w (RetFinishS w xs) := by
  have HN := Lib.hid h.len_fin
  have hmk := run_make_fin n hn
  have hown := own_madeS w w.heap.size 88 n 3 #[.int .i64 0, .int .i64 0, .int .i64 0] (.int .i64 0) (by decide) (zeroS3 _) (Nat.le_refl _) (by omega)
  rw [← flat_replicate (f := finC) (s := 3) n (0, 0, 0) (.int .i64 0) rfl] at hown
  have hb0 : Below w.heap.size w (w.alloc (.cells (madeCells #[.int .i64 0, .int .i64 0, .int .i64 0] (n * 3)) 88)) := (Below.refl _ _).alloc (Nat.le_refl _) _
  go_enter Try.func68, Try.ntmps68
  go_wp2
  go_loopw [4] (fun i wr => ∃ k : Nat, k ≤ n ∧ i = .int .i64 k ∧ wr.ownsRow w.heap.size 88 3 (.slice (some ⟨w.heap.size, 0, none⟩) n n) n (fins (xs.take k ++ List.replicate (n - k) (0, 0, 0))) ∧ Below w.heap.size w wr) (fun i _ => n - (intOf i).toNat)
  case atStart => exact ⟨0, Nat.zero_le _, rfl, by simpa [fins] using hown, hb0⟩
  case round =>
    obtain ⟨k, hk, rfl, ho, hb⟩ := hrel
    clear hown hb0 hmk
    by_cases hlt : k < n
    · obtain ⟨b, o, x0, x1, x2, rfl, hx, hd, hc0, hc1, hc2⟩ := (h.below hb).fin hlt
      have HX := Lib.hid hx; clear hx hd
      have HO := Lib.hid ho; have HB := Lib.hid hb
      clear ho hb
      go_wp2_with fail
      refine (toFinish_any x0 x1 x2 _).mono ?_
      rintro e w2 ⟨rfl, hb2⟩
      have ho2 := own_below HO.out hb2
      obtain ⟨g, z0, z1, z2, hg, hg1, hg2, _, _, hz0, hz1, hz2, hf0, hf1, hf2⟩ := own_fin_at ho2 hlt
      obtain rfl : w.heap.size = g := by injection hg with hg; injection hg
      have HO2 := Lib.hid ho2
      have HB2 := Lib.hid (HB.out.trans (hb2.mono HB.out.size))
      clear ho2 hb2 hg HO HB
      go_wp2_with fail
      go_roundw
      case rel =>
        refine ⟨k + 1, by omega, by go_num, ?_, ?_⟩
        · rw [← copy_stepG (0, 0, 0) xs n k (x0, x1, x2) HN.out HX.out hlt]
          exact own_fin_set HO2.out hlt x0 x1 x2
        · exact put_below [.int .i64 x0, .int .i64 x1, .int .i64 x2] (k * 3) HB2.out (Nat.le_refl _)
      case measure => simp [intOf] <;> omega
    · obtain rfl : k = n := by omega
      go_wp2
      go_ret
      refine ⟨_, _, _, rfl, ?_, hn, hb⟩
      have hl := HN.out
      simpa [← hl] using ho
theorem eqFinishS_any (A A' : Option Addr) (n c n' c' : Nat) (xs ys : List FinishT) (w : World) (h : Rd w 3 A n (fins xs)) (h' : Rd w 3 A' n' (fins ys)) :
    Calls Try.prog 74 #[.slice A n c, .slice A' n' c'] w fun e w' => e = .returned (.bool (decide (xs = ys))) ∧ Below w.heap.size w w' := by
  have HN := Lib.hid h.len_fin
  have HN' := Lib.hid h'.len_fin
  have hm := h.le
  by_cases hl : n = n'
  · subst hl
    go_enter Try.func74, Try.ntmps74
    go_wp2
    go_loopw [5] (fun i wr => ∃ k : Nat, k ≤ n ∧ i = .int .i64 k ∧ (xs = ys ↔ xs.drop k = ys.drop k) ∧ Below w.heap.size w wr) (fun i _ => n - (intOf i).toNat)
    case atStart => exact ⟨0, Nat.zero_le _, rfl, by simp, Below.refl _ _⟩
    case round =>
      obtain ⟨k, hk, rfl, hall, hb⟩ := hrel
      have HA := Lib.hid hall; clear hall
      by_cases hlt : k < n
      · obtain ⟨b, o, x0, x1, x2, rfl, hx, hd, hc0, hc1, hc2⟩ := (h.below hb).fin hlt
        obtain ⟨b', o', y0, y1, y2, rfl, hx', hd', hd0, hd1, hd2⟩ := (h'.below hb).fin hlt
        clear hx hx'
        have HD := Lib.hid hd; clear hd
        have HD' := Lib.hid hd'; clear hd'
        have HB := Lib.hid hb; clear hb
        have HE := Lib.hid (eqFinish_any x0 x1 x2 y0 y1 y2)
        by_cases hxx : (x0, x1, x2) = (y0, y1, y2)
        · have hdec : decide ((x0, x1, x2) = (y0, y1, y2)) = true := by simpa using hxx
          rw [hdec] at HE
          rw [hxx] at HD
          clear hxx hdec
          go_wp2_with fail
          go_still_tail 8, (by kernel_rfl)
          go_wp2_with fail
          refine (HE.out _).mono ?_
          rintro e w2 ⟨rfl, hb2⟩
          have HB2 := Lib.hid ((HB.out.trans (((Drawn.refl wr).step 1).below.mono HB.out.size)).trans (hb2.mono HB.out.size))
          clear hb2 HB
          go_wp2_with fail
          go_roundw
          case rel => exact ⟨k + 1, by omega, by go_num, by rw [HA.out, HD.out, HD'.out]; simp, HB2.out⟩
          case measure => simp [intOf] <;> omega
        · have hdec : decide ((x0, x1, x2) = (y0, y1, y2)) = false := by simpa using hxx
          rw [hdec] at HE
          have HX := Lib.hid hxx
          clear hxx hdec
          go_wp2_with fail
          go_still_tail 8, (by kernel_rfl)
          go_wp2_with fail
          refine (HE.out _).mono ?_
          rintro e w2 ⟨rfl, hb2⟩
          have HB2 := Lib.hid ((HB.out.trans (((Drawn.refl wr).step 1).below.mono HB.out.size)).trans (hb2.mono HB.out.size))
          clear hb2 HB
          go_wp2_with fail
          go_ret
          exact ⟨ret_bool (by rw [eq_comm, decide_eq_false_iff_not, HA.out, HD.out, HD'.out]; intro e; injection e with e _; exact HX.out e), HB2.out⟩
      · obtain rfl : k = n := by omega
        go_wp2
        go_ret
        exact ⟨ret_bool (by rw [eq_comm, decide_eq_true_iff, HA.out, List.drop_eq_nil_of_le (by rw [HN.out]; omega), List.drop_eq_nil_of_le (by rw [HN'.out]; omega)]), hb⟩
  · have hne : ((n : Int) != n') = true := by simp; omega
    go_enter Try.func74, Try.ntmps74
    go_wp2
    go_ret
    exact ⟨ret_bool (by rw [eq_comm, decide_eq_false_iff_not]; rintro rfl; exact hl (HN.out.symm.trans HN'.out)), Below.refl _ _⟩
theorem eqFinishS_same (A A' : Option Addr) (n c n' c' : Nat) (xs : List FinishT) (w : World) (h : Rd w 3 A n (fins xs)) (h' : Rd w 3 A' n' (fins xs)) :
    Calls Try.prog 74 #[.slice A n c, .slice A' n' c'] w fun e w' => e = .returned (.bool true) ∧ Below w.heap.size w w' :=
  (eqFinishS_any A A' n c n' c' xs xs w h h').mono fun _ _ ⟨a, b⟩ => ⟨by rw [a, decide_eq_true rfl], b⟩
theorem szFinishS_any (A : Option Addr) (n c : Nat) (left : Int) (w : World) (h0 : 0 ≤ left) (h1 : left ≤ 1048576) (hn : n ≤ 9223372036854775807) :
    Calls Try.prog 62 #[.slice A n c, .int .i64 left] w fun e w' => e = .returned (.int .i64 (if left < n then -1 else left - n)) ∧ w = w' := by
  by_cases h : left < n
  · rw [if_pos h]
    go_enter Try.func62, Try.ntmps62
    go_wp2
    go_ret
    exact ⟨rfl, rfl⟩
  · rw [if_neg h]
    go_enter Try.func62, Try.ntmps62
    go_wp2
    go_ret
    exact ⟨rfl, rfl⟩
theorem markFinishS_any (base lo hi e : Nat) (A : Option Addr) (n c : Nat) (xs : List FinishT) (k : Int) (w : World) (h : w.ownsRow base e 3 (.slice A n c) n (fins xs)) (hv : ∀ b, (Value.slice A n c).ownBlock = some b → lo ≤ b ∧ b < hi)
    (hk0 : 0 ≤ k) (hk1 : k ≤ 1152921504606846976) (hn : n ≤ 1048576) :
    Calls Try.prog 75 #[.slice A n c, .int .i64 k] w fun e' w' => e' = .returned (.int .i64 (k + 3 * n)) ∧ Chg lo hi w w' := by
  go_enter Try.func75, Try.ntmps75
  go_wp2
  go_loopw [1, 5] (fun t i wr => ∃ (j : Nat) (ys : List FinishT), j ≤ n ∧ i = .int .i64 j ∧ t = .int .i64 (k + 3 * j) ∧ wr.ownsRow base e 3 (.slice A n c) n (fins ys) ∧ Chg lo hi w wr) (fun _ i _ => n - (intOf i).toNat)
  case atStart => exact ⟨0, xs, Nat.zero_le _, rfl, by simp, h, Chg.refl _ _ _⟩
  case round =>
    obtain ⟨j, ys, hj, rfl, rfl, ho, hg⟩ := hrel
    clear h
    by_cases hlt : j < n
    · obtain ⟨g, x0, x1, x2, rfl, hg1, hg2, _, _, hc0, hc1, hc2, hf0, hf1, hf2⟩ := own_fin_at ho hlt
      have hv' := hv g rfl
      have HO := Lib.hid (own_fin_set ho hlt (k + 3 * j) (k + 3 * j + 1) (k + 3 * j + 1 + 1))
      have HG := Lib.hid (put_chg (g := g) [.int .i64 (k + 3 * j), .int .i64 (k + 3 * j + 1), .int .i64 (k + 3 * j + 1 + 1)] (j * 3) hg hv'.1 hv'.2)
      have HV := Lib.hid hv
      clear ho hg hv hv'
      go_wp2_with fail
      go_roundw
      case rel => exact ⟨j + 1, _, by omega, by go_num, by rw [show k + 3 * (j : Int) + 1 + 1 + 1 = k + 3 * ((j + 1 : Nat) : Int) from by omega], HO.out, HG.out⟩
      case measure => simp [intOf] <;> omega
    · obtain rfl : j = n := by omega
      go_wp2
      go_ret
      exact ⟨rfl, hg⟩
section
variable {ops : Array Oper} {rest : List Oper} {o : Oper} {a : Act} {K : Act → World → Prop} {Q : Exit → Act → World → Prop} {E : Prop}
theorem app_fin (w : World) (hgd : o.guard = none) (s x : Operand)
    (ho : o.op = .call { callee := .builtin .append, args := #[s, x], argTypes := #[29, 29] }) {base n c : Nat} {A : Option Addr} {xs : List FinishT}
    (hs : a.eval s = .slice A n c) (hown : w.ownsRow base 88 3 (.slice A n c) n (fins xs)) {b : Nat} {x0 x1 x2 : Int} (hx : a.eval x = .slice (some ⟨b, 0, none⟩) 1 1)
    (hc : w.heap[b]? = some (.cells #[.int .i64 x0, .int .i64 x1, .int .i64 x2] 88 (0, 0))) (hn : n ≤ 1099511627776) (hbase : base ≤ w.heap.size)
    (h : ∀ g c' w', w'.ownsRow base 88 3 (.slice (some ⟨g, 0, none⟩) (n + 1) c') (n + 1) (fins (xs ++ [(x0, x1, x2)])) → w.grownBy w' (Value.slice A n c).ownBlock → ((Value.slice A n c).ownBlock = some g ∨ g = w.heap.size) → g < w'.heap.size → wpList Try.prog ops Q rest (a.put o.dst (.slice (some ⟨g, 0, none⟩) (n + 1) c')) w') :
    wpList Try.prog ops Q (o :: rest) a w := by
  obtain ⟨i, hi, hz, hs1, hb1⟩ := info_parts Try.info_fin
  have e : ∀ (ys : List FinishT), fins ys ++ [.int .i64 x0, .int .i64 x1, .int .i64 x2] = fins (ys ++ [(x0, x1, x2)]) := fun ys => by unfold fins; rw [List.flatMap_append]; rfl
  exact wpList_append_lies w hgd s x 29 ho base 88 i (.agg #[.int .i64 0, .int .i64 0, .int .i64 0]) 3 24 Try.underlying29 hi hz hs1 hb1 rfl (by decide) (.slice A n c) n (fins xs) hs hown ⟨b, 0, none⟩ 1 1 [.int .i64 x0, .int .i64 x1, .int .i64 x2] hx rfl (World.news_of_block (cs := #[.int .i64 x0, .int .i64 x1, .int .i64 x2]) hc)
    (by intro u hu; simp at hu; rcases hu with rfl | rfl | rfl <;> rfl) (by decide) (by unfold maxLen; omega) (by omega) hbase _ rfl (by rw [e]; exact h)
theorem step_fin (w : World) (hgd : o.guard = none) (s x : Operand)
    (ho : o.op = .call { callee := .builtin .append, args := #[s, x], argTypes := #[29, 29] }) {base n c : Nat} {A : Option Addr} {xs : List FinishT}
    (hs : a.eval s = .slice A n c) (hown : w.ownsRow base 88 3 (.slice A n c) n (fins xs)) {b : Nat} {x0 x1 x2 : Int} (hx : a.eval x = .slice (some ⟨b, 0, none⟩) 1 1)
    (hc : w.heap[b]? = some (.cells #[.int .i64 x0, .int .i64 x1, .int .i64 x2] 88 (0, 0))) (hn : n ≤ 1099511627776) (hbase : base ≤ w.heap.size)
    (h : ∀ g c' w', w'.ownsRow base 88 3 (.slice (some ⟨g, 0, none⟩) (n + 1) c') (n + 1) (fins (xs ++ [(x0, x1, x2)])) → w.grownBy w' (Value.slice A n c).ownBlock → ((Value.slice A n c).ownBlock = some g ∨ g = w.heap.size) → g < w'.heap.size → K (a.put o.dst (.slice (some ⟨g, 0, none⟩) (n + 1) c')) w') :
    if Region.wanted o (yielded ops a.tmps) = true then Oper.wp Try.prog o a w K Q else E := by
  obtain ⟨i, hi, hz, hs1, hb1⟩ := info_parts Try.info_fin
  have e : ∀ (ys : List FinishT), fins ys ++ [.int .i64 x0, .int .i64 x1, .int .i64 x2] = fins (ys ++ [(x0, x1, x2)]) := fun ys => by unfold fins; rw [List.flatMap_append]; rfl
  exact step_append_lies w hgd s x 29 ho base 88 i (.agg #[.int .i64 0, .int .i64 0, .int .i64 0]) 3 24 Try.underlying29 hi hz hs1 hb1 rfl (by decide) (.slice A n c) n (fins xs) hs hown ⟨b, 0, none⟩ 1 1 [.int .i64 x0, .int .i64 x1, .int .i64 x2] hx rfl (World.news_of_block (cs := #[.int .i64 x0, .int .i64 x1, .int .i64 x2]) hc)
    (by intro u hu; simp at hu; rcases hu with rfl | rfl | rfl <;> rfl) (by decide) (by unfold maxLen; omega) (by omega) hbase _ rfl (by rw [e]; exact h)
end
/-- Numbers in a row, 3 an element. -/
def seqfin (k : Int) : Nat → List FinishT
  | 0 => []
  | n + 1 => (k, k + 1, k + 2) :: seqfin (k + 3) n
theorem seqfin_len (k : Int) (n : Nat) : (seqfin k n).length = n := by
  induction n generalizing k with
  | zero => rfl
  | succ n ih => simp [seqfin, ih]
theorem seqfin_snoc (k : Int) (n : Nat) : seqfin k (n + 1) = seqfin k n ++ [(k + 3 * n, k + 3 * n + 1, k + 3 * n + 2)] := by
  induction n generalizing k with
  | zero => simp [seqfin]
  | succ n ih =>
    rw [seqfin, ih, seqfin, List.cons_append]
    congr 3
    simp only [Prod.mk.injEq]
    omega
theorem seqfin_get (k : Int) (n j : Nat) (h : j < n) : (seqfin k n)[j]? = some (k + 3 * (j : Int), k + 3 * (j : Int) + 1, k + 3 * (j : Int) + 2) := by
  induction n generalizing k j with
  | zero => omega
  | succ n ih =>
    cases j with
    | zero => simp [seqfin]
    | succ j =>
      rw [seqfin, List.getElem?_cons_succ, ih _ _ (by omega)]
      simp only [Option.some.injEq, Prod.mk.injEq]
      omega
theorem seqfin_step (k : Int) (j : Nat) (xs : List FinishT) (h : j < xs.length) : (seqfin k j ++ xs.drop j).set j (k + 3 * (j : Int), k + 3 * (j : Int) + 1, k + 3 * (j : Int) + 2) = seqfin k (j + 1) ++ xs.drop (j + 1) := by
  rw [List.set_append, if_neg (by simp [seqfin_len]), seqfin_snoc, List.drop_eq_getElem_cons h, seqfin_len, Nat.sub_self, List.set_cons_zero, List.append_assoc]
  rfl
theorem markFinishS_seq (base e : Nat) (A : Option Addr) (n c : Nat) (xs : List FinishT) (k : Int) (w : World) (h : w.ownsRow base e 3 (.slice A n c) n (fins xs)) (hk0 : 0 ≤ k) (hk1 : k ≤ 1099511627776) (hn : n ≤ 1048576) :
    Calls Try.prog 75 #[.slice A n c, .int .i64 k] w fun e' w' => e' = .returned (.int .i64 (k + 3 * n)) ∧ w'.ownsRow base e 3 (.slice A n c) n (fins (seqfin k n)) ∧ w.grownBy w' (Value.slice A n c).ownBlock := by
  have HN := Lib.hid (own_len_flat finC_len (by decide) h)
  go_enter Try.func75, Try.ntmps75
  go_wp2
  go_loopw [1, 5] (fun t i wr => ∃ (j : Nat), j ≤ n ∧ i = .int .i64 j ∧ t = .int .i64 (k + 3 * j) ∧ wr.ownsRow base e 3 (.slice A n c) n (fins (seqfin k j ++ xs.drop j)) ∧ w.grownBy wr (Value.slice A n c).ownBlock) (fun _ i _ => n - (intOf i).toNat)
  case atStart => exact ⟨0, Nat.zero_le _, rfl, by simp, by simpa [seqfin] using h, World.grownBy.refl _ _⟩
  case round =>
    obtain ⟨j, hj, rfl, rfl, ho, hg⟩ := hrel
    clear h
    by_cases hlt : j < n
    · obtain ⟨g, x0, x1, x2, rfl, hg1, hg2, _, _, hc0, hc1, hc2, hf0, hf1, hf2⟩ := own_fin_at ho hlt
      have HO := Lib.hid (own_fin_set ho hlt (k + 3 * j) (k + 3 * j + 1) (k + 3 * j + 1 + 1))
      have HG := Lib.hid (put_grown (g := g) [.int .i64 (k + 3 * j), .int .i64 (k + 3 * j + 1), .int .i64 (k + 3 * j + 1 + 1)] (j * 3) hg)
      clear ho hg
      go_wp2_with fail
      go_roundw
      case rel => exact ⟨j + 1, by omega, by go_num, by rw [show k + 3 * (j : Int) + 1 + 1 + 1 = k + 3 * ((j + 1 : Nat) : Int) from by omega], by
        rw [← seqfin_step k j xs (by rw [HN.out]; exact hlt)]
        rw [show k + 3 * (j : Int) + 2 = k + 3 * (j : Int) + 1 + 1 from by omega]
        exact HO.out, HG.out⟩
      case measure => simp [intOf] <;> omega
    · obtain rfl : j = n := by omega
      go_wp2
      go_ret
      refine ⟨rfl, ?_, hg⟩
      rw [List.drop_eq_nil_of_le (by rw [HN.out]; exact Nat.le_refl _), List.append_nil] at ho
      exact ho
theorem heldFinishS_any (A : Option Addr) (n c : Nat) (k : Int) (w : World) (h : Rd w 3 A n (fins (seqfin k n))) (hk0 : 0 ≤ k) (hk1 : k ≤ 1099511627776) (hn : n ≤ 1048576) :
    Calls Try.prog 134 #[.slice A n c, .int .i64 k] w fun e' w' => e' = .returned (.int .i64 (k + 3 * n)) ∧ w = w' := by
  go_enter Try.func134, Try.ntmps134
  go_wp2
  go_loop [1, 5] (fun t i => ∃ (j : Nat), j ≤ n ∧ i = .int .i64 j ∧ t = .int .i64 (k + 3 * j)) (fun _ i => n - (intOf i).toNat)
  case atStart => exact ⟨0, Nat.zero_le _, rfl, by simp⟩
  case round =>
    obtain ⟨j, hj, rfl, rfl⟩ := hrel
    by_cases hlt : j < n
    · obtain ⟨b, o, x0, x1, x2, rfl, hx, _, hc0, hc1, hc2⟩ := h.fin hlt
      rw [seqfin_get k n j hlt] at hx
      simp only [Option.some.injEq, Prod.mk.injEq] at hx
      obtain ⟨e0, e1, e2⟩ := hx
      subst e0 e1 e2
      go_wp2_with fail
      go_round
      case rel => exact ⟨j + 1, by omega, by go_num, by rw [show k + 3 * (j : Int) + 1 + 1 + 1 = k + 3 * ((j + 1 : Nat) : Int) from by omega]⟩
      case measure => simp [intOf] <;> omega
    · obtain rfl : j = n := by omega
      go_wp2
      go_ret
      exact ⟨rfl, rfl⟩
end Go.Proofs.Ytdldcjnidajmpaa

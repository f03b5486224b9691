/- Walks: the laws' helpers on slices of Entry. -/
import Derived.Test.YtnpldahkhaacnaaGreatDoorZmb
import Derived.Test.YtnpldahkhaacnaaGreatDoorZma
import Derived.StillTailTactics
import Derived.Deep.RegionHeld3
import Derived.Deep.AppendLies
namespace Go.Proofs.YtnpldahkhaacnaaGreatDoor
open Go.RowKit
set_option linter.unusedVariables false
set_option maxRecDepth 100000

abbrev EntryT := Int × Int × Int × Int × Int × Int × Int
set_option synthInstance.maxSize 2000 in
set_option synthInstance.maxHeartbeats 400000 in
instance : DecidableEq EntryT := inferInstanceAs (DecidableEq (Int × Int × Int × Int × Int × Int × Int))
def entC (p : EntryT) : List Value := [.int .i64 p.1, .int .i64 p.2.1, .int .i64 p.2.2.1, .int .i64 p.2.2.2.1, .int .i64 p.2.2.2.2.1, .int .i64 p.2.2.2.2.2.1, .int .i64 p.2.2.2.2.2.2]
theorem entC_len (p : EntryT) : (entC p).length = 7 := rfl
def ents (xs : List EntryT) : List Value := xs.flatMap entC
theorem zeroS7 (v : Value) (i : Nat) (h : i < (#[v, v, v, v, v, v, v] : Array Value).size) : (#[v, v, v, v, v, v, v] : Array Value)[i]! = v := by
  have : i = 0 ∨ i = 1 ∨ i = 2 ∨ i = 3 ∨ i = 4 ∨ i = 5 ∨ i = 6 := by simp at h; omega
  rcases this with rfl | rfl | rfl | rfl | rfl | rfl | rfl <;> rfl
theorem Rd.ent {w : World} {A : Option Addr} {n k : Nat} {xs : List EntryT} (h : Rd w 7 A n (ents xs)) (hk : k < n) :
    ∃ b o x0 x1 x2 x3 x4 x5 x6, A = some ⟨b, o, none⟩ ∧ xs[k]? = some (x0, x1, x2, x3, x4, x5, x6) ∧ xs.drop k = (x0, x1, x2, x3, x4, x5, x6) :: xs.drop (k + 1) ∧ w.cell? ⟨b, o + k * 7, none⟩ = some (.int .i64 x0) ∧ w.cell? ⟨b, o + k * 7 + 1, none⟩ = some (.int .i64 x1) ∧ w.cell? ⟨b, o + k * 7 + 2, none⟩ = some (.int .i64 x2) ∧ w.cell? ⟨b, o + k * 7 + 3, none⟩ = some (.int .i64 x3) ∧ w.cell? ⟨b, o + k * 7 + 4, none⟩ = some (.int .i64 x4) ∧ w.cell? ⟨b, o + k * 7 + 5, none⟩ = some (.int .i64 x5) ∧ w.cell? ⟨b, o + k * 7 + 6, none⟩ = some (.int .i64 x6) := by
  obtain ⟨b, o, ⟨x0, x1, x2, x3, x4, x5, x6⟩, e, h1, h2, h3⟩ := Rd.flat entC_len (by decide) h hk
  exact ⟨b, o, x0, x1, x2, x3, x4, x5, x6, e, h1, h2, h3 0 _ rfl, h3 1 _ rfl, h3 2 _ rfl, h3 3 _ rfl, h3 4 _ rfl, h3 5 _ rfl, h3 6 _ rfl⟩
theorem Rd.len_ent {w : World} {A : Option Addr} {n : Nat} {xs : List EntryT} (h : Rd w 7 A n (ents xs)) : xs.length = n := Rd.len_flat entC_len (by decide) h
theorem own_ent_at {w : World} {base e n c k : Nat} {A : Option Addr} {xs : List EntryT} (h : w.ownsRow base e 7 (.slice A n c) n (ents xs)) (hk : k < n) :
    ∃ g x0 x1 x2 x3 x4 x5 x6, A = some ⟨g, 0, none⟩ ∧ base ≤ g ∧ g < w.heap.size ∧ xs[k]? = some (x0, x1, x2, x3, x4, x5, x6) ∧ xs.drop k = (x0, x1, x2, x3, x4, x5, x6) :: xs.drop (k + 1) ∧ w.cell? ⟨g, k * 7, none⟩ = some (.int .i64 x0) ∧ w.cell? ⟨g, k * 7 + 1, none⟩ = some (.int .i64 x1) ∧ w.cell? ⟨g, k * 7 + 2, none⟩ = some (.int .i64 x2) ∧ w.cell? ⟨g, k * 7 + 3, none⟩ = some (.int .i64 x3) ∧ w.cell? ⟨g, k * 7 + 4, none⟩ = some (.int .i64 x4) ∧ w.cell? ⟨g, k * 7 + 5, none⟩ = some (.int .i64 x5) ∧ w.cell? ⟨g, k * 7 + 6, none⟩ = some (.int .i64 x6) ∧ w.frozen? ⟨g, k * 7, none⟩ = false ∧ w.frozen? ⟨g, k * 7 + 1, none⟩ = false ∧ w.frozen? ⟨g, k * 7 + 2, none⟩ = false ∧ w.frozen? ⟨g, k * 7 + 3, none⟩ = false ∧ w.frozen? ⟨g, k * 7 + 4, none⟩ = false ∧ w.frozen? ⟨g, k * 7 + 5, none⟩ = false ∧ w.frozen? ⟨g, k * 7 + 6, none⟩ = false := by
  obtain ⟨g, ⟨x0, x1, x2, x3, x4, x5, x6⟩, e, h1, h2, h3, h4, h5, h6⟩ := own_flat entC_len (by decide) h hk
  exact ⟨g, x0, x1, x2, x3, x4, x5, x6, e, h1, h2, h3, h4, h5 0 _ rfl, h5 1 _ rfl, h5 2 _ rfl, h5 3 _ rfl, h5 4 _ rfl, h5 5 _ rfl, h5 6 _ rfl, h6 _, h6 _, h6 _, h6 _, h6 _, h6 _, h6 _⟩
theorem own_ent_set {w : World} {base e g n c k : Nat} {xs : List EntryT} (h : w.ownsRow base e 7 (.slice (some ⟨g, 0, none⟩) n c) n (ents xs)) (hk : k < n) (x0 x1 x2 x3 x4 x5 x6 : Int) :
    (((((((w.setCell ⟨g, k * 7, none⟩ (.int .i64 x0)).setCell ⟨g, k * 7 + 1, none⟩ (.int .i64 x1)).setCell ⟨g, k * 7 + 2, none⟩ (.int .i64 x2)).setCell ⟨g, k * 7 + 3, none⟩ (.int .i64 x3)).setCell ⟨g, k * 7 + 4, none⟩ (.int .i64 x4)).setCell ⟨g, k * 7 + 5, none⟩ (.int .i64 x5)).setCell ⟨g, k * 7 + 6, none⟩ (.int .i64 x6)).ownsRow base e 7 (.slice (some ⟨g, 0, none⟩) n c) n (ents (xs.set k (x0, x1, x2, x3, x4, x5, x6))) := by
  have h1 := own_put (entC (x0, x1, x2, x3, x4, x5, x6)) (k * 7) h
  unfold ents at h1
  rw [flat_put entC_len xs k (x0, x1, x2, x3, x4, x5, x6) (by rw [own_len_flat entC_len (by decide) h]; exact hk)] at h1
  exact h1
theorem eqEntry_any (x0 x1 x2 x3 x4 x5 x6 y0 y1 y2 y3 y4 y5 y6 : Int) (w : World) :
    Calls Tryz.prog 74 #[.agg #[.int .i64 x0, .int .i64 x1, .int .i64 x2, .int .i64 x3, .int .i64 x4, .int .i64 x5, .int .i64 x6], .agg #[.int .i64 y0, .int .i64 y1, .int .i64 y2, .int .i64 y3, .int .i64 y4, .int .i64 y5, .int .i64 y6]] w fun e w' => e = .returned (.bool (decide ((x0, x1, x2, x3, x4, x5, x6) = (y0, y1, y2, y3, y4, y5, y6)))) ∧ Below w.heap.size w w' := by
  have hb : ∀ o1 o2, Below w.heap.size w ((w.alloc o1).alloc o2) := fun o1 o2 => ((Below.refl _ _).alloc (Nat.le_refl _) _).alloc (by simp) _
  have HB := Lib.hid hb; clear hb
  by_cases h0 : x0 = y0
  · subst h0
    by_cases h1 : x1 = y1
    · subst h1
      by_cases h2 : x2 = y2
      · subst h2
        by_cases h3 : x3 = y3
        · subst h3
          by_cases h4 : x4 = y4
          · subst h4
            by_cases h5 : x5 = y5
            · subst h5
              by_cases h6 : x6 = y6
              · subst h6
                go_enter Tryz.func74, Tryz.ntmps74
                go_wp2_with fail
                go_ret
                exact ⟨ret_bool (by simp), HB.out _ _⟩
              · have hne : (x6 != y6) = true := by simp [h6]
                go_enter Tryz.func74, Tryz.ntmps74
                go_wp2_with fail
                go_ret
                exact ⟨ret_bool (by simp [h6]), HB.out _ _⟩
            · have hne : (x5 != y5) = true := by simp [h5]
              go_enter Tryz.func74, Tryz.ntmps74
              go_wp2_with fail
              go_ret
              exact ⟨ret_bool (by simp [h5]), HB.out _ _⟩
          · have hne : (x4 != y4) = true := by simp [h4]
            go_enter Tryz.func74, Tryz.ntmps74
            go_wp2_with fail
            go_ret
            exact ⟨ret_bool (by simp [h4]), HB.out _ _⟩
        · have hne : (x3 != y3) = true := by simp [h3]
          go_enter Tryz.func74, Tryz.ntmps74
          go_wp2_with fail
          go_ret
          exact ⟨ret_bool (by simp [h3]), HB.out _ _⟩
      · have hne : (x2 != y2) = true := by simp [h2]
        go_enter Tryz.func74, Tryz.ntmps74
        go_wp2_with fail
        go_ret
        exact ⟨ret_bool (by simp [h2]), HB.out _ _⟩
    · have hne : (x1 != y1) = true := by simp [h1]
      go_enter Tryz.func74, Tryz.ntmps74
      go_wp2_with fail
      go_ret
      exact ⟨ret_bool (by simp [h1]), HB.out _ _⟩
  · have hne : (x0 != y0) = true := by simp [h0]
    go_enter Tryz.func74, Tryz.ntmps74
    go_wp2_with fail
    go_ret
    exact ⟨ret_bool (by simp [h0]), HB.out _ _⟩
theorem Tryz.info_ent : (Tryz.prog.info? 25).map (fun i => (i.zero, i.size, i.bytes)) = some (some (.agg #[.int .i64 0, .int .i64 0, .int .i64 0, .int .i64 0, .int .i64 0, .int .i64 0, .int .i64 0]), 7, 56) := by kernel_rfl
theorem run_make_ent (n : Nat) (h : n ≤ 1048576) (w : World) :
    (Instr.makeSlice 30 (.int .i64 (n : Int)) (.int .i64 (n : Int))).run Tryz.prog w = .ok (.slice (some ⟨w.heap.size, 0, none⟩) n n) (w.alloc (.cells (madeCells #[.int .i64 0, .int .i64 0, .int .i64 0, .int .i64 0, .int .i64 0, .int .i64 0, .int .i64 0] (n * 7)) 25)) := by
  obtain ⟨i, hi, hz, hs, hb⟩ := info_parts Tryz.info_ent
  have hr := run_make (P := Tryz.prog) w 30 25 i (.agg #[.int .i64 0, .int .i64 0, .int .i64 0, .int .i64 0, .int .i64 0, .int .i64 0, .int .i64 0]) Tryz.underlying30 hi hz .i64 .i64 n n (by omega) (by omega) (by rw [hb]; omega) (by omega)
  rw [hs, Int.toNat_natCast] at hr
  exact hr
/-- The copy of such a slice. -/
def RetEntryS (w : World) (xs : List EntryT) (e : Ending) (w' : World) : Prop :=
  ∃ A n c, e = .returned (.slice A n c) ∧ w'.ownsRow w.heap.size 25 7 (.slice A n c) n (ents xs) ∧ n ≤ 1048576 ∧ Below w.heap.size w w'
theorem eqEntryS_any (A A' : Option Addr) (n c n' c' : Nat) (xs ys : List EntryT) (w : World) (h : Rd w 7 A n (ents xs)) (h' : Rd w 7 A' n' (ents ys)) :
    Calls Tryz.prog 45 #[.slice A n c, .slice A' n' c'] w fun e w' => e = .returned (.bool (decide (xs = ys))) ∧ Below w.heap.size w w' := by
  have HN := Lib.hid h.len_ent
  have HN' := Lib.hid h'.len_ent
  have hm := h.le
  by_cases hl : n = n'
  · subst hl
    go_enter Tryz.func45, Tryz.ntmps45
    go_wp2
    go_loopw [5] (fun i wr => ∃ k : Nat, k ≤ n ∧ i = .int .i64 k ∧ (xs = ys ↔ xs.drop k = ys.drop k) ∧ Below w.heap.size w wr) (fun i _ => n - (intOf i).toNat)
    case atStart => exact ⟨0, Nat.zero_le _, rfl, by simp, Below.refl _ _⟩
    case round =>
      obtain ⟨k, hk, rfl, hall, hb⟩ := hrel
      have HA := Lib.hid hall; clear hall
      by_cases hlt : k < n
      · obtain ⟨b, o, x0, x1, x2, x3, x4, x5, x6, rfl, hx, hd, hc0, hc1, hc2, hc3, hc4, hc5, hc6⟩ := (h.below hb).ent hlt
        obtain ⟨b', o', y0, y1, y2, y3, y4, y5, y6, rfl, hx', hd', hd0, hd1, hd2, hd3, hd4, hd5, hd6⟩ := (h'.below hb).ent hlt
        clear hx hx'
        have HD := Lib.hid hd; clear hd
        have HD' := Lib.hid hd'; clear hd'
        have HB := Lib.hid hb; clear hb
        have HE := Lib.hid (eqEntry_any x0 x1 x2 x3 x4 x5 x6 y0 y1 y2 y3 y4 y5 y6)
        by_cases hxx : (x0, x1, x2, x3, x4, x5, x6) = (y0, y1, y2, y3, y4, y5, y6)
        · have hdec : decide ((x0, x1, x2, x3, x4, x5, x6) = (y0, y1, y2, y3, y4, y5, y6)) = true := by simpa using hxx
          rw [hdec] at HE
          rw [hxx] at HD
          clear hxx hdec
          go_wp2_with fail
          go_still_tail 8, (by kernel_rfl)
          go_wp2_with fail
          refine (HE.out _).mono ?_
          rintro e w2 ⟨rfl, hb2⟩
          have HB2 := Lib.hid ((HB.out.trans (((Drawn.refl wr).step 1).below.mono HB.out.size)).trans (hb2.mono HB.out.size))
          clear hb2 HB
          go_wp2_with fail
          go_roundw
          case rel => exact ⟨k + 1, by omega, by go_num, by rw [HA.out, HD.out, HD'.out]; simp, HB2.out⟩
          case measure => simp [intOf] <;> omega
        · have hdec : decide ((x0, x1, x2, x3, x4, x5, x6) = (y0, y1, y2, y3, y4, y5, y6)) = false := by simpa using hxx
          rw [hdec] at HE
          have HX := Lib.hid hxx
          clear hxx hdec
          go_wp2_with fail
          go_still_tail 8, (by kernel_rfl)
          go_wp2_with fail
          refine (HE.out _).mono ?_
          rintro e w2 ⟨rfl, hb2⟩
          have HB2 := Lib.hid ((HB.out.trans (((Drawn.refl wr).step 1).below.mono HB.out.size)).trans (hb2.mono HB.out.size))
          clear hb2 HB
          go_wp2_with fail
          go_ret
          exact ⟨ret_bool (by rw [eq_comm, decide_eq_false_iff_not, HA.out, HD.out, HD'.out]; intro e; injection e with e _; exact HX.out e), HB2.out⟩
      · obtain rfl : k = n := by omega
        go_wp2
        go_ret
        exact ⟨ret_bool (by rw [eq_comm, decide_eq_true_iff, HA.out, List.drop_eq_nil_of_le (by rw [HN.out]; omega), List.drop_eq_nil_of_le (by rw [HN'.out]; omega)]), hb⟩
  · have hne : ((n : Int) != n') = true := by simp; omega
    go_enter Tryz.func45, Tryz.ntmps45
    go_wp2
    go_ret
    exact ⟨ret_bool (by rw [eq_comm, decide_eq_false_iff_not]; rintro rfl; exact hl (HN.out.symm.trans HN'.out)), Below.refl _ _⟩
theorem eqEntryS_same (A A' : Option Addr) (n c n' c' : Nat) (xs : List EntryT) (w : World) (h : Rd w 7 A n (ents xs)) (h' : Rd w 7 A' n' (ents xs)) :
    Calls Tryz.prog 45 #[.slice A n c, .slice A' n' c'] w fun e w' => e = .returned (.bool true) ∧ Below w.heap.size w w' :=
  (eqEntryS_any A A' n c n' c' xs xs w h h').mono fun _ _ ⟨a, b⟩ => ⟨by rw [a, decide_eq_true rfl], b⟩
theorem markEntryS_any (base lo hi e : Nat) (A : Option Addr) (n c : Nat) (xs : List EntryT) (k : Int) (w : World) (h : w.ownsRow base e 7 (.slice A n c) n (ents xs)) (hv : ∀ b, (Value.slice A n c).ownBlock = some b → lo ≤ b ∧ b < hi)
    (hk0 : 0 ≤ k) (hk1 : k ≤ 1152921504606846976) (hn : n ≤ 1048576) :
    Calls Tryz.prog 46 #[.slice A n c, .int .i64 k] w fun e' w' => e' = .returned (.int .i64 (k + 7 * n)) ∧ Chg lo hi w w' := by
  go_enter Tryz.func46, Tryz.ntmps46
  go_wp2
  go_loopw [1, 5] (fun t i wr => ∃ (j : Nat) (ys : List EntryT), j ≤ n ∧ i = .int .i64 j ∧ t = .int .i64 (k + 7 * j) ∧ wr.ownsRow base e 7 (.slice A n c) n (ents ys) ∧ Chg lo hi w wr) (fun _ i _ => n - (intOf i).toNat)
  case atStart => exact ⟨0, xs, Nat.zero_le _, rfl, by simp, h, Chg.refl _ _ _⟩
  case round =>
    obtain ⟨j, ys, hj, rfl, rfl, ho, hg⟩ := hrel
    clear h
    by_cases hlt : j < n
    · obtain ⟨g, x0, x1, x2, x3, x4, x5, x6, rfl, hg1, hg2, _, _, hc0, hc1, hc2, hc3, hc4, hc5, hc6, hf0, hf1, hf2, hf3, hf4, hf5, hf6⟩ := own_ent_at ho hlt
      have hv' := hv g rfl
      have HO := Lib.hid (own_ent_set ho hlt (k + 7 * j) (k + 7 * j + 1) (k + 7 * j + 1 + 1) (k + 7 * j + 1 + 1 + 1) (k + 7 * j + 1 + 1 + 1 + 1) (k + 7 * j + 1 + 1 + 1 + 1 + 1) (k + 7 * j + 1 + 1 + 1 + 1 + 1 + 1))
      have HG := Lib.hid (put_chg (g := g) [.int .i64 (k + 7 * j), .int .i64 (k + 7 * j + 1), .int .i64 (k + 7 * j + 1 + 1), .int .i64 (k + 7 * j + 1 + 1 + 1), .int .i64 (k + 7 * j + 1 + 1 + 1 + 1), .int .i64 (k + 7 * j + 1 + 1 + 1 + 1 + 1), .int .i64 (k + 7 * j + 1 + 1 + 1 + 1 + 1 + 1)] (j * 7) hg hv'.1 hv'.2)
      have HV := Lib.hid hv
      clear ho hg hv hv'
      go_wp2_with fail
      go_roundw
      case rel => exact ⟨j + 1, _, by omega, by go_num, by rw [show k + 7 * (j : Int) + 1 + 1 + 1 + 1 + 1 + 1 + 1 = k + 7 * ((j + 1 : Nat) : Int) from by omega], HO.out, HG.out⟩
      case measure => simp [intOf] <;> omega
    · obtain rfl : j = n := by omega
      go_wp2
      go_ret
      exact ⟨rfl, hg⟩
section
variable {ops : Array Oper} {rest : List Oper} {o : Oper} {a : Act} {K : Act → World → Prop} {Q : Exit → Act → World → Prop} {E : Prop}
theorem app_ent (w : World) (hgd : o.guard = none) (s x : Operand)
    (ho : o.op = .call { callee := .builtin .append, args := #[s, x], argTypes := #[30, 30] }) {base n c : Nat} {A : Option Addr} {xs : List EntryT}
    (hs : a.eval s = .slice A n c) (hown : w.ownsRow base 25 7 (.slice A n c) n (ents xs)) {b : Nat} {x0 x1 x2 x3 x4 x5 x6 : Int} (hx : a.eval x = .slice (some ⟨b, 0, none⟩) 1 1)
    (hc : w.heap[b]? = some (.cells #[.int .i64 x0, .int .i64 x1, .int .i64 x2, .int .i64 x3, .int .i64 x4, .int .i64 x5, .int .i64 x6] 25 (0, 0))) (hn : n ≤ 1099511627776) (hbase : base ≤ w.heap.size)
    (h : ∀ g c' w', w'.ownsRow base 25 7 (.slice (some ⟨g, 0, none⟩) (n + 1) c') (n + 1) (ents (xs ++ [(x0, x1, x2, x3, x4, x5, x6)])) → w.grownBy w' (Value.slice A n c).ownBlock → ((Value.slice A n c).ownBlock = some g ∨ g = w.heap.size) → g < w'.heap.size → wpList Tryz.prog ops Q rest (a.put o.dst (.slice (some ⟨g, 0, none⟩) (n + 1) c')) w') :
    wpList Tryz.prog ops Q (o :: rest) a w := by
  obtain ⟨i, hi, hz, hs1, hb1⟩ := info_parts Tryz.info_ent
  have e : ∀ (ys : List EntryT), ents ys ++ [.int .i64 x0, .int .i64 x1, .int .i64 x2, .int .i64 x3, .int .i64 x4, .int .i64 x5, .int .i64 x6] = ents (ys ++ [(x0, x1, x2, x3, x4, x5, x6)]) := fun ys => by unfold ents; rw [List.flatMap_append]; rfl
  exact wpList_append_lies w hgd s x 30 ho base 25 i (.agg #[.int .i64 0, .int .i64 0, .int .i64 0, .int .i64 0, .int .i64 0, .int .i64 0, .int .i64 0]) 7 56 Tryz.underlying30 hi hz hs1 hb1 rfl (by decide) (.slice A n c) n (ents xs) hs hown ⟨b, 0, none⟩ 1 1 [.int .i64 x0, .int .i64 x1, .int .i64 x2, .int .i64 x3, .int .i64 x4, .int .i64 x5, .int .i64 x6] hx rfl (World.news_of_block (cs := #[.int .i64 x0, .int .i64 x1, .int .i64 x2, .int .i64 x3, .int .i64 x4, .int .i64 x5, .int .i64 x6]) hc)
    (by intro u hu; simp at hu; rcases hu with rfl | rfl | rfl | rfl | rfl | rfl | rfl <;> rfl) (by decide) (by unfold maxLen; omega) (by omega) hbase _ rfl (by rw [e]; exact h)
theorem step_ent (w : World) (hgd : o.guard = none) (s x : Operand)
    (ho : o.op = .call { callee := .builtin .append, args := #[s, x], argTypes := #[30, 30] }) {base n c : Nat} {A : Option Addr} {xs : List EntryT}
    (hs : a.eval s = .slice A n c) (hown : w.ownsRow base 25 7 (.slice A n c) n (ents xs)) {b : Nat} {x0 x1 x2 x3 x4 x5 x6 : Int} (hx : a.eval x = .slice (some ⟨b, 0, none⟩) 1 1)
    (hc : w.heap[b]? = some (.cells #[.int .i64 x0, .int .i64 x1, .int .i64 x2, .int .i64 x3, .int .i64 x4, .int .i64 x5, .int .i64 x6] 25 (0, 0))) (hn : n ≤ 1099511627776) (hbase : base ≤ w.heap.size)
    (h : ∀ g c' w', w'.ownsRow base 25 7 (.slice (some ⟨g, 0, none⟩) (n + 1) c') (n + 1) (ents (xs ++ [(x0, x1, x2, x3, x4, x5, x6)])) → w.grownBy w' (Value.slice A n c).ownBlock → ((Value.slice A n c).ownBlock = some g ∨ g = w.heap.size) → g < w'.heap.size → K (a.put o.dst (.slice (some ⟨g, 0, none⟩) (n + 1) c')) w') :
    if Region.wanted o (yielded ops a.tmps) = true then Oper.wp Tryz.prog o a w K Q else E := by
  obtain ⟨i, hi, hz, hs1, hb1⟩ := info_parts Tryz.info_ent
  have e : ∀ (ys : List EntryT), ents ys ++ [.int .i64 x0, .int .i64 x1, .int .i64 x2, .int .i64 x3, .int .i64 x4, .int .i64 x5, .int .i64 x6] = ents (ys ++ [(x0, x1, x2, x3, x4, x5, x6)]) := fun ys => by unfold ents; rw [List.flatMap_append]; rfl
  exact step_append_lies w hgd s x 30 ho base 25 i (.agg #[.int .i64 0, .int .i64 0, .int .i64 0, .int .i64 0, .int .i64 0, .int .i64 0, .int .i64 0]) 7 56 Tryz.underlying30 hi hz hs1 hb1 rfl (by decide) (.slice A n c) n (ents xs) hs hown ⟨b, 0, none⟩ 1 1 [.int .i64 x0, .int .i64 x1, .int .i64 x2, .int .i64 x3, .int .i64 x4, .int .i64 x5, .int .i64 x6] hx rfl (World.news_of_block (cs := #[.int .i64 x0, .int .i64 x1, .int .i64 x2, .int .i64 x3, .int .i64 x4, .int .i64 x5, .int .i64 x6]) hc)
    (by intro u hu; simp at hu; rcases hu with rfl | rfl | rfl | rfl | rfl | rfl | rfl <;> rfl) (by decide) (by unfold maxLen; omega) (by omega) hbase _ rfl (by rw [e]; exact h)
end
/-- Numbers in a row, 7 an element. -/
def seqent (k : Int) : Nat → List EntryT
  | 0 => []
  | n + 1 => (k, k + 1, k + 2, k + 3, k + 4, k + 5, k + 6) :: seqent (k + 7) n
theorem seqent_len (k : Int) (n : Nat) : (seqent k n).length = n := by
  induction n generalizing k with
  | zero => rfl
  | succ n ih => simp [seqent, ih]
theorem seqent_snoc (k : Int) (n : Nat) : seqent k (n + 1) = seqent k n ++ [(k + 7 * n, k + 7 * n + 1, k + 7 * n + 2, k + 7 * n + 3, k + 7 * n + 4, k + 7 * n + 5, k + 7 * n + 6)] := by
  induction n generalizing k with
  | zero => simp [seqent]
  | succ n ih =>
    rw [seqent, ih, seqent, List.cons_append]
    congr 3
    simp only [Prod.mk.injEq]
    omega
theorem seqent_get (k : Int) (n j : Nat) (h : j < n) : (seqent k n)[j]? = some (k + 7 * (j : Int), k + 7 * (j : Int) + 1, k + 7 * (j : Int) + 2, k + 7 * (j : Int) + 3, k + 7 * (j : Int) + 4, k + 7 * (j : Int) + 5, k + 7 * (j : Int) + 6) := by
  induction n generalizing k j with
  | zero => omega
  | succ n ih =>
    cases j with
    | zero => simp [seqent]
    | succ j =>
      rw [seqent, List.getElem?_cons_succ, ih _ _ (by omega)]
      simp only [Option.some.injEq, Prod.mk.injEq]
      omega
theorem seqent_step (k : Int) (j : Nat) (xs : List EntryT) (h : j < xs.length) : (seqent k j ++ xs.drop j).set j (k + 7 * (j : Int), k + 7 * (j : Int) + 1, k + 7 * (j : Int) + 2, k + 7 * (j : Int) + 3, k + 7 * (j : Int) + 4, k + 7 * (j : Int) + 5, k + 7 * (j : Int) + 6) = seqent k (j + 1) ++ xs.drop (j + 1) := by
  rw [List.set_append, if_neg (by simp [seqent_len]), seqent_snoc, List.drop_eq_getElem_cons h, seqent_len, Nat.sub_self, List.set_cons_zero, List.append_assoc]
  rfl
theorem markEntryS_seq (base e : Nat) (A : Option Addr) (n c : Nat) (xs : List EntryT) (k : Int) (w : World) (h : w.ownsRow base e 7 (.slice A n c) n (ents xs)) (hk0 : 0 ≤ k) (hk1 : k ≤ 1099511627776) (hn : n ≤ 1048576) :
    Calls Tryz.prog 46 #[.slice A n c, .int .i64 k] w fun e' w' => e' = .returned (.int .i64 (k + 7 * n)) ∧ w'.ownsRow base e 7 (.slice A n c) n (ents (seqent k n)) ∧ w.grownBy w' (Value.slice A n c).ownBlock := by
  have HN := Lib.hid (own_len_flat entC_len (by decide) h)
  go_enter Tryz.func46, Tryz.ntmps46
  go_wp2
  go_loopw [1, 5] (fun t i wr => ∃ (j : Nat), j ≤ n ∧ i = .int .i64 j ∧ t = .int .i64 (k + 7 * j) ∧ wr.ownsRow base e 7 (.slice A n c) n (ents (seqent k j ++ xs.drop j)) ∧ w.grownBy wr (Value.slice A n c).ownBlock) (fun _ i _ => n - (intOf i).toNat)
  case atStart => exact ⟨0, Nat.zero_le _, rfl, by simp, by simpa [seqent] using h, World.grownBy.refl _ _⟩
  case round =>
    obtain ⟨j, hj, rfl, rfl, ho, hg⟩ := hrel
    clear h
    by_cases hlt : j < n
    · obtain ⟨g, x0, x1, x2, x3, x4, x5, x6, rfl, hg1, hg2, _, _, hc0, hc1, hc2, hc3, hc4, hc5, hc6, hf0, hf1, hf2, hf3, hf4, hf5, hf6⟩ := own_ent_at ho hlt
      have HO := Lib.hid (own_ent_set ho hlt (k + 7 * j) (k + 7 * j + 1) (k + 7 * j + 1 + 1) (k + 7 * j + 1 + 1 + 1) (k + 7 * j + 1 + 1 + 1 + 1) (k + 7 * j + 1 + 1 + 1 + 1 + 1) (k + 7 * j + 1 + 1 + 1 + 1 + 1 + 1))
      have HG := Lib.hid (put_grown (g := g) [.int .i64 (k + 7 * j), .int .i64 (k + 7 * j + 1), .int .i64 (k + 7 * j + 1 + 1), .int .i64 (k + 7 * j + 1 + 1 + 1), .int .i64 (k + 7 * j + 1 + 1 + 1 + 1), .int .i64 (k + 7 * j + 1 + 1 + 1 + 1 + 1), .int .i64 (k + 7 * j + 1 + 1 + 1 + 1 + 1 + 1)] (j * 7) hg)
      clear ho hg
      go_wp2_with fail
      go_roundw
      case rel => exact ⟨j + 1, by omega, by go_num, by rw [show k + 7 * (j : Int) + 1 + 1 + 1 + 1 + 1 + 1 + 1 = k + 7 * ((j + 1 : Nat) : Int) from by omega], by
        rw [← seqent_step k j xs (by rw [HN.out]; exact hlt)]
        rw [show k + 7 * (j : Int) + 2 = k + 7 * (j : Int) + 1 + 1 from by omega]; rw [show k + 7 * (j : Int) + 3 = k + 7 * (j : Int) + 1 + 1 + 1 from by omega]; rw [show k + 7 * (j : Int) + 4 = k + 7 * (j : Int) + 1 + 1 + 1 + 1 from by omega]; rw [show k + 7 * (j : Int) + 5 = k + 7 * (j : Int) + 1 + 1 + 1 + 1 + 1 from by omega]; rw [show k + 7 * (j : Int) + 6 = k + 7 * (j : Int) + 1 + 1 + 1 + 1 + 1 + 1 from by omega]
        exact HO.out, HG.out⟩
      case measure => simp [intOf] <;> omega
    · obtain rfl : j = n := by omega
      go_wp2
      go_ret
      refine ⟨rfl, ?_, hg⟩
      rw [List.drop_eq_nil_of_le (by rw [HN.out]; exact Nat.le_refl _), List.append_nil] at ho
      exact ho
theorem heldEntryS_any (A : Option Addr) (n c : Nat) (k : Int) (w : World) (h : Rd w 7 A n (ents (seqent k n))) (hk0 : 0 ≤ k) (hk1 : k ≤ 1099511627776) (hn : n ≤ 1048576) :
    Calls Tryz.prog 47 #[.slice A n c, .int .i64 k] w fun e' w' => e' = .returned (.int .i64 (k + 7 * n)) ∧ w = w' := by
  go_enter Tryz.func47, Tryz.ntmps47
  go_wp2
  go_loop [1, 5] (fun t i => ∃ (j : Nat), j ≤ n ∧ i = .int .i64 j ∧ t = .int .i64 (k + 7 * j)) (fun _ i => n - (intOf i).toNat)
  case atStart => exact ⟨0, Nat.zero_le _, rfl, by simp⟩
  case round =>
    obtain ⟨j, hj, rfl, rfl⟩ := hrel
    by_cases hlt : j < n
    · obtain ⟨b, o, x0, x1, x2, x3, x4, x5, x6, rfl, hx, _, hc0, hc1, hc2, hc3, hc4, hc5, hc6⟩ := h.ent hlt
      rw [seqent_get k n j hlt] at hx
      simp only [Option.some.injEq, Prod.mk.injEq] at hx
      obtain ⟨e0, e1, e2, e3, e4, e5, e6⟩ := hx
      subst e0 e1 e2 e3 e4 e5 e6
      go_wp2_with fail
      go_round
      case rel => exact ⟨j + 1, by omega, by go_num, by rw [show k + 7 * (j : Int) + 1 + 1 + 1 + 1 + 1 + 1 + 1 = k + 7 * ((j + 1 : Nat) : Int) from by omega]⟩
      case measure => simp [intOf] <;> omega
    · obtain rfl : j = n := by omega
      go_wp2
      go_ret
      exact ⟨rfl, rfl⟩
end Go.Proofs.YtnpldahkhaacnaaGreatDoor

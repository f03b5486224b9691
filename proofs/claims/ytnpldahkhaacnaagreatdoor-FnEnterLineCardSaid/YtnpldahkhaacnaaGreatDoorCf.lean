/- Walks: the library's CompactFunc over entries: how long its result is. -/
import Derived.Test.YtnpldahkhaacnaaGreatDoorZmc
import Derived.Test.YtnpldahkhaacnaaGreatDoorZma
import Derived.Lib.QuietBelow
namespace Go.Proofs.YtnpldahkhaacnaaGreatDoor
open Go.RowKit Go.Sort
set_option linter.unusedVariables false
set_option maxRecDepth 100000

/-- Two neighbours have one key. -/
def adjGo : List EntryT → Bool
  | x :: y :: r => sameB y x || adjGo (y :: r)
  | _ => false
theorem own_capE {w : World} {base e s n c : Nat} {A : Option Addr} {xs : List Value} (h : w.ownsRow base e s (.slice A n c) n xs) : n ≤ c := by
  rcases h.2 with ⟨hv, hn⟩ | ⟨g, cap, cur, hv, hb, hg, hnc, _⟩
  · omega
  · injection hv with _ _ hc; omega
/-- What is left: a slice that is as long just where no two neighbours have one key; only this row has turned. -/
def RetCompact (base n : Nat) (w : World) (ys : List EntryT) (e : Ending) (w' : World) : Prop :=
  ∃ A' m c', e = .returned (.slice A' m c') ∧ decide (m = n) = !adjGo ys ∧ Below base w w'
theorem setCells_below {B g : Nat} (vs : List Value) : ∀ {a w : World} (i : Nat), Below B a w → B ≤ g → Below B a (w.setCells g i vs) := by
  induction vs with
  | nil => intro a w i h _; exact h
  | cons v r ih => intro a w i h hb; exact ih (i + 1) (h.setCell hb _) hb
theorem run_clear_ents {base g n c kk m : Nat} {xs : List Value} (w : World) (ty : TypeId) (h : w.ownsRow base 25 7 (.slice (some ⟨g, 0, none⟩) n c) n xs) (hk : kk < n) :
    (Builtin.clear_ #[30] ty #[.slice (some ⟨g, kk * 7, none⟩) (n - kk) m]).run Tryz.prog w = .ok (.tuple #[]) (w.setCells g (kk * 7) (List.replicate ((n - kk) * 7) (.int .i64 0))) := by
  have hzc : (Builtin.zeroCells (Value.agg #[.int .i64 0, .int .i64 0, .int .i64 0, .int .i64 0, .int .i64 0, .int .i64 0, .int .i64 0]).cells (n - kk)).toList = List.replicate ((n - kk) * 7) (.int .i64 0) := by
    apply List.ext_getElem
    · simp [Builtin.zeroCells, Value.cells]
    · intro i h1 h2
      simp only [Builtin.zeroCells, Value.cells, Array.toList_map, List.getElem_map, List.getElem_replicate]
      exact zeroS7 _ _ (by simp; omega)
  have hst := run_storeCells_cells (P := Tryz.prog) g (kk * 7) (List.replicate ((n - kk) * 7) (.int .i64 0)) 0 w
    (fun j hj => by
      rw [List.length_replicate] at hj
      have hx := h.1
      have := h.cellAt (kk * 7 + j) (by omega)
      rw [Nat.add_zero, this, List.getElem?_eq_getElem (by omega)]; rfl)
    (fun j _ => h.frozenAt _) (by intro v hv; rw [List.eq_of_mem_replicate hv]; rfl)
  simp only [Nat.add_zero] at hst
  obtain ⟨q, hq⟩ : ∃ q, n - kk = q + 1 := ⟨n - kk - 1, by omega⟩
  rw [hq] at hst hzc ⊢
  simp [Builtin.clear_, run_underlying Tryz.underlying30, Tryz.zeroValue25, hzc, hst]
set_option maxHeartbeats 4000000 in
theorem compact_any (base : Nat) (A : Option Addr) (n c : Nat) (ys : List EntryT) (hn : n ≤ 1048576) (w : World) (hbw : base ≤ w.heap.size) (h : w.ownsRow base 25 7 (.slice A n c) n (ents ys)) :
    Calls Tryz.prog 58 #[.slice A n c, .func (.func 59) #[] #[]] w (RetCompact base n w ys) := by
  have hl := own_len_flat entC_len (by decide) h
  have HL := Lib.hid hl
  have hcap := own_capE h
  by_cases h2 : n < 2
  · have hadj : adjGo ys = false := by
      match ys, hl with
      | [], _ => rfl
      | [x], _ => rfl
      | x :: y :: r, hl => simp at hl; omega
    have HA := Lib.hid hadj
    clear hadj hl
    go_enter Tryz.func58, Tryz.ntmps58
    go_wp2_with fail
    go_ret
    exact ⟨_, _, _, rfl, by rw [HA.out]; simp, Below.refl _ _⟩
  obtain ⟨g, rfl, hbg, hgw⟩ : ∃ g, A = some ⟨g, 0, none⟩ ∧ base ≤ g ∧ g < w.heap.size := by
    rcases h.2 with ⟨hv, hz⟩ | ⟨g, cap, cur, hv, hb, hg, _⟩
    · omega
    · injection hv with hA
      exact ⟨g, hA, hb, (Array.getElem?_eq_some_iff.1 hg).1⟩
  have HO := Lib.hid h
  have HSK := Lib.hid sameKey_any
  clear h hl
  go_enter Tryz.func58, Tryz.ntmps58
  go_wp2_with fail
  go_loopw [5] (fun i wr => ∃ k : Nat, 1 ≤ k ∧ k ≤ n ∧ i = .int .i64 k ∧ Hid (adjGo ys = adjGo (ys.drop (k - 1))) ∧ Below w.heap.size w wr) (fun i _ => n - (intOf i).toNat)
  case atStart => exact ⟨1, by omega, by omega, rfl, Lib.hid rfl, Below.refl _ _⟩
  case round =>
    obtain ⟨k, hk1, hk, rfl, HR, hb⟩ := hrel
    have HB := Lib.hid hb
    clear hb
    by_cases hlt : k < n
    · have ho := own_below HO.out HB.out
      obtain ⟨g1, x0, x1, x2, x3, x4, x5, x6, e1, _, _, _, hxd, a0, a1, a2, a3, a4, a5, a6, _⟩ := own_ent_at ho (k := k - 1) (by omega)
      obtain rfl : g = g1 := by injection e1 with e1; injection e1
      obtain ⟨g1, y0, y1, y2, y3, y4, y5, y6, e1', _, _, _, hyd, b0, b1, b2, b3, b4, b5, b6, _⟩ := own_ent_at ho (k := k) hlt
      obtain rfl : g = g1 := by injection e1' with e1'; injection e1'
      have hstep : adjGo (ys.drop (k - 1)) = (sameB (y0, y1, y2, y3, y4, y5, y6) (x0, x1, x2, x3, x4, x5, x6) || adjGo (ys.drop k)) := by
        rw [hxd, show k - 1 + 1 = k by omega, hyd]; rfl
      have HST := Lib.hid hstep
      have HC := Lib.hid (fun w => HSK.out y0 y1 y2 y3 y4 y5 y6 x0 x1 x2 x3 x4 x5 x6 w)
      have ek : ((k : Int) - 1) = ((k - 1 : Nat) : Int) := by omega
      have HEK := Lib.hid ek
      have HBW := Lib.hid (show base ≤ wr.heap.size from Nat.le_trans hbw HB.out.size)
      clear hxd hyd hstep e1 e1' ho ek
      rw [show k - 1 = k - 1 from rfl] at *
      obtain ⟨q, rfl⟩ : ∃ q, k = q + 1 := ⟨k - 1, by omega⟩
      simp only [Nat.add_sub_cancel] at *
      have hwr : IntKind.i64.wrap (((q + 1 : Nat) : Int) - 1) = ((q : Nat) : Int) := by rw [IntWalk.i64_in _ (by omega)]; omega
      have HWR := Lib.hid hwr
      clear hwr
      cases hs : sameB (y0, y1, y2, y3, y4, y5, y6) (x0, x1, x2, x3, x4, x5, x6) with
      | false =>
        rw [hs] at HC
        have HS := Lib.hid hs
        clear hs
        go_wp2_with fail
        have hwr := HWR.out
        have kq0 := cell_regrown (a0)
        have kq1 := cell_regrown (a1)
        have kq2 := cell_regrown (a2)
        have kq3 := cell_regrown (a3)
        have kq4 := cell_regrown (a4)
        have kq5 := cell_regrown (a5)
        have kq6 := cell_regrown (a6)
        have kq7 := cell_regrown (b0)
        have kq8 := cell_regrown (b1)
        have kq9 := cell_regrown (b2)
        have kq10 := cell_regrown (b3)
        have kq11 := cell_regrown (b4)
        have kq12 := cell_regrown (b5)
        have kq13 := cell_regrown (b6)
        refine wp_region_quiet_below (by kernel_rfl) (by kernel_rfl) ?_
        repeat (first | go_big_quiet_step ((first | (go_at_call 59; (with_reducible exact Calls.regrown_of (HC.out _))))) | quiet_step ((first | (go_at_call 59; (with_reducible exact Calls.regrown_of (HC.out _))))))
        refine wpQuiet_nil ?_
        intro _ hw'
        obtain ⟨⟨dq, osq⟩, hw''⟩ := hw'
        subst hw''
        obtain ⟨w1, hq0, hb1⟩ : ∃ wnew, wnew = grow (redrawn wr dq) osq ∧ Below wr.heap.size wr wnew := ⟨_, rfl, below_regrown _ _ _⟩
        rw [← hq0]
        clear hq0 kq0 kq1 kq2 kq3 kq4 kq5 kq6 kq7 kq8 kq9 kq10 kq11 kq12 kq13
        clear hwr
        have HB1 := Lib.hid (HB.out.trans (hb1.mono HB.out.size))
        go_wp2_with fail
        go_roundw
        case rel => exact ⟨q + 1 + 1, by omega, by omega, by go_num, Lib.hid (by rw [HR.out, HST.out, HS.out]; rfl), HB1.out⟩
        case measure => simp [intOf] <;> omega
      | true =>
        rw [hs] at HC
        have HS := Lib.hid hs
        clear hs
        have HADJ := Lib.hid (show adjGo ys = true from by rw [HR.out, HST.out, HS.out]; rfl)
        clear HST HR HS HEK
        have hqc : q + 1 < c := by omega
        have hqc' : (c = q + 1) = False := by simp; omega
        go_wp2_with fail
        have hwr := HWR.out
        have kq0 := cell_regrown (a0)
        have kq1 := cell_regrown (a1)
        have kq2 := cell_regrown (a2)
        have kq3 := cell_regrown (a3)
        have kq4 := cell_regrown (a4)
        have kq5 := cell_regrown (a5)
        have kq6 := cell_regrown (a6)
        have kq7 := cell_regrown (b0)
        have kq8 := cell_regrown (b1)
        have kq9 := cell_regrown (b2)
        have kq10 := cell_regrown (b3)
        have kq11 := cell_regrown (b4)
        have kq12 := cell_regrown (b5)
        have kq13 := cell_regrown (b6)
        refine wp_region_quiet_below (by kernel_rfl) (by kernel_rfl) ?_
        repeat (first | go_big_quiet_step ((first | (go_at_call 59; (with_reducible exact Calls.regrown_of (HC.out _))))) | quiet_step ((first | (go_at_call 59; (with_reducible exact Calls.regrown_of (HC.out _))))))
        refine wpQuiet_nil ?_
        intro _ hw'
        obtain ⟨⟨dq, osq⟩, hw''⟩ := hw'
        subst hw''
        obtain ⟨w1, hq0, hb1⟩ : ∃ wnew, wnew = grow (redrawn wr dq) osq ∧ Below wr.heap.size wr wnew := ⟨_, rfl, below_regrown _ _ _⟩
        rw [← hq0]
        clear hq0 kq0 kq1 kq2 kq3 kq4 kq5 kq6 kq7 kq8 kq9 kq10 kq11 kq12 kq13
        clear hwr HWR
        have HB1 := Lib.hid (HB.out.trans (hb1.mono HB.out.size))
        have HO1 := Lib.hid (own_below HO.out HB1.out)
        have HBB := Lib.hid (show Below base w w1 from HB1.out.mono hbw)
        have hgw1 : g < w1.heap.size := by have := HB1.out.size; omega
        clear hb1 a0 a1 a2 a3 a4 a5 a6 b0 b1 b2 b3 b4 b5 b6 HC HB HO
        go_wp2_with fail
        go_loopw [5, 7] (fun s5 s7 wr => ∃ (kk p : Nat) (zs : List EntryT), q + 1 ≤ kk ∧ kk ≤ q + 1 + p ∧ q + 1 + p < n ∧ s5 = .int .i64 kk ∧ s7 = .int .i64 ((p + 1 : Nat) : Int) ∧ Hid (wr.ownsRow base 25 7 (.slice (some ⟨g, 0, none⟩) n c) n (ents zs)) ∧ Hid (Below base w wr) ∧ g < wr.heap.size) (fun _ s7 _ => n - (intOf s7).toNat)
        case atStart => exact ⟨q + 1, 0, ys, by omega, by omega, by omega, rfl, rfl, HO1, HBB, hgw1⟩
        case round =>
          clear HO1 HBB hgw1 HB1
          obtain ⟨kk, p, zs, hkk1, hkk2, hpn, rfl, rfl, HO2, HB2, hgr⟩ := hrel
          by_cases hp : p + 1 < n - (q + 1)
          · have ho := HO2.out
            obtain ⟨g1, x0, x1, x2, x3, x4, x5, x6, e1, _, _, _, _, a0, a1, a2, a3, a4, a5, a6, _⟩ := own_ent_at ho (k := q + 1 + p) (by omega)
            obtain rfl : g = g1 := by injection e1 with e1; injection e1
            obtain ⟨g1, y0, y1, y2, y3, y4, y5, y6, e1', _, _, hyg, _, b0, b1, b2, b3, b4, b5, b6, _⟩ := own_ent_at ho (k := q + 1 + (p + 1)) (by omega)
            obtain rfl : g = g1 := by injection e1' with e1'; injection e1'
            obtain ⟨g1, z0, z1, z2, z3, z4, z5, z6, e1'', _, _, _, _, c0, c1, c2, c3, c4, c5, c6, f0, f1, f2, f3, f4, f5, f6⟩ := own_ent_at ho (k := kk) (by omega)
            obtain rfl : g = g1 := by injection e1'' with e1''; injection e1''
            have hm1 : (q + 1 + p) * 7 = (q + 1) * 7 + p * 7 := by omega
            have hm2 : (q + 1 + (p + 1)) * 7 = (q + 1) * 7 + (p + 1) * 7 := by omega
            rw [hm1] at a0 a1 a2 a3 a4 a5 a6
            rw [hm2] at b0 b1 b2 b3 b4 b5 b6
            have HC := Lib.hid (fun w => HSK.out y0 y1 y2 y3 y4 y5 y6 x0 x1 x2 x3 x4 x5 x6 w)
            have hwr : IntKind.i64.wrap (((p + 1 : Nat) : Int) - 1) = ((p : Nat) : Int) := by rw [IntWalk.i64_in _ (by omega)]; omega
            have HWR := Lib.hid hwr
            have HAB := Lib.hid (show ∀ w1, Below wr.heap.size wr w1 → (w1.ownsRow base 25 7 (.slice (some ⟨g, 0, none⟩) n c) n (ents zs) ∧ Below base w w1 ∧ g < w1.heap.size) from fun w1 hb => ⟨own_below HO2.out hb, HB2.out.trans (hb.mono (Nat.le_trans hbw HB2.out.size)), Nat.lt_of_lt_of_le hgr hb.size⟩)
            have hsz : base ≤ wr.heap.size := Nat.le_trans hbw HB2.out.size
            clear hm1 hm2 hwr ho e1 e1' e1'' hyg
            cases hs : sameB (y0, y1, y2, y3, y4, y5, y6) (x0, x1, x2, x3, x4, x5, x6) with
            | true =>
              rw [hs] at HC
              clear hs
              go_wp2_with fail
              have hwr := HWR.out
              have kq0 := cell_regrown (a0)
              have kq1 := cell_regrown (a1)
              have kq2 := cell_regrown (a2)
              have kq3 := cell_regrown (a3)
              have kq4 := cell_regrown (a4)
              have kq5 := cell_regrown (a5)
              have kq6 := cell_regrown (a6)
              have kq7 := cell_regrown (b0)
              have kq8 := cell_regrown (b1)
              have kq9 := cell_regrown (b2)
              have kq10 := cell_regrown (b3)
              have kq11 := cell_regrown (b4)
              have kq12 := cell_regrown (b5)
              have kq13 := cell_regrown (b6)
              refine wp_region_quiet_below (by kernel_rfl) (by kernel_rfl) ?_
              repeat (first | go_big_quiet_step ((first | (go_at_call 59; (with_reducible exact Calls.regrown_of (HC.out _))))) | quiet_step ((first | (go_at_call 59; (with_reducible exact Calls.regrown_of (HC.out _))))))
              refine wpQuiet_nil ?_
              intro _ hw'
              obtain ⟨⟨dq, osq⟩, hw''⟩ := hw'
              subst hw''
              obtain ⟨w1, hq0, hb1⟩ : ∃ wnew, wnew = grow (redrawn wr dq) osq ∧ Below wr.heap.size wr wnew := ⟨_, rfl, below_regrown _ _ _⟩
              rw [← hq0]
              clear hq0 kq0 kq1 kq2 kq3 kq4 kq5 kq6 kq7 kq8 kq9 kq10 kq11 kq12 kq13
              clear hwr
              obtain ⟨ho2, hbb2, hg2⟩ := HAB.out _ hb1
              have HO3 := Lib.hid ho2
              have HB3 := Lib.hid hbb2
              clear ho2 hbb2 hb1
              go_wp2_with fail
              go_roundw
              case rel => exact ⟨kk, p + 1, zs, by omega, by omega, by omega, rfl, by go_num, HO3, HB3, hg2⟩
              case measure => simp [intOf] <;> omega
            | false =>
              rw [hs] at HC
              clear hs
              have HF := Lib.hid (And.intro f0 (And.intro f1 (And.intro f2 (And.intro f3 (And.intro f4 (And.intro f5 f6))))))
              go_wp2_with fail
              have hwr := HWR.out
              have kq0 := cell_regrown (a0)
              have kq1 := cell_regrown (a1)
              have kq2 := cell_regrown (a2)
              have kq3 := cell_regrown (a3)
              have kq4 := cell_regrown (a4)
              have kq5 := cell_regrown (a5)
              have kq6 := cell_regrown (a6)
              have kq7 := cell_regrown (b0)
              have kq8 := cell_regrown (b1)
              have kq9 := cell_regrown (b2)
              have kq10 := cell_regrown (b3)
              have kq11 := cell_regrown (b4)
              have kq12 := cell_regrown (b5)
              have kq13 := cell_regrown (b6)
              refine wp_region_quiet_below (by kernel_rfl) (by kernel_rfl) ?_
              repeat (first | go_big_quiet_step ((first | (go_at_call 59; (with_reducible exact Calls.regrown_of (HC.out _))))) | quiet_step ((first | (go_at_call 59; (with_reducible exact Calls.regrown_of (HC.out _))))))
              refine wpQuiet_nil ?_
              intro _ hw'
              obtain ⟨⟨dq, osq⟩, hw''⟩ := hw'
              subst hw''
              obtain ⟨w1, hq0, hb1⟩ : ∃ wnew, wnew = grow (redrawn wr dq) osq ∧ Below wr.heap.size wr wnew := ⟨_, rfl, below_regrown _ _ _⟩
              rw [← hq0]
              clear hq0 kq0 kq1 kq2 kq3 kq4 kq5 kq6 kq7 kq8 kq9 kq10 kq11 kq12 kq13
              clear hwr
              obtain ⟨ho2, hbb2, hg2⟩ := HAB.out _ hb1
              have HO3 := Lib.hid ho2
              have HB3 := Lib.hid hbb2
              obtain ⟨d0, d1, d2, d3, d4, d5, d6⟩ := (show _ ∧ _ ∧ _ ∧ _ ∧ _ ∧ _ ∧ _ from ⟨(hb1.cell (p := ⟨g, (q + 1) * 7 + (p + 1) * 7, none⟩) hgr).trans b0, (hb1.cell (p := ⟨g, (q + 1) * 7 + (p + 1) * 7 + 1, none⟩) hgr).trans b1, (hb1.cell (p := ⟨g, (q + 1) * 7 + (p + 1) * 7 + 2, none⟩) hgr).trans b2, (hb1.cell (p := ⟨g, (q + 1) * 7 + (p + 1) * 7 + 3, none⟩) hgr).trans b3, (hb1.cell (p := ⟨g, (q + 1) * 7 + (p + 1) * 7 + 4, none⟩) hgr).trans b4, (hb1.cell (p := ⟨g, (q + 1) * 7 + (p + 1) * 7 + 5, none⟩) hgr).trans b5, (hb1.cell (p := ⟨g, (q + 1) * 7 + (p + 1) * 7 + 6, none⟩) hgr).trans b6⟩)
              clear a0 a1 a2 a3 a4 a5 a6 b0 b1 b2 b3 b4 b5 b6 c0 c1 c2 c3 c4 c5 c6 f0 f1 f2 f3 f4 f5 f6 HF
              obtain ⟨g1, z0, z1, z2, z3, z4, z5, z6, e1, _, _, _, _, c0, c1, c2, c3, c4, c5, c6, f0, f1, f2, f3, f4, f5, f6⟩ := own_ent_at ho2 (k := kk) (by omega)
              obtain rfl : g = g1 := by injection e1 with e1; injection e1
              have HO4 := Lib.hid (own_ent_set ho2 (k := kk) (by omega) y0 y1 y2 y3 y4 y5 y6)
              have HB4 := Lib.hid (put_below [.int .i64 y0, .int .i64 y1, .int .i64 y2, .int .i64 y3, .int .i64 y4, .int .i64 y5, .int .i64 y6] (kk * 7) hbb2 hbg)
              clear ho2 hbb2 hb1 e1
              go_wp2_with fail
              go_roundw
              case rel => exact ⟨kk + 1, p + 1, _, by omega, by omega, by omega, by go_num, by go_num, HO4, HB4, by simpa [World.setCell] using hg2⟩
              case measure => simp [intOf] <;> omega
          · have hcl := fun ty => run_clear_ents (m := c - kk) wr ty HO2.out (show kk < n by omega)
            have HB3 := Lib.hid (setCells_below (List.replicate ((n - kk) * 7) (.int .i64 0)) (kk * 7) HB2.out hbg)
            have hkc : (c = kk) = False := by simp; omega
            go_wp2_with fail
            go_ret
            exact ⟨_, _, _, rfl, by rw [HADJ.out]; simp; omega, HB3.out⟩
    · obtain rfl : k = n := by omega
      have HE := Lib.hid (show adjGo ys = false from by
        rw [HR.out]
        have hd := List.length_drop (i := k - 1) (l := ys)
        rw [HL.out] at hd
        match hq : ys.drop (k - 1), hd with
        | [], _ => rfl
        | [x], _ => rfl
        | x :: y :: r, hd => simp at hd; omega)
      go_wp2_with fail
      go_ret
      exact ⟨_, _, _, rfl, by rw [HE.out]; simp, HB.out.mono hbw⟩
end Go.Proofs.YtnpldahkhaacnaaGreatDoor

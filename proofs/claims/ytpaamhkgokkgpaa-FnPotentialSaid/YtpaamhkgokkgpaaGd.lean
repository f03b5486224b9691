/- Walks: codes, NeighbourOf (chapter 32). -/
import Derived.Test.YtpaamhkgokkgpaaGc
namespace Go.Proofs.Ytpaamhkgokkgpaa
open Go.RowKit
set_option linter.unusedVariables false
set_option maxRecDepth 100000

theorem box3 {w w2 : World} {v0 v1 v2 : Value} {t : TypeId} (hb : Below (w.alloc (.cells #[v0, v1, v2] t)).heap.size (w.alloc (.cells #[v0, v1, v2] t)) w2) :
    w2.cell? ⟨w.heap.size, 0, none⟩ = some v0 ∧ w2.cell? ⟨w.heap.size, 1, none⟩ = some v1 ∧ w2.cell? ⟨w.heap.size, 2, none⟩ = some v2 ∧ w.heap.size < w2.heap.size ∧ Below w.heap.size w w2 :=
  ⟨(hb.cell (p := ⟨w.heap.size, 0, none⟩) (by simp)).trans (cell_top _ _ _ rfl rfl), (hb.cell (p := ⟨w.heap.size, 1, none⟩) (by simp)).trans (cell_top _ _ _ rfl rfl), (hb.cell (p := ⟨w.heap.size, 2, none⟩) (by simp)).trans (cell_top _ _ _ rfl rfl),
    by have := hb.size; simp at this; omega, ((Below.refl _ _).alloc (Nat.le_refl _) _).trans (hb.mono (by simp))⟩
theorem keep3 {w w2 : World} {b : Nat} {v0 v1 v2 : Value} (hb : Below w.heap.size w w2) (hlt : b < w.heap.size) (x0 : w.cell? ⟨b, 0, none⟩ = some v0) (x1 : w.cell? ⟨b, 1, none⟩ = some v1) (x2 : w.cell? ⟨b, 2, none⟩ = some v2) :
    w2.cell? ⟨b, 0, none⟩ = some v0 ∧ w2.cell? ⟨b, 1, none⟩ = some v1 ∧ w2.cell? ⟨b, 2, none⟩ = some v2 ∧ b < w2.heap.size :=
  ⟨(hb.cell (p := ⟨b, 0, none⟩) hlt).trans x0, (hb.cell (p := ⟨b, 1, none⟩) hlt).trans x1, (hb.cell (p := ⟨b, 2, none⟩) hlt).trans x2, by have := hb.size; omega⟩
/-- The code of a grid and a cell. -/
def gcodeF (W H : Int) (xs : List (Int × Int)) (cell : Int) : Int := if gridB W H xs = true then (if withinB cell 0 ((xs.length : Int) - 1) = true then 0 else 4) else 1
theorem gcode_ok {W H : Int} {xs : List (Int × Int)} {cell : Int} (h : gcodeF W H xs cell = 0) : GridOk W H xs ∧ 0 ≤ cell ∧ cell < W * H := by
  unfold gcodeF at h
  split at h
  · rename_i hg
    have hk := gridB_ok hg
    split at h
    · rename_i hw
      have := withinB_iff.1 hw
      have := hk.len
      exact ⟨hk, by omega, by omega⟩
    · cases h
  · cases h
theorem isCell_any (W H : Int) (A : Option Addr) (n c : Nat) (xs : List (Int × Int)) (cell : Int) (w : World) (h : Rd w 2 A n (winds xs)) :
    Calls Try.prog 69 #[.agg #[.int .i64 W, .int .i64 H, .slice A n c], .int .i64 cell] w fun e w' => e = .returned (.bool (withinB cell 0 ((xs.length : Int) - 1))) ∧ Below w.heap.size w w' := by
  have hn := h.le
  have HB := Lib.hid (show ∀ o, Below w.heap.size w (w.alloc o) from fun o => (Below.refl _ _).alloc (Nat.le_refl _) o)
  rw [h.len_wind]
  clear h
  go_enter Try.func69, Try.ntmps69
  go_wp2_with (go_at_call 50; refine (within_any _ _ _ _).mono ?_; rintro e w' ⟨rfl, rfl⟩)
  go_ret
  exact ⟨rfl, HB.out _⟩
theorem l32Cell_any (W H : Int) (A : Option Addr) (n c : Nat) (xs : List (Int × Int)) (cell : Int) (w : World) (hg : GridOk W H xs) :
    Calls Try.prog 55 #[.agg #[.int .i64 W, .int .i64 H, .slice A n c], .int .i64 cell] w fun e w' => e = .returned (.bool (withinB cell 0 ((xs.length : Int) - 1))) ∧ Below w.heap.size w w' := by
  have HB := Lib.hid (show ∀ o, Below w.heap.size w (w.alloc o) from fun o => (Below.refl _ _).alloc (Nat.le_refl _) o)
  have hl := hg.len
  have hp := mul_bd (show 0 ≤ W by have := hg.w1; omega) hg.w2 (show 0 ≤ H by have := hg.h1; omega) hg.h2
  obtain ⟨hp0, hp1⟩ := hp
  have HL := Lib.hid hl
  clear hg hl
  go_enter Try.func55, Try.ntmps55
  go_wp2_with (go_at_call 47; refine (l01In_any _ _ _ _).mono ?_; rintro e w' ⟨rfl, rfl⟩)
  go_ret
  exact ⟨ret_bool (by rw [HL.out]), HB.out _⟩
theorem gridCode_any (W H : Int) (A : Option Addr) (n c : Nat) (xs : List (Int × Int)) (cell : Int) (w : World) (h : Rd w 2 A n (winds xs)) :
    Calls Try.prog 57 #[.agg #[.int .i64 W, .int .i64 H, .slice A n c], .int .i64 cell] w fun e w' => e = .returned (.int .i64 (gcodeF W H xs cell)) ∧ Below w.heap.size w w' := by
  have HB := Lib.hid (show ∀ o, Below w.heap.size w (w.alloc o) from fun o => (Below.refl _ _).alloc (Nat.le_refl _) o)
  have HG := Lib.hid (fun w' (hb : Below w.heap.size w w') => implIsWindGrid_any W H A n c xs w' (h.below hb))
  have HC := Lib.hid (fun w' (hb : Below w.heap.size w w') => isCell_any W H A n c xs cell w' (h.below hb))
  unfold gcodeF
  clear h
  cases hg : gridB W H xs with
  | true =>
    rw [hg] at HG
    simp only [if_true]
    generalize (xs.length : Int) = m at *
    cases hw : withinB cell 0 (m - 1)
    all_goals
      rw [hw] at HC
      simp only [if_true, Bool.false_eq_true, if_false]
      clear hg hw
      go_enter Try.func57, Try.ntmps57
      go_wp2_with fail
      refine (HG.out _ (HB.out _)).mono ?_
      rintro e w2 ⟨rfl, hb2⟩
      obtain ⟨x0, x1, x2, hs2, hb2'⟩ := box3 hb2
      have HB2 := Lib.hid hb2'
      clear hb2 hb2'
      go_wp2_with fail
      refine (HC.out _ HB2.out).mono ?_
      rintro e w3 ⟨rfl, hb3⟩
      have HB3 := Lib.hid (HB2.out.trans (hb3.mono HB2.out.size))
      clear hb3 x0 x1 x2
      go_wp2_with fail
      go_ret
      exact ⟨rfl, HB3.out⟩
  | false =>
    rw [hg] at HG
    simp only [Bool.false_eq_true, if_false]
    clear hg
    go_enter Try.func57, Try.ntmps57
    go_wp2_with fail
    refine (HG.out _ (HB.out _)).mono ?_
    rintro e w2 ⟨rfl, hb2⟩
    obtain ⟨x0, x1, x2, hs2, hb2'⟩ := box3 hb2
    have HB2 := Lib.hid hb2'
    clear hb2 hb2'
    go_wp2_with fail
    go_ret
    exact ⟨rfl, HB2.out⟩
def nbOfF (W H : Int) (xs : List (Int × Int)) (cell d : Int) : Int × Int :=
  if gcodeF W H xs cell = 0 then (if (withinB d 0 7 && nbB W H cell d) = true then (nbF W H cell d, 0) else (0, 2)) else (0, gcodeF W H xs cell)
def Ret2 (w : World) (r : Int × Int) (e : Ending) (w' : World) : Prop := e = .returned (.tuple #[.int .i64 r.1, .int .i64 r.2]) ∧ Below w.heap.size w w'
theorem implNbOf_any (W H : Int) (A : Option Addr) (n c : Nat) (xs : List (Int × Int)) (cell d : Int) (w : World) (h : Rd w 2 A n (winds xs)) :
    Calls Try.prog 21 #[.agg #[.int .i64 W, .int .i64 H, .slice A n c], .int .i64 cell, .int .i64 d] w (Ret2 w (nbOfF W H xs cell d)) := by
  have HB := Lib.hid (show ∀ o, Below w.heap.size w (w.alloc o) from fun o => (Below.refl _ _).alloc (Nat.le_refl _) o)
  have HC := Lib.hid (fun w' (hb : Below w.heap.size w w') => gridCode_any W H A n c xs cell w' (h.below hb))
  unfold nbOfF
  by_cases hz : gcodeF W H xs cell = 0
  · obtain ⟨hg, c1, c2⟩ := gcode_ok hz
    rw [hz] at HC
    simp only [hz, if_true]
    cases hw : withinB d 0 7 with
    | true =>
      have hd := withinB_iff.1 hw
      have HN := Lib.hid (fun w => implNb_any W H A n c cell d hg.w1 hg.w2 hg.h1 hg.h2 c1 c2 hd.1 hd.2 w)
      have hnb := fun h => nb_cell (cell := cell) (d := d) hg.w1 hg.h1 h
      have hno : nbB W H cell d = false → nbF W H cell d = -1 := fun h => by unfold nbF; rw [h]; rfl
      generalize nbF W H cell d = nf at *
      cases hb : nbB W H cell d with
      | true =>
        have hnf := (hnb hb).1
        simp only [Bool.and_self, if_true]
        clear hnb hno hb hg h hz c2 hd
        go_enter Try.func21, Try.ntmps21
        go_wp2_with fail
        refine (HC.out _ (HB.out _)).mono ?_
        rintro e w2 ⟨rfl, hb2⟩
        obtain ⟨x0, x1, x2, hs2, hb2'⟩ := box3 hb2
        have HB2 := Lib.hid hb2'
        clear hb2 hb2'
        go_wp2_with (go_at_call 50; refine (within_any _ _ _ _).mono ?_; rintro e w' ⟨rfl, rfl⟩)
        refine (HN.out _).mono ?_
        rintro e w3 ⟨rfl, hb3⟩
        obtain ⟨y0, y1, y2, hs3⟩ := keep3 hb3 hs2 x0 x1 x2
        have HB3 := Lib.hid (HB2.out.trans (hb3.mono HB2.out.size))
        clear hb3 x0 x1 x2 hs2 hw
        go_wp2_with fail
        refine (HN.out _).mono ?_
        rintro e w4 ⟨rfl, hb4⟩
        have HB4 := Lib.hid (HB3.out.trans (hb4.mono HB3.out.size))
        clear hb4 y0 y1 y2
        go_wp2_with fail
        go_ret2
        exact ⟨rfl, HB4.out⟩
      | false =>
        obtain rfl := hno hb
        simp only [Bool.and_false, Bool.false_eq_true, if_false]
        clear hnb hno hb hg h hz c2 hd
        go_enter Try.func21, Try.ntmps21
        go_wp2_with fail
        refine (HC.out _ (HB.out _)).mono ?_
        rintro e w2 ⟨rfl, hb2⟩
        obtain ⟨x0, x1, x2, hs2, hb2'⟩ := box3 hb2
        have HB2 := Lib.hid hb2'
        clear hb2 hb2'
        go_wp2_with (go_at_call 50; refine (within_any _ _ _ _).mono ?_; rintro e w' ⟨rfl, rfl⟩)
        refine (HN.out _).mono ?_
        rintro e w3 ⟨rfl, hb3⟩
        have HB3 := Lib.hid (HB2.out.trans (hb3.mono HB2.out.size))
        clear hb3 x0 x1 x2 hs2 hw
        go_wp2_with fail
        go_ret2
        exact ⟨rfl, HB3.out⟩
    | false =>
      simp only [Bool.false_and, Bool.false_eq_true, if_false]
      clear hg h hz c2
      go_enter Try.func21, Try.ntmps21
      go_wp2_with fail
      refine (HC.out _ (HB.out _)).mono ?_
      rintro e w2 ⟨rfl, hb2⟩
      obtain ⟨x0, x1, x2, hs2, hb2'⟩ := box3 hb2
      have HB2 := Lib.hid hb2'
      clear hb2 hb2'
      go_wp2_with (go_at_call 50; refine (within_any _ _ _ _).mono ?_; rintro e w' ⟨rfl, rfl⟩)
      go_ret2
      exact ⟨rfl, HB2.out⟩
  · rw [if_neg hz]
    generalize gcodeF W H xs cell = code at *
    have hne : (code != 0) = true := by simp [hz]
    clear hz h
    go_enter Try.func21, Try.ntmps21
    go_wp2_with fail
    refine (HC.out _ (HB.out _)).mono ?_
    rintro e w2 ⟨rfl, hb2⟩
    obtain ⟨x0, x1, x2, hs2, hb2'⟩ := box3 hb2
    have HB2 := Lib.hid hb2'
    clear hb2 hb2'
    go_wp2_with fail
    go_ret2
    exact ⟨rfl, HB2.out⟩
theorem specNbOf_any (W H : Int) (A : Option Addr) (n c : Nat) (xs : List (Int × Int)) (cell d : Int) (w : World) (h : Rd w 2 A n (winds xs)) :
    Calls Try.prog 20 #[.agg #[.int .i64 W, .int .i64 H, .slice A n c], .int .i64 cell, .int .i64 d] w (Ret2 w (nbOfF W H xs cell d)) := by
  have HB := Lib.hid (show ∀ o, Below w.heap.size w (w.alloc o) from fun o => (Below.refl _ _).alloc (Nat.le_refl _) o)
  have HG := Lib.hid (fun w' (hb : Below w.heap.size w w') => specIsWindGrid_any W H A n c xs w' (h.below hb))
  have e1 : nbOfF W H xs cell d = if gridB W H xs = true then (if withinB cell 0 ((xs.length : Int) - 1) = true then (if (withinB d 0 7 && nbB W H cell d) = true then (nbF W H cell d, 0) else (0, 2)) else (0, 4)) else (0, 1) := by
    unfold nbOfF gcodeF
    cases gridB W H xs <;> cases withinB cell 0 ((xs.length : Int) - 1) <;> simp
  rw [e1]
  clear e1
  cases hg : gridB W H xs with
  | true =>
    have hk := gridB_ok hg
    rw [hg] at HG
    have HC := Lib.hid (fun w => l32Cell_any W H A n c xs cell w hk)
    simp only [if_true]
    cases hc : withinB cell 0 ((xs.length : Int) - 1) with
    | true =>
      obtain ⟨_, c1, c2⟩ := gcode_ok (cell := cell) (show gcodeF W H xs cell = 0 by unfold gcodeF; rw [hg, hc]; rfl)
      rw [hc] at HC
      simp only [if_true]
      cases hw : withinB d 0 7 with
      | true =>
        have hd := withinB_iff.1 hw
        have HN := Lib.hid (fun w => specNb_any W H A n c cell d hk.w1 hk.w2 hk.h1 hk.h2 c1 c2 hd.1 hd.2 w)
        have ev : nbV W H cell d = if nbB W H cell d = true then nbF W H cell d else 0 := rfl
        generalize nbF W H cell d = nf at *
        cases hb : nbB W H cell d with
        | true =>
          rw [hb, if_pos rfl] at ev
          rw [hb, ev] at HN
          simp only [Bool.and_self, if_true]
          clear hb hk hg hc h c1 c2 hd ev
          go_enter Try.func20, Try.ntmps20
          go_wp2_with fail
          refine (HG.out _ (HB.out _)).mono ?_
          rintro e w2 ⟨rfl, hb2⟩
          obtain ⟨x0, x1, x2, hs2, hb2'⟩ := box3 hb2
          have HB2 := Lib.hid hb2'
          clear hb2 hb2'
          go_wp2_with fail
          refine (HC.out _).mono ?_
          rintro e w3 ⟨rfl, hb3⟩
          obtain ⟨y0, y1, y2, hs3⟩ := keep3 hb3 hs2 x0 x1 x2
          have HB3 := Lib.hid (HB2.out.trans (hb3.mono HB2.out.size))
          clear hb3 x0 x1 x2 hs2
          go_wp2_with (go_at_call 47; refine (l01In_any _ _ _ _).mono ?_; rintro e w' ⟨rfl, rfl⟩)
          refine (HN.out _).mono ?_
          rintro e w4 ⟨rfl, hb4⟩
          have HB4 := Lib.hid (HB3.out.trans (hb4.mono HB3.out.size))
          clear hb4 y0 y1 y2
          go_wp2_with fail
          go_ret2
          exact ⟨rfl, HB4.out⟩
        | false =>
          rw [hb, if_neg (by decide)] at ev
          rw [hb, ev] at HN
          simp only [Bool.and_false, Bool.false_eq_true, if_false]
          clear hb hk hg hc h c1 c2 hd ev
          go_enter Try.func20, Try.ntmps20
          go_wp2_with fail
          refine (HG.out _ (HB.out _)).mono ?_
          rintro e w2 ⟨rfl, hb2⟩
          obtain ⟨x0, x1, x2, hs2, hb2'⟩ := box3 hb2
          have HB2 := Lib.hid hb2'
          clear hb2 hb2'
          go_wp2_with fail
          refine (HC.out _).mono ?_
          rintro e w3 ⟨rfl, hb3⟩
          obtain ⟨y0, y1, y2, hs3⟩ := keep3 hb3 hs2 x0 x1 x2
          have HB3 := Lib.hid (HB2.out.trans (hb3.mono HB2.out.size))
          clear hb3 x0 x1 x2 hs2
          go_wp2_with (go_at_call 47; refine (l01In_any _ _ _ _).mono ?_; rintro e w' ⟨rfl, rfl⟩)
          refine (HN.out _).mono ?_
          rintro e w4 ⟨rfl, hb4⟩
          have HB4 := Lib.hid (HB3.out.trans (hb4.mono HB3.out.size))
          clear hb4 y0 y1 y2
          go_wp2_with fail
          go_ret2
          exact ⟨rfl, HB4.out⟩
      | false =>
        simp only [Bool.false_and, Bool.false_eq_true, if_false]
        clear hk hg hc h c1 c2
        go_enter Try.func20, Try.ntmps20
        go_wp2_with fail
        refine (HG.out _ (HB.out _)).mono ?_
        rintro e w2 ⟨rfl, hb2⟩
        obtain ⟨x0, x1, x2, hs2, hb2'⟩ := box3 hb2
        have HB2 := Lib.hid hb2'
        clear hb2 hb2'
        go_wp2_with fail
        refine (HC.out _).mono ?_
        rintro e w3 ⟨rfl, hb3⟩
        obtain ⟨y0, y1, y2, hs3⟩ := keep3 hb3 hs2 x0 x1 x2
        have HB3 := Lib.hid (HB2.out.trans (hb3.mono HB2.out.size))
        clear hb3 x0 x1 x2 hs2
        go_wp2_with (go_at_call 47; refine (l01In_any _ _ _ _).mono ?_; rintro e w' ⟨rfl, rfl⟩)
        go_ret2
        exact ⟨rfl, HB3.out⟩
    | false =>
      rw [hc] at HC
      simp only [Bool.false_eq_true, if_false]
      clear hk hg hc h
      go_enter Try.func20, Try.ntmps20
      go_wp2_with fail
      refine (HG.out _ (HB.out _)).mono ?_
      rintro e w2 ⟨rfl, hb2⟩
      obtain ⟨x0, x1, x2, hs2, hb2'⟩ := box3 hb2
      have HB2 := Lib.hid hb2'
      clear hb2 hb2'
      go_wp2_with fail
      refine (HC.out _).mono ?_
      rintro e w3 ⟨rfl, hb3⟩
      obtain ⟨y0, y1, y2, hs3⟩ := keep3 hb3 hs2 x0 x1 x2
      have HB3 := Lib.hid (HB2.out.trans (hb3.mono HB2.out.size))
      clear hb3 x0 x1 x2 hs2
      go_wp2_with (go_at_call 47; refine (l01In_any _ _ _ _).mono ?_; rintro e w' ⟨rfl, rfl⟩)
      go_ret2
      exact ⟨rfl, HB3.out⟩
  | false =>
    rw [hg] at HG
    simp only [Bool.false_eq_true, if_false]
    clear hg h
    go_enter Try.func20, Try.ntmps20
    go_wp2_with fail
    refine (HG.out _ (HB.out _)).mono ?_
    rintro e w2 ⟨rfl, hb2⟩
    obtain ⟨x0, x1, x2, hs2, hb2'⟩ := box3 hb2
    have HB2 := Lib.hid hb2'
    clear hb2 hb2'
    go_wp2_with fail
    go_ret2
    exact ⟨rfl, HB2.out⟩
end Go.Proofs.Ytpaamhkgokkgpaa

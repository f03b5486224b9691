/- Walks: MoveTime (chapter 32). -/
import Derived.Test.YtpaamhkgokkgpaaGi
namespace Go.Proofs.Ytpaamhkgokkgpaa
open Go.RowKit
set_option linter.unusedVariables false
set_option maxRecDepth 100000

def moveOfF (W H : Int) (xs : List (Int × Int)) (cell d : Int) : Int × Int :=
  if gcodeF W H xs cell = 0 then (if withinB d 0 7 = true then (if moveB W H xs cell d = true then (takeF xs cell d, 0) else (0, 5)) else (0, 2)) else (0, gcodeF W H xs cell)
theorem implMoveTime_any (W H : Int) (A : Option Addr) (n c : Nat) (xs : List (Int × Int)) (cell d : Int) (w : World) (h : Rd w 2 A n (winds xs)) :
    Calls Try.prog 23 #[.agg #[.int .i64 W, .int .i64 H, .slice A n c], .int .i64 cell, .int .i64 d] w (Ret2 w (moveOfF W H xs cell d)) := by
  have HB := Lib.hid (show ∀ o, Below w.heap.size w (w.alloc o) from fun o => (Below.refl _ _).alloc (Nat.le_refl _) o)
  have HC := Lib.hid (fun w' (hb : Below w.heap.size w w') => gridCode_any W H A n c xs cell w' (h.below hb))
  unfold moveOfF
  by_cases hz : gcodeF W H xs cell = 0
  · obtain ⟨hg, c1, c2⟩ := gcode_ok hz
    rw [hz] at HC
    simp only [hz, if_true]
    cases hw : withinB d 0 7 with
    | true =>
      have hd := withinB_iff.1 hw
      have HN := Lib.hid (fun w' (hb : Below w.heap.size w w') => moveTime_any W H A n c xs cell d hg c1 c2 hd.1 hd.2 w' (h.below hb))
      have hbd := fun hh => moveF_bd (d := d) hg hh c1 c2
      have hm : moveF W H xs cell d = if moveB W H xs cell d = true then takeF xs cell d else -1 := rfl
      generalize moveF W H xs cell d = r at *
      cases hb : moveB W H xs cell d with
      | true =>
        obtain ⟨k1, k2⟩ := hbd hb
        rw [hb, if_pos rfl] at hm
        generalize takeF xs cell d = t at *
        subst hm
        simp only [if_true]
        clear hbd hb hg h hz c2 hd
        go_enter Try.func23, Try.ntmps23
        go_wp2_with fail
        refine (HC.out _ (HB.out _)).mono ?_
        rintro e w2 ⟨rfl, hb2⟩
        obtain ⟨x0, x1, x2, hs2, hb2'⟩ := box3 hb2
        have HB2 := Lib.hid hb2'
        clear hb2 hb2'
        go_wp2_with (go_at_call 50; refine (within_any _ _ _ _).mono ?_; rintro e w' ⟨rfl, rfl⟩)
        refine (HN.out _ HB2.out).mono ?_
        rintro e w3 ⟨rfl, hb3⟩
        have HB3 := Lib.hid (HB2.out.trans (hb3.mono HB2.out.size))
        clear hb3
        go_wp2_with fail
        go_ret2
        exact ⟨rfl, HB3.out⟩
      | false =>
        rw [hb, if_neg (by decide)] at hm
        subst hm
        simp only [Bool.false_eq_true, if_false]
        clear hbd hb hg h hz c2 hd
        go_enter Try.func23, Try.ntmps23
        go_wp2_with fail
        refine (HC.out _ (HB.out _)).mono ?_
        rintro e w2 ⟨rfl, hb2⟩
        obtain ⟨x0, x1, x2, hs2, hb2'⟩ := box3 hb2
        have HB2 := Lib.hid hb2'
        clear hb2 hb2'
        go_wp2_with (go_at_call 50; refine (within_any _ _ _ _).mono ?_; rintro e w' ⟨rfl, rfl⟩)
        refine (HN.out _ HB2.out).mono ?_
        rintro e w3 ⟨rfl, hb3⟩
        have HB3 := Lib.hid (HB2.out.trans (hb3.mono HB2.out.size))
        clear hb3
        go_wp2_with fail
        go_ret2
        exact ⟨rfl, HB3.out⟩
    | false =>
      simp only [Bool.false_eq_true, if_false]
      clear hg h hz c2
      go_enter Try.func23, Try.ntmps23
      go_wp2_with fail
      refine (HC.out _ (HB.out _)).mono ?_
      rintro e w2 ⟨rfl, hb2⟩
      obtain ⟨x0, x1, x2, hs2, hb2'⟩ := box3 hb2
      have HB2 := Lib.hid hb2'
      clear hb2 hb2'
      go_wp2_with (go_at_call 50; refine (within_any _ _ _ _).mono ?_; rintro e w' ⟨rfl, rfl⟩)
      go_ret2
      exact ⟨rfl, HB2.out⟩
  · rw [if_neg hz]
    generalize gcodeF W H xs cell = code at *
    have hne : (code != 0) = true := by simp [hz]
    clear hz h
    go_enter Try.func23, Try.ntmps23
    go_wp2_with fail
    refine (HC.out _ (HB.out _)).mono ?_
    rintro e w2 ⟨rfl, hb2⟩
    obtain ⟨x0, x1, x2, hs2, hb2'⟩ := box3 hb2
    have HB2 := Lib.hid hb2'
    clear hb2 hb2'
    go_wp2_with fail
    go_ret2
    exact ⟨rfl, HB2.out⟩
theorem specMoveTime_any (W H : Int) (A : Option Addr) (n c : Nat) (xs : List (Int × Int)) (cell d : Int) (w : World) (h : Rd w 2 A n (winds xs)) :
    Calls Try.prog 22 #[.agg #[.int .i64 W, .int .i64 H, .slice A n c], .int .i64 cell, .int .i64 d] w (Ret2 w (moveOfF W H xs cell d)) := by
  have HB := Lib.hid (show ∀ o, Below w.heap.size w (w.alloc o) from fun o => (Below.refl _ _).alloc (Nat.le_refl _) o)
  have HG := Lib.hid (fun w' (hb : Below w.heap.size w w') => specIsWindGrid_any W H A n c xs w' (h.below hb))
  have e1 : moveOfF W H xs cell d = if gridB W H xs = true then (if withinB cell 0 ((xs.length : Int) - 1) = true then (if withinB d 0 7 = true then (if moveB W H xs cell d = true then (takeF xs cell d, 0) else (0, 5)) else (0, 2)) else (0, 4)) else (0, 1) := by
    unfold moveOfF gcodeF
    cases gridB W H xs <;> cases withinB cell 0 ((xs.length : Int) - 1) <;> simp
  rw [e1]
  clear e1
  cases hg : gridB W H xs with
  | true =>
    have hk := gridB_ok hg
    rw [hg] at HG
    have HC := Lib.hid (fun w => l32Cell_any W H A n c xs cell w hk)
    simp only [if_true]
    cases hc : withinB cell 0 ((xs.length : Int) - 1) with
    | true =>
      obtain ⟨_, c1, c2⟩ := gcode_ok (cell := cell) (show gcodeF W H xs cell = 0 by unfold gcodeF; rw [hg, hc]; rfl)
      rw [hc] at HC
      simp only [if_true]
      cases hw : withinB d 0 7 with
      | true =>
        have hd := withinB_iff.1 hw
        have HN := Lib.hid (fun w' (hb : Below w.heap.size w w') => l32Time_any W H A n c xs cell d hk c1 c2 hd.1 hd.2 w' (h.below hb))
        have ev : moveV W H xs cell d = if moveB W H xs cell d = true then takeF xs cell d else 0 := rfl
        generalize takeF xs cell d = t at *
        generalize moveV W H xs cell d = mv at *
        cases hb : moveB W H xs cell d with
        | true =>
          rw [hb, if_pos rfl] at ev
          rw [hb, ev] at HN
          simp only [if_true]
          clear hb hk hg hc h c1 c2 hd ev
          go_enter Try.func22, Try.ntmps22
          go_wp2_with fail
          refine (HG.out _ (HB.out _)).mono ?_
          rintro e w2 ⟨rfl, hb2⟩
          obtain ⟨x0, x1, x2, hs2, hb2'⟩ := box3 hb2
          have HB2 := Lib.hid hb2'
          clear hb2 hb2'
          go_wp2_with fail
          refine (HC.out _).mono ?_
          rintro e w3 ⟨rfl, hb3⟩
          obtain ⟨y0, y1, y2, hs3⟩ := keep3 hb3 hs2 x0 x1 x2
          have HB3 := Lib.hid (HB2.out.trans (hb3.mono HB2.out.size))
          clear hb3 x0 x1 x2 hs2
          go_wp2_with (go_at_call 47; refine (l01In_any _ _ _ _).mono ?_; rintro e w' ⟨rfl, rfl⟩)
          refine (HN.out _ HB3.out).mono ?_
          rintro e w4 ⟨rfl, hb4⟩
          have HB4 := Lib.hid (HB3.out.trans (hb4.mono HB3.out.size))
          clear hb4 y0 y1 y2
          go_wp2_with fail
          go_ret2
          exact ⟨rfl, HB4.out⟩
        | false =>
          rw [hb, if_neg (by decide)] at ev
          rw [hb, ev] at HN
          simp only [Bool.false_eq_true, if_false]
          clear hb hk hg hc h c1 c2 hd ev
          go_enter Try.func22, Try.ntmps22
          go_wp2_with fail
          refine (HG.out _ (HB.out _)).mono ?_
          rintro e w2 ⟨rfl, hb2⟩
          obtain ⟨x0, x1, x2, hs2, hb2'⟩ := box3 hb2
          have HB2 := Lib.hid hb2'
          clear hb2 hb2'
          go_wp2_with fail
          refine (HC.out _).mono ?_
          rintro e w3 ⟨rfl, hb3⟩
          obtain ⟨y0, y1, y2, hs3⟩ := keep3 hb3 hs2 x0 x1 x2
          have HB3 := Lib.hid (HB2.out.trans (hb3.mono HB2.out.size))
          clear hb3 x0 x1 x2 hs2
          go_wp2_with (go_at_call 47; refine (l01In_any _ _ _ _).mono ?_; rintro e w' ⟨rfl, rfl⟩)
          refine (HN.out _ HB3.out).mono ?_
          rintro e w4 ⟨rfl, hb4⟩
          have HB4 := Lib.hid (HB3.out.trans (hb4.mono HB3.out.size))
          clear hb4 y0 y1 y2
          go_wp2_with fail
          go_ret2
          exact ⟨rfl, HB4.out⟩
      | false =>
        simp only [Bool.false_eq_true, if_false]
        clear hk hg hc h c1 c2
        go_enter Try.func22, Try.ntmps22
        go_wp2_with fail
        refine (HG.out _ (HB.out _)).mono ?_
        rintro e w2 ⟨rfl, hb2⟩
        obtain ⟨x0, x1, x2, hs2, hb2'⟩ := box3 hb2
        have HB2 := Lib.hid hb2'
        clear hb2 hb2'
        go_wp2_with fail
        refine (HC.out _).mono ?_
        rintro e w3 ⟨rfl, hb3⟩
        obtain ⟨y0, y1, y2, hs3⟩ := keep3 hb3 hs2 x0 x1 x2
        have HB3 := Lib.hid (HB2.out.trans (hb3.mono HB2.out.size))
        clear hb3 x0 x1 x2 hs2
        go_wp2_with (go_at_call 47; refine (l01In_any _ _ _ _).mono ?_; rintro e w' ⟨rfl, rfl⟩)
        go_ret2
        exact ⟨rfl, HB3.out⟩
    | false =>
      rw [hc] at HC
      simp only [Bool.false_eq_true, if_false]
      clear hk hg hc h
      go_enter Try.func22, Try.ntmps22
      go_wp2_with fail
      refine (HG.out _ (HB.out _)).mono ?_
      rintro e w2 ⟨rfl, hb2⟩
      obtain ⟨x0, x1, x2, hs2, hb2'⟩ := box3 hb2
      have HB2 := Lib.hid hb2'
      clear hb2 hb2'
      go_wp2_with fail
      refine (HC.out _).mono ?_
      rintro e w3 ⟨rfl, hb3⟩
      obtain ⟨y0, y1, y2, hs3⟩ := keep3 hb3 hs2 x0 x1 x2
      have HB3 := Lib.hid (HB2.out.trans (hb3.mono HB2.out.size))
      clear hb3 x0 x1 x2 hs2
      go_wp2_with (go_at_call 47; refine (l01In_any _ _ _ _).mono ?_; rintro e w' ⟨rfl, rfl⟩)
      go_ret2
      exact ⟨rfl, HB3.out⟩
  | false =>
    rw [hg] at HG
    simp only [Bool.false_eq_true, if_false]
    clear hg h
    go_enter Try.func22, Try.ntmps22
    go_wp2_with fail
    refine (HG.out _ (HB.out _)).mono ?_
    rintro e w2 ⟨rfl, hb2⟩
    obtain ⟨x0, x1, x2, hs2, hb2'⟩ := box3 hb2
    have HB2 := Lib.hid hb2'
    clear hb2 hb2'
    go_wp2_with fail
    go_ret2
    exact ⟨rfl, HB2.out⟩
end Go.Proofs.Ytpaamhkgokkgpaa

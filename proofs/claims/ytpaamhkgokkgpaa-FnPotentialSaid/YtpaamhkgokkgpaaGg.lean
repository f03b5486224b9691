/- Walks: moves of the program (chapter 32). -/
import Derived.Test.YtpaamhkgokkgpaaGf
import Derived.Outline
import Derived.Deep.RegionWith
namespace Go.Proofs.Ytpaamhkgokkgpaa
open Go.RowKit
set_option linter.unusedVariables false
set_option maxRecDepth 100000

theorem bcell {W W' : World} (hb : Below W.heap.size W W') : (∀ b o, b < W.heap.size → W'.cell? ⟨b, o, none⟩ = W.cell? ⟨b, o, none⟩) ∧ (∀ b o, b < W.heap.size → W'.frozen? ⟨b, o, none⟩ = W.frozen? ⟨b, o, none⟩) :=
  ⟨fun b o h => hb.cell (p := ⟨b, o, none⟩) h, fun b o h => hb.frozen (p := ⟨b, o, none⟩) h⟩
set_option maxHeartbeats 8000000 in
theorem moveTime_any (W H : Int) (A : Option Addr) (n c : Nat) (xs : List (Int × Int)) (cell d : Int) (hg : GridOk W H xs) (c1 : 0 ≤ cell) (c2 : cell < W * H) (d1 : 0 ≤ d) (d2 : d ≤ 7) (w : World) (h : Rd w 2 A n (winds xs)) :
    Calls Try.prog 60 #[.agg #[.int .i64 W, .int .i64 H, .slice A n c], .int .i64 cell, .int .i64 d] w fun e w' => e = .returned (.int .i64 (moveF W H xs cell d)) ∧ Below w.heap.size w w' := by
  obtain ⟨k, rfl⟩ := int_up cell c1
  have hkn : k < n := by have := h.len_wind; have := hg.len; omega
  obtain ⟨b, o, x, y, rfl, hx, _, hc1, hc2⟩ := h.wind hkn
  have hwv := hg.all _ (List.mem_of_getElem? hx)
  have hwa := windAt_get hx
  obtain ⟨g1, g2, g3, g4, g5⟩ := windB_bd hwv
  obtain ⟨b1, b2, b3, b4⟩ := headF_bd d
  have hblt := cell_lt hc1
  simp only at hblt
  have hle := h.le
  have HNB := Lib.hid (fun w => implNb_any W H (some ⟨b, o, none⟩) n c k d hg.w1 hg.w2 hg.h1 hg.h2 c1 c2 d1 d2 w)
  have HHD := Lib.hid (fun w => implHeadX_any d d1 d2 w)
  have hsm : Small x y (headF d).1 (headF d).2 := ⟨g1, g2, g3, g4, b1, b2, b3, b4⟩
  have HSA := Lib.hid (fun w => sailOf_any x y _ _ hsm w)
  have HTA := Lib.hid (fun w => tackOf_any x y _ _ hsm w)
  have HLE := Lib.hid (fun w => lengthOf_any x y hwv w)
  have hm : moveF W H xs k d = if (nbB W H k d && !(sailF x y (headF d).1 (headF d).2 == 1 && tackF x y (headF d).1 (headF d).2 == 0)) = true then ceilF (60 * takesF d (sailF x y (headF d).1 (headF d).2)) (isq (x * x + y * y)) else -1 := by
    unfold moveF moveB takeF sailAt tackAt lenAt
    rw [hwa]
  have hnb := fun hh => (nb_cell (cell := k) (d := d) hg.w1 hg.h1 hh).1
  have hno : nbB W H k d = false → nbF W H k d = -1 := fun hh => by unfold nbF; rw [hh]; rfl
  have HCD := Lib.hid (fun (a : Int) (t0 : 0 ≤ a) (t1 : a ≤ 2520) w => ceilDiv_any a (isq (x * x + y * y)) (by omega) (by omega) (isq_bd hwv).2.2.1 (by have := (isq_bd hwv).2.2.2; omega) w)
  unfold headV New2 at HHD
  generalize (headF d).1 = hx' at *
  generalize (headF d).2 = hy' at *
  have hsc := sailF_cases x y hx' hy'
  generalize sailF x y hx' hy' = s at *
  generalize tackF x y hx' hy' = t at *
  generalize isq (x * x + y * y) = l at *
  generalize moveF W H xs k d = r at *
  generalize nbF W H k d = nf at *
  have HM := Lib.hid hm
  clear hm hwa hsm hx hwv h hg c1 c2 g5
  go_enter Try.func60, Try.ntmps60
  go_wp2_with fail
  obtain ⟨wb, hwb⟩ : ∃ wb, wb = w.alloc (.cells #[.int .i64 W, .int .i64 H, .slice (some ⟨b, o, none⟩) n c] 29) := ⟨_, rfl⟩
  rw [← hwb]
  have hb0 : Below w.heap.size w wb := by rw [hwb]; exact (Below.refl _ _).alloc (Nat.le_refl _) _
  have hsz : w.heap.size < wb.heap.size := by rw [hwb]; simp
  have c0 : wb.cell? ⟨w.heap.size, 0, none⟩ = some (.int .i64 W) := by rw [hwb]; exact cell_top _ _ _ rfl rfl
  have c1 : wb.cell? ⟨w.heap.size, 1, none⟩ = some (.int .i64 H) := by rw [hwb]; exact cell_top _ _ _ rfl rfl
  have c2 : wb.cell? ⟨w.heap.size, 2, none⟩ = some (.slice (some ⟨b, o, none⟩) n c) := by rw [hwb]; exact cell_top _ _ _ rfl rfl
  have c3 : wb.cell? ⟨b, o + k * 2, none⟩ = some (.int .i64 x) := (hb0.cell (p := ⟨b, o + k * 2, none⟩) hblt).trans hc1
  have c4 : wb.cell? ⟨b, o + k * 2 + 1, none⟩ = some (.int .i64 y) := (hb0.cell (p := ⟨b, o + k * 2 + 1, none⟩) hblt).trans hc2
  clear hwb hc1 hc2
  have hk0 : (0 : Int) ≤ k := by omega
  have hkn' : (k : Int) < n := by omega
  have hbw : b < wb.heap.size := by omega
  have nb0 : b < wb.heap.size := by omega
  have mb0 : b ≤ wb.heap.size := by omega
  have nw0 : w.heap.size < wb.heap.size := by omega
  have mw0 : w.heap.size ≤ wb.heap.size := by omega
  have nb1 : b < wb.heap.size + 1 := by omega
  have mb1 : b ≤ wb.heap.size + 1 := by omega
  have nw1 : w.heap.size < wb.heap.size + 1 := by omega
  have mw1 : w.heap.size ≤ wb.heap.size + 1 := by omega
  have nb2 : b < wb.heap.size + 1 + 1 := by omega
  have mb2 : b ≤ wb.heap.size + 1 + 1 := by omega
  have nw2 : w.heap.size < wb.heap.size + 1 + 1 := by omega
  have mw2 : w.heap.size ≤ wb.heap.size + 1 + 1 := by omega
  have nb3 : b < wb.heap.size + 1 + 1 + 1 := by omega
  have mb3 : b ≤ wb.heap.size + 1 + 1 + 1 := by omega
  have nw3 : w.heap.size < wb.heap.size + 1 + 1 + 1 := by omega
  have mw3 : w.heap.size ≤ wb.heap.size + 1 + 1 + 1 := by omega
  have nb4 : b < wb.heap.size + 1 + 1 + 1 + 1 := by omega
  have mb4 : b ≤ wb.heap.size + 1 + 1 + 1 + 1 := by omega
  have nw4 : w.heap.size < wb.heap.size + 1 + 1 + 1 + 1 := by omega
  have mw4 : w.heap.size ≤ wb.heap.size + 1 + 1 + 1 + 1 := by omega
  have nb5 : b < wb.heap.size + 1 + 1 + 1 + 1 + 1 := by omega
  have mb5 : b ≤ wb.heap.size + 1 + 1 + 1 + 1 + 1 := by omega
  have nw5 : w.heap.size < wb.heap.size + 1 + 1 + 1 + 1 + 1 := by omega
  have mw5 : w.heap.size ≤ wb.heap.size + 1 + 1 + 1 + 1 + 1 := by omega
  go_cut [7, 8] (fun s7 s8 wx => ∃ gw gh : Nat, s7 = .pointer (some ⟨gw, 0, none⟩) ∧ s8 = .pointer (some ⟨gh, 0, none⟩) ∧ wx.cell? ⟨gw, 0, none⟩ = some (.int .i64 x) ∧ wx.cell? ⟨gw, 1, none⟩ = some (.int .i64 y) ∧ wx.cell? ⟨gh, 0, none⟩ = some (.int .i64 hx') ∧ wx.cell? ⟨gh, 1, none⟩ = some (.int .i64 hy') ∧ gw < wx.heap.size ∧ gh < wx.heap.size ∧ Below wb.heap.size wb wx)
  case first =>
    go_region_with ((go_at_call 78; refine (HHD.out _).mono ?_; rintro e wq ⟨rfl, o1, o2, rfl⟩))
    all_goals
      go_wp2_with fail
      go_meet
      refine ⟨_, _, rfl, rfl, ?_, ?_, ?_, ?_, ?_, ?_, ?_⟩
      · simp [go_sem]
      · simp [go_sem]
      · simp [go_sem]
      · simp [go_sem]
      · simp <;> omega
      · simp <;> omega
      · repeat (first | exact Below.refl _ _ | refine below_drewN ?_ 1 | refine Below.alloc ?_ (by simp <;> omega) _)
  case rest =>
    obtain ⟨gw, gh, rfl, rfl, p0, p1, q0, q1, hgw, hgh, hbc⟩ := hcut
    have x0 := (hbc.cell (p := ⟨w.heap.size, 0, none⟩) hsz).trans c0
    have x1 := (hbc.cell (p := ⟨w.heap.size, 1, none⟩) hsz).trans c1
    have x2 := (hbc.cell (p := ⟨w.heap.size, 2, none⟩) hsz).trans c2
    have HBwc := Lib.hid (hb0.trans (hbc.mono hb0.size))
    clear hbc hb0 hsz c0 c1 c2 c3 c4 hgw hgh hblt hbw nb0 mb0 nw0 mw0 nb1 mb1 nw1 mw1 nb2 mb2 nw2 mw2 nb3 mb3 nw3 mw3 nb4 mb4 nw4 mw4 nb5 mb5 nw5 mw5
    go_wp2_with fail
    refine (HSA.out _).mono ?_
    rintro e w5 ⟨rfl, hbw5⟩
    replace p0 := Keeps.below hbw5 _ _ p0
    replace p1 := Keeps.below hbw5 _ _ p1
    replace q0 := Keeps.below hbw5 _ _ q0
    replace q1 := Keeps.below hbw5 _ _ q1
    replace x0 := Keeps.below hbw5 _ _ x0
    replace x1 := Keeps.below hbw5 _ _ x1
    replace x2 := Keeps.below hbw5 _ _ x2
    have HBw5 := Lib.hid (HBwc.out.trans (hbw5.mono HBwc.out.size))
    clear hbw5
    go_wp2_with fail
    refine (HNB.out _).mono ?_
    rintro e w7 ⟨rfl, hbw7⟩
    replace p0 := Keeps.below hbw7 _ _ p0
    replace p1 := Keeps.below hbw7 _ _ p1
    replace q0 := Keeps.below hbw7 _ _ q0
    replace q1 := Keeps.below hbw7 _ _ q1
    replace x0 := Keeps.below hbw7 _ _ x0
    replace x1 := Keeps.below hbw7 _ _ x1
    replace x2 := Keeps.below hbw7 _ _ x2
    have HBw7 := Lib.hid (HBw5.out.trans (hbw7.mono HBw5.out.size))
    clear hbw7
    cases hbb : nbB W H k d with
    | false =>
      obtain rfl := hno hbb
      go_wp2_with fail
      go_ret
      exact ⟨ret_int (by rw [HM.out, hbb]; rfl), HBw7.out⟩
    | true =>
      have hnf := hnb hbb
      clear hnb hno
      rcases hsc with rfl | rfl | rfl
      · by_cases ht : t = 0
        · subst ht
          go_wp2_with fail
          refine (HTA.out _).mono ?_
          rintro e w6 ⟨rfl, hbw6⟩
          replace p0 := Keeps.below hbw6 _ _ p0
          replace p1 := Keeps.below hbw6 _ _ p1
          replace q0 := Keeps.below hbw6 _ _ q0
          replace q1 := Keeps.below hbw6 _ _ q1
          replace x0 := Keeps.below hbw6 _ _ x0
          replace x1 := Keeps.below hbw6 _ _ x1
          replace x2 := Keeps.below hbw6 _ _ x2
          have HBw6 := Lib.hid (HBw7.out.trans (hbw6.mono HBw7.out.size))
          clear hbw6
          go_wp2_with fail
          go_ret
          exact ⟨ret_int (by rw [HM.out, hbb]; rfl), HBw6.out⟩
        · have ht2 : (t == 0) = false := by simpa using ht
          go_wp2_with fail
          refine (HTA.out _).mono ?_
          rintro e w6 ⟨rfl, hbw6⟩
          replace p0 := Keeps.below hbw6 _ _ p0
          replace p1 := Keeps.below hbw6 _ _ p1
          replace q0 := Keeps.below hbw6 _ _ q0
          replace q1 := Keeps.below hbw6 _ _ q1
          replace x0 := Keeps.below hbw6 _ _ x0
          replace x1 := Keeps.below hbw6 _ _ x1
          replace x2 := Keeps.below hbw6 _ _ x2
          have HBw6 := Lib.hid (HBw7.out.trans (hbw6.mono HBw7.out.size))
          clear hbw6
          by_cases hd : d % 2 = 1
          · have hdd : d % 2 = 1 := hd
            go_wp2_with fail
            refine (HLE.out _).mono ?_
            rintro e w8 ⟨rfl, hbw8⟩
            replace p0 := Keeps.below hbw8 _ _ p0
            replace p1 := Keeps.below hbw8 _ _ p1
            replace q0 := Keeps.below hbw8 _ _ q0
            replace q1 := Keeps.below hbw8 _ _ q1
            replace x0 := Keeps.below hbw8 _ _ x0
            replace x1 := Keeps.below hbw8 _ _ x1
            replace x2 := Keeps.below hbw8 _ _ x2
            have HBw8 := Lib.hid (HBw6.out.trans (hbw8.mono HBw6.out.size))
            clear hbw8
            go_wp2_with fail
            refine (HCD.out 2520 (by omega) (by omega) _).mono ?_
            rintro e w9 ⟨rfl, rfl⟩
            go_wp2_with fail
            go_ret
            exact ⟨ret_int (by rw [HM.out, hbb]; simp [takesF, hdd, ht]), HBw8.out⟩
          · have hdd : ¬ d % 2 = 1 := hd
            have hdb : (d % 2 == 1) = false := by simpa using hd
            go_wp2_with fail
            refine (HLE.out _).mono ?_
            rintro e w8 ⟨rfl, hbw8⟩
            replace p0 := Keeps.below hbw8 _ _ p0
            replace p1 := Keeps.below hbw8 _ _ p1
            replace q0 := Keeps.below hbw8 _ _ q0
            replace q1 := Keeps.below hbw8 _ _ q1
            replace x0 := Keeps.below hbw8 _ _ x0
            replace x1 := Keeps.below hbw8 _ _ x1
            replace x2 := Keeps.below hbw8 _ _ x2
            have HBw8 := Lib.hid (HBw6.out.trans (hbw8.mono HBw6.out.size))
            clear hbw8
            go_wp2_with fail
            refine (HCD.out 1800 (by omega) (by omega) _).mono ?_
            rintro e w9 ⟨rfl, rfl⟩
            go_wp2_with fail
            go_ret
            exact ⟨ret_int (by rw [HM.out, hbb]; simp [takesF, hdd, ht]), HBw8.out⟩
      · skip
        by_cases hd : d % 2 = 1
        · have hdd : d % 2 = 1 := hd
          go_wp2_with fail
          refine (HLE.out _).mono ?_
          rintro e w8 ⟨rfl, hbw8⟩
          replace p0 := Keeps.below hbw8 _ _ p0
          replace p1 := Keeps.below hbw8 _ _ p1
          replace q0 := Keeps.below hbw8 _ _ q0
          replace q1 := Keeps.below hbw8 _ _ q1
          replace x0 := Keeps.below hbw8 _ _ x0
          replace x1 := Keeps.below hbw8 _ _ x1
          replace x2 := Keeps.below hbw8 _ _ x2
          have HBw8 := Lib.hid (HBw7.out.trans (hbw8.mono HBw7.out.size))
          clear hbw8
          go_wp2_with fail
          refine (HCD.out 840 (by omega) (by omega) _).mono ?_
          rintro e w9 ⟨rfl, rfl⟩
          go_wp2_with fail
          go_ret
          exact ⟨ret_int (by rw [HM.out, hbb]; simp [takesF, hdd]), HBw8.out⟩
        · have hdd : ¬ d % 2 = 1 := hd
          have hdb : (d % 2 == 1) = false := by simpa using hd
          go_wp2_with fail
          refine (HLE.out _).mono ?_
          rintro e w8 ⟨rfl, hbw8⟩
          replace p0 := Keeps.below hbw8 _ _ p0
          replace p1 := Keeps.below hbw8 _ _ p1
          replace q0 := Keeps.below hbw8 _ _ q0
          replace q1 := Keeps.below hbw8 _ _ q1
          replace x0 := Keeps.below hbw8 _ _ x0
          replace x1 := Keeps.below hbw8 _ _ x1
          replace x2 := Keeps.below hbw8 _ _ x2
          have HBw8 := Lib.hid (HBw7.out.trans (hbw8.mono HBw7.out.size))
          clear hbw8
          go_wp2_with fail
          refine (HCD.out 600 (by omega) (by omega) _).mono ?_
          rintro e w9 ⟨rfl, rfl⟩
          go_wp2_with fail
          go_ret
          exact ⟨ret_int (by rw [HM.out, hbb]; simp [takesF, hdd]), HBw8.out⟩
      · skip
        by_cases hd : d % 2 = 1
        · have hdd : d % 2 = 1 := hd
          go_wp2_with fail
          refine (HLE.out _).mono ?_
          rintro e w8 ⟨rfl, hbw8⟩
          replace p0 := Keeps.below hbw8 _ _ p0
          replace p1 := Keeps.below hbw8 _ _ p1
          replace q0 := Keeps.below hbw8 _ _ q0
          replace q1 := Keeps.below hbw8 _ _ q1
          replace x0 := Keeps.below hbw8 _ _ x0
          replace x1 := Keeps.below hbw8 _ _ x1
          replace x2 := Keeps.below hbw8 _ _ x2
          have HBw8 := Lib.hid (HBw7.out.trans (hbw8.mono HBw7.out.size))
          clear hbw8
          go_wp2_with fail
          refine (HCD.out 1680 (by omega) (by omega) _).mono ?_
          rintro e w9 ⟨rfl, rfl⟩
          go_wp2_with fail
          go_ret
          exact ⟨ret_int (by rw [HM.out, hbb]; simp [takesF, hdd]), HBw8.out⟩
        · have hdd : ¬ d % 2 = 1 := hd
          have hdb : (d % 2 == 1) = false := by simpa using hd
          go_wp2_with fail
          refine (HLE.out _).mono ?_
          rintro e w8 ⟨rfl, hbw8⟩
          replace p0 := Keeps.below hbw8 _ _ p0
          replace p1 := Keeps.below hbw8 _ _ p1
          replace q0 := Keeps.below hbw8 _ _ q0
          replace q1 := Keeps.below hbw8 _ _ q1
          replace x0 := Keeps.below hbw8 _ _ x0
          replace x1 := Keeps.below hbw8 _ _ x1
          replace x2 := Keeps.below hbw8 _ _ x2
          have HBw8 := Lib.hid (HBw7.out.trans (hbw8.mono HBw7.out.size))
          clear hbw8
          go_wp2_with fail
          refine (HCD.out 1200 (by omega) (by omega) _).mono ?_
          rintro e w9 ⟨rfl, rfl⟩
          go_wp2_with fail
          go_ret
          exact ⟨ret_int (by rw [HM.out, hbb]; simp [takesF, hdd]), HBw8.out⟩
end Go.Proofs.Ytpaamhkgokkgpaa

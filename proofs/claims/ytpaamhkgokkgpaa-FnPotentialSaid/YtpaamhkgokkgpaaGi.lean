/- Walks: moves of the laws (chapter 32). -/
import Derived.Test.YtpaamhkgokkgpaaGg
namespace Go.Proofs.Ytpaamhkgokkgpaa
open Go.RowKit
set_option linter.unusedVariables false
set_option maxRecDepth 100000

/-- What a move takes, or 0. -/
def moveV (W H : Int) (xs : List (Int × Int)) (cell d : Int) : Int := if moveB W H xs cell d = true then takeF xs cell d else 0
set_option maxHeartbeats 8000000 in
theorem l32Time_any (W H : Int) (A : Option Addr) (n c : Nat) (xs : List (Int × Int)) (cell d : Int) (hg : GridOk W H xs) (c1 : 0 ≤ cell) (c2 : cell < W * H) (d1 : 0 ≤ d) (d2 : d ≤ 7) (w : World) (h : Rd w 2 A n (winds xs)) :
    Calls Try.prog 59 #[.agg #[.int .i64 W, .int .i64 H, .slice A n c], .int .i64 cell, .int .i64 d] w fun e w' => e = .returned (.tuple #[.int .i64 (moveV W H xs cell d), .bool (moveB W H xs cell d)]) ∧ Below w.heap.size w w' := by
  obtain ⟨k, rfl⟩ := int_up cell c1
  have hkn : k < n := by have := h.len_wind; have := hg.len; omega
  obtain ⟨b, o, x, y, rfl, hx, _, hc1, hc2⟩ := h.wind hkn
  have hwv := hg.all _ (List.mem_of_getElem? hx)
  have hwa := windAt_get hx
  obtain ⟨g1, g2, g3, g4, g5⟩ := windB_bd hwv
  obtain ⟨b1, b2, b3, b4⟩ := headF_bd d
  have hblt := cell_lt hc1
  simp only at hblt
  have hle := h.le
  have HNB := Lib.hid (fun w => specNb_any W H (some ⟨b, o, none⟩) n c k d hg.w1 hg.w2 hg.h1 hg.h2 c1 c2 d1 d2 w)
  have HHD := Lib.hid (fun w => specHeadX_any d d1 d2 w)
  have hsm : Small x y (headF d).1 (headF d).2 := ⟨g1, g2, g3, g4, b1, b2, b3, b4⟩
  have HSA := Lib.hid (fun w => l08Sail_any x y _ _ hsm w)
  have HTA := Lib.hid (fun w => l08Tack_any x y _ _ hsm w)
  obtain ⟨i1, i2, i3, i4⟩ := isq_bd hwv
  have HRT := Lib.hid (fun w => specRoot_any (x * x + y * y) i1 i2 w)
  have hm1 : moveB W H xs k d = (nbB W H k d && !(sailF x y (headF d).1 (headF d).2 == 1 && tackF x y (headF d).1 (headF d).2 == 0)) := by
    unfold moveB sailAt tackAt
    rw [hwa]
  have hm2 : moveV W H xs k d = if moveB W H xs k d = true then ceilF (60 * takesF d (sailF x y (headF d).1 (headF d).2)) (isq (x * x + y * y)) else 0 := by
    unfold moveV takeF sailAt lenAt
    rw [hwa]
  have hx0 : 0 ≤ x * x := by by_cases h : 0 ≤ x; exact Int.mul_nonneg h h; have h0 := Int.mul_nonneg (show 0 ≤ -x by omega) (show 0 ≤ -x by omega); rwa [Int.neg_mul_neg] at h0
  have hy0 : 0 ≤ y * y := by by_cases h : 0 ≤ y; exact Int.mul_nonneg h h; have h0 := Int.mul_nonneg (show 0 ≤ -y by omega) (show 0 ≤ -y by omega); rwa [Int.neg_mul_neg] at h0
  have hx1 : x * x ≤ 2000000 := by omega
  have hy1 : y * y ≤ 2000000 := by omega
  unfold headV New3 at HHD
  generalize (headF d).1 = hx' at *
  generalize (headF d).2 = hy' at *
  have hsc := sailF_cases x y hx' hy'
  generalize sailF x y hx' hy' = s at *
  generalize tackF x y hx' hy' = t at *
  generalize isq (x * x + y * y) = l at *
  generalize moveB W H xs k d = mb at *
  generalize moveV W H xs k d = mv at *
  generalize nbV W H k d = nf at *
  have hcb : ∀ a : Int, 0 ≤ a → a ≤ 2520 → (a + l - 1).tdiv l = ceilF a l ∧ 0 ≤ ceilF a l ∧ ceilF a l ≤ 2520 := by
    intro a a0 a1
    refine ⟨Int.tdiv_eq_ediv_of_nonneg (by omega), ?_⟩
    rw [ceil_eq a0 i3]
    have r3 := Int.ediv_nonneg a0 (show 0 ≤ l by omega)
    have r4 := Int.ediv_le_self l a0
    by_cases ha : a % l = 0
    · rw [if_pos ha]; omega
    · rw [if_neg ha]
      have h5 := Int.mul_ediv_add_emod a l
      have h6 := Int.emod_nonneg a (show l ≠ 0 by omega)
      have h7 : 1 * (a / l) ≤ l * (a / l) := Int.mul_le_mul_of_nonneg_right i3 r3
      omega
  have HCB := Lib.hid hcb
  have HM1 := Lib.hid hm1
  have HM2 := Lib.hid hm2
  have hblt' := hblt
  clear hm1 hm2 hwa hsm hx hwv h hg c1 c2 g5 hcb
  cases hbb : nbB W H k d with
  | false =>
    rw [hbb] at HNB
    have HBX := Lib.hid (show ∀ o, Below w.heap.size w (w.alloc o) from fun o => (Below.refl _ _).alloc (Nat.le_refl _) o)
    go_enter Try.func59, Try.ntmps59
    go_wp2_with fail
    refine (HNB.out _).mono ?_
    rintro e wb ⟨rfl, hbn⟩
    obtain ⟨c0, c1, c2, hsz, hb0⟩ := box3 hbn
    have HB0 := Lib.hid hb0
    clear hb0 hbn c0 c1 c2
    go_wp2_with fail
    go_ret2
    refine ⟨?_, HB0.out⟩
    have hmb : mb = false := by rw [HM1.out, hbb]; rfl
    have hmv : mv = 0 := by rw [HM2.out, hmb]; rfl
    rw [hmb, hmv]
    rfl
  | true =>
    rw [hbb] at HNB
    have HBX := Lib.hid (show ∀ o, Below w.heap.size w (w.alloc o) from fun o => (Below.refl _ _).alloc (Nat.le_refl _) o)
    go_enter Try.func59, Try.ntmps59
    go_wp2_with fail
    refine (HNB.out _).mono ?_
    rintro e wb ⟨rfl, hbn⟩
    obtain ⟨c0, c1, c2, hsz, hb0⟩ := box3 hbn
    clear hbn
    have c3 : wb.cell? ⟨b, o + k * 2, none⟩ = some (.int .i64 x) := (hb0.cell (p := ⟨b, o + k * 2, none⟩) hblt).trans hc1
    have c4 : wb.cell? ⟨b, o + k * 2 + 1, none⟩ = some (.int .i64 y) := (hb0.cell (p := ⟨b, o + k * 2 + 1, none⟩) hblt).trans hc2
    clear hc1 hc2 hblt'
    have hk0 : (0 : Int) ≤ k := by omega
    have hkn' : (k : Int) < n := by omega
    have hbw : b < wb.heap.size := by omega
    have nb0 : b < wb.heap.size := by omega
    have mb0 : b ≤ wb.heap.size := by omega
    have nw0 : w.heap.size < wb.heap.size := by omega
    have mw0 : w.heap.size ≤ wb.heap.size := by omega
    have nb1 : b < wb.heap.size + 1 := by omega
    have mb1 : b ≤ wb.heap.size + 1 := by omega
    have nw1 : w.heap.size < wb.heap.size + 1 := by omega
    have mw1 : w.heap.size ≤ wb.heap.size + 1 := by omega
    have nb2 : b < wb.heap.size + 1 + 1 := by omega
    have mb2 : b ≤ wb.heap.size + 1 + 1 := by omega
    have nw2 : w.heap.size < wb.heap.size + 1 + 1 := by omega
    have mw2 : w.heap.size ≤ wb.heap.size + 1 + 1 := by omega
    have nb3 : b < wb.heap.size + 1 + 1 + 1 := by omega
    have mb3 : b ≤ wb.heap.size + 1 + 1 + 1 := by omega
    have nw3 : w.heap.size < wb.heap.size + 1 + 1 + 1 := by omega
    have mw3 : w.heap.size ≤ wb.heap.size + 1 + 1 + 1 := by omega
    have nb4 : b < wb.heap.size + 1 + 1 + 1 + 1 := by omega
    have mb4 : b ≤ wb.heap.size + 1 + 1 + 1 + 1 := by omega
    have nw4 : w.heap.size < wb.heap.size + 1 + 1 + 1 + 1 := by omega
    have mw4 : w.heap.size ≤ wb.heap.size + 1 + 1 + 1 + 1 := by omega
    have nb5 : b < wb.heap.size + 1 + 1 + 1 + 1 + 1 := by omega
    have mb5 : b ≤ wb.heap.size + 1 + 1 + 1 + 1 + 1 := by omega
    have nw5 : w.heap.size < wb.heap.size + 1 + 1 + 1 + 1 + 1 := by omega
    have mw5 : w.heap.size ≤ wb.heap.size + 1 + 1 + 1 + 1 + 1 := by omega
    go_wp2_with fail
    go_cut [10, 11] (fun s7 s8 wx => ∃ gw gh : Nat, s7 = .pointer (some ⟨gw, 0, none⟩) ∧ s8 = .pointer (some ⟨gh, 0, none⟩) ∧ wx.cell? ⟨gw, 0, none⟩ = some (.int .i64 x) ∧ wx.cell? ⟨gw, 1, none⟩ = some (.int .i64 y) ∧ wx.cell? ⟨gh, 0, none⟩ = some (.int .i64 hx') ∧ wx.cell? ⟨gh, 1, none⟩ = some (.int .i64 hy') ∧ gw < wx.heap.size ∧ gh < wx.heap.size ∧ Below wb.heap.size wb wx)
    case first =>
      go_region_with ((go_at_call 77; refine (HHD.out _).mono ?_; rintro e wq ⟨rfl, o1, o2, o3, rfl⟩))
      all_goals
        go_wp2_with fail
        go_meet
        refine ⟨_, _, rfl, rfl, ?_, ?_, ?_, ?_, ?_, ?_, ?_⟩
        · simp [go_sem]
        · simp [go_sem]
        · simp [go_sem]
        · simp [go_sem]
        · simp <;> omega
        · simp <;> omega
        · repeat (first | exact Below.refl _ _ | refine below_drewN ?_ 1 | refine Below.alloc ?_ (by simp <;> omega) _)
    case rest =>
      obtain ⟨gw, gh, rfl, rfl, p0, p1, q0, q1, hgw, hgh, hbc⟩ := hcut
      have x0 := (hbc.cell (p := ⟨w.heap.size, 0, none⟩) hsz).trans c0
      have x1 := (hbc.cell (p := ⟨w.heap.size, 1, none⟩) hsz).trans c1
      have x2 := (hbc.cell (p := ⟨w.heap.size, 2, none⟩) hsz).trans c2
      have HBwc := Lib.hid (hb0.trans (hbc.mono hb0.size))
      clear hbc hb0 hsz c0 c1 c2 c3 c4 hgw hgh hblt hbw nb0 mb0 nw0 mw0 nb1 mb1 nw1 mw1 nb2 mb2 nw2 mw2 nb3 mb3 nw3 mw3 nb4 mb4 nw4 mw4 nb5 mb5 nw5 mw5
      by_cases hd : d % 2 = 1
      · skip
        have hdd : d % 2 = 1 := hd
        go_wp2_with fail
        refine (HSA.out _).mono ?_
        rintro e w5 ⟨rfl, hbw5⟩
        replace p0 := Keeps.below hbw5 _ _ p0
        replace p1 := Keeps.below hbw5 _ _ p1
        replace q0 := Keeps.below hbw5 _ _ q0
        replace q1 := Keeps.below hbw5 _ _ q1
        replace x0 := Keeps.below hbw5 _ _ x0
        replace x1 := Keeps.below hbw5 _ _ x1
        replace x2 := Keeps.below hbw5 _ _ x2
        have HBw5 := Lib.hid (HBwc.out.trans (hbw5.mono HBwc.out.size))
        clear hbw5
        rcases hsc with rfl | rfl | rfl
        · by_cases ht : t = 0
          · subst ht
            go_wp2_with fail
            refine (HTA.out _).mono ?_
            rintro e w6 ⟨rfl, hbw6⟩
            replace p0 := Keeps.below hbw6 _ _ p0
            replace p1 := Keeps.below hbw6 _ _ p1
            replace q0 := Keeps.below hbw6 _ _ q0
            replace q1 := Keeps.below hbw6 _ _ q1
            replace x0 := Keeps.below hbw6 _ _ x0
            replace x1 := Keeps.below hbw6 _ _ x1
            replace x2 := Keeps.below hbw6 _ _ x2
            have HBw6 := Lib.hid (HBw5.out.trans (hbw6.mono HBw5.out.size))
            clear hbw6
            go_wp2_with fail
            go_ret2
            refine ⟨?_, HBw6.out⟩
            have hmb : mb = false := by rw [HM1.out, hbb]; rfl
            have hmv : mv = 0 := by rw [HM2.out, hmb]; rfl
            rw [hmb, hmv]
            rfl
          · have ht2 : (t == 0) = false := by simpa using ht
            go_wp2_with fail
            refine (HTA.out _).mono ?_
            rintro e w6 ⟨rfl, hbw6⟩
            replace p0 := Keeps.below hbw6 _ _ p0
            replace p1 := Keeps.below hbw6 _ _ p1
            replace q0 := Keeps.below hbw6 _ _ q0
            replace q1 := Keeps.below hbw6 _ _ q1
            replace x0 := Keeps.below hbw6 _ _ x0
            replace x1 := Keeps.below hbw6 _ _ x1
            replace x2 := Keeps.below hbw6 _ _ x2
            have HBw6 := Lib.hid (HBw5.out.trans (hbw6.mono HBw5.out.size))
            clear hbw6
            have hq := HCB.out 2520 (by omega) (by omega)
            obtain ⟨hq1, hq2, hq3⟩ := hq
            have hmb : mb = true := by rw [HM1.out, hbb]; simp [ht]
            have hmv : mv = ceilF 2520 l := by rw [HM2.out, hmb]; simp [takesF, hdd]
            have HMB := Lib.hid hmb
            have HMV := Lib.hid hmv
            clear hmb hmv
            generalize ceilF 2520 l = cv at *
            have hq4 : IntKind.i64.wrap cv = cv := IntWalk.i64_in _ (by omega)
            go_wp2_with fail
            refine (HRT.out _).mono ?_
            rintro e w9 ⟨rfl, rfl⟩
            go_wp2_with fail
            go_ret2
            refine ⟨?_, HBw6.out⟩
            rw [HMB.out, HMV.out]
            rfl
        · skip
          have hq := HCB.out 840 (by omega) (by omega)
          obtain ⟨hq1, hq2, hq3⟩ := hq
          have hmb : mb = true := by rw [HM1.out, hbb]; simp
          have hmv : mv = ceilF 840 l := by rw [HM2.out, hmb]; simp [takesF, hdd]
          have HMB := Lib.hid hmb
          have HMV := Lib.hid hmv
          clear hmb hmv
          generalize ceilF 840 l = cv at *
          have hq4 : IntKind.i64.wrap cv = cv := IntWalk.i64_in _ (by omega)
          go_wp2_with fail
          refine (HRT.out _).mono ?_
          rintro e w9 ⟨rfl, rfl⟩
          go_wp2_with fail
          go_ret2
          refine ⟨?_, HBw5.out⟩
          rw [HMB.out, HMV.out]
          rfl
        · skip
          have hq := HCB.out 1680 (by omega) (by omega)
          obtain ⟨hq1, hq2, hq3⟩ := hq
          have hmb : mb = true := by rw [HM1.out, hbb]; simp
          have hmv : mv = ceilF 1680 l := by rw [HM2.out, hmb]; simp [takesF, hdd]
          have HMB := Lib.hid hmb
          have HMV := Lib.hid hmv
          clear hmb hmv
          generalize ceilF 1680 l = cv at *
          have hq4 : IntKind.i64.wrap cv = cv := IntWalk.i64_in _ (by omega)
          go_wp2_with fail
          refine (HRT.out _).mono ?_
          rintro e w9 ⟨rfl, rfl⟩
          go_wp2_with fail
          go_ret2
          refine ⟨?_, HBw5.out⟩
          rw [HMB.out, HMV.out]
          rfl
      · skip
        have hdd : ¬ d % 2 = 1 := hd
        have hdb : (d % 2 == 1) = false := by simpa using hd
        go_wp2_with fail
        refine (HSA.out _).mono ?_
        rintro e w5 ⟨rfl, hbw5⟩
        replace p0 := Keeps.below hbw5 _ _ p0
        replace p1 := Keeps.below hbw5 _ _ p1
        replace q0 := Keeps.below hbw5 _ _ q0
        replace q1 := Keeps.below hbw5 _ _ q1
        replace x0 := Keeps.below hbw5 _ _ x0
        replace x1 := Keeps.below hbw5 _ _ x1
        replace x2 := Keeps.below hbw5 _ _ x2
        have HBw5 := Lib.hid (HBwc.out.trans (hbw5.mono HBwc.out.size))
        clear hbw5
        rcases hsc with rfl | rfl | rfl
        · by_cases ht : t = 0
          · subst ht
            go_wp2_with fail
            refine (HTA.out _).mono ?_
            rintro e w6 ⟨rfl, hbw6⟩
            replace p0 := Keeps.below hbw6 _ _ p0
            replace p1 := Keeps.below hbw6 _ _ p1
            replace q0 := Keeps.below hbw6 _ _ q0
            replace q1 := Keeps.below hbw6 _ _ q1
            replace x0 := Keeps.below hbw6 _ _ x0
            replace x1 := Keeps.below hbw6 _ _ x1
            replace x2 := Keeps.below hbw6 _ _ x2
            have HBw6 := Lib.hid (HBw5.out.trans (hbw6.mono HBw5.out.size))
            clear hbw6
            go_wp2_with fail
            go_ret2
            refine ⟨?_, HBw6.out⟩
            have hmb : mb = false := by rw [HM1.out, hbb]; rfl
            have hmv : mv = 0 := by rw [HM2.out, hmb]; rfl
            rw [hmb, hmv]
            rfl
          · have ht2 : (t == 0) = false := by simpa using ht
            go_wp2_with fail
            refine (HTA.out _).mono ?_
            rintro e w6 ⟨rfl, hbw6⟩
            replace p0 := Keeps.below hbw6 _ _ p0
            replace p1 := Keeps.below hbw6 _ _ p1
            replace q0 := Keeps.below hbw6 _ _ q0
            replace q1 := Keeps.below hbw6 _ _ q1
            replace x0 := Keeps.below hbw6 _ _ x0
            replace x1 := Keeps.below hbw6 _ _ x1
            replace x2 := Keeps.below hbw6 _ _ x2
            have HBw6 := Lib.hid (HBw5.out.trans (hbw6.mono HBw5.out.size))
            clear hbw6
            have hq := HCB.out 1800 (by omega) (by omega)
            obtain ⟨hq1, hq2, hq3⟩ := hq
            have hmb : mb = true := by rw [HM1.out, hbb]; simp [ht]
            have hmv : mv = ceilF 1800 l := by rw [HM2.out, hmb]; simp [takesF, hdd]
            have HMB := Lib.hid hmb
            have HMV := Lib.hid hmv
            clear hmb hmv
            generalize ceilF 1800 l = cv at *
            have hq4 : IntKind.i64.wrap cv = cv := IntWalk.i64_in _ (by omega)
            go_wp2_with fail
            refine (HRT.out _).mono ?_
            rintro e w9 ⟨rfl, rfl⟩
            go_wp2_with fail
            go_ret2
            refine ⟨?_, HBw6.out⟩
            rw [HMB.out, HMV.out]
            rfl
        · skip
          have hq := HCB.out 600 (by omega) (by omega)
          obtain ⟨hq1, hq2, hq3⟩ := hq
          have hmb : mb = true := by rw [HM1.out, hbb]; simp
          have hmv : mv = ceilF 600 l := by rw [HM2.out, hmb]; simp [takesF, hdd]
          have HMB := Lib.hid hmb
          have HMV := Lib.hid hmv
          clear hmb hmv
          generalize ceilF 600 l = cv at *
          have hq4 : IntKind.i64.wrap cv = cv := IntWalk.i64_in _ (by omega)
          go_wp2_with fail
          refine (HRT.out _).mono ?_
          rintro e w9 ⟨rfl, rfl⟩
          go_wp2_with fail
          go_ret2
          refine ⟨?_, HBw5.out⟩
          rw [HMB.out, HMV.out]
          rfl
        · skip
          have hq := HCB.out 1200 (by omega) (by omega)
          obtain ⟨hq1, hq2, hq3⟩ := hq
          have hmb : mb = true := by rw [HM1.out, hbb]; simp
          have hmv : mv = ceilF 1200 l := by rw [HM2.out, hmb]; simp [takesF, hdd]
          have HMB := Lib.hid hmb
          have HMV := Lib.hid hmv
          clear hmb hmv
          generalize ceilF 1200 l = cv at *
          have hq4 : IntKind.i64.wrap cv = cv := IntWalk.i64_in _ (by omega)
          go_wp2_with fail
          refine (HRT.out _).mono ?_
          rintro e w9 ⟨rfl, rfl⟩
          go_wp2_with fail
          go_ret2
          refine ⟨?_, HBw5.out⟩
          rw [HMB.out, HMV.out]
          rfl
end Go.Proofs.Ytpaamhkgokkgpaa

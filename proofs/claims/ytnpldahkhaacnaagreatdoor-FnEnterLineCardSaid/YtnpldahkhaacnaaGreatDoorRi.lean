/- Walks: valid registers (chapter 33), both sides. -/
import Derived.Test.YtnpldahkhaacnaaGreatDoorRg
import Derived.Test.YtnpldahkhaacnaaGreatDoorZmd
import Derived.Test.YtnpldahkhaacnaaGreatDoorZmc
import Derived.Test.YtnpldahkhaacnaaGreatDoorZma
import Derived.Test.YtnpldahkhaacnaaGreatDoorCf
import Derived.Lib.QuietBelow
namespace Go.Proofs.YtnpldahkhaacnaaGreatDoor
open Go.RowKit Go.Sort
set_option linter.unusedVariables false
set_option maxRecDepth 100000

theorem Rd.takeE {w : World} {b o n : Nat} {xs : List EntryT} (h : Rd w 7 (some ⟨b, o, none⟩) n (ents xs)) (k : Nat) (hk : k ≤ n) : Rd w 7 (some ⟨b, o, none⟩) k (ents (xs.take k)) := by
  have hl := h.len_ent
  have hle := h.le
  have he : ents xs = ents (xs.take k) ++ ents (xs.drop k) := by unfold ents; rw [← List.flatMap_append, List.take_append_drop]
  refine ⟨by unfold ents; rw [flat_len entC_len, List.length_take]; rw [Nat.min_eq_left (by omega)], by omega, fun hn => ⟨b, o, rfl, fun i u hu => ?_⟩⟩
  obtain ⟨b', o', e, hc⟩ := h.pos (by omega)
  injection e with e
  injection e with e1 e2
  subst e1 e2
  refine hc i u ?_
  rw [he, List.getElem?_append_left (List.getElem?_eq_some_iff.1 hu).1]
  exact hu
theorem hasB_cons (y x : EntryT) (r : List EntryT) : hasB (y :: r) x = (sameB y x || hasB r x) := rfl
theorem isScheme_lit {n : Int} {r : Bool} (h : withinB n 0 1 = r) (w : World) : Calls Tryz.prog 52 #[.int .i64 n] w fun e w' => e = .returned (.bool r) ∧ w = w' := by
  subst h
  go_enter Tryz.func52, Tryz.ntmps52
  go_wp2_with (go_at_call 30; refine (within_any _ _ _ _).mono ?_; rintro e w' ⟨rfl, rfl⟩)
  go_ret
  exact ⟨rfl, rfl⟩
set_option maxHeartbeats 4000000 in
theorem l33Has_any (A : Option Addr) (n c : Nat) (xs : List EntryT) (x0 x1 x2 x3 x4 x5 x6 : Int) (w : World) (h : Rd w 7 A n (ents xs)) :
    Calls Tryz.prog 233 #[.slice A n c, .agg #[.int .i64 x0, .int .i64 x1, .int .i64 x2, .int .i64 x3, .int .i64 x4, .int .i64 x5, .int .i64 x6]] w fun e w' => e = .returned (.bool (hasB xs (x0, x1, x2, x3, x4, x5, x6))) ∧ Below w.heap.size w w' := by
  have HN := Lib.hid h.len_ent
  obtain ⟨w1, hw1, X0, hb1, hs1⟩ := one_box w #[.int .i64 x0, .int .i64 x1, .int .i64 x2, .int .i64 x3, .int .i64 x4, .int .i64 x5, .int .i64 x6] 25
  have HB1 := Lib.hid hb1
  have HX1 := Lib.hid X0
  have HRD := Lib.hid (fun w' (hb : Below w.heap.size w w') => h.below hb)
  have hn := h.le
  clear h hb1 X0
  go_enter Tryz.func233, Tryz.ntmps233
  go_wp2_with fail
  rw [← hw1]
  clear hw1
  go_loopw [5] (fun i wr => ∃ k : Nat, k ≤ n ∧ i = .int .i64 k ∧ Hid (hasB (xs.drop k) (x0, x1, x2, x3, x4, x5, x6) = hasB xs (x0, x1, x2, x3, x4, x5, x6)) ∧ Hid (Box wr w.heap.size #[.int .i64 x0, .int .i64 x1, .int .i64 x2, .int .i64 x3, .int .i64 x4, .int .i64 x5, .int .i64 x6] 25) ∧ Hid (Below w.heap.size w wr)) (fun i _ => n - (intOf i).toNat)
  case atStart => exact ⟨0, Nat.zero_le _, rfl, Lib.hid rfl, HX1, HB1⟩
  case round =>
    clear HX1 HB1
    obtain ⟨k, hk, rfl, HR, HX, HB⟩ := hrel
    obtain ⟨wo, hwo⟩ : ∃ wo : World, wo = wr := ⟨_, rfl⟩
    subst hwo
    by_cases hlt : k < n
    · obtain ⟨b, o, y0, y1, y2, y3, y4, y5, y6, rfl, hx, hd, hc0, hc1, hc2, hc3, hc4, hc5, hc6⟩ := (HRD.out _ HB.out).ent hlt
      have HD := Lib.hid hd
      clear hx hd hc3 hc4 hc5 hc6
      go_wp2_with fail
      by_cases e0 : x0 = y0
      · subst e0
        by_cases e1 : x1 = y1
        · subst e1
          by_cases e2 : x2 = y2
          · subst e2
            have HS := Lib.hid (show sameB (x0, x1, x2, y3, y4, y5, y6) (x0, x1, x2, x3, x4, x5, x6) = true from sameB_iff.2 ⟨rfl, rfl, rfl⟩)
            have kq0 := cell_regrown (HX.out.cell (i := 0) rfl)
            have kq1 := cell_regrown (HX.out.cell (i := 1) rfl)
            have kq2 := cell_regrown (HX.out.cell (i := 2) rfl)
            have kq3 := cell_regrown (hc0)
            have kq4 := cell_regrown (hc1)
            have kq5 := cell_regrown (hc2)
            refine wp_region_quiet_below (by kernel_rfl) (by kernel_rfl) ?_
            repeat (first | go_big_quiet_step ((fail)) | quiet_step ((fail)))
            refine wpQuiet_nil ?_
            intro _ hw'
            obtain ⟨⟨dq, osq⟩, hw''⟩ := hw'
            subst hw''
            obtain ⟨wq, hq0, hq⟩ : ∃ wnew, wnew = grow (redrawn wo dq) osq ∧ Below wo.heap.size wo wnew := ⟨_, rfl, below_regrown _ _ _⟩
            rw [← hq0]
            clear hq0 kq0 kq1 kq2 kq3 kq4 kq5
            have HBQ := Lib.hid (HB.out.trans (hq.mono HB.out.size))
            have HXQ := Lib.hid (HX.out.below hq)
            clear hq
            go_wp2_with fail
            go_ret
            exact ⟨ret_bool (by rw [← HR.out, HD.out, hasB_cons, HS.out]; rfl), HBQ.out⟩
          · have h2 : (y2 == x2) = false := by simp; exact fun e => e2 e.symm
            have HS := Lib.hid (show sameB (x0, x1, y2, y3, y4, y5, y6) (x0, x1, x2, x3, x4, x5, x6) = false from by unfold sameB; simp [h2])
            clear e2
            have kq0 := cell_regrown (HX.out.cell (i := 0) rfl)
            have kq1 := cell_regrown (HX.out.cell (i := 1) rfl)
            have kq2 := cell_regrown (HX.out.cell (i := 2) rfl)
            have kq3 := cell_regrown (hc0)
            have kq4 := cell_regrown (hc1)
            have kq5 := cell_regrown (hc2)
            refine wp_region_quiet_below (by kernel_rfl) (by kernel_rfl) ?_
            repeat (first | go_big_quiet_step ((fail)) | quiet_step ((fail)))
            refine wpQuiet_nil ?_
            intro _ hw'
            obtain ⟨⟨dq, osq⟩, hw''⟩ := hw'
            subst hw''
            obtain ⟨wq, hq0, hq⟩ : ∃ wnew, wnew = grow (redrawn wo dq) osq ∧ Below wo.heap.size wo wnew := ⟨_, rfl, below_regrown _ _ _⟩
            rw [← hq0]
            clear hq0 kq0 kq1 kq2 kq3 kq4 kq5
            have HBQ := Lib.hid (HB.out.trans (hq.mono HB.out.size))
            have HXQ := Lib.hid (HX.out.below hq)
            clear hq
            go_wp2_with fail
            go_roundw
            case rel => exact ⟨k + 1, by omega, by go_num, Lib.hid (by rw [← HR.out, HD.out, hasB_cons, HS.out]; rfl), HXQ, HBQ⟩
            case measure => simp [intOf] <;> omega
        · have h1 : (y1 == x1) = false := by simp; exact fun e => e1 e.symm
          have HS := Lib.hid (show sameB (x0, y1, y2, y3, y4, y5, y6) (x0, x1, x2, x3, x4, x5, x6) = false from by unfold sameB; simp [h1])
          clear e1
          have kq0 := cell_regrown (HX.out.cell (i := 0) rfl)
          have kq1 := cell_regrown (HX.out.cell (i := 1) rfl)
          have kq2 := cell_regrown (HX.out.cell (i := 2) rfl)
          have kq3 := cell_regrown (hc0)
          have kq4 := cell_regrown (hc1)
          have kq5 := cell_regrown (hc2)
          refine wp_region_quiet_below (by kernel_rfl) (by kernel_rfl) ?_
          repeat (first | go_big_quiet_step ((fail)) | quiet_step ((fail)))
          refine wpQuiet_nil ?_
          intro _ hw'
          obtain ⟨⟨dq, osq⟩, hw''⟩ := hw'
          subst hw''
          obtain ⟨wq, hq0, hq⟩ : ∃ wnew, wnew = grow (redrawn wo dq) osq ∧ Below wo.heap.size wo wnew := ⟨_, rfl, below_regrown _ _ _⟩
          rw [← hq0]
          clear hq0 kq0 kq1 kq2 kq3 kq4 kq5
          have HBQ := Lib.hid (HB.out.trans (hq.mono HB.out.size))
          have HXQ := Lib.hid (HX.out.below hq)
          clear hq
          go_wp2_with fail
          go_roundw
          case rel => exact ⟨k + 1, by omega, by go_num, Lib.hid (by rw [← HR.out, HD.out, hasB_cons, HS.out]; rfl), HXQ, HBQ⟩
          case measure => simp [intOf] <;> omega
      · have h0 : (y0 == x0) = false := by simp; exact fun e => e0 e.symm
        have HS := Lib.hid (show sameB (y0, y1, y2, y3, y4, y5, y6) (x0, x1, x2, x3, x4, x5, x6) = false from by unfold sameB; simp [h0])
        clear e0
        have kq0 := cell_regrown (HX.out.cell (i := 0) rfl)
        have kq1 := cell_regrown (HX.out.cell (i := 1) rfl)
        have kq2 := cell_regrown (HX.out.cell (i := 2) rfl)
        have kq3 := cell_regrown (hc0)
        have kq4 := cell_regrown (hc1)
        have kq5 := cell_regrown (hc2)
        refine wp_region_quiet_below (by kernel_rfl) (by kernel_rfl) ?_
        repeat (first | go_big_quiet_step ((fail)) | quiet_step ((fail)))
        refine wpQuiet_nil ?_
        intro _ hw'
        obtain ⟨⟨dq, osq⟩, hw''⟩ := hw'
        subst hw''
        obtain ⟨wq, hq0, hq⟩ : ∃ wnew, wnew = grow (redrawn wo dq) osq ∧ Below wo.heap.size wo wnew := ⟨_, rfl, below_regrown _ _ _⟩
        rw [← hq0]
        clear hq0 kq0 kq1 kq2 kq3 kq4 kq5
        have HBQ := Lib.hid (HB.out.trans (hq.mono HB.out.size))
        have HXQ := Lib.hid (HX.out.below hq)
        clear hq
        go_wp2_with fail
        go_roundw
        case rel => exact ⟨k + 1, by omega, by go_num, Lib.hid (by rw [← HR.out, HD.out, hasB_cons, HS.out]; rfl), HXQ, HBQ⟩
        case measure => simp [intOf] <;> omega
    · obtain rfl : k = n := by omega
      go_wp2_with fail
      go_ret
      exact ⟨ret_bool (by rw [← HR.out, List.drop_eq_nil_of_le (by rw [HN.out]; exact Nat.le_refl _)]; rfl), HB.out⟩
/-- The entries of a register, read. -/
def RegRd (w : World) (A : Option Addr) (n c : Nat) (xs : List EntryT) : Prop := Rd w 7 A n (ents xs) ∧ n ≤ c
theorem RegRd.below {w w' : World} {A : Option Addr} {n c : Nat} {xs : List EntryT} (h : RegRd w A n c xs) (hb : Below w.heap.size w w') : RegRd w' A n c xs := ⟨h.1.below hb, h.2⟩
theorem l33Entry_lit {b : Int} (hb1 : 1 ≤ b) (hb2 : b ≤ 16) {x0 x1 x2 x3 x4 x5 x6 : Int} {r : Bool} (h : (entB b (x0, x1, x2, x3, x4, x5, x6) && revB x2) = r) (w : World) :
    Calls Tryz.prog 232 #[.agg #[.int .i64 x0, .int .i64 x1, .int .i64 x2, .int .i64 x3, .int .i64 x4, .int .i64 x5, .int .i64 x6], .int .i64 b] w fun e w' => e = .returned (.bool r) ∧ Below w.heap.size w w' := by
  subst h; exact l33Entry_any b hb1 hb2 x0 x1 x2 x3 x4 x5 x6 w
set_option maxHeartbeats 8000000 in
theorem specIsRegister_any (b s : Int) (A : Option Addr) (n c : Nat) (xs : List EntryT) (w : World) (hr : RegRd w A n c xs) :
    Calls Tryz.prog 160 #[.agg #[.int .i64 b, .int .i64 s, .slice A n c]] w fun e w' => e = .returned (.bool (regB b s xs)) ∧ Below w.heap.size w w' := by
  obtain ⟨h, hcp⟩ := hr
  have HN := Lib.hid h.len_ent
  obtain ⟨w1, hw1, X0, hb1, hs1⟩ := one_box w #[.int .i64 b, .int .i64 s, .slice A n c] 32
  have HB1 := Lib.hid hb1
  have HX1 := Lib.hid X0
  have HRD := Lib.hid (fun w' (hb : Below w.heap.size w w') => h.below hb)
  have hn := h.le
  have ER := Lib.hid (show regB b s xs = (withinB b 1 16 && withinB s 0 1 && decide (xs.length ≤ 400) && entsGo b [] xs) from rfl)
  clear h hb1 X0
  have F0 := HX1.out.f3
  cases h1 : withinB b 1 16 with
  | false =>
    have HW := Lib.hid (fun w => l01In_lit h1 w)
    have HS := HW
    have e1 := Lib.hid h1
    clear h1
    go_enter Tryz.func160, Tryz.ntmps160
    go_wp2_with (first | (go_at_call 34; (with_reducible refine (HW.out _).mono ?_); rintro e w' ⟨rfl, rfl⟩) | (go_at_call 34; (with_reducible refine (HS.out _).mono ?_); rintro e w' ⟨rfl, rfl⟩))
    rw [← hw1]
    go_wp2_with (first | (go_at_call 34; (with_reducible refine (HW.out _).mono ?_); rintro e w' ⟨rfl, rfl⟩) | (go_at_call 34; (with_reducible refine (HS.out _).mono ?_); rintro e w' ⟨rfl, rfl⟩))
    go_ret
    exact ⟨ret_bool (by rw [ER.out, e1.out]; rfl), HB1.out⟩
  | true =>
    have HW := Lib.hid (fun w => l01In_lit h1 w)
    have e1 := Lib.hid h1
    have hb16 := withinB_iff.1 h1
    clear h1
    cases h2 : withinB s 0 1 with
    | false =>
      have HS := Lib.hid (fun w => l01In_lit h2 w)
      have e2 := Lib.hid h2
      clear h2
      go_enter Tryz.func160, Tryz.ntmps160
      go_wp2_with (first | (go_at_call 34; (with_reducible refine (HW.out _).mono ?_); rintro e w' ⟨rfl, rfl⟩) | (go_at_call 34; (with_reducible refine (HS.out _).mono ?_); rintro e w' ⟨rfl, rfl⟩))
      rw [← hw1]
      go_wp2_with (first | (go_at_call 34; (with_reducible refine (HW.out _).mono ?_); rintro e w' ⟨rfl, rfl⟩) | (go_at_call 34; (with_reducible refine (HS.out _).mono ?_); rintro e w' ⟨rfl, rfl⟩))
      go_ret
      exact ⟨ret_bool (by rw [ER.out, e1.out, e2.out]; rfl), HB1.out⟩
    | true =>
      have HS := Lib.hid (fun w => l01In_lit h2 w)
      have e2 := Lib.hid h2
      clear h2
      by_cases h3 : n ≤ 400
      rotate_left
      · have e3 := Lib.hid (show decide (xs.length ≤ 400) = false from decide_eq_false (by rw [HN.out]; exact h3))
        go_enter Tryz.func160, Tryz.ntmps160
        go_wp2_with (first | (go_at_call 34; (with_reducible refine (HW.out _).mono ?_); rintro e w' ⟨rfl, rfl⟩) | (go_at_call 34; (with_reducible refine (HS.out _).mono ?_); rintro e w' ⟨rfl, rfl⟩))
        rw [← hw1]
        go_wp2_with (first | (go_at_call 34; (with_reducible refine (HW.out _).mono ?_); rintro e w' ⟨rfl, rfl⟩) | (go_at_call 34; (with_reducible refine (HS.out _).mono ?_); rintro e w' ⟨rfl, rfl⟩))
        go_ret
        exact ⟨ret_bool (by rw [ER.out, e1.out, e2.out, e3.out]; rfl), HB1.out⟩
      have e3 := Lib.hid (show decide (xs.length ≤ 400) = true from decide_eq_true (by rw [HN.out]; exact h3))
      go_enter Tryz.func160, Tryz.ntmps160
      go_wp2_with (first | (go_at_call 34; (with_reducible refine (HW.out _).mono ?_); rintro e w' ⟨rfl, rfl⟩) | (go_at_call 34; (with_reducible refine (HS.out _).mono ?_); rintro e w' ⟨rfl, rfl⟩))
      rw [← hw1]
      clear hw1
      go_wp2_with (first | (go_at_call 34; (with_reducible refine (HW.out _).mono ?_); rintro e w' ⟨rfl, rfl⟩) | (go_at_call 34; (with_reducible refine (HS.out _).mono ?_); rintro e w' ⟨rfl, rfl⟩))
      go_loopw [3] (fun i wr => ∃ k : Nat, k ≤ n ∧ i = .int .i64 k ∧ Hid (entsGo b (xs.take k) (xs.drop k) = entsGo b [] xs) ∧ Hid (Box wr w.heap.size #[.int .i64 b, .int .i64 s, .slice A n c] 32) ∧ Hid (Below w.heap.size w wr)) (fun i _ => n - (intOf i).toNat)
      case atStart => exact ⟨0, Nat.zero_le _, rfl, Lib.hid (by simp), HX1, HB1⟩
      case round =>
        clear HX1 HB1 F0
        obtain ⟨k, hk, rfl, HR, HX, HB⟩ := hrel
        obtain ⟨wo, hwo⟩ : ∃ wo : World, wo = wr := ⟨_, rfl⟩
        subst hwo
        have F0 := HX.out.f3
        by_cases hlt : k < n
        · obtain ⟨b1, o1, y0, y1, y2, y3, y4, y5, y6, rfl, hx, hd, hc0, hc1, hc2, hc3, hc4, hc5, hc6⟩ := (HRD.out _ HB.out).ent hlt
          have HT := Lib.hid (show xs.take (k + 1) = xs.take k ++ [(y0, y1, y2, y3, y4, y5, y6)] from take_snoc hx)
          have HD := Lib.hid hd
          have HHc := Lib.hid (fun w' (hb : Below wo.heap.size wo w') => l33Has_any (some ⟨b1, o1, none⟩) k c (xs.take k) y0 y1 y2 y3 y4 y5 y6 w' (((HRD.out _ HB.out).takeE k (by omega)).below hb))
          have hkc : k ≤ c := by omega
          clear hx hd
          go_wp2_with fail
          cases he : (entB b (y0, y1, y2, y3, y4, y5, y6) && revB y2) with
          | false =>
            have HE := Lib.hid (fun w => l33Entry_lit hb16.1 hb16.2 he w)
            have eE := Lib.hid (show (entB b (y0, y1, y2, y3, y4, y5, y6) && revB (E.rev (y0, y1, y2, y3, y4, y5, y6))) = false from he)
            have HH := Lib.hid (fun w' (hb : Below wo.heap.size wo w') => HHc.out w' hb)
            clear he
            have kq0 := cell_regrown (F0.1)
            have kq1 := cell_regrown (F0.2.2.1)
            have kq2 := cell_regrown (hc0)
            have kq3 := cell_regrown (hc1)
            have kq4 := cell_regrown (hc2)
            have kq5 := cell_regrown (hc3)
            have kq6 := cell_regrown (hc4)
            have kq7 := cell_regrown (hc5)
            have kq8 := cell_regrown (hc6)
            refine wp_region_quiet_below (by kernel_rfl) (by kernel_rfl) ?_
            repeat (first | go_big_quiet_step ((first | (go_at_call 232; (with_reducible exact Calls.regrown_of (HE.out _))) | (go_at_call 233; (with_reducible exact Calls.regrown_of (HH.out _ (below_regrown _ _ _)))))) | quiet_step ((first | (go_at_call 232; (with_reducible exact Calls.regrown_of (HE.out _))) | (go_at_call 233; (with_reducible exact Calls.regrown_of (HH.out _ (below_regrown _ _ _)))))))
            refine wpQuiet_nil ?_
            intro _ hw'
            obtain ⟨⟨dq, osq⟩, hw''⟩ := hw'
            subst hw''
            obtain ⟨wq, hq0, hq⟩ : ∃ wnew, wnew = grow (redrawn wo dq) osq ∧ Below wo.heap.size wo wnew := ⟨_, rfl, below_regrown _ _ _⟩
            rw [← hq0]
            clear hq0 kq0 kq1 kq2 kq3 kq4 kq5 kq6 kq7 kq8
            have HBQ := Lib.hid (HB.out.trans (hq.mono HB.out.size))
            have HXQ := Lib.hid (HX.out.below hq)
            clear hq F0 hc0 hc1 hc2 hc3 hc4 hc5 hc6
            go_wp2_with fail
            go_ret
            exact ⟨ret_bool (by rw [ER.out, e1.out, e2.out, e3.out, ← HR.out, HD.out, entsGo, eE.out]; rfl), HBQ.out⟩
          | true =>
            have HE := Lib.hid (fun w => l33Entry_lit hb16.1 hb16.2 he w)
            have eE := Lib.hid (show (entB b (y0, y1, y2, y3, y4, y5, y6) && revB (E.rev (y0, y1, y2, y3, y4, y5, y6))) = true from he)
            clear he
            cases hh : hasB (xs.take k) (y0, y1, y2, y3, y4, y5, y6) with
            | true =>
              have HH := Lib.hid (fun w' (hb : Below wo.heap.size wo w') => by have := HHc.out w' hb; rw [hh] at this; exact this)
              have eH := Lib.hid hh
              clear hh
              have kq0 := cell_regrown (F0.1)
              have kq1 := cell_regrown (F0.2.2.1)
              have kq2 := cell_regrown (hc0)
              have kq3 := cell_regrown (hc1)
              have kq4 := cell_regrown (hc2)
              have kq5 := cell_regrown (hc3)
              have kq6 := cell_regrown (hc4)
              have kq7 := cell_regrown (hc5)
              have kq8 := cell_regrown (hc6)
              refine wp_region_quiet_below (by kernel_rfl) (by kernel_rfl) ?_
              repeat (first | go_big_quiet_step ((first | (go_at_call 232; (with_reducible exact Calls.regrown_of (HE.out _))) | (go_at_call 233; (with_reducible exact Calls.regrown_of (HH.out _ (below_regrown _ _ _)))))) | quiet_step ((first | (go_at_call 232; (with_reducible exact Calls.regrown_of (HE.out _))) | (go_at_call 233; (with_reducible exact Calls.regrown_of (HH.out _ (below_regrown _ _ _)))))))
              refine wpQuiet_nil ?_
              intro _ hw'
              obtain ⟨⟨dq, osq⟩, hw''⟩ := hw'
              subst hw''
              obtain ⟨wq, hq0, hq⟩ : ∃ wnew, wnew = grow (redrawn wo dq) osq ∧ Below wo.heap.size wo wnew := ⟨_, rfl, below_regrown _ _ _⟩
              rw [← hq0]
              clear hq0 kq0 kq1 kq2 kq3 kq4 kq5 kq6 kq7 kq8
              have HBQ := Lib.hid (HB.out.trans (hq.mono HB.out.size))
              have HXQ := Lib.hid (HX.out.below hq)
              clear hq F0 hc0 hc1 hc2 hc3 hc4 hc5 hc6
              go_wp2_with fail
              go_ret
              exact ⟨ret_bool (by rw [ER.out, e1.out, e2.out, e3.out, ← HR.out, HD.out, entsGo, eE.out, eH.out]; rfl), HBQ.out⟩
            | false =>
              have HH := Lib.hid (fun w' (hb : Below wo.heap.size wo w') => by have := HHc.out w' hb; rw [hh] at this; exact this)
              have eH := Lib.hid hh
              clear hh
              have kq0 := cell_regrown (F0.1)
              have kq1 := cell_regrown (F0.2.2.1)
              have kq2 := cell_regrown (hc0)
              have kq3 := cell_regrown (hc1)
              have kq4 := cell_regrown (hc2)
              have kq5 := cell_regrown (hc3)
              have kq6 := cell_regrown (hc4)
              have kq7 := cell_regrown (hc5)
              have kq8 := cell_regrown (hc6)
              refine wp_region_quiet_below (by kernel_rfl) (by kernel_rfl) ?_
              repeat (first | go_big_quiet_step ((first | (go_at_call 232; (with_reducible exact Calls.regrown_of (HE.out _))) | (go_at_call 233; (with_reducible exact Calls.regrown_of (HH.out _ (below_regrown _ _ _)))))) | quiet_step ((first | (go_at_call 232; (with_reducible exact Calls.regrown_of (HE.out _))) | (go_at_call 233; (with_reducible exact Calls.regrown_of (HH.out _ (below_regrown _ _ _)))))))
              refine wpQuiet_nil ?_
              intro _ hw'
              obtain ⟨⟨dq, osq⟩, hw''⟩ := hw'
              subst hw''
              obtain ⟨wq, hq0, hq⟩ : ∃ wnew, wnew = grow (redrawn wo dq) osq ∧ Below wo.heap.size wo wnew := ⟨_, rfl, below_regrown _ _ _⟩
              rw [← hq0]
              clear hq0 kq0 kq1 kq2 kq3 kq4 kq5 kq6 kq7 kq8
              have HBQ := Lib.hid (HB.out.trans (hq.mono HB.out.size))
              have HXQ := Lib.hid (HX.out.below hq)
              clear hq F0 hc0 hc1 hc2 hc3 hc4 hc5 hc6
              go_wp2_with fail
              go_roundw
              case rel => exact ⟨k + 1, by omega, by go_num, Lib.hid (by rw [← HR.out, HD.out, entsGo, eE.out, eH.out, HT.out]; rfl), HXQ, HBQ⟩
              case measure => simp [intOf] <;> omega
        · obtain rfl : k = n := by omega
          go_wp2_with fail
          go_ret
          exact ⟨ret_bool (by rw [ER.out, e1.out, e2.out, e3.out, ← HR.out, List.drop_eq_nil_of_le (by rw [HN.out]; exact Nat.le_refl _)]; rfl), HB.out⟩
end Go.Proofs.YtnpldahkhaacnaaGreatDoor

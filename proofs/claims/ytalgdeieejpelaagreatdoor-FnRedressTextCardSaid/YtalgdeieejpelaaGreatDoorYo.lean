/- Walks: tables of drawn series, valid or not. -/
import Derived.Test.YtalgdeieejpelaaGreatDoorYc
import Derived.Test.YtalgdeieejpelaaGreatDoorZmi
namespace Go.Proofs.YtalgdeieejpelaaGreatDoor
open Go.RowKit Go.Sort
set_option linter.unusedVariables false
set_option maxRecDepth 100000

theorem seriesB_ok {b s : Int} {rows : List (List FinishT)} (h : seriesB b s rows = true) : 1 ≤ b ∧ b ≤ 16 ∧ (s = 0 ∨ s = 1) ∧ GoodR b.toNat rows ∧ ∀ r ∈ rows, raceB b r = true := by
  unfold seriesB at h
  simp only [Bool.and_eq_true, decide_eq_true_eq, List.all_eq_true, beq_iff_eq] at h
  obtain ⟨⟨⟨h1, h2⟩, h3⟩, h4⟩ := h
  have hb := withinB_iff.1 h1
  have hs := withinB_iff.1 h2
  refine ⟨hb.1, hb.2, by omega, ⟨h3, fun r hr => by have := (h4 r hr).1; omega⟩, fun r hr => ?_⟩
  unfold raceB
  rw [h1, (h4 r hr).2, show ((r.length : Int) == b) = true from by rw [beq_iff_eq]; exact (h4 r hr).1]
  rfl
theorem all_take {α : Type} {p : α → Bool} {xs : List α} {k : Nat} {x : α} (hx : xs[k]? = some x) (h : (xs.take k).all p = true) (hp : p x = true) : (xs.take (k + 1)).all p = true := by
  rw [take_snoc_get hx, List.all_append, h]
  simp [hp]
theorem all_not {α : Type} {p : α → Bool} {xs : List α} {k : Nat} {x : α} (hx : xs[k]? = some x) (hp : p x = false) : xs.all p = false := by
  rw [List.all_eq_false]
  exact ⟨x, List.mem_of_getElem? hx, by simp [hp]⟩
set_option maxHeartbeats 1000000 in
theorem specIsSeries_any (b s : Int) (A : Option Addr) (n c : Nat) (rows : List (List FinishT)) (w : World) (h : RdRaces w A n rows) :
    Calls Tryz.prog 100 #[.agg #[.int .i64 b, .int .i64 s, .slice A n c]] w fun e w' => e = .returned (.bool (seriesB b s rows)) ∧ Below w.heap.size w w' := by
  have hn := h.le
  have HLN := Lib.hid h.len
  obtain ⟨w1, hw1, X0, hb1', hs1'⟩ := one_box w #[.int .i64 b, .int .i64 s, .slice A n c] 103
  have H := Lib.hid (fun w' (hb : Below w1.heap.size w1 w') => (h.below hb1').below hb)
  have HX0 := Lib.hid X0; have HB1 := Lib.hid hb1'
  clear h hb1'
  have F0 := X0.f3
  clear X0
  go_enter Tryz.func100, Tryz.ntmps100
  cases h1 : withinB b 1 16 with
  | false =>
    have HI1 := Lib.hid (fun w => l01In_lit h1 w)
    go_wp2_with fail
    rw [← hw1]
    clear hw1
    refine (HI1.out _).mono ?_
    rintro e w' ⟨rfl, rfl⟩
    go_wp2_with fail
    go_ret
    exact ⟨ret_bool (by unfold seriesB; rw [h1]; rfl), HB1.out⟩
  | true =>
  have HI1 := Lib.hid (fun w => l01In_lit h1 w)
  cases h2 : withinB s 0 1 with
  | false =>
    have HI2 := Lib.hid (fun w => l01In_lit h2 w)
    go_wp2_with fail
    rw [← hw1]
    clear hw1
    refine (HI1.out _).mono ?_
    rintro e w' ⟨rfl, rfl⟩
    go_wp2_with fail
    refine (HI2.out _).mono ?_
    rintro e w' ⟨rfl, rfl⟩
    go_wp2_with fail
    go_ret
    exact ⟨ret_bool (by unfold seriesB; rw [h1, h2]; rfl), HB1.out⟩
  | true =>
  have HI2 := Lib.hid (fun w => l01In_lit h2 w)
  by_cases h3 : n ≤ 12
  rotate_left
  · have hn1 : decide ((n : Int) > 12) = true := by simp; omega
    have HSB := Lib.hid (show seriesB b s rows = false from by unfold seriesB; rw [decide_eq_false (by rw [HLN.out]; exact h3)]; simp)
    clear h3
    go_wp2_with fail
    rw [← hw1]
    clear hw1
    refine (HI1.out _).mono ?_
    rintro e w' ⟨rfl, rfl⟩
    go_wp2_with fail
    refine (HI2.out _).mono ?_
    rintro e w' ⟨rfl, rfl⟩
    go_wp2_with fail
    go_ret
    exact ⟨ret_bool (by rw [HSB.out]), HB1.out⟩
  have hn1 : decide ((n : Int) > 12) = false := by simp; omega
  have HSB := Lib.hid (show seriesB b s rows = rows.all (fun r => ((r.length : Int) == b) && finsGo 0 r) from by unfold seriesB; rw [h1, h2, decide_eq_true (by rw [HLN.out]; exact h3)]; rfl)
  clear h1 h2
  go_wp2_with fail
  rw [← hw1]
  clear hw1
  refine (HI1.out _).mono ?_
  rintro e w' ⟨rfl, rfl⟩
  go_wp2_with fail
  refine (HI2.out _).mono ?_
  rintro e w' ⟨rfl, rfl⟩
  go_wp2_with fail
  clear F0
  go_loopw [3] (fun i wr => ∃ k : Nat, k ≤ n ∧ i = .int .i64 k ∧ Hid ((rows.take k).all (fun r => ((r.length : Int) == b) && finsGo 0 r) = true) ∧ Hid (Below w1.heap.size w1 wr)) (fun i _ => n - (intOf i).toNat)
  case atStart => exact ⟨0, Nat.zero_le _, rfl, Lib.hid rfl, Lib.hid (Below.refl _ _)⟩
  case round =>
    obtain ⟨k, hk, rfl, HA, HB⟩ := hrel
    have F0 := (HX0.out.below HB.out).f3
    by_cases hlt : k < n
    · obtain ⟨b1, o1, B, cB, x, rfl, hx, _, hc, hrd⟩ := (H.out _ HB.out).row hlt
      have HQ := Lib.hid (fun w' (hb : Below wr.heap.size wr w') => l26Race_any b B x.length cB x w' (hrd.below hb))
      have hsz := HB.out.size
      have HX := Lib.hid hx
      clear hx hrd
      cases hv : ((x.length : Int) == b) && finsGo 0 x with
      | true =>
        rw [hv] at HQ
        have HA2 := Lib.hid (all_take HX.out HA.out hv)
        clear hv
        go_wp2_with fail
        go_still_tail 7, (by kernel_rfl)
        go_wp2_with fail
        refine (HQ.out _ (below_drewN' _ wr 1)).mono ?_
        rintro e w2 ⟨rfl, hb2⟩
        have HB2 := Lib.hid ((HB.out.trans ((below_drewN' w1.heap.size wr 1).mono (Nat.le_refl _))).trans (hb2.mono hsz))
        clear hb2 HB hc F0
        go_wp2_with fail
        go_roundw
        case rel => exact ⟨k + 1, by omega, by go_num, HA2, HB2⟩
        case measure => simp [intOf] <;> omega
      | false =>
        rw [hv] at HQ
        have HA2 := Lib.hid (show seriesB b s rows = false from by rw [HSB.out]; exact all_not HX.out hv)
        clear hv
        go_wp2_with fail
        go_still_tail 7, (by kernel_rfl)
        go_wp2_with fail
        refine (HQ.out _ (below_drewN' _ wr 1)).mono ?_
        rintro e w2 ⟨rfl, hb2⟩
        have HB2 := Lib.hid ((HB.out.trans ((below_drewN' w1.heap.size wr 1).mono (Nat.le_refl _))).trans (hb2.mono hsz))
        clear hb2 HB hc F0
        go_wp2_with fail
        go_ret
        exact ⟨ret_bool (by rw [HA2.out]), HB1.out.trans (HB2.out.mono HB1.out.size)⟩
    · obtain rfl : k = n := by omega
      have ha := HA.out
      rw [List.take_of_length_le (by rw [HLN.out]; exact Nat.le_refl _)] at ha
      have HA2 := Lib.hid (show seriesB b s rows = true from by rw [HSB.out]; exact ha)
      clear ha HA
      go_wp2_with fail
      go_ret
      exact ⟨ret_bool (by rw [HA2.out]), HB1.out.trans (HB.out.mono HB1.out.size)⟩
/-- The table of any series. -/
theorem specTableOf_all (b s : Int) (A : Option Addr) (n c : Nat) (rows : List (List FinishT)) (w : World) (h : RdRaces w A n rows) :
    Calls Tryz.prog 79 #[.agg #[.int .i64 b, .int .i64 s, .slice A n c]] w (RetTC w (tabV (b, s, rows), if seriesB b s rows = true then 0 else 1)) := by
  cases hv : seriesB b s rows with
  | true =>
    rw [show tabV (b, s, rows) = tabS b s rows from by unfold tabV; rw [if_pos hv], if_pos rfl]
    obtain ⟨h1, h2, h3, h4, h5⟩ := seriesB_ok hv
    exact specTableOf_any b s A n c rows h1 h2 h3 h4 h5 w h
  | false =>
    rw [show tabV (b, s, rows) = noT from by unfold tabV; rw [if_neg (by rw [hv]; decide)], if_neg (by decide)]
    have HIS := Lib.hid (fun w' (hb : Below w.heap.size w w') => specIsSeries_any b s A n c rows w' (h.below hb))
    rw [hv] at HIS
    clear h hv
    obtain ⟨w2, hw2, X0, X1, hb2', hs2⟩ := two_boxes w #[.int .i64 b, .int .i64 s, .slice A n c] #[.int .i64 0, .slice none 0 0, .slice none 0 0] 103 33
    have HB2 := Lib.hid hb2'
    have HX1 := Lib.hid X1
    have F0 := X0.f3
    clear hb2' X0 X1
    go_enter Tryz.func79, Tryz.ntmps79
    go_wp2_with fail
    rw [← hw2]
    clear hw2
    refine (HIS.out _ HB2.out).mono ?_
    rintro e w3 ⟨rfl, hb3⟩
    have HB3 := Lib.hid (HB2.out.trans (hb3.mono HB2.out.size))
    have F1 := (HX1.out.below hb3).f3
    have hs3 := hb3.size
    clear hb3 F0
    go_wp2_with fail
    refine bodyPost_ret (v := .tuple #[.agg #[.int .i64 0, .slice none 0 0, .slice none 0 0], .int .i64 1]) (by simp [results, Tryz.results79, go_sem, F1]) rfl ?_
    have hch := put_chg (g := w.heap.size + 1) [.int .i64 0, .slice none 0 0, .slice none 0 0] 0 (Chg.refl (w.heap.size + 1) (w.heap.size + 1 + 1) w3) (by omega) (by omega)
    exact RetTC.nil w _ 1 (below_chg HB3.out hch (by omega) (by omega))
end Go.Proofs.YtalgdeieejpelaaGreatDoor

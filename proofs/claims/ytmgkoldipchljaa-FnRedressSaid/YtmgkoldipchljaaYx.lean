/- Walks: likeRows, w6Tables of the laws. -/
import Derived.Test.YtmgkoldipchljaaWl
import Derived.Test.YtmgkoldipchljaaZmf
namespace Go.Proofs.Ytmgkoldipchljaa
open Go.RowKit
set_option linter.unusedVariables false
set_option maxRecDepth 100000

theorem likeRows2_any (A A' : Option Addr) (n c n' c' : Nat) (xs ys : List (List Int)) (w : World) (h : RdRows w A n xs) (h' : RdRows w A' n' ys) :
    Calls Try.prog 41 #[.slice A n c, .slice A' n' c'] w fun e w' => e = .returned (.bool (decide (xs = ys))) ∧ Drawn w w' := by
  have HN := Lib.hid h.len
  have HN' := Lib.hid h'.len
  have hm := h.le
  by_cases hl : n = n'
  · subst hl
    go_enter Try.func41, Try.ntmps41
    go_wp2
    go_loopw [5] (fun i wr => ∃ k : Nat, k ≤ n ∧ i = .int .i64 k ∧ Hid (xs = ys ↔ xs.drop k = ys.drop k) ∧ Drawn w wr) (fun i _ => n - (intOf i).toNat)
    case atStart => exact ⟨0, Nat.zero_le _, rfl, Iff.rfl, Drawn.refl _⟩
    case round =>
      obtain ⟨k, hk, rfl, HA, hq⟩ := hrel
      by_cases hlt : k < n
      · obtain ⟨b, o, B, cB, x, rfl, _, hd, hc, hrd⟩ := (h.drawn hq).row hlt
        obtain ⟨b', o', B', cB', x', rfl, _, hd', hc', hrd'⟩ := (h'.drawn hq).row hlt
        have HD := Lib.hid hd; clear hd
        have HD' := Lib.hid hd'; clear hd'
        have hcall := fun q : Nat => likeInts_any B B' x.length cB x'.length cB' x x' (wr.drewN q) (hrd.drewN q) (hrd'.drewN q)
        by_cases hxx : x = x'
        · subst hxx
          simp only [decide_true] at hcall
          have HC := Lib.hid hcall; clear hcall
          go_wp2
          go_quiet ((go_at_call 60; exact Calls.quiet_of (HC.out _)))
          go_wp2
          go_roundw
          case rel => exact ⟨k + 1, by omega, by go_num, by unfold Hid; rw [HA.out, HD.out, HD'.out]; simp, hq.step _⟩
          case measure => simp [intOf]; omega
        · rw [decide_eq_false hxx] at hcall
          have HC := Lib.hid hcall; clear hcall
          go_wp2
          go_quiet ((go_at_call 60; exact Calls.quiet_of (HC.out _)))
          go_wp2
          go_ret
          exact ⟨ret_bool (by rw [eq_comm, decide_eq_false_iff_not, HA.out, HD.out, HD'.out]; simp [hxx]), hq.step _⟩
      · obtain rfl : k = n := by omega
        go_wp2
        go_ret
        exact ⟨ret_bool (by rw [eq_comm, decide_eq_true_iff, HA.out, List.drop_eq_nil_of_le (by rw [HN.out]; omega), List.drop_eq_nil_of_le (by rw [HN'.out]; omega)]), hq⟩
  · have hne : ((n : Int) != n') = true := by simp; omega
    go_enter Try.func41, Try.ntmps41
    go_wp2
    go_ret
    exact ⟨ret_bool (by rw [eq_comm, decide_eq_false_iff_not]; rintro rfl; exact hl (HN.out.symm.trans HN'.out)), Drawn.refl _⟩

set_option maxHeartbeats 2000000 in
/-- Two tables that hold the same are alike. -/
theorem w6Tables_same (P C P' C' : Option Addr) (n c m d n' c' m' d' : Nat) (t : Tb) (w : World) (h : RdT w P n C m t) (h' : RdT w P' n' C' m' t) :
    Calls Try.prog 13 #[.agg #[.int .i64 t.boats, .slice P n c, .slice C m d], .agg #[.int .i64 t.boats, .slice P' n' c', .slice C' m' d']] w fun e w' => e = .returned (.bool true) ∧ Below w.heap.size w w' := by
  obtain ⟨w1, hw1, X0, X1, hb1, hs1⟩ := two_boxes w #[.int .i64 t.boats, .slice P n c, .slice C m d] #[.int .i64 t.boats, .slice P' n' c', .slice C' m' d'] 26 26
  have HP := Lib.hid (fun w' (k : Below w.heap.size w w') => likeRows2_any P P' n c n' c' t.pts t.pts w' (h.pts.below k) (h'.pts.below k))
  have HC := Lib.hid (fun w' (k : Below w.heap.size w w') => likeRows2_any C C' m d m' d' t.cds t.cds w' (h.cds.below k) (h'.cds.below k))
  simp only [decide_true] at HP HC
  have HB1 := Lib.hid hb1
  have HX0 := Lib.hid X0
  have HX1 := Lib.hid X1
  have HW1 := Lib.hid hw1
  have FX := X0.f3
  have FY := X1.f3
  have hbb : (t.boats == t.boats) = true := by simp
  clear X0 X1 hb1 hs1 hw1 h h'
  go_enter Try.func13, Try.ntmps13
  go_wp2_with fail
  rw [← HW1.out]
  clear HW1
  go_wp2_with fail
  refine (HP.out _ HB1.out).mono ?_
  rintro e w2 ⟨rfl, hq⟩
  have hb2 := hq.below
  have FX2 := (HX0.out.below hb2).f3
  have FY2 := (HX1.out.below hb2).f3
  have HB2 := Lib.hid (HB1.out.trans (hb2.mono HB1.out.size))
  clear hq hb2 FX FY HP
  go_wp2_with fail
  refine (HC.out _ HB2.out).mono ?_
  rintro e w3 ⟨rfl, hq⟩
  have HB3 := Lib.hid (HB2.out.trans (hq.below.mono HB2.out.size))
  clear hq HC FX2 FY2
  go_wp2_with fail
  go_ret
  exact ⟨rfl, HB3.out⟩
end Go.Proofs.Ytmgkoldipchljaa

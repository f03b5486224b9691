/- Walks: ApplyRedress (chapter 29), both sides. -/
import Derived.Test.YtmgkoldipchljaaTm
namespace Go.Proofs.Ytmgkoldipchljaa
open Go.RowKit Go.Sort
set_option linter.unusedVariables false
set_option maxRecDepth 100000

theorem implApply_any (P : Option Addr) (n c : Nat) (C : Option Addr) (m d : Nat) (t : Tb) (A : Option Addr) (l cl : Nat) (xs : List RedT) (w : World) (h : RdT w P n C m t) (hl : Rd w 4 A l (reds xs)) :
    Calls Try.prog 11 #[.agg #[.int .i64 t.boats, .slice P n c, .slice C m d], .slice A l cl] w (RetTC w (applyCF t xs)) := by
  have HC := Lib.hid (fun w' (hb : Below w.heap.size w w') => redressCode_any P n c C m d t A l cl xs w' (h.below hb) (hl.below hb))
  obtain ⟨w1, hw1, X0, X1, hb1, hs1⟩ := two_boxes w #[.int .i64 t.boats, .slice P n c, .slice C m d] #[.int .i64 0, .slice none 0 0, .slice none 0 0] 26 26
  by_cases hz : redCodeF t xs = 0
  rotate_left
  · have e1 : applyCF t xs = (noT, redCodeF t xs) := by unfold applyCF; rw [if_neg hz]
    rw [e1]; clear e1
    generalize redCodeF t xs = code at *
    have hne : (code != 0) = true := by simp [hz]
    clear hz
    go_enter Try.func11, Try.ntmps11
    go_wp2_with fail
    rw [← hw1]
    clear hw1
    refine (HC.out _ hb1).mono ?_
    rintro e w2 ⟨rfl, hb2⟩
    have HB2 := Lib.hid (hb1.trans (hb2.mono hb1.size))
    have F1 := (X1.below hb2).f3
    have hs2 := hb2.size
    clear X0
    go_wp2_with fail
    refine bodyPost_ret (v := .tuple #[.agg #[.int .i64 0, .slice none 0 0, .slice none 0 0], .int .i64 code]) (by simp [results, Try.results11, go_sem, F1]) rfl ?_
    exact RetTC.nil _ _ _ (by first | exact HB2.out | exact put_below (g := w.heap.size + 1) [.int .i64 0, .slice none 0 0, .slice none 0 0] 0 HB2.out (by omega))
  · have e1 : applyCF t xs = (applyF t xs, 0) := by unfold applyCF; rw [if_pos hz]
    rw [e1]; clear e1
    have ok := tableB_ok (redCode_ok hz).1
    have HA := Lib.hid (fun w' (hb : Below w.heap.size w w') => applyRedress_any P n c C m d t A l cl xs ok (redCode_ok hz).2 w' (h.below hb) (hl.below hb))
    rw [hz] at HC
    clear hz ok h hl
    go_enter Try.func11, Try.ntmps11
    go_wp2_with fail
    rw [← hw1]
    clear hw1
    refine (HC.out _ hb1).mono ?_
    rintro e w2 ⟨rfl, hb2⟩
    have HB2 := Lib.hid (hb1.trans (hb2.mono hb1.size))
    have F0 := (X0.below hb2).f3
    have X2 := X1.below hb2
    have hsz : w.heap.size + 1 < w2.heap.size := by have := hb2.size; omega
    clear hb1 hb2 X0 X1 hs1
    go_wp2_with fail
    refine (HA.out _ HB2.out).mono ?_
    rintro e w3 ⟨P1, n1, c1, vs, C1, m1, d1, us, rfl, ho, hs, hb3⟩
    have F1 := (X2.below hb3).f3
    have HO := Lib.hid ho
    have HS := Lib.hid hs
    have HB3 := Lib.hid (HB2.out.trans (hb3.mono HB2.out.size))
    have hsz3 := hb3.size
    clear ho hs hb3 X2
    go_wp2_with fail
    refine bodyPost_ret (v := .tuple #[.agg #[.int .i64 (applyF t xs).boats, .slice P1 n1 c1, .slice C1 m1 d1], .int .i64 0]) (by simp [results, Try.results11, go_sem, F1]) rfl ?_
    have hch := put_chg (g := w.heap.size + 1) [.int .i64 (applyF t xs).boats, .slice P1 n1 c1, .slice C1 m1 d1] 0 (Chg.refl (w.heap.size + 1) (w.heap.size + 1 + 1) w3) (by omega) (by omega)
    exact ⟨P1, n1, c1, vs, C1, m1, d1, us, rfl, (HO.out.chg hch HO.out.in_ (.inr (by omega))).base' (by omega), HS.out, below_chg HB3.out hch (by omega) (by have := HB3.out.size; omega)⟩
theorem specApply_any (P : Option Addr) (n c : Nat) (C : Option Addr) (m d : Nat) (t : Tb) (A : Option Addr) (l cl : Nat) (xs : List RedT) (w : World) (h : RdT w P n C m t) (hl : Rd w 4 A l (reds xs)) :
    Calls Try.prog 12 #[.agg #[.int .i64 t.boats, .slice P n c, .slice C m d], .slice A l cl] w (RetTC w (applyCF t xs)) := by
  have HC := Lib.hid (fun w' (hb : Below w.heap.size w w') => l29Code_any P n c C m d t A l cl xs w' (h.below hb) (hl.below hb))
  obtain ⟨w1, hw1, X0, X1, hb1, hs1⟩ := two_boxes w #[.int .i64 t.boats, .slice P n c, .slice C m d] #[.int .i64 0, .slice none 0 0, .slice none 0 0] 26 26
  by_cases hz : redCodeF t xs = 0
  rotate_left
  · have e1 : applyCF t xs = (noT, redCodeF t xs) := by unfold applyCF; rw [if_neg hz]
    rw [e1]; clear e1
    generalize redCodeF t xs = code at *
    have hne : (code != 0) = true := by simp [hz]
    clear hz
    go_enter Try.func12, Try.ntmps12
    go_wp2_with fail
    rw [← hw1]
    clear hw1
    refine (HC.out _ hb1).mono ?_
    rintro e w2 ⟨rfl, hb2⟩
    have HB2 := Lib.hid (hb1.trans (hb2.mono hb1.size))
    have F1 := (X1.below hb2).f3
    have hs2 := hb2.size
    clear X0
    go_wp2_with fail
    refine bodyPost_ret (v := .tuple #[.agg #[.int .i64 0, .slice none 0 0, .slice none 0 0], .int .i64 code]) (by simp [results, Try.results12, go_sem, F1]) rfl ?_
    exact RetTC.nil _ _ _ (by first | exact HB2.out | exact put_below (g := w.heap.size + 1) [.int .i64 0, .slice none 0 0, .slice none 0 0] 0 HB2.out (by omega))
  · have e1 : applyCF t xs = (applyF t xs, 0) := by unfold applyCF; rw [if_pos hz]
    rw [e1]; clear e1
    have ok := tableB_ok (redCode_ok hz).1
    have HA := Lib.hid (fun w' (hb : Below w.heap.size w w') => l29Apply_any P n c C m d t A l cl xs ok (redCode_ok hz).2 w' (h.below hb) (hl.below hb))
    rw [hz] at HC
    clear hz ok h hl
    go_enter Try.func12, Try.ntmps12
    go_wp2_with fail
    rw [← hw1]
    clear hw1
    refine (HC.out _ hb1).mono ?_
    rintro e w2 ⟨rfl, hb2⟩
    have HB2 := Lib.hid (hb1.trans (hb2.mono hb1.size))
    have F0 := (X0.below hb2).f3
    have X2 := X1.below hb2
    have hsz : w.heap.size + 1 < w2.heap.size := by have := hb2.size; omega
    clear hb1 hb2 X0 X1 hs1
    go_wp2_with fail
    refine (HA.out _ HB2.out).mono ?_
    rintro e w3 ⟨P1, n1, c1, vs, C1, m1, d1, us, rfl, ho, hs, hb3⟩
    have F1 := (X2.below hb3).f3
    have HO := Lib.hid ho
    have HS := Lib.hid hs
    have HB3 := Lib.hid (HB2.out.trans (hb3.mono HB2.out.size))
    have hsz3 := hb3.size
    clear ho hs hb3 X2
    go_wp2_with fail
    refine bodyPost_ret (v := .tuple #[.agg #[.int .i64 (applyF t xs).boats, .slice P1 n1 c1, .slice C1 m1 d1], .int .i64 0]) (by simp [results, Try.results12, go_sem, F1]) rfl ?_
    have hch := put_chg (g := w.heap.size + 1) [.int .i64 (applyF t xs).boats, .slice P1 n1 c1, .slice C1 m1 d1] 0 (Chg.refl (w.heap.size + 1) (w.heap.size + 1 + 1) w3) (by omega) (by omega)
    exact ⟨P1, n1, c1, vs, C1, m1, d1, us, rfl, (HO.out.chg hch HO.out.in_ (.inr (by omega))).base' (by omega), HS.out, below_chg HB3.out hch (by omega) (by have := HB3.out.size; omega)⟩
end Go.Proofs.Ytmgkoldipchljaa

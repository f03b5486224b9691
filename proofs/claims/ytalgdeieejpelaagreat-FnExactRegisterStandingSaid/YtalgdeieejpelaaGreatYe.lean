/- Walks: the table of a register, both sides: whole functions. -/
import Derived.Test.YtalgdeieejpelaaGreatYd
namespace Go.Proofs.YtalgdeieejpelaaGreat
open Go.RowKit Go.Sort
set_option linter.unusedVariables false
set_option maxRecDepth 100000

set_option maxHeartbeats 2000000 in
theorem implRegisterTable_any (b s : Int) (A : Option Addr) (n c : Nat) (xs : List EntryT) (w : World) (hr : RegRd w A n c xs) :
    Calls Tryz.prog 22 #[.agg #[.int .i64 b, .int .i64 s, .slice A n c]] w (RetTC w (regTabC b s xs)) := by
  obtain ⟨w1, hw1, X0, X1, hb1, hs1⟩ := two_boxes w #[.int .i64 b, .int .i64 s, .slice A n c] #[.int .i64 0, .slice none 0 0, .slice none 0 0] 31 53
  have HB1 := Lib.hid hb1
  have HI := Lib.hid (fun w' (hb : Below w.heap.size w w') => implIsRegister_any b s A n c xs w' (hr.below hb))
  have HR := Lib.hid (fun w' (hb : Below w.heap.size w w') => hr.below hb)
  have HX0 := Lib.hid X0; have HX1 := Lib.hid X1
  have F0 := X0.f3; have F1 := X1.f3
  clear hb1 X0 X1 hr
  cases hg : regB b s xs with
  | false =>
    rw [hg] at HI
    rw [show regTabC b s xs = (noT, 1) from by unfold regTabC; rw [hg]; rfl]
    clear hg
    go_enter Tryz.func22, Tryz.ntmps22
    go_wp2_with fail
    rw [← hw1]
    clear hw1
    refine (HI.out _ HB1.out).mono ?_
    rintro e w2 ⟨rfl, hb2⟩
    have HB2 := Lib.hid (HB1.out.trans (hb2.mono HB1.out.size))
    have HX2 := Lib.hid (HX1.out.below hb2)
    clear F0 F1
    have F0 := (HX0.out.below hb2).f3
    have F1 := HX2.out.f3
    have hs2 := hb2.size
    clear hb2
    go_wp2_with fail
    refine bodyPost_ret (v := .tuple #[.agg #[.int .i64 0, .slice none 0 0, .slice none 0 0], .int .i64 1]) (by simp [results, Tryz.results22, go_sem, F1]) rfl ?_
    have hch := put_chg (g := w.heap.size + 1) [.int .i64 0, .slice none 0 0, .slice none 0 0] 0 (Chg.refl (w.heap.size + 1) (w.heap.size + 1 + 1) w2) (by omega) (by omega)
    exact RetTC.nil w _ 1 (below_chg HB2.out hch (by omega) (by omega))
  | true =>
    rw [hg] at HI
    rw [show regTabC b s xs = (tabR b s xs, 0) from by unfold regTabC; rw [hg]; rfl]
    have hOK := regB_ok hg
    have HSE := Lib.hid (fun w' (hb : Below w.heap.size w w') => implRegTab_any b s A n c xs hOK w' (HR.out w' hb))
    generalize tabR b s xs = T at *
    clear hg hOK
    go_enter Tryz.func22, Tryz.ntmps22
    go_wp2_with fail
    rw [← hw1]
    clear hw1
    refine (HI.out _ HB1.out).mono ?_
    rintro e w2 ⟨rfl, hb2⟩
    have HB2 := Lib.hid (HB1.out.trans (hb2.mono HB1.out.size))
    have HX2 := Lib.hid (HX1.out.below hb2)
    clear F0 F1
    have F0 := (HX0.out.below hb2).f3
    have hs2 := hb2.size
    clear hb2
    go_wp2_with fail
    refine (HSE.out _ HB2.out).mono ?_
    rintro e w3 ⟨P, n3, c3, vs, C, m3, d3, us, rfl, ho3, hsum3, hb3⟩
    have HB3 := Lib.hid (HB2.out.trans (hb3.mono HB2.out.size))
    have F1 := (HX2.out.below hb3).f3
    have hs3 := hb3.size
    clear hb3 F0
    go_wp2_with fail
    refine bodyPost_ret (v := .tuple #[.agg #[.int .i64 T.boats, .slice P n3 c3, .slice C m3 d3], .int .i64 0]) (by simp [results, Tryz.results22, go_sem, F1]) rfl ?_
    have hch := put_chg (g := w.heap.size + 1) [.int .i64 T.boats, .slice P n3 c3, .slice C m3 d3] 0 (Chg.refl (w.heap.size + 1) (w.heap.size + 1 + 1) w3) (by omega) (by omega)
    have hso := (ho3.chg hch ho3.in_ (.inr (by omega))).base' (show w.heap.size ≤ w2.heap.size by omega)
    exact ⟨P, n3, c3, vs, C, m3, d3, us, rfl, hso, hsum3, below_chg HB3.out hch (by omega) (by omega)⟩
set_option maxHeartbeats 2000000 in
theorem specRegisterTable_any (b s : Int) (A : Option Addr) (n c : Nat) (xs : List EntryT) (w : World) (hr : RegRd w A n c xs) :
    Calls Tryz.prog 30 #[.agg #[.int .i64 b, .int .i64 s, .slice A n c]] w (RetTC w (regTabC b s xs)) := by
  obtain ⟨w1, hw1, X0, X1, hb1, hs1⟩ := two_boxes w #[.int .i64 b, .int .i64 s, .slice A n c] #[.int .i64 0, .slice none 0 0, .slice none 0 0] 31 53
  have HB1 := Lib.hid hb1
  have HI := Lib.hid (fun w' (hb : Below w.heap.size w w') => specIsRegister_any b s A n c xs w' (hr.below hb))
  have HR := Lib.hid (fun w' (hb : Below w.heap.size w w') => hr.below hb)
  have HX0 := Lib.hid X0; have HX1 := Lib.hid X1
  have F0 := X0.f3; have F1 := X1.f3
  clear hb1 X0 X1 hr
  cases hg : regB b s xs with
  | false =>
    rw [hg] at HI
    rw [show regTabC b s xs = (noT, 1) from by unfold regTabC; rw [hg]; rfl]
    clear hg
    go_enter Tryz.func30, Tryz.ntmps30
    go_wp2_with fail
    rw [← hw1]
    clear hw1
    refine (HI.out _ HB1.out).mono ?_
    rintro e w2 ⟨rfl, hb2⟩
    have HB2 := Lib.hid (HB1.out.trans (hb2.mono HB1.out.size))
    have HX2 := Lib.hid (HX1.out.below hb2)
    clear F0 F1
    have F0 := (HX0.out.below hb2).f3
    have F1 := HX2.out.f3
    have hs2 := hb2.size
    clear hb2
    go_wp2_with fail
    refine bodyPost_ret (v := .tuple #[.agg #[.int .i64 0, .slice none 0 0, .slice none 0 0], .int .i64 1]) (by simp [results, Tryz.results30, go_sem, F1]) rfl ?_
    have hch := put_chg (g := w.heap.size + 1) [.int .i64 0, .slice none 0 0, .slice none 0 0] 0 (Chg.refl (w.heap.size + 1) (w.heap.size + 1 + 1) w2) (by omega) (by omega)
    exact RetTC.nil w _ 1 (below_chg HB2.out hch (by omega) (by omega))
  | true =>
    rw [hg] at HI
    rw [show regTabC b s xs = (tabR b s xs, 0) from by unfold regTabC; rw [hg]; rfl]
    have hOK := regB_ok hg
    have HSE := Lib.hid (fun w' (hb : Below w.heap.size w w') => specRegTab_any b s A n c xs hOK w' (HR.out w' hb))
    generalize tabR b s xs = T at *
    clear hg hOK
    go_enter Tryz.func30, Tryz.ntmps30
    go_wp2_with fail
    rw [← hw1]
    clear hw1
    refine (HI.out _ HB1.out).mono ?_
    rintro e w2 ⟨rfl, hb2⟩
    have HB2 := Lib.hid (HB1.out.trans (hb2.mono HB1.out.size))
    have HX2 := Lib.hid (HX1.out.below hb2)
    clear F0 F1
    have F0 := (HX0.out.below hb2).f3
    have hs2 := hb2.size
    clear hb2
    go_wp2_with fail
    refine (HSE.out _ HB2.out).mono ?_
    rintro e w3 ⟨P, n3, c3, vs, C, m3, d3, us, rfl, ho3, hsum3, hb3⟩
    have HB3 := Lib.hid (HB2.out.trans (hb3.mono HB2.out.size))
    have F1 := (HX2.out.below hb3).f3
    have hs3 := hb3.size
    clear hb3 F0
    go_wp2_with fail
    refine bodyPost_ret (v := .tuple #[.agg #[.int .i64 T.boats, .slice P n3 c3, .slice C m3 d3], .int .i64 0]) (by simp [results, Tryz.results30, go_sem, F1]) rfl ?_
    have hch := put_chg (g := w.heap.size + 1) [.int .i64 T.boats, .slice P n3 c3, .slice C m3 d3] 0 (Chg.refl (w.heap.size + 1) (w.heap.size + 1 + 1) w3) (by omega) (by omega)
    have hso := (ho3.chg hch ho3.in_ (.inr (by omega))).base' (show w.heap.size ≤ w2.heap.size by omega)
    exact ⟨P, n3, c3, vs, C, m3, d3, us, rfl, hso, hsum3, below_chg HB3.out hch (by omega) (by omega)⟩
end Go.Proofs.YtalgdeieejpelaaGreat

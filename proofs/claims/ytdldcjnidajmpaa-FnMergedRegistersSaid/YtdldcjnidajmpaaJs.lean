/- Walks: RegisterSeries (chapter 33), both sides. -/
import Derived.Test.YtdldcjnidajmpaaJp
namespace Go.Proofs.Ytdldcjnidajmpaa
open Go.RowKit Go.Sort Go.Lib
set_option linter.unusedVariables false
set_option maxRecDepth 100000

def serB (b s : Int) (xs : List EntryT) : Int := if serC b s xs = 0 then b else 0
def serS (b s : Int) (xs : List EntryT) : Int := if serC b s xs = 0 then s else 0
def serO (b s : Int) (xs : List EntryT) : List (List FinishT) := if serC b s xs = 0 then serF b xs else []
set_option maxHeartbeats 2000000 in
theorem specRegSeries_any (b s : Int) (A : Option Addr) (n c : Nat) (xs : List EntryT) (w : World) (hr : RegRd w A n c xs) :
    Calls Try.prog 50 #[.agg #[.int .i64 b, .int .i64 s, .slice A n c]] w (RetSer w (serB b s xs) (serS b s xs) (serO b s xs) (serC b s xs)) := by
  have HN := Lib.hid hr.1.len_ent
  obtain ⟨w1, hw1, X0, X1, hb1, hs1⟩ := two_boxes w #[.int .i64 b, .int .i64 s, .slice A n c] #[.int .i64 0, .int .i64 0, .slice none 0 0] 51 73
  have HB1 := Lib.hid hb1
  have HI := Lib.hid (fun w' (hb : Below w.heap.size w w') => specIsRegister_any b s A n c xs w' (hr.below hb))
  have HR := Lib.hid (fun w' (hb : Below w.heap.size w w') => hr.below hb)
  have HX0 := Lib.hid X0; have HX1 := Lib.hid X1
  have F0 := X0.f3; have F1 := X1.f3
  clear hb1 X0 X1 hr
  cases hg : regB b s xs with
  | false =>
    rw [hg] at HI
    have hC : serC b s xs = 1 := by unfold serC; rw [hg]; rfl
    rw [hC, show serB b s xs = 0 from by unfold serB; rw [hC]; rfl, show serS b s xs = 0 from by unfold serS; rw [hC]; rfl, show serO b s xs = [] from by unfold serO; rw [hC]; rfl]
    clear hC hg
    go_enter Try.func50, Try.ntmps50
    go_wp2_with fail
    rw [← hw1]
    clear hw1
    refine (HI.out _ HB1.out).mono ?_
    rintro e w2 ⟨rfl, hb2⟩
    have HB2 := Lib.hid (HB1.out.trans (hb2.mono HB1.out.size))
    have HX2 := Lib.hid (HX1.out.below hb2)
    clear F0 F1
    have F0 := (HX0.out.below hb2).f3
    have F1 := HX2.out.f3
    have hs2 := hb2.size
    clear hb2
    go_wp2_with fail
    refine bodyPost_ret (v := .tuple #[.agg #[.int .i64 0, .int .i64 0, .slice none 0 0], .int .i64 1]) (by simp [results, Try.results50, go_sem, F1]) rfl ?_
    have hch := put_chg (g := w.heap.size + 1) [.int .i64 0, .int .i64 0, .slice none 0 0] 0 (Chg.refl (w.heap.size + 1) (w.heap.size + 1 + 1) w2) (by omega) (by omega)
    exact ⟨none, 0, 0, [], rfl, OwnRaces.nil _ _ _ _, by simp [raceSum], below_chg HB2.out hch (by omega) (by omega)⟩
  | true =>
    rw [hg] at HI
    have hC : serC b s xs = 0 := by unfold serC; rw [hg]; rfl
    rw [hC, show serB b s xs = b from by unfold serB; rw [hC]; rfl, show serS b s xs = s from by unfold serS; rw [hC]; rfl, show serO b s xs = serF b xs from by unfold serO; rw [hC]; rfl]
    have hOK := regB_ok hg
    have hlen : n ≤ 400 := by have := hOK.len; rw [HN.out] at this; exact this
    have HSE := Lib.hid (fun w' (hb : Below w.heap.size w w') => specSeries_any b s A n c xs w' (HR.out w' hb) hlen hOK.okE hOK.key hOK.b1 hOK.b2)
    clear hC hg hOK
    go_enter Try.func50, Try.ntmps50
    go_wp2_with fail
    rw [← hw1]
    clear hw1
    refine (HI.out _ HB1.out).mono ?_
    rintro e w2 ⟨rfl, hb2⟩
    have HB2 := Lib.hid (HB1.out.trans (hb2.mono HB1.out.size))
    have HX2 := Lib.hid (HX1.out.below hb2)
    clear F0 F1
    have F0 := (HX0.out.below hb2).f3
    have F1 := HX2.out.f3
    have hs2 := hb2.size
    clear hb2
    go_wp2_with fail
    refine (HSE.out _ HB2.out).mono ?_
    rintro e w3 ⟨A3, n3, c3, vs, rfl, ho3, hs3, hb3⟩
    have HB3 := Lib.hid (HB2.out.trans (hb3.mono HB2.out.size))
    have HO3 := Lib.hid ho3
    have hz3 := hb3.size
    clear F1
    have F1 := (HX2.out.below hb3).f3
    clear ho3 hb3
    go_wp2_with fail
    refine bodyPost_ret (v := .tuple #[.agg #[.int .i64 b, .int .i64 s, .slice A3 n3 c3], .int .i64 0]) (by simp [results, Try.results50, go_sem, F1]) rfl ?_
    have hch := put_chg (g := w.heap.size + 1) [.int .i64 b, .int .i64 s, .slice A3 n3 c3] 0 (Chg.refl (w.heap.size + 1) (w.heap.size + 1 + 1) w3) (by omega) (by omega)
    exact ⟨A3, n3, c3, vs, rfl, (HO3.out.chg hch HO3.out.in_ (by omega)).base' (by omega), hs3, below_chg HB3.out hch (by omega) (by omega)⟩
set_option maxHeartbeats 2000000 in
theorem implRegSeries_any (b s : Int) (A : Option Addr) (n c : Nat) (xs : List EntryT) (w : World) (hr : RegRd w A n c xs) :
    Calls Try.prog 51 #[.agg #[.int .i64 b, .int .i64 s, .slice A n c]] w (RetSer w (serB b s xs) (serS b s xs) (serO b s xs) (serC b s xs)) := by
  have HN := Lib.hid hr.1.len_ent
  obtain ⟨w1, hw1, X0, X1, hb1, hs1⟩ := two_boxes w #[.int .i64 b, .int .i64 s, .slice A n c] #[.int .i64 0, .int .i64 0, .slice none 0 0] 51 73
  have HB1 := Lib.hid hb1
  have HI := Lib.hid (fun w' (hb : Below w.heap.size w w') => implIsRegister_any b s A n c xs w' (hr.below hb))
  have HR := Lib.hid (fun w' (hb : Below w.heap.size w w') => hr.below hb)
  have HX0 := Lib.hid X0; have HX1 := Lib.hid X1
  have F0 := X0.f3; have F1 := X1.f3
  clear hb1 X0 X1 hr
  cases hg : regB b s xs with
  | false =>
    rw [hg] at HI
    have hC : serC b s xs = 1 := by unfold serC; rw [hg]; rfl
    rw [hC, show serB b s xs = 0 from by unfold serB; rw [hC]; rfl, show serS b s xs = 0 from by unfold serS; rw [hC]; rfl, show serO b s xs = [] from by unfold serO; rw [hC]; rfl]
    clear hC hg
    go_enter Try.func51, Try.ntmps51
    go_wp2_with fail
    rw [← hw1]
    clear hw1
    refine (HI.out _ HB1.out).mono ?_
    rintro e w2 ⟨rfl, hb2⟩
    have HB2 := Lib.hid (HB1.out.trans (hb2.mono HB1.out.size))
    have HX2 := Lib.hid (HX1.out.below hb2)
    clear F0 F1
    have F0 := (HX0.out.below hb2).f3
    have F1 := HX2.out.f3
    have hs2 := hb2.size
    clear hb2
    go_wp2_with fail
    refine bodyPost_ret (v := .tuple #[.agg #[.int .i64 0, .int .i64 0, .slice none 0 0], .int .i64 1]) (by simp [results, Try.results51, go_sem, F1]) rfl ?_
    have hch := put_chg (g := w.heap.size + 1) [.int .i64 0, .int .i64 0, .slice none 0 0] 0 (Chg.refl (w.heap.size + 1) (w.heap.size + 1 + 1) w2) (by omega) (by omega)
    exact ⟨none, 0, 0, [], rfl, OwnRaces.nil _ _ _ _, by simp [raceSum], below_chg HB2.out hch (by omega) (by omega)⟩
  | true =>
    rw [hg] at HI
    have hC : serC b s xs = 0 := by unfold serC; rw [hg]; rfl
    rw [hC, show serB b s xs = b from by unfold serB; rw [hC]; rfl, show serS b s xs = s from by unfold serS; rw [hC]; rfl, show serO b s xs = serF b xs from by unfold serO; rw [hC]; rfl]
    have hOK := regB_ok hg
    have hlen : n ≤ 400 := by have := hOK.len; rw [HN.out] at this; exact this
    have HSE := Lib.hid (fun w' (hb : Below w.heap.size w w') => implSeries_any b s A n c xs w' (HR.out w' hb) hlen hOK.okE hOK.key hOK.b1 hOK.b2)
    clear hC hg hOK
    go_enter Try.func51, Try.ntmps51
    go_wp2_with fail
    rw [← hw1]
    clear hw1
    refine (HI.out _ HB1.out).mono ?_
    rintro e w2 ⟨rfl, hb2⟩
    have HB2 := Lib.hid (HB1.out.trans (hb2.mono HB1.out.size))
    have HX2 := Lib.hid (HX1.out.below hb2)
    clear F0 F1
    have F0 := (HX0.out.below hb2).f3
    have F1 := HX2.out.f3
    have hs2 := hb2.size
    clear hb2
    go_wp2_with fail
    refine (HSE.out _ HB2.out).mono ?_
    rintro e w3 ⟨A3, n3, c3, vs, rfl, ho3, hs3, hb3⟩
    have HB3 := Lib.hid (HB2.out.trans (hb3.mono HB2.out.size))
    have HO3 := Lib.hid ho3
    have hz3 := hb3.size
    clear F1
    have F1 := (HX2.out.below hb3).f3
    clear ho3 hb3
    go_wp2_with fail
    refine bodyPost_ret (v := .tuple #[.agg #[.int .i64 b, .int .i64 s, .slice A3 n3 c3], .int .i64 0]) (by simp [results, Try.results51, go_sem, F1]) rfl ?_
    have hch := put_chg (g := w.heap.size + 1) [.int .i64 b, .int .i64 s, .slice A3 n3 c3] 0 (Chg.refl (w.heap.size + 1) (w.heap.size + 1 + 1) w3) (by omega) (by omega)
    exact ⟨A3, n3, c3, vs, rfl, (HO3.out.chg hch HO3.out.in_ (by omega)).base' (by omega), hs3, below_chg HB3.out hch (by omega) (by omega)⟩
end Go.Proofs.Ytdldcjnidajmpaa

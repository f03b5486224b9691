/- Walks: points of a race, the program: the whole function. -/
import Derived.Test.YtdldcjnidajmpaaRr
import Derived.Test.YtdldcjnidajmpaaFr
namespace Go.Proofs.Ytdldcjnidajmpaa
open Go.RowKit
set_option linter.unusedVariables false
set_option maxRecDepth 100000

def racePointsC (b : Int) (fs : List FinishT) (scheme : Int) : List Int × Int := if raceB b fs = true then (if withinB scheme 0 1 = true then (racePointsF fs scheme, 0) else ([], 2)) else ([], 1)
theorem isScheme_any (n : Int) (w : World) :
    Calls Try.prog 82 #[.int .i64 n] w fun e w' => e = .returned (.bool (withinB n 0 1)) ∧ w = w' := by
  go_enter Try.func82, Try.ntmps82
  go_wp2_with (go_at_call 89; refine (within_any _ _ _ _).mono ?_; rintro e w' ⟨rfl, rfl⟩)
  go_ret
  exact ⟨rfl, rfl⟩
theorem implRacePoints_any (b : Int) (A : Option Addr) (n c : Nat) (fs : List FinishT) (scheme : Int) (w : World) (h : Rd w 3 A n (fins fs)) :
    Calls Try.prog 28 #[.int .i64 b, .agg #[.slice A n c], .int .i64 scheme] w (RetI w (racePointsC b fs scheme)) := by
  have HR := Lib.hid (fun w' (hb : Below w.heap.size w w') => implIsRace_any b A n c fs w' (h.below hb))
  have HRD := Lib.hid (fun w' (hb : Below w.heap.size w w') => h.below hb)
  have HN := Lib.hid h.len_fin
  have HSC := Lib.hid (fun w => isScheme_any scheme w)
  obtain ⟨w1, hw1, X0, hb1, hs1⟩ := one_box w #[.slice A n c] 31
  clear h
  cases hr : raceB b fs with
  | false =>
    have e1 : racePointsC b fs scheme = ([], 1) := by unfold racePointsC; rw [hr]; rfl
    rw [e1]; clear e1
    rw [hr] at HR
    clear hr
    go_enter Try.func28, Try.ntmps28
    have F0 := X0.l1
    go_wp2_with fail
    rw [← hw1]
    clear hw1
    refine (HR.out _ hb1).mono ?_
    rintro e w2 ⟨rfl, hb2⟩
    have HB2 := Lib.hid (hb1.trans (hb2.mono hb1.size))
    clear hb1 hb2 X0 F0 hs1
    go_wp2_with fail
    go_ret2
    exact RetI.nil _ _ _ HB2.out
  | true =>
    have OK := raceB_ok hr
    have hn : n ≤ 16 := by have := OK.len; have := OK.b2; have := HN.out; omega
    rw [hr] at HR
    cases hs : withinB scheme 0 1 with
    | false =>
      have e1 : racePointsC b fs scheme = ([], 2) := by unfold racePointsC; rw [hr, hs]; rfl
      rw [e1]; clear e1
      rw [hs] at HSC
      clear hr hs OK
      go_enter Try.func28, Try.ntmps28
      have F0 := X0.l1
      go_wp2_with fail
      rw [← hw1]
      clear hw1
      refine (HR.out _ hb1).mono ?_
      rintro e w2 ⟨rfl, hb2⟩
      have HB2 := Lib.hid (hb1.trans (hb2.mono hb1.size))
      clear hb1 hb2 X0 F0 hs1
      go_wp2_with fail
      refine (HSC.out _).mono ?_
      rintro e w3 ⟨rfl, rfl⟩
      go_wp2_with fail
      go_ret2
      exact RetI.nil _ _ _ HB2.out
    | true =>
      have e1 : racePointsC b fs scheme = (racePointsF fs scheme, 0) := by unfold racePointsC; rw [hr, hs]; rfl
      rw [e1]; clear e1
      rw [hs] at HSC
      clear hr hs OK
      go_enter Try.func28, Try.ntmps28
      have F0 := X0.l1
      go_wp2_with fail
      rw [← hw1]
      clear hw1
      refine (HR.out _ hb1).mono ?_
      rintro e w2 ⟨rfl, hb2⟩
      have HB2 := Lib.hid (hb1.trans (hb2.mono hb1.size))
      have F1 := (X0.below hb2).l1
      clear hb1 hb2 X0 F0 hs1
      go_wp2_with fail
      refine (HSC.out _).mono ?_
      rintro e w3 ⟨rfl, rfl⟩
      go_wp2_with fail
      refine (racePoints_any A n c fs scheme hn _ (HRD.out _ HB2.out)).mono ?_
      rintro e w4 ⟨P1, p1, c1, rfl, hop, hp, hb4⟩
      have HB4 := Lib.hid (HB2.out.trans (hb4.mono HB2.out.size))
      have HO4 := Lib.hid (own_base hop HB2.out.size)
      clear hop hb4 F1
      go_wp2_with fail
      go_ret2
      exact ⟨_, _, _, rfl, HO4.out, hp, HB4.out⟩
end Go.Proofs.Ytdldcjnidajmpaa

/- Walks: CanWin and RankRange of the program (chapter 31). -/
import Derived.Test.YtfkllgnenbbccaaWv4
namespace Go.Proofs.Ytfkllgnenbbccaa
open Go.RowKit
set_option linter.unusedVariables false
set_option maxRecDepth 100000

def RetBI (w : World) (r : Bool × Int) (e : Ending) (w' : World) : Prop := e = .returned (.tuple #[.bool r.1, .int .i64 r.2]) ∧ Below w.heap.size w w'
def Ret3 (w : World) (r : Int × Int × Int) (e : Ending) (w' : World) : Prop := e = .returned (.tuple #[.int .i64 r.1, .int .i64 r.2.1, .int .i64 r.2.2]) ∧ Below w.heap.size w w'

theorem implCanWin_any (A : Option Addr) (n c : Nat) (net : List Int) (factor boat : Int) (w : World) (h : Rd w 1 A n (ints net)) :
    Calls Try.prog 27 #[.slice A n c, .int .i64 factor, .int .i64 boat] w (RetBI w (canWinF net factor boat)) := by
  have HN := Lib.hid h.len_int
  have HB := Lib.hid (medalCode_any A n c net factor boat w h)
  unfold canWinF
  by_cases hz : medalCodeF net factor boat = 0
  · obtain ⟨g1, g2, g3, g4, g5⟩ := medalCode_ok hz
    have g5' : boat < (n : Int) := by have := HN.out; omega
    have HRR := Lib.hid (fun W hr => rankRange_any A n c net factor boat 5 W g1 HN.out g2 g3 g4 g5' hr)
    rw [if_pos hz]
    rw [hz] at HB
    clear hz g1
    generalize rangeF net factor boat 5 = r at *
    go_enter Try.func27, Try.ntmps27
    go_wp2_with fail
    refine HB.out.mono ?_
    rintro e w1 ⟨rfl, hb1⟩
    go_wp2_with fail
    refine (HRR.out _ (h.below hb1)).mono ?_
    rintro e w2 ⟨rfl, hb2⟩
    go_wp2_with fail
    go_ret2
    exact ⟨rfl, hb1.trans (hb2.mono hb1.size)⟩
  · rw [if_neg hz]
    generalize medalCodeF net factor boat = code at *
    have hne : (code != 0) = true := by simp [hz]
    clear hz
    go_enter Try.func27, Try.ntmps27
    go_wp2_with fail
    refine HB.out.mono ?_
    rintro e w1 ⟨rfl, hb1⟩
    go_wp2_with fail
    go_ret2
    exact ⟨rfl, hb1⟩
theorem implRankRange_any (A : Option Addr) (n c : Nat) (net : List Int) (factor boat : Int) (w : World) (h : Rd w 1 A n (ints net)) :
    Calls Try.prog 29 #[.slice A n c, .int .i64 factor, .int .i64 boat] w (Ret3 w (rankRangeF net factor boat)) := by
  have HN := Lib.hid h.len_int
  have HB := Lib.hid (medalCode_any A n c net factor boat w h)
  unfold rankRangeF
  by_cases hz : medalCodeF net factor boat = 0
  · obtain ⟨g1, g2, g3, g4, g5⟩ := medalCode_ok hz
    have g5' : boat < (n : Int) := by have := HN.out; omega
    have HRR := Lib.hid (fun W hr => rankRange_any A n c net factor boat 5 W g1 HN.out g2 g3 g4 g5' hr)
    rw [if_pos hz]
    rw [hz] at HB
    clear hz g1
    generalize rangeF net factor boat 5 = r at *
    go_enter Try.func29, Try.ntmps29
    go_wp2_with fail
    refine HB.out.mono ?_
    rintro e w1 ⟨rfl, hb1⟩
    go_wp2_with fail
    refine (HRR.out _ (h.below hb1)).mono ?_
    rintro e w2 ⟨rfl, hb2⟩
    go_wp2_with fail
    refine bodyPost_ret (results_tmp3 rfl _ _ _) rfl ?_
    exact ⟨rfl, hb1.trans (hb2.mono hb1.size)⟩
  · rw [if_neg hz]
    generalize medalCodeF net factor boat = code at *
    have hne : (code != 0) = true := by simp [hz]
    clear hz
    go_enter Try.func29, Try.ntmps29
    go_wp2_with fail
    refine HB.out.mono ?_
    rintro e w1 ⟨rfl, hb1⟩
    go_wp2_with fail
    refine bodyPost_ret (results_tmp3 rfl _ _ _) rfl ?_
    exact ⟨rfl, hb1⟩
end Go.Proofs.Ytfkllgnenbbccaa

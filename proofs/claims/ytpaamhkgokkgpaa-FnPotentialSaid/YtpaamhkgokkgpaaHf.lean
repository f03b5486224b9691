/- Walks: FastestTimes (chapter 32). -/
import Derived.Test.YtpaamhkgokkgpaaHd
namespace Go.Proofs.Ytpaamhkgokkgpaa
open Go.RowKit
set_option linter.unusedVariables false
set_option maxRecDepth 100000

def fastTF (W H : Int) (xs : List (Int × Int)) (cell : Int) : List Int × Int := if gcodeF W H xs cell = 0 then (timesF W H xs cell.toNat, 0) else ([], gcodeF W H xs cell)
theorem implFastT_any (W H : Int) (A : Option Addr) (n c : Nat) (xs : List (Int × Int)) (cell : Int) (w : World) (h : Rd w 2 A n (winds xs)) :
    Calls Try.prog 38 #[.agg #[.int .i64 W, .int .i64 H, .slice A n c], .int .i64 cell] w (RetI w (fastTF W H xs cell)) := by
  have HB := Lib.hid (show ∀ o, Below w.heap.size w (w.alloc o) from fun o => (Below.refl _ _).alloc (Nat.le_refl _) o)
  have hlx := h.len_wind
  have HC := Lib.hid (fun w' (hb : Below w.heap.size w w') => gridCode_any W H A n c xs cell w' (h.below hb))
  unfold fastTF
  by_cases hz : gcodeF W H xs cell = 0
  · obtain ⟨hg, c1, c2'⟩ := gcode_ok hz
    rw [hz] at HC
    rw [if_pos hz]
    obtain ⟨s, rfl⟩ := int_up cell c1
    rw [Int.toNat_natCast]
    have hs : s < n := by have := hg.len; omega
    have HF := Lib.hid (fun w' (hb : Below w.heap.size w w') => fastest_any W H A n c xs s hg hs w' (h.below hb))
    generalize timesF W H xs s = T at *
    clear hz hg c1 c2' h hlx
    go_enter Try.func38, Try.ntmps38
    go_wp2_with fail
    refine (HC.out _ (HB.out _)).mono ?_
    rintro e w2 ⟨rfl, hb2⟩
    obtain ⟨x0, x1, x2, hs2, hb2'⟩ := box3 hb2
    have B2 := Lib.hid hb2'
    clear hb2 hb2'
    go_wp2_with fail
    refine (HF.out _ B2.out).mono ?_
    rintro e w3 ⟨A3, n3, c3, rfl, ho, hn3, hb3⟩
    have HO := Lib.hid ho
    have hsz := B2.out.size
    have B3 := Lib.hid (B2.out.trans (hb3.mono B2.out.size))
    clear ho hb3 x0 x1 x2
    go_wp2_with fail
    go_ret2
    exact ⟨_, _, _, rfl, own_base HO.out hsz, hn3, B3.out⟩
  · rw [if_neg hz]
    generalize gcodeF W H xs cell = code at *
    have hne : (code != 0) = true := by simp [hz]
    clear hz h hlx
    go_enter Try.func38, Try.ntmps38
    go_wp2_with fail
    refine (HC.out _ (HB.out _)).mono ?_
    rintro e w2 ⟨rfl, hb2⟩
    obtain ⟨x0, x1, x2, hs2, hb2'⟩ := box3 hb2
    have B2 := Lib.hid hb2'
    clear hb2 hb2'
    go_wp2_with fail
    go_ret2
    exact RetI.nil _ _ _ B2.out
theorem specFastT_any (W H : Int) (A : Option Addr) (n c : Nat) (xs : List (Int × Int)) (cell : Int) (w : World) (h : Rd w 2 A n (winds xs)) :
    Calls Try.prog 37 #[.agg #[.int .i64 W, .int .i64 H, .slice A n c], .int .i64 cell] w (RetI w (fastTF W H xs cell)) := by
  have HB := Lib.hid (show ∀ o, Below w.heap.size w (w.alloc o) from fun o => (Below.refl _ _).alloc (Nat.le_refl _) o)
  have hlx := h.len_wind
  have HG := Lib.hid (fun w' (hb : Below w.heap.size w w') => specIsWindGrid_any W H A n c xs w' (h.below hb))
  unfold fastTF
  cases hgb : gridB W H xs with
  | false =>
    rw [hgb] at HG
    have hz : gcodeF W H xs cell = 1 := by unfold gcodeF; rw [hgb]; simp
    rw [hz]
    clear hz h hgb hlx
    go_enter Try.func37, Try.ntmps37
    go_wp2_with fail
    refine (HG.out _ (HB.out _)).mono ?_
    rintro e w2 ⟨rfl, hb2⟩
    obtain ⟨x0, x1, x2, hs2, hb2'⟩ := box3 hb2
    have B2 := Lib.hid hb2'
    clear hb2 hb2'
    go_wp2_with fail
    go_ret2
    exact ⟨some ⟨w2.heap.size, 0, none⟩, 0, 0, rfl, own_base (own_empty w2 w2.heap.size _ (Nat.le_refl _)) B2.out.size, by omega, B2.out.alloc B2.out.size _⟩
  | true =>
    have hk := gridB_ok hgb
    rw [hgb] at HG
    have HC := Lib.hid (fun w => l32Cell_any W H A n c xs cell w hk)
    cases hcb : withinB cell 0 ((xs.length : Int) - 1) with
    | false =>
      rw [hcb] at HC
      have hz : gcodeF W H xs cell = 4 := by unfold gcodeF; rw [hgb, hcb]; simp
      rw [hz]
      clear hz h hgb hk hcb hlx
      go_enter Try.func37, Try.ntmps37
      go_wp2_with fail
      refine (HG.out _ (HB.out _)).mono ?_
      rintro e w2 ⟨rfl, hb2⟩
      obtain ⟨x0, x1, x2, hs2, hb2'⟩ := box3 hb2
      have B2 := Lib.hid hb2'
      clear hb2 hb2'
      go_wp2_with fail
      refine (HC.out _).mono ?_
      rintro e w3 ⟨rfl, hb3⟩
      have B3 := Lib.hid (B2.out.trans (hb3.mono B2.out.size))
      clear hb3 x0 x1 x2
      go_wp2_with fail
      go_ret2
      exact ⟨some ⟨w3.heap.size, 0, none⟩, 0, 0, rfl, own_base (own_empty w3 w3.heap.size _ (Nat.le_refl _)) B3.out.size, by omega, B3.out.alloc B3.out.size _⟩
    | true =>
      have hz : gcodeF W H xs cell = 0 := by unfold gcodeF; rw [hgb, hcb]; rfl
      obtain ⟨hg, c1, c2'⟩ := gcode_ok hz
      rw [hcb] at HC
      rw [if_pos hz]
      obtain ⟨s, rfl⟩ := int_up cell c1
      rw [Int.toNat_natCast]
      have hs : s < n := by have := hg.len; omega
      have HF := Lib.hid (fun w' (hb : Below w.heap.size w w') => specTimes_any W H A n c xs s false hg hs w' (h.below hb))
      rw [timesB_false hg (by omega)] at HF
      generalize timesF W H xs s = T at *
      clear hz hg c1 c2' h hgb hk hcb hlx
      go_enter Try.func37, Try.ntmps37
      go_wp2_with fail
      refine (HG.out _ (HB.out _)).mono ?_
      rintro e w2 ⟨rfl, hb2⟩
      obtain ⟨x0, x1, x2, hs2, hb2'⟩ := box3 hb2
      have B2 := Lib.hid hb2'
      clear hb2 hb2'
      go_wp2_with fail
      refine (HC.out _).mono ?_
      rintro e w3 ⟨rfl, hb3⟩
      replace x0 := Keeps.below hb3 _ _ x0
      replace x1 := Keeps.below hb3 _ _ x1
      replace x2 := Keeps.below hb3 _ _ x2
      have B3 := Lib.hid (B2.out.trans (hb3.mono B2.out.size))
      clear hb3
      go_wp2_with fail
      refine (HF.out _ B3.out).mono ?_
      rintro e w4 ⟨A3, n3, c3, rfl, ho, hn3, hb4⟩
      have HO := Lib.hid ho
      have hsz := B3.out.size
      have B4 := Lib.hid (B3.out.trans (hb4.mono B3.out.size))
      clear ho hb4 x0 x1 x2
      go_wp2_with fail
      go_ret2
      exact ⟨_, _, _, rfl, own_base HO.out hsz, hn3, B4.out⟩
end Go.Proofs.Ytpaamhkgokkgpaa

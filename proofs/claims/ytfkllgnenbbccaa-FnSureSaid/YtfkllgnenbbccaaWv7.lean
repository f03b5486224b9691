/- Walks: the range of ranks of the laws (chapter 31). -/
import Derived.Test.YtfkllgnenbbccaaWv6
import Derived.Test.YtfkllgnenbbccaaWt3
import Derived.Test.YtfkllgnenbbccaaWv5
namespace Go.Proofs.Ytfkllgnenbbccaa
open Go.RowKit
set_option linter.unusedVariables false
set_option maxRecDepth 100000

theorem l31Range_any (A : Option Addr) (n c : Nat) (net : List Int) (factor boat lo hi : Int) (w : World) (hm : medalB net = true) (hn : net.length = n) (h1 : 1 ≤ factor) (h2 : factor ≤ 3) (hb0 : 0 ≤ boat) (hb1 : boat < n) (h : Rd w 1 A n (ints net)) :
    Calls Try.prog 52 #[.slice A n c, .int .i64 factor, .int .i64 boat, .int .i64 lo, .int .i64 hi] w fun e w' => e = .returned (.tuple #[.int .i64 (rangeS net factor boat lo hi).1, .int .i64 (rangeS net factor boat lo hi).2]) ∧ Below w.heap.size w w' := by
  have hn5 : n ≤ 5 := by have := medalB_len hm; omega
  obtain ⟨bt, rfl⟩ := int_up boat hb0
  have hgood : ∀ p ∈ allL n, Valid net p factor n := by
    intro p hp
    subst hn
    exact (good_all hm h1 h2 p ((mem_same (by omega) p).2 hp)).1
  have hr : rangeS net factor bt lo hi = (allL n).foldl (mmF (fun p => withinB (p.getD bt 0) lo hi) (fun p => rankF factor net p bt)) ((n : Int) + 1, 0) := by unfold rangeS; rw [hn]; rfl
  rw [hr]
  have HG := Lib.hid hgood
  have HAL := Lib.hid (l31All_any n hn5 w)
  have HRK := Lib.hid (fun (p : List Int) (hp : p ∈ allL n) A' c' W hh h' => l31Rank_any A n c net factor A' c' p bt (by omega) W (hgood p hp) hh h')
  clear hr hm hn h1 h2 hb0 hgood
  have hbd : ∀ p ∈ allL n, p.length = n := fun p hp => (HG.out p hp).pl
  have HBD := Lib.hid hbd
  clear hbd
  generalize hall : allL n = all at *
  clear hall
  generalize hgr : (fun p : List Int => rankF factor net p (bt : Int)) = gr at *
  have hgr' : ∀ p : List Int, rankF factor net p (bt : Int) = gr p := fun p => congrFun hgr p
  simp only [hgr'] at HRK
  clear hgr hgr' HG
  generalize hG : (mmF (fun p => withinB (p.getD bt 0) lo hi) gr) = G at *
  have HGG := Lib.hid hG
  clear hG
  generalize hres : all.foldl G ((n : Int) + 1, 0) = res at *
  have HRES := Lib.hid hres
  clear hres
  go_enter Try.func52, Try.ntmps52
  go_wp2_with fail
  refine HAL.out.mono ?_
  rintro e w1 ⟨A1, m, c1, vs, rfl, ho, hbw⟩
  have hrd1 := h.below hbw
  have hrows := ho.rd
  have hlm := hrows.len
  have HLM := Lib.hid hlm
  have HBW := Lib.hid hbw
  have hmle := hrows.le
  clear hlm hbw ho h
  go_wp2_with fail
  go_loopw [12, 13, 15, 16] (fun b x i _ wr => ∃ (k : Nat) (s : Int × Int), k ≤ m ∧ i = .int .i64 k ∧ b = .int .i64 s.1 ∧ x = .int .i64 s.2 ∧ (all.drop k).foldl G s = res ∧ Drawn w1 wr) (fun _ _ i _ _ => m - (intOf i).toNat)
  case atStart => exact ⟨0, (_, _), Nat.zero_le _, rfl, rfl, rfl, HRES.out, Drawn.refl _⟩
  case round =>
    obtain ⟨k, s, hk, rfl, rfl, rfl, hf, hd⟩ := hrel
    have HF := Lib.hid hf
    clear hf
    by_cases hlt : k < m
    · obtain ⟨b, o, A', c', p, rfl, hx, hdr, hc, hrd⟩ := (hrows.drawn hd).row hlt
      have hpl := HBD.out p (List.mem_of_getElem? hx)
      have HC := Lib.hid (fun W hh h' => HRK.out p (List.mem_of_getElem? hx) A' c' W hh h')
      rw [hpl] at hrd hc
      obtain ⟨b2, o2, x, rfl, hx2, _, hc2⟩ := hrd.int (k := bt) (by omega)
      have hgx : p.getD bt 0 = x := by rw [List.getD_eq_getElem?_getD, hx2]; rfl
      have hstep : G s p = if withinB x lo hi = true then (min s.1 (gr p), max s.2 (gr p)) else s := by rw [← HGG.out]; unfold mmF; simp only [hgx]
      have HST := Lib.hid hstep
      have HDR := Lib.hid hdr
      have hbt : bt < n := by omega
      have hrd' := hrd1.drawn hd
      clear hstep hdr hx hx2 hgx hpl hb1
      cases hw : withinB x lo hi with
      | true =>
        generalize gr p = rk at *
        go_wp2_with (go_at_call 40; refine (l01In_any _ _ _ _).mono ?_; rintro e w' ⟨rfl, rfl⟩)
        have HC2 := Lib.hid (HC.out wr hrd' hrd)
        go_wp2_with fail
        refine HC2.out.mono ?_
        rintro e w2 ⟨rfl, hd2⟩
        go_wp2_with fail
        go_roundw
        case rel => exact ⟨k + 1, (min s.1 rk, max s.2 rk), by omega, by go_num, (by first | rfl | exact congrArg (Value.int .i64) (by simp only; split <;> omega)), (by first | rfl | exact congrArg (Value.int .i64) (by simp only; split <;> omega)), by rw [← HF.out, HDR.out, List.foldl_cons, HST.out, hw]; rfl, drawn_trans hd hd2⟩
        case measure => simp [intOf] <;> omega
      | false =>
        go_wp2_with (go_at_call 40; refine (l01In_any _ _ _ _).mono ?_; rintro e w' ⟨rfl, rfl⟩)
        go_roundw
        case rel => exact ⟨k + 1, s, by omega, by go_num, rfl, rfl, by rw [← HF.out, HDR.out, List.foldl_cons, HST.out, hw]; rfl, hd⟩
        case measure => simp [intOf] <;> omega
    · obtain rfl : k = m := by omega
      rw [List.drop_eq_nil_of_le (by rw [HLM.out]; omega)] at HF
      go_wp2_with fail
      go_ret2
      exact ⟨by rw [← HF.out]; rfl, HBW.out.trans (hd.below.mono HBW.out.size)⟩


def canWinS (net : List Int) (factor boat : Int) : Bool × Int :=
  if medalCodeF net factor boat = 0 then ((rangeS net factor boat 1 net.length).1 == 1, 0) else (false, medalCodeF net factor boat)
theorem canWin_same (net : List Int) (factor boat : Int) : canWinS net factor boat = canWinF net factor boat := by
  unfold canWinS canWinF
  by_cases hz : medalCodeF net factor boat = 0
  · obtain ⟨g1, g2, g3, g4, g5⟩ := medalCode_ok hz
    have hl := medalB_len g1
    rw [if_pos hz, if_pos hz, range_full hl.1 hl.2 g4 (by omega)]
  · rw [if_neg hz, if_neg hz]
theorem specCanWin_any (A : Option Addr) (n c : Nat) (net : List Int) (factor boat : Int) (w : World) (h : Rd w 1 A n (ints net)) :
    Calls Try.prog 26 #[.slice A n c, .int .i64 factor, .int .i64 boat] w (RetBI w (canWinF net factor boat)) := by
  rw [← canWin_same]
  have HN := Lib.hid h.len_int
  have HB := Lib.hid (l31Code_any A n c net factor boat w h)
  unfold canWinS
  by_cases hz : medalCodeF net factor boat = 0
  · obtain ⟨g1, g2, g3, g4, g5⟩ := medalCode_ok hz
    have g5' : boat < (n : Int) := by have := HN.out; omega
    have HRR := Lib.hid (fun W hr => l31Range_any A n c net factor boat 1 n W g1 HN.out g2 g3 g4 g5' hr)
    rw [if_pos hz, HN.out]
    rw [hz] at HB
    clear hz g1
    generalize rangeS net factor boat 1 n = r at *
    go_enter Try.func26, Try.ntmps26
    go_wp2_with fail
    refine HB.out.mono ?_
    rintro e w1 ⟨rfl, hb1⟩
    go_wp2_with fail
    refine (HRR.out _ (h.below hb1)).mono ?_
    rintro e w2 ⟨rfl, hb2⟩
    go_wp2_with fail
    go_ret2
    exact ⟨rfl, hb1.trans (hb2.mono hb1.size)⟩
  · rw [if_neg hz]
    generalize medalCodeF net factor boat = code at *
    have hne : (code != 0) = true := by simp [hz]
    clear hz
    go_enter Try.func26, Try.ntmps26
    go_wp2_with fail
    refine HB.out.mono ?_
    rintro e w1 ⟨rfl, hb1⟩
    go_wp2_with fail
    go_ret2
    exact ⟨rfl, hb1⟩
def rankRangeS (net : List Int) (factor boat : Int) : Int × Int × Int :=
  if medalCodeF net factor boat = 0 then ((rangeS net factor boat 1 net.length).1, (rangeS net factor boat 1 net.length).2, 0) else (0, 0, medalCodeF net factor boat)
theorem rankRange_same (net : List Int) (factor boat : Int) : rankRangeS net factor boat = rankRangeF net factor boat := by
  unfold rankRangeS rankRangeF
  by_cases hz : medalCodeF net factor boat = 0
  · obtain ⟨g1, g2, g3, g4, g5⟩ := medalCode_ok hz
    have hl := medalB_len g1
    rw [if_pos hz, if_pos hz, range_full hl.1 hl.2 g4 (by omega)]
  · rw [if_neg hz, if_neg hz]
theorem specRankRange_any (A : Option Addr) (n c : Nat) (net : List Int) (factor boat : Int) (w : World) (h : Rd w 1 A n (ints net)) :
    Calls Try.prog 28 #[.slice A n c, .int .i64 factor, .int .i64 boat] w (Ret3 w (rankRangeF net factor boat)) := by
  rw [← rankRange_same]
  have HN := Lib.hid h.len_int
  have HB := Lib.hid (l31Code_any A n c net factor boat w h)
  unfold rankRangeS
  by_cases hz : medalCodeF net factor boat = 0
  · obtain ⟨g1, g2, g3, g4, g5⟩ := medalCode_ok hz
    have g5' : boat < (n : Int) := by have := HN.out; omega
    have HRR := Lib.hid (fun W hr => l31Range_any A n c net factor boat 1 n W g1 HN.out g2 g3 g4 g5' hr)
    rw [if_pos hz, HN.out]
    rw [hz] at HB
    clear hz g1
    generalize rangeS net factor boat 1 n = r at *
    go_enter Try.func28, Try.ntmps28
    go_wp2_with fail
    refine HB.out.mono ?_
    rintro e w1 ⟨rfl, hb1⟩
    go_wp2_with fail
    refine (HRR.out _ (h.below hb1)).mono ?_
    rintro e w2 ⟨rfl, hb2⟩
    go_wp2_with fail
    refine bodyPost_ret (results_tmp3 rfl _ _ _) rfl ?_
    exact ⟨rfl, hb1.trans (hb2.mono hb1.size)⟩
  · rw [if_neg hz]
    generalize medalCodeF net factor boat = code at *
    have hne : (code != 0) = true := by simp [hz]
    clear hz
    go_enter Try.func28, Try.ntmps28
    go_wp2_with fail
    refine HB.out.mono ?_
    rintro e w1 ⟨rfl, hb1⟩
    go_wp2_with fail
    refine bodyPost_ret (results_tmp3 rfl _ _ _) rfl ?_
    exact ⟨rfl, hb1⟩
end Go.Proofs.Ytfkllgnenbbccaa

/- Walks: sure places (chapter 31). -/
import Derived.Test.YtfkllgnenbbccaaWv7
namespace Go.Proofs.Ytfkllgnenbbccaa
open Go.RowKit
set_option linter.unusedVariables false
set_option maxRecDepth 100000

theorem implSure_any (A : Option Addr) (n c : Nat) (net : List Int) (factor boat rank : Int) (w : World) (h : Rd w 1 A n (ints net)) :
    Calls Try.prog 31 #[.slice A n c, .int .i64 factor, .int .i64 boat, .int .i64 rank] w (Ret2 w (surePlaceF net factor boat rank)) := by
  have HN := Lib.hid h.len_int
  have HB := Lib.hid (medalCode_any A n c net factor boat w h)
  have hle := h.le
  unfold surePlaceF sureCodeF
  rw [HN.out]
  by_cases hz : medalCodeF net factor boat = 0
  · obtain ⟨g1, g2, g3, g4, g5⟩ := medalCode_ok hz
    have g5' : boat < (n : Int) := by have := HN.out; omega
    have hn5 : n ≤ 5 := by have := medalB_len g1; have := HN.out; omega
    have HRR := Lib.hid (fun (k : Int) W hr => rankRange_any A n c net factor boat k W g1 HN.out g2 g3 g4 g5' hr)
    rw [hz] at HB
    simp only [hz, if_true]
    cases hw : withinB rank 1 n with
    | true =>
      have hr1 := (withinB_iff.1 hw).1
      simp only [if_true]
      clear hz g1 g2 g3 g4 g5 g5'
      generalize hg : (fun k : Int => rangeF net factor boat k) = g at *
      have hg' : ∀ k : Int, rangeF net factor boat k = g k := fun k => congrFun hg k
      have hg2 : (fun k => (rangeF net factor boat k).2) = fun k => (g k).2 := by funext k; rw [hg']
      rw [hg2]
      simp only [hg'] at HRR
      clear hg hg' hg2
      generalize hres : sureG (fun k => (g k).2) rank n 0 = res
      have HRES := Lib.hid hres
      clear hres
      go_enter Try.func31, Try.ntmps31
      go_wp2_with fail
      refine HB.out.mono ?_
      rintro e w1 ⟨rfl, hb1⟩
      go_wp2_with (go_at_call 55; refine (within_any _ _ _ _).mono ?_; rintro e w' ⟨rfl, rfl⟩)
      clear hw
      go_loopw [11, 12, 13] (fun s _ _ wr => ∃ k : Nat, k ≤ n ∧ s = .int .i64 k ∧ sureG (fun k => (g k).2) rank (n - k) (k : Int) = res ∧ Below w.heap.size w wr) (fun s _ _ _ => n - (intOf s).toNat)
      case atStart => exact ⟨0, Nat.zero_le _, rfl, HRES.out, hb1⟩
      case round =>
        clear hb1
        obtain ⟨k, hk, rfl, hs, hb⟩ := hrel
        by_cases hlt : k < n
        · have e : n - k = (n - (k + 1)) + 1 := by omega
          rw [e, sureG] at hs
          clear e
          have HS := Lib.hid hs
          clear hs
          have HC := Lib.hid (HRR.out ((k : Int) + 1) wr (h.below hb))
          generalize g ((k : Int) + 1) = r at *
          go_wp2_with fail
          refine HC.out.mono ?_
          rintro e w2 ⟨rfl, hb2⟩
          have HB2 := Lib.hid (hb.trans (hb2.mono hb.size))
          clear hb hb2 HC
          by_cases hx : rank < r.2
          · have HS2 := Lib.hid (HS.out.symm.trans (if_pos hx))
            clear HS
            go_wp2_with fail
            go_ret2
            obtain rfl := HS2.out
            exact ⟨rfl, HB2.out⟩
          · have HS2 := Lib.hid ((if_neg hx).symm.trans HS.out)
            clear HS
            go_wp2_with fail
            go_roundw
            case rel => exact ⟨k + 1, by omega, by go_num, HS2.out, HB2.out⟩
            case measure => simp [intOf] <;> omega
        · obtain rfl : k = n := by omega
          rw [Nat.sub_self, sureG] at hs
          have HS := Lib.hid hs
          clear hs
          go_wp2_with fail
          go_ret2
          obtain rfl := HS.out
          exact ⟨rfl, hb⟩
    | false =>
      simp only [Bool.false_eq_true, if_false, show ¬ ((2 : Int) = 0) from by decide]
      clear hz g1 g2 g3 g4 g5 g5' HRR
      go_enter Try.func31, Try.ntmps31
      go_wp2_with fail
      refine HB.out.mono ?_
      rintro e w1 ⟨rfl, hb1⟩
      go_wp2_with (go_at_call 55; refine (within_any _ _ _ _).mono ?_; rintro e w' ⟨rfl, rfl⟩)
      go_ret2
      exact ⟨rfl, hb1⟩
  · simp only [if_neg hz]
    generalize medalCodeF net factor boat = code at *
    have hne : (code != 0) = true := by simp [hz]
    have heq : (code == 0) = false := by simp [hz]
    clear hz
    go_enter Try.func31, Try.ntmps31
    go_wp2_with fail
    refine HB.out.mono ?_
    rintro e w1 ⟨rfl, hb1⟩
    go_wp2_with fail
    go_ret2
    exact ⟨rfl, hb1⟩

theorem specSure_any (A : Option Addr) (n c : Nat) (net : List Int) (factor boat rank : Int) (w : World) (h : Rd w 1 A n (ints net)) :
    Calls Try.prog 30 #[.slice A n c, .int .i64 factor, .int .i64 boat, .int .i64 rank] w (Ret2 w (surePlaceF net factor boat rank)) := by
  have HN := Lib.hid h.len_int
  have HB := Lib.hid (l31Code_any A n c net factor boat w h)
  have hle := h.le
  unfold surePlaceF sureCodeF
  rw [HN.out]
  by_cases hz : medalCodeF net factor boat = 0
  · obtain ⟨g1, g2, g3, g4, g5⟩ := medalCode_ok hz
    have g5' : boat < (n : Int) := by have := HN.out; omega
    have hn5 : n ≤ 5 := by have := medalB_len g1; have := HN.out; omega
    have HRR := Lib.hid (fun (k : Int) W hr => l31Range_any A n c net factor boat k k W g1 HN.out g2 g3 g4 g5' hr)
    rw [hz] at HB
    simp only [hz, if_true]
    cases hw : withinB rank 1 n with
    | true =>
      have hr1 := (withinB_iff.1 hw).1
      simp only [if_true]
      have hs1 := sure_same (net := net) (factor := factor) (boat := boat) (rank := rank) (by have := medalB_len g1; omega) (by have := HN.out; omega) g4 (by have := HN.out; omega) hr1
      rw [HN.out] at hs1
      rw [hs1]
      clear hs1
      clear hz g1 g2 g3 g4 g5 g5'
      generalize hg : (fun k : Int => rangeS net factor boat k k) = g at *
      have hg' : ∀ k : Int, rangeS net factor boat k k = g k := fun k => congrFun hg k
      have hg2 : (fun k => (rangeS net factor boat k k).2) = fun k => (g k).2 := by funext k; rw [hg']
      rw [hg2]
      simp only [hg'] at HRR
      clear hg hg' hg2
      generalize hres : sureG (fun k => (g k).2) rank n 0 = res
      have HRES := Lib.hid hres
      clear hres
      go_enter Try.func30, Try.ntmps30
      go_wp2_with fail
      refine HB.out.mono ?_
      rintro e w1 ⟨rfl, hb1⟩
      go_wp2_with (go_at_call 40; refine (l01In_any _ _ _ _).mono ?_; rintro e w' ⟨rfl, rfl⟩)
      clear hw
      go_loopw [11, 12, 13] (fun s _ _ wr => ∃ k : Nat, k ≤ n ∧ s = .int .i64 k ∧ sureG (fun k => (g k).2) rank (n - k) (k : Int) = res ∧ Below w.heap.size w wr) (fun s _ _ _ => n - (intOf s).toNat)
      case atStart => exact ⟨0, Nat.zero_le _, rfl, HRES.out, hb1⟩
      case round =>
        clear hb1
        obtain ⟨k, hk, rfl, hs, hb⟩ := hrel
        by_cases hlt : k < n
        · have e : n - k = (n - (k + 1)) + 1 := by omega
          rw [e, sureG] at hs
          clear e
          have HS := Lib.hid hs
          clear hs
          have HC := Lib.hid (HRR.out ((k : Int) + 1) wr (h.below hb))
          generalize g ((k : Int) + 1) = r at *
          go_wp2_with fail
          refine HC.out.mono ?_
          rintro e w2 ⟨rfl, hb2⟩
          have HB2 := Lib.hid (hb.trans (hb2.mono hb.size))
          clear hb hb2 HC
          by_cases hx : rank < r.2
          · have HS2 := Lib.hid (HS.out.symm.trans (if_pos hx))
            clear HS
            go_wp2_with fail
            go_ret2
            obtain rfl := HS2.out
            exact ⟨rfl, HB2.out⟩
          · have HS2 := Lib.hid ((if_neg hx).symm.trans HS.out)
            clear HS
            go_wp2_with fail
            go_roundw
            case rel => exact ⟨k + 1, by omega, by go_num, HS2.out, HB2.out⟩
            case measure => simp [intOf] <;> omega
        · obtain rfl : k = n := by omega
          rw [Nat.sub_self, sureG] at hs
          have HS := Lib.hid hs
          clear hs
          go_wp2_with fail
          go_ret2
          obtain rfl := HS.out
          exact ⟨rfl, hb⟩
    | false =>
      simp only [Bool.false_eq_true, if_false, show ¬ ((2 : Int) = 0) from by decide]
      clear hz g1 g2 g3 g4 g5 g5' HRR
      go_enter Try.func30, Try.ntmps30
      go_wp2_with fail
      refine HB.out.mono ?_
      rintro e w1 ⟨rfl, hb1⟩
      go_wp2_with (go_at_call 40; refine (l01In_any _ _ _ _).mono ?_; rintro e w' ⟨rfl, rfl⟩)
      go_ret2
      exact ⟨rfl, hb1⟩
  · simp only [if_neg hz]
    generalize medalCodeF net factor boat = code at *
    have hne : (code != 0) = true := by simp [hz]
    have heq : (code == 0) = false := by simp [hz]
    clear hz
    go_enter Try.func30, Try.ntmps30
    go_wp2_with fail
    refine HB.out.mono ?_
    rintro e w1 ⟨rfl, hb1⟩
    go_wp2_with fail
    go_ret2
    exact ⟨rfl, hb1⟩
end Go.Proofs.Ytfkllgnenbbccaa

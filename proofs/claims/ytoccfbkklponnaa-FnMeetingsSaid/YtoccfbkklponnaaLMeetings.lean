/- The walk of FnMeetings. -/
import Derived.Test.YtoccfbkklponnaaMj
import Derived.Test.YtoccfbkklponnaaWj
import Derived.Test.YtoccfbkklponnaaWw
import Derived.Test.YtoccfbkklponnaaCo
namespace Go.Proofs.Ytoccfbkklponnaa
open Go.RowKit
set_option linter.unusedVariables false
set_option maxRecDepth 100000

theorem likeRows_below (A A' : Option Addr) (n c n' c' : Nat) (xs ys : List (List Int)) (w : World) (h : RdRows w A n xs) (h' : RdRows w A' n' ys) :
    Calls Try.prog 43 #[.slice A n c, .slice A' n' c'] w fun e w' => e = .returned (.bool (decide (xs = ys))) ∧ Below w.heap.size w w' :=
  (likeRows_any A A' n c n' c' xs ys w h h').mono fun _ _ ⟨h1, h2⟩ => ⟨h1, h2.below⟩

theorem fnMeetings_walk (a0 : Option Addr) (len0 cap0 : Nat) (z0 : List Int) (w : World) (v0 : IsRow .u8 w a0 len0 cap0 z0) :
    Calls Try.prog 12 #[.slice a0 len0 cap0] w fun e w' => e = .returned (.bool true) ∧ Below w.heap.size w w' := by
  have hle := v0.lenle
  by_cases hbig : 4096 < len0
  · have hd : decide (4096 < len0) = true := by simpa using hbig
    have HB := Lib.hid (big_any a0 len0 cap0 hle w)
    rw [hd] at HB
    clear hd v0
    go_enter Try.func12, Try.ntmps12
    go_wp2_with fail
    refine HB.out.mono ?_
    rintro e w' ⟨rfl, rfl⟩
    go_wp2_with fail
    go_ret
    exact ⟨rfl, Below.refl _ _⟩
  have hd : decide (4096 < len0) = false := by simpa using hbig
  have HB := Lib.hid (big_any a0 len0 cap0 hle w)
  rw [hd] at HB
  clear hd
  have hcode := code0_of v0 (by omega)
  generalize z0.take len0 = code at hcode
  clear v0
  have hdraw := fun W hb => roundsD_any w a0 len0 cap0 code hcode W hb
  generalize hxk : roundsD code = xk at *
  clear hxk
  obtain ⟨rounds, k⟩ := xk
  have HD := Lib.hid hdraw; clear hdraw
  have HIL := Lib.hid (fun A m c W hr => implLeast_any A m c rounds k W hr)
  have HSL := Lib.hid (fun A m c W hr => specLeast_any A m c rounds k W hr)
  have HIM := Lib.hid (fun A m c W hr => implMeet_any A m c rounds k W hr)
  have HSM := Lib.hid (fun A m c W hr => specMeet_any A m c rounds k W hr)
  obtain ⟨n, f, res, hwant, hsym, hmin⟩ : ∃ (n : Nat) (f : Nat → Nat → Nat) (res : Int × Int × Int × Int), ((meetCountsF rounds k).1 = mat f n ∧ leastMetF rounds k = res) ∧ (∀ i j, f i j = f j i) ∧ (res.2.2.2 = 0 → ∀ i j, i < n → j < n → i ≠ j → res.2.2.1 ≤ (f i j : Int)) := by
    by_cases hz : roundsCodeF rounds k = 0
    · refine ⟨(rounds.getD 0 []).length, meetN rounds, _, ⟨by unfold meetCountsF; rw [if_pos hz], rfl⟩, meetN_sym rounds, fun h0 i j hi hj hne => ?_⟩
      unfold leastMetF at h0 ⊢
      rw [if_pos hz] at h0 ⊢
      split
      · rename_i h2; rw [if_pos h2] at h0; cases h0
      · have := least_min rounds (rounds.getD 0 []).length i j hi hj hne
        simp only; omega
    · exact ⟨0, meetN rounds, _, ⟨by unfold meetCountsF; rw [if_neg hz]; rfl, rfl⟩, meetN_sym rounds, fun _ i j hi => by omega⟩
  obtain ⟨hw1, hw2⟩ := hwant
  rw [hw2] at HIL HSL
  clear hw2
  generalize meetCountsF rounds k = mc at *
  obtain ⟨want, mcode⟩ := mc
  simp only at hw1
  subst hw1
  obtain ⟨ra, rb, rn, one⟩ := res
  simp only at hmin
  have HMIN := Lib.hid hmin; have HSYM := Lib.hid hsym
  clear hmin hsym
  go_enter Try.func12, Try.ntmps12
  go_wp2_with fail
  refine HB.out.mono ?_
  rintro e w' ⟨rfl, rfl⟩
  go_wp2_with fail
  refine (HD.out _ (Below.refl _ _)).mono ?_
  rintro e w1 ⟨A1, n1, c1, vs1, rfl, o1, hb1⟩
  simp only at o1
  have BB1 : Below w.heap.size w w1 := hb1
  go_wp2_with fail
  refine (HIM.out _ _ _ _ o1.rd).mono ?_
  rintro e w2 ⟨A2, n2, c2, vs2, rfl, o2, _, hb2⟩
  simp only at o2
  have BB2 : Below w.heap.size w w2 := BB1.trans (hb2.mono BB1.size)
  clear o1
  go_wp2_with fail
  refine (HD.out _ BB2).mono ?_
  rintro e w3 ⟨A3, n3, c3, vs3, rfl, o3, hb3⟩
  simp only at o3
  have BB3 : Below w.heap.size w w3 := BB2.trans (hb3.mono BB2.size)
  replace o2 := o2.below hb3
  go_wp2_with fail
  refine (HSM.out _ _ _ _ o3.rd).mono ?_
  rintro e w4 ⟨A4, n4, c4, vs4, rfl, o4, _, hb4⟩
  simp only at o4
  have BB4 : Below w.heap.size w w4 := BB3.trans (hb4.mono BB3.size)
  replace o2 := o2.below hb4
  replace o3 := o3.below hb4
  go_wp2_with fail
  refine (likeRows_below _ _ _ _ _ _ _ _ _ o2.rd o4.rd).mono ?_
  rintro e w5 ⟨rfl, hb5⟩
  have BB5 : Below w.heap.size w w5 := BB4.trans (hb5.mono BB4.size)
  replace o2 := o2.below hb5
  replace o3 := o3.below hb5
  replace o4 := o4.below hb5
  obtain rfl : n = n4 := by have h0 := o4.len; rw [mat_length] at h0; exact h0
  obtain rfl : n = n2 := by have h0 := o2.len; rw [mat_length] at h0; exact h0
  clear o4
  go_wp2_with fail
  refine (HIL.out _ _ _ _ o3.rd).mono ?_
  rintro e w6 ⟨rfl, hb6⟩
  have BB6 : Below w.heap.size w w6 := BB5.trans (hb6.mono BB5.size)
  replace o2 := o2.below hb6
  replace o3 := o3.below hb6
  go_wp2_with fail
  refine (HSL.out _ _ _ _ o3.rd).mono ?_
  rintro e w7 ⟨rfl, hb7⟩
  have BB := Lib.hid (BB6.trans (hb7.mono BB6.size))
  have RD := Lib.hid (o2.below hb7).rd
  have hnle := RD.out.le
  clear o2 o3 BB1 BB2 BB3 BB4 BB5 BB6 hb1 hb2 hb3 hb4 hb5 hb6 hb7 HIL HSL HIM HSM
  go_wp2_with fail
  go_loopw [17] (fun i wr => ∃ p : Nat, p ≤ n ∧ i = .int .i64 p ∧ Drawn w7 wr) (fun i _ => n - (intOf i).toNat)
  case atStart => exact ⟨0, Nat.zero_le _, rfl, Drawn.refl _⟩
  case round =>
    obtain ⟨p, hp, rfl, hq⟩ := hrel
    by_cases hlt : p < n
    · go_wp2_with fail
      go_loopw [18] (fun i wr => ∃ q : Nat, q ≤ n ∧ i = .int .i64 q ∧ Drawn w7 wr) (fun i _ => n - (intOf i).toNat)
      case atStart => exact ⟨0, Nat.zero_le _, rfl, hq⟩
      case round =>
        clear hq
        obtain ⟨q, hqn, rfl, hq⟩ := hrel
        by_cases hltq : q < n
        · obtain ⟨b, o, b2, o2, cc, rfl, hc1, hc2⟩ := mat_cell (RD.out.drawn hq) hlt hltq
          obtain ⟨b', o', b3, o3, cc', hbo, hc3, hc4⟩ := mat_cell (RD.out.drawn hq) hltq hlt
          obtain ⟨rfl, rfl⟩ : b = b' ∧ o = o' := by injection hbo with hbo; injection hbo with e1 e2; exact ⟨e1, e2⟩
          rw [HSYM.out q p] at hc4
          clear hbo
          have hm : one = 0 → p ≠ q → rn ≤ (f p q : Int) := fun h0 hne => HMIN.out h0 p q hlt hltq hne
          generalize f p q = x at *
          by_cases h1 : one = 0
          · subst h1
            by_cases hpq : p = q
            · subst hpq
              obtain ⟨rfl, rfl, _⟩ : b2 = b3 ∧ o2 = o3 ∧ True := by rw [hc1] at hc3; injection hc3 with hc3; injection hc3 with e1; injection e1 with e1; injection e1 with e2 e3; exact ⟨e2, e3, trivial⟩
              clear hm hc3 hc4
              go_wp2_with fail
              go_quiet (fail)
              go_wp2_with fail
              go_roundw
              case rel => exact ⟨p + 1, by omega, by go_num, hq.step _⟩
              case measure => simp [intOf]; omega
            · have hne : ((p : Int) != (q : Int)) = true := by simp; omega
              have hd : decide ((x : Int) < rn) = false := by have := hm rfl hpq; simp; omega
              clear hm
              go_wp2_with fail
              go_quiet (fail)
              go_wp2_with fail
              go_roundw
              case rel => exact ⟨q + 1, by omega, by go_num, hq.step _⟩
              case measure => simp [intOf]; omega
          · have h1' : (one == 0) = false := by simpa using h1
            clear hm h1
            go_wp2_with fail
            go_quiet (fail)
            go_wp2_with fail
            go_roundw
            case rel => exact ⟨q + 1, by omega, by go_num, hq.step _⟩
            case measure => simp [intOf]; omega
        · obtain rfl : q = n := by omega
          go_wp2_with fail
          go_roundw
          case rel => exact ⟨p + 1, by omega, by go_num, hq⟩
          case measure => simp [intOf]; omega
    · obtain rfl : p = n := by omega
      go_wp2_with fail
      go_ret
      exact ⟨rfl, BB.out.trans (hq.below.mono BB.out.size)⟩
end Go.Proofs.Ytoccfbkklponnaa

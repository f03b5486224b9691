/- Walks: RegisterStanding (chapter 33), both sides. -/
import Derived.Test.YtalgdeieejpelaaGreatZj
import Derived.Test.YtalgdeieejpelaaGreatYe
import Derived.Test.YtalgdeieejpelaaGreatYw
namespace Go.Proofs.YtalgdeieejpelaaGreat
open Go.RowKit Go.Sort
set_option linter.unusedVariables false
set_option maxRecDepth 100000

/-- The standing of a register, and a code. -/
def standCF (b s : Int) (xs : List EntryT) (rule : List Int) : List Int × Int := if regB b s xs = true then (if ruleB rule = true then (standT (tabR b s xs) rule, 0) else ([], 2)) else ([], 1)
/-- Result: a new slice and a code. -/
def RetSC (w : World) (r : List Int × Int) (e : Ending) (w' : World) : Prop :=
  ∃ A n c, e = .returned (.tuple #[.slice A n c, .int .i64 r.2]) ∧ w'.ownsRow w.heap.size 2 1 (.slice A n c) n (ints r.1) ∧ n ≤ 1048576 ∧ Below w.heap.size w w'
theorem RetSC.nil (w w' : World) (code : Int) (h : Below w.heap.size w w') : RetSC w ([], code) (.returned (.tuple #[.slice none 0 0, .int .i64 code])) w' := ⟨none, 0, 0, rfl, World.ownsRow_nil _ _ _ _, by omega, h⟩
theorem tabR_ok {b s : Int} {xs : List EntryT} (h : RegOk b s xs) : TabOk (tabR b s xs) := tableB_ok (applyF_tab (tab0_ok h) (reds_ok h))
set_option maxHeartbeats 4000000 in
theorem implRegStand_any (b s : Int) (A : Option Addr) (n c : Nat) (xs : List EntryT) (A2 : Option Addr) (l cl : Nat) (rule : List Int) (w : World) (hr : RegRd w A n c xs) (hl : Rd w 1 A2 l (ints rule)) :
    Calls Tryz.prog 10 #[.agg #[.int .i64 b, .int .i64 s, .slice A n c], .slice A2 l cl] w (RetSC w (standCF b s xs rule)) := by
  obtain ⟨w1, hw1, X0, hb1, hs1⟩ := one_box w #[.int .i64 b, .int .i64 s, .slice A n c] 31
  have HW1 := Lib.hid hw1
  have HB1 := Lib.hid hb1
  have HX0 := Lib.hid X0
  have F0 := X0.f3
  have HI := Lib.hid (fun w' (hb : Below w.heap.size w w') => implIsRegister_any b s A n c xs w' (hr.below hb))
  have HD := Lib.hid (fun w' (hb : Below w.heap.size w w') => implRule_any A2 l cl rule w' (hl.below hb))
  clear hw1 hb1 X0 hs1
  cases hg : regB b s xs with
  | false =>
    rw [hg] at HI
    rw [show standCF b s xs rule = ([], 1) from by unfold standCF; rw [hg]; rfl]
    clear hg HD hr hl
    go_enter Tryz.func10, Tryz.ntmps10
    go_wp2_with fail
    rw [← HW1.out]
    clear HW1
    refine (HI.out _ HB1.out).mono ?_
    rintro e w2 ⟨rfl, hb2⟩
    have HB2 := Lib.hid (HB1.out.trans (hb2.mono HB1.out.size))
    clear F0 hb2
    go_wp2_with fail
    go_ret2
    exact RetSC.nil _ _ _ HB2.out
  | true =>
    rw [hg] at HI
    cases hru : ruleB rule with
    | false =>
      rw [hru] at HD
      rw [show standCF b s xs rule = ([], 2) from by unfold standCF; rw [hg, hru]; rfl]
      clear hg hru hr hl
      go_enter Tryz.func10, Tryz.ntmps10
      go_wp2_with fail
      rw [← HW1.out]
      clear HW1
      refine (HI.out _ HB1.out).mono ?_
      rintro e w2 ⟨rfl, hb2⟩
      have HB2 := Lib.hid (HB1.out.trans (hb2.mono HB1.out.size))
      clear F0 hb2
      go_wp2_with fail
      refine (HD.out _ HB2.out).mono ?_
      rintro e w3 ⟨rfl, hb3⟩
      have HB3 := Lib.hid (HB2.out.trans (hb3.mono HB2.out.size))
      clear hb3
      go_wp2_with fail
      go_ret2
      exact RetSC.nil _ _ _ HB3.out
    | true =>
      rw [hru] at HD
      rw [show standCF b s xs rule = (standT (tabR b s xs) rule, 0) from by unfold standCF; rw [hg, hru]; rfl]
      have hOK := regB_ok hg
      have ok := tabR_ok hOK
      have hrl := ruleB_len hru
      have HT := Lib.hid (fun w' (hb : Below w.heap.size w w') => implRegTab_any b s A n c xs hOK w' (hr.below hb))
      have HS := Lib.hid (fun P n3 c3 C m3 d3 w' (hb : Below w.heap.size w w') (ho : RdT w' P n3 C m3 (tabR b s xs)) => implStanding_any P n3 c3 C m3 d3 (tabR b s xs) ok A2 l cl rule hrl w' ho (hl.below hb))
      generalize tabR b s xs = T at *
      clear hg hru hr hl hOK ok hrl
      go_enter Tryz.func10, Tryz.ntmps10
      go_wp2_with fail
      rw [← HW1.out]
      clear HW1
      refine (HI.out _ HB1.out).mono ?_
      rintro e w2 ⟨rfl, hb2⟩
      have HB2 := Lib.hid (HB1.out.trans (hb2.mono HB1.out.size))
      have HX2 := Lib.hid (HX0.out.below hb2)
      clear F0 hb2
      go_wp2_with fail
      refine (HD.out _ HB2.out).mono ?_
      rintro e w3 ⟨rfl, hb3⟩
      have HB3 := Lib.hid (HB2.out.trans (hb3.mono HB2.out.size))
      have F0 := (HX2.out.below hb3).f3
      clear hb3
      go_wp2_with fail
      refine (HT.out _ HB3.out).mono ?_
      rintro e w4 ⟨P, n3, c3, vs, C, m3, d3, us, rfl, ho4, -, hb4⟩
      have HB4 := Lib.hid (HB3.out.trans (hb4.mono HB3.out.size))
      have HO4 := Lib.hid ho4.rd
      clear ho4 hb4 F0
      go_wp2_with fail
      refine (HS.out P n3 c3 C m3 d3 _ HB4.out HO4.out).mono ?_
      rintro e w5 ⟨A5, n5, c5, rfl, ho5, hn5, hb5⟩
      have HO5 := Lib.hid (own_base ho5 HB4.out.size)
      have HB5 := Lib.hid (HB4.out.trans (hb5.mono HB4.out.size))
      clear ho5 hb5
      go_wp2_with fail
      go_ret2
      exact ⟨A5, n5, c5, rfl, HO5.out, hn5, HB5.out⟩
set_option maxHeartbeats 4000000 in
theorem specRegStand_any (b s : Int) (A : Option Addr) (n c : Nat) (xs : List EntryT) (A2 : Option Addr) (l cl : Nat) (rule : List Int) (w : World) (hr : RegRd w A n c xs) (hl : Rd w 1 A2 l (ints rule)) :
    Calls Tryz.prog 7 #[.agg #[.int .i64 b, .int .i64 s, .slice A n c], .slice A2 l cl] w (RetSC w (standCF b s xs rule)) := by
  obtain ⟨w1, hw1, X0, hb1, hs1⟩ := one_box w #[.int .i64 b, .int .i64 s, .slice A n c] 31
  have HW1 := Lib.hid hw1
  have HB1 := Lib.hid hb1
  have HX0 := Lib.hid X0
  have F0 := X0.f3
  have HI := Lib.hid (fun w' (hb : Below w.heap.size w w') => specIsRegister_any b s A n c xs w' (hr.below hb))
  have HD := Lib.hid (fun w' (hb : Below w.heap.size w w') => specRule_any A2 l cl rule w' (hl.below hb))
  clear hw1 hb1 X0 hs1
  cases hg : regB b s xs with
  | false =>
    rw [hg] at HI
    rw [show standCF b s xs rule = ([], 1) from by unfold standCF; rw [hg]; rfl]
    clear hg HD hr hl
    go_enter Tryz.func7, Tryz.ntmps7
    go_wp2_with fail
    rw [← HW1.out]
    clear HW1
    refine (HI.out _ HB1.out).mono ?_
    rintro e w2 ⟨rfl, hb2⟩
    have HB2 := Lib.hid (HB1.out.trans (hb2.mono HB1.out.size))
    clear F0 hb2
    go_wp2_with fail
    go_ret2
    exact RetSC.nil _ _ _ HB2.out
  | true =>
    rw [hg] at HI
    cases hru : ruleB rule with
    | false =>
      rw [hru] at HD
      rw [show standCF b s xs rule = ([], 2) from by unfold standCF; rw [hg, hru]; rfl]
      clear hg hru hr hl
      go_enter Tryz.func7, Tryz.ntmps7
      go_wp2_with fail
      rw [← HW1.out]
      clear HW1
      refine (HI.out _ HB1.out).mono ?_
      rintro e w2 ⟨rfl, hb2⟩
      have HB2 := Lib.hid (HB1.out.trans (hb2.mono HB1.out.size))
      clear F0 hb2
      go_wp2_with fail
      refine (HD.out _ HB2.out).mono ?_
      rintro e w3 ⟨rfl, hb3⟩
      have HB3 := Lib.hid (HB2.out.trans (hb3.mono HB2.out.size))
      clear hb3
      go_wp2_with fail
      go_ret2
      exact RetSC.nil _ _ _ HB3.out
    | true =>
      rw [hru] at HD
      rw [show standCF b s xs rule = (standT (tabR b s xs) rule, 0) from by unfold standCF; rw [hg, hru]; rfl]
      have hOK := regB_ok hg
      have ok := tabR_ok hOK
      have hrl := ruleB_len hru
      have HT := Lib.hid (fun w' (hb : Below w.heap.size w w') => specRegTab_any b s A n c xs hOK w' (hr.below hb))
      have HS := Lib.hid (fun P n3 c3 C m3 d3 w' (hb : Below w.heap.size w w') (ho : RdT w' P n3 C m3 (tabR b s xs)) => specStanding_any P n3 c3 C m3 d3 (tabR b s xs) ok A2 l cl rule hrl w' ho (hl.below hb))
      generalize tabR b s xs = T at *
      clear hg hru hr hl hOK ok hrl
      go_enter Tryz.func7, Tryz.ntmps7
      go_wp2_with fail
      rw [← HW1.out]
      clear HW1
      refine (HI.out _ HB1.out).mono ?_
      rintro e w2 ⟨rfl, hb2⟩
      have HB2 := Lib.hid (HB1.out.trans (hb2.mono HB1.out.size))
      have HX2 := Lib.hid (HX0.out.below hb2)
      clear F0 hb2
      go_wp2_with fail
      refine (HD.out _ HB2.out).mono ?_
      rintro e w3 ⟨rfl, hb3⟩
      have HB3 := Lib.hid (HB2.out.trans (hb3.mono HB2.out.size))
      have F0 := (HX2.out.below hb3).f3
      clear hb3
      go_wp2_with fail
      refine (HT.out _ HB3.out).mono ?_
      rintro e w4 ⟨P, n3, c3, vs, C, m3, d3, us, rfl, ho4, -, hb4⟩
      have HB4 := Lib.hid (HB3.out.trans (hb4.mono HB3.out.size))
      have HO4 := Lib.hid ho4.rd
      clear ho4 hb4 F0
      go_wp2_with fail
      refine (HS.out P n3 c3 C m3 d3 _ HB4.out HO4.out).mono ?_
      rintro e w5 ⟨A5, n5, c5, rfl, ho5, hn5, hb5⟩
      have HO5 := Lib.hid (own_base ho5 HB4.out.size)
      have HB5 := Lib.hid (HB4.out.trans (hb5.mono HB4.out.size))
      clear ho5 hb5
      go_wp2_with fail
      go_ret2
      exact ⟨A5, n5, c5, rfl, HO5.out, hn5, HB5.out⟩
end Go.Proofs.YtalgdeieejpelaaGreat

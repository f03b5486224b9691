/- General and plain lemmas, and light walks (merged): Ye Zn Zo Zs Zt. -/
import Derived.Test.YtalgdeieejpelaaGreatYd
import Derived.Test.YtalgdeieejpelaaGreatZml
import Derived.Test.YtalgdeieejpelaaGreatZmj
import Derived.Test.YtalgdeieejpelaaGreatZmm
import Derived.Test.YtalgdeieejpelaaGreatJh
import Derived.Test.YtalgdeieejpelaaGreatRi
import Derived.Test.YtalgdeieejpelaaGreatZf
import Derived.Test.YtalgdeieejpelaaGreatZc
/- Walks: the table of a register, both sides: whole functions. -/
namespace Go.Proofs.YtalgdeieejpelaaGreat
open Go.RowKit Go.Sort
set_option linter.unusedVariables false
set_option maxRecDepth 100000

set_option maxHeartbeats 2000000 in
theorem implRegisterTable_any (b s : Int) (A : Option Addr) (n c : Nat) (xs : List EntryT) (w : World) (hr : RegRd w A n c xs) :
    Calls Tryz.prog 22 #[.agg #[.int .i64 b, .int .i64 s, .slice A n c]] w (RetTC w (regTabC b s xs)) := by
  obtain ⟨w1, hw1, X0, X1, hb1, hs1⟩ := two_boxes w #[.int .i64 b, .int .i64 s, .slice A n c] #[.int .i64 0, .slice none 0 0, .slice none 0 0] 31 53
  have HB1 := Lib.hid hb1
  have HI := Lib.hid (fun w' (hb : Below w.heap.size w w') => implIsRegister_any b s A n c xs w' (hr.below hb))
  have HR := Lib.hid (fun w' (hb : Below w.heap.size w w') => hr.below hb)
  have HX0 := Lib.hid X0; have HX1 := Lib.hid X1
  have F0 := X0.f3; have F1 := X1.f3
  clear hb1 X0 X1 hr
  cases hg : regB b s xs with
  | false =>
    rw [hg] at HI
    rw [show regTabC b s xs = (noT, 1) from by unfold regTabC; rw [hg]; rfl]
    clear hg
    go_enter Tryz.func22, Tryz.ntmps22
    go_wp2_with fail
    rw [← hw1]
    clear hw1
    refine (HI.out _ HB1.out).mono ?_
    rintro e w2 ⟨rfl, hb2⟩
    have HB2 := Lib.hid (HB1.out.trans (hb2.mono HB1.out.size))
    have HX2 := Lib.hid (HX1.out.below hb2)
    clear F0 F1
    have F0 := (HX0.out.below hb2).f3
    have F1 := HX2.out.f3
    have hs2 := hb2.size
    clear hb2
    go_wp2_with fail
    refine bodyPost_ret (v := .tuple #[.agg #[.int .i64 0, .slice none 0 0, .slice none 0 0], .int .i64 1]) (by simp [results, Tryz.results22, go_sem, F1]) rfl ?_
    have hch := put_chg (g := w.heap.size + 1) [.int .i64 0, .slice none 0 0, .slice none 0 0] 0 (Chg.refl (w.heap.size + 1) (w.heap.size + 1 + 1) w2) (by omega) (by omega)
    exact RetTC.nil w _ 1 (below_chg HB2.out hch (by omega) (by omega))
  | true =>
    rw [hg] at HI
    rw [show regTabC b s xs = (tabR b s xs, 0) from by unfold regTabC; rw [hg]; rfl]
    have hOK := regB_ok hg
    have HSE := Lib.hid (fun w' (hb : Below w.heap.size w w') => implRegTab_any b s A n c xs hOK w' (HR.out w' hb))
    generalize tabR b s xs = T at *
    clear hg hOK
    go_enter Tryz.func22, Tryz.ntmps22
    go_wp2_with fail
    rw [← hw1]
    clear hw1
    refine (HI.out _ HB1.out).mono ?_
    rintro e w2 ⟨rfl, hb2⟩
    have HB2 := Lib.hid (HB1.out.trans (hb2.mono HB1.out.size))
    have HX2 := Lib.hid (HX1.out.below hb2)
    clear F0 F1
    have F0 := (HX0.out.below hb2).f3
    have hs2 := hb2.size
    clear hb2
    go_wp2_with fail
    refine (HSE.out _ HB2.out).mono ?_
    rintro e w3 ⟨P, n3, c3, vs, C, m3, d3, us, rfl, ho3, hsum3, hb3⟩
    have HB3 := Lib.hid (HB2.out.trans (hb3.mono HB2.out.size))
    have F1 := (HX2.out.below hb3).f3
    have hs3 := hb3.size
    clear hb3 F0
    go_wp2_with fail
    refine bodyPost_ret (v := .tuple #[.agg #[.int .i64 T.boats, .slice P n3 c3, .slice C m3 d3], .int .i64 0]) (by simp [results, Tryz.results22, go_sem, F1]) rfl ?_
    have hch := put_chg (g := w.heap.size + 1) [.int .i64 T.boats, .slice P n3 c3, .slice C m3 d3] 0 (Chg.refl (w.heap.size + 1) (w.heap.size + 1 + 1) w3) (by omega) (by omega)
    have hso := (ho3.chg hch ho3.in_ (.inr (by omega))).base' (show w.heap.size ≤ w2.heap.size by omega)
    exact ⟨P, n3, c3, vs, C, m3, d3, us, rfl, hso, hsum3, below_chg HB3.out hch (by omega) (by omega)⟩
set_option maxHeartbeats 2000000 in
theorem specRegisterTable_any (b s : Int) (A : Option Addr) (n c : Nat) (xs : List EntryT) (w : World) (hr : RegRd w A n c xs) :
    Calls Tryz.prog 30 #[.agg #[.int .i64 b, .int .i64 s, .slice A n c]] w (RetTC w (regTabC b s xs)) := by
  obtain ⟨w1, hw1, X0, X1, hb1, hs1⟩ := two_boxes w #[.int .i64 b, .int .i64 s, .slice A n c] #[.int .i64 0, .slice none 0 0, .slice none 0 0] 31 53
  have HB1 := Lib.hid hb1
  have HI := Lib.hid (fun w' (hb : Below w.heap.size w w') => specIsRegister_any b s A n c xs w' (hr.below hb))
  have HR := Lib.hid (fun w' (hb : Below w.heap.size w w') => hr.below hb)
  have HX0 := Lib.hid X0; have HX1 := Lib.hid X1
  have F0 := X0.f3; have F1 := X1.f3
  clear hb1 X0 X1 hr
  cases hg : regB b s xs with
  | false =>
    rw [hg] at HI
    rw [show regTabC b s xs = (noT, 1) from by unfold regTabC; rw [hg]; rfl]
    clear hg
    go_enter Tryz.func30, Tryz.ntmps30
    go_wp2_with fail
    rw [← hw1]
    clear hw1
    refine (HI.out _ HB1.out).mono ?_
    rintro e w2 ⟨rfl, hb2⟩
    have HB2 := Lib.hid (HB1.out.trans (hb2.mono HB1.out.size))
    have HX2 := Lib.hid (HX1.out.below hb2)
    clear F0 F1
    have F0 := (HX0.out.below hb2).f3
    have F1 := HX2.out.f3
    have hs2 := hb2.size
    clear hb2
    go_wp2_with fail
    refine bodyPost_ret (v := .tuple #[.agg #[.int .i64 0, .slice none 0 0, .slice none 0 0], .int .i64 1]) (by simp [results, Tryz.results30, go_sem, F1]) rfl ?_
    have hch := put_chg (g := w.heap.size + 1) [.int .i64 0, .slice none 0 0, .slice none 0 0] 0 (Chg.refl (w.heap.size + 1) (w.heap.size + 1 + 1) w2) (by omega) (by omega)
    exact RetTC.nil w _ 1 (below_chg HB2.out hch (by omega) (by omega))
  | true =>
    rw [hg] at HI
    rw [show regTabC b s xs = (tabR b s xs, 0) from by unfold regTabC; rw [hg]; rfl]
    have hOK := regB_ok hg
    have HSE := Lib.hid (fun w' (hb : Below w.heap.size w w') => specRegTab_any b s A n c xs hOK w' (HR.out w' hb))
    generalize tabR b s xs = T at *
    clear hg hOK
    go_enter Tryz.func30, Tryz.ntmps30
    go_wp2_with fail
    rw [← hw1]
    clear hw1
    refine (HI.out _ HB1.out).mono ?_
    rintro e w2 ⟨rfl, hb2⟩
    have HB2 := Lib.hid (HB1.out.trans (hb2.mono HB1.out.size))
    have HX2 := Lib.hid (HX1.out.below hb2)
    clear F0 F1
    have F0 := (HX0.out.below hb2).f3
    have hs2 := hb2.size
    clear hb2
    go_wp2_with fail
    refine (HSE.out _ HB2.out).mono ?_
    rintro e w3 ⟨P, n3, c3, vs, C, m3, d3, us, rfl, ho3, hsum3, hb3⟩
    have HB3 := Lib.hid (HB2.out.trans (hb3.mono HB2.out.size))
    have F1 := (HX2.out.below hb3).f3
    have hs3 := hb3.size
    clear hb3 F0
    go_wp2_with fail
    refine bodyPost_ret (v := .tuple #[.agg #[.int .i64 T.boats, .slice P n3 c3, .slice C m3 d3], .int .i64 0]) (by simp [results, Tryz.results30, go_sem, F1]) rfl ?_
    have hch := put_chg (g := w.heap.size + 1) [.int .i64 T.boats, .slice P n3 c3, .slice C m3 d3] 0 (Chg.refl (w.heap.size + 1) (w.heap.size + 1 + 1) w3) (by omega) (by omega)
    have hso := (ho3.chg hch ho3.in_ (.inr (by omega))).base' (show w.heap.size ≤ w2.heap.size by omega)
    exact ⟨P, n3, c3, vs, C, m3, d3, us, rfl, hso, hsum3, below_chg HB3.out hch (by omega) (by omega)⟩
end Go.Proofs.YtalgdeieejpelaaGreat

/- Walks: RegisterStanding (chapter 33), both sides. -/
namespace Go.Proofs.YtalgdeieejpelaaGreat
open Go.RowKit Go.Sort
set_option linter.unusedVariables false
set_option maxRecDepth 100000

/-- The standing of a register, and a code. -/
def standCF (b s : Int) (xs : List EntryT) (rule : List Int) : List Int × Int := if regB b s xs = true then (if ruleB rule = true then (standT (tabR b s xs) rule, 0) else ([], 2)) else ([], 1)
/-- Result: a new slice and a code. -/
def RetSC (w : World) (r : List Int × Int) (e : Ending) (w' : World) : Prop :=
  ∃ A n c, e = .returned (.tuple #[.slice A n c, .int .i64 r.2]) ∧ w'.ownsRow w.heap.size 2 1 (.slice A n c) n (ints r.1) ∧ n ≤ 1048576 ∧ Below w.heap.size w w'
theorem RetSC.nil (w w' : World) (code : Int) (h : Below w.heap.size w w') : RetSC w ([], code) (.returned (.tuple #[.slice none 0 0, .int .i64 code])) w' := ⟨none, 0, 0, rfl, World.ownsRow_nil _ _ _ _, by omega, h⟩
theorem tabR_ok {b s : Int} {xs : List EntryT} (h : RegOk b s xs) : TabOk (tabR b s xs) := tableB_ok (applyF_tab (tab0_ok h) (reds_ok h))
set_option maxHeartbeats 4000000 in
theorem implRegStand_any (b s : Int) (A : Option Addr) (n c : Nat) (xs : List EntryT) (A2 : Option Addr) (l cl : Nat) (rule : List Int) (w : World) (hr : RegRd w A n c xs) (hl : Rd w 1 A2 l (ints rule)) :
    Calls Tryz.prog 10 #[.agg #[.int .i64 b, .int .i64 s, .slice A n c], .slice A2 l cl] w (RetSC w (standCF b s xs rule)) := by
  obtain ⟨w1, hw1, X0, hb1, hs1⟩ := one_box w #[.int .i64 b, .int .i64 s, .slice A n c] 31
  have HW1 := Lib.hid hw1
  have HB1 := Lib.hid hb1
  have HX0 := Lib.hid X0
  have F0 := X0.f3
  have HI := Lib.hid (fun w' (hb : Below w.heap.size w w') => implIsRegister_any b s A n c xs w' (hr.below hb))
  have HD := Lib.hid (fun w' (hb : Below w.heap.size w w') => implRule_any A2 l cl rule w' (hl.below hb))
  clear hw1 hb1 X0 hs1
  cases hg : regB b s xs with
  | false =>
    rw [hg] at HI
    rw [show standCF b s xs rule = ([], 1) from by unfold standCF; rw [hg]; rfl]
    clear hg HD hr hl
    go_enter Tryz.func10, Tryz.ntmps10
    go_wp2_with fail
    rw [← HW1.out]
    clear HW1
    refine (HI.out _ HB1.out).mono ?_
    rintro e w2 ⟨rfl, hb2⟩
    have HB2 := Lib.hid (HB1.out.trans (hb2.mono HB1.out.size))
    clear F0 hb2
    go_wp2_with fail
    go_ret2
    exact RetSC.nil _ _ _ HB2.out
  | true =>
    rw [hg] at HI
    cases hru : ruleB rule with
    | false =>
      rw [hru] at HD
      rw [show standCF b s xs rule = ([], 2) from by unfold standCF; rw [hg, hru]; rfl]
      clear hg hru hr hl
      go_enter Tryz.func10, Tryz.ntmps10
      go_wp2_with fail
      rw [← HW1.out]
      clear HW1
      refine (HI.out _ HB1.out).mono ?_
      rintro e w2 ⟨rfl, hb2⟩
      have HB2 := Lib.hid (HB1.out.trans (hb2.mono HB1.out.size))
      clear F0 hb2
      go_wp2_with fail
      refine (HD.out _ HB2.out).mono ?_
      rintro e w3 ⟨rfl, hb3⟩
      have HB3 := Lib.hid (HB2.out.trans (hb3.mono HB2.out.size))
      clear hb3
      go_wp2_with fail
      go_ret2
      exact RetSC.nil _ _ _ HB3.out
    | true =>
      rw [hru] at HD
      rw [show standCF b s xs rule = (standT (tabR b s xs) rule, 0) from by unfold standCF; rw [hg, hru]; rfl]
      have hOK := regB_ok hg
      have ok := tabR_ok hOK
      have hrl := ruleB_len hru
      have HT := Lib.hid (fun w' (hb : Below w.heap.size w w') => implRegTab_any b s A n c xs hOK w' (hr.below hb))
      have HS := Lib.hid (fun P n3 c3 C m3 d3 w' (hb : Below w.heap.size w w') (ho : RdT w' P n3 C m3 (tabR b s xs)) => implStanding_any P n3 c3 C m3 d3 (tabR b s xs) ok A2 l cl rule hrl w' ho (hl.below hb))
      generalize tabR b s xs = T at *
      clear hg hru hr hl hOK ok hrl
      go_enter Tryz.func10, Tryz.ntmps10
      go_wp2_with fail
      rw [← HW1.out]
      clear HW1
      refine (HI.out _ HB1.out).mono ?_
      rintro e w2 ⟨rfl, hb2⟩
      have HB2 := Lib.hid (HB1.out.trans (hb2.mono HB1.out.size))
      have HX2 := Lib.hid (HX0.out.below hb2)
      clear F0 hb2
      go_wp2_with fail
      refine (HD.out _ HB2.out).mono ?_
      rintro e w3 ⟨rfl, hb3⟩
      have HB3 := Lib.hid (HB2.out.trans (hb3.mono HB2.out.size))
      have F0 := (HX2.out.below hb3).f3
      clear hb3
      go_wp2_with fail
      refine (HT.out _ HB3.out).mono ?_
      rintro e w4 ⟨P, n3, c3, vs, C, m3, d3, us, rfl, ho4, -, hb4⟩
      have HB4 := Lib.hid (HB3.out.trans (hb4.mono HB3.out.size))
      have HO4 := Lib.hid ho4.rd
      clear ho4 hb4 F0
      go_wp2_with fail
      refine (HS.out P n3 c3 C m3 d3 _ HB4.out HO4.out).mono ?_
      rintro e w5 ⟨A5, n5, c5, rfl, ho5, hn5, hb5⟩
      have HO5 := Lib.hid (own_base ho5 HB4.out.size)
      have HB5 := Lib.hid (HB4.out.trans (hb5.mono HB4.out.size))
      clear ho5 hb5
      go_wp2_with fail
      go_ret2
      exact ⟨A5, n5, c5, rfl, HO5.out, hn5, HB5.out⟩
set_option maxHeartbeats 4000000 in
theorem specRegStand_any (b s : Int) (A : Option Addr) (n c : Nat) (xs : List EntryT) (A2 : Option Addr) (l cl : Nat) (rule : List Int) (w : World) (hr : RegRd w A n c xs) (hl : Rd w 1 A2 l (ints rule)) :
    Calls Tryz.prog 7 #[.agg #[.int .i64 b, .int .i64 s, .slice A n c], .slice A2 l cl] w (RetSC w (standCF b s xs rule)) := by
  obtain ⟨w1, hw1, X0, hb1, hs1⟩ := one_box w #[.int .i64 b, .int .i64 s, .slice A n c] 31
  have HW1 := Lib.hid hw1
  have HB1 := Lib.hid hb1
  have HX0 := Lib.hid X0
  have F0 := X0.f3
  have HI := Lib.hid (fun w' (hb : Below w.heap.size w w') => specIsRegister_any b s A n c xs w' (hr.below hb))
  have HD := Lib.hid (fun w' (hb : Below w.heap.size w w') => specRule_any A2 l cl rule w' (hl.below hb))
  clear hw1 hb1 X0 hs1
  cases hg : regB b s xs with
  | false =>
    rw [hg] at HI
    rw [show standCF b s xs rule = ([], 1) from by unfold standCF; rw [hg]; rfl]
    clear hg HD hr hl
    go_enter Tryz.func7, Tryz.ntmps7
    go_wp2_with fail
    rw [← HW1.out]
    clear HW1
    refine (HI.out _ HB1.out).mono ?_
    rintro e w2 ⟨rfl, hb2⟩
    have HB2 := Lib.hid (HB1.out.trans (hb2.mono HB1.out.size))
    clear F0 hb2
    go_wp2_with fail
    go_ret2
    exact RetSC.nil _ _ _ HB2.out
  | true =>
    rw [hg] at HI
    cases hru : ruleB rule with
    | false =>
      rw [hru] at HD
      rw [show standCF b s xs rule = ([], 2) from by unfold standCF; rw [hg, hru]; rfl]
      clear hg hru hr hl
      go_enter Tryz.func7, Tryz.ntmps7
      go_wp2_with fail
      rw [← HW1.out]
      clear HW1
      refine (HI.out _ HB1.out).mono ?_
      rintro e w2 ⟨rfl, hb2⟩
      have HB2 := Lib.hid (HB1.out.trans (hb2.mono HB1.out.size))
      clear F0 hb2
      go_wp2_with fail
      refine (HD.out _ HB2.out).mono ?_
      rintro e w3 ⟨rfl, hb3⟩
      have HB3 := Lib.hid (HB2.out.trans (hb3.mono HB2.out.size))
      clear hb3
      go_wp2_with fail
      go_ret2
      exact RetSC.nil _ _ _ HB3.out
    | true =>
      rw [hru] at HD
      rw [show standCF b s xs rule = (standT (tabR b s xs) rule, 0) from by unfold standCF; rw [hg, hru]; rfl]
      have hOK := regB_ok hg
      have ok := tabR_ok hOK
      have hrl := ruleB_len hru
      have HT := Lib.hid (fun w' (hb : Below w.heap.size w w') => specRegTab_any b s A n c xs hOK w' (hr.below hb))
      have HS := Lib.hid (fun P n3 c3 C m3 d3 w' (hb : Below w.heap.size w w') (ho : RdT w' P n3 C m3 (tabR b s xs)) => specStanding_any P n3 c3 C m3 d3 (tabR b s xs) ok A2 l cl rule hrl w' ho (hl.below hb))
      generalize tabR b s xs = T at *
      clear hg hru hr hl hOK ok hrl
      go_enter Tryz.func7, Tryz.ntmps7
      go_wp2_with fail
      rw [← HW1.out]
      clear HW1
      refine (HI.out _ HB1.out).mono ?_
      rintro e w2 ⟨rfl, hb2⟩
      have HB2 := Lib.hid (HB1.out.trans (hb2.mono HB1.out.size))
      have HX2 := Lib.hid (HX0.out.below hb2)
      clear F0 hb2
      go_wp2_with fail
      refine (HD.out _ HB2.out).mono ?_
      rintro e w3 ⟨rfl, hb3⟩
      have HB3 := Lib.hid (HB2.out.trans (hb3.mono HB2.out.size))
      have F0 := (HX2.out.below hb3).f3
      clear hb3
      go_wp2_with fail
      refine (HT.out _ HB3.out).mono ?_
      rintro e w4 ⟨P, n3, c3, vs, C, m3, d3, us, rfl, ho4, -, hb4⟩
      have HB4 := Lib.hid (HB3.out.trans (hb4.mono HB3.out.size))
      have HO4 := Lib.hid ho4.rd
      clear ho4 hb4 F0
      go_wp2_with fail
      refine (HS.out P n3 c3 C m3 d3 _ HB4.out HO4.out).mono ?_
      rintro e w5 ⟨A5, n5, c5, rfl, ho5, hn5, hb5⟩
      have HO5 := Lib.hid (own_base ho5 HB4.out.size)
      have HB5 := Lib.hid (HB4.out.trans (hb5.mono HB4.out.size))
      clear ho5 hb5
      go_wp2_with fail
      go_ret2
      exact ⟨A5, n5, c5, rfl, HO5.out, hn5, HB5.out⟩
end Go.Proofs.YtalgdeieejpelaaGreat

/- Plain: a register with its entries in another order has the same table and the same standing. -/
namespace Go.Proofs.YtalgdeieejpelaaGreat
open Go.RowKit Go.Sort
set_option linter.unusedVariables false

/-- The entries turned by k, then from the last to the first. -/
def turnE (xs : List EntryT) (k : Nat) : List EntryT := xs.drop k ++ xs.take k
def othE (xs : List EntryT) (k : Nat) : List EntryT := (turnE xs k).reverse
theorem turn_perm (xs : List EntryT) (k : Nat) : (turnE xs k).Perm xs := by
  unfold turnE
  have h : (xs.take k ++ xs.drop k).Perm xs := by rw [List.take_append_drop]
  exact List.perm_append_comm.trans h
theorem oth_perm (xs : List EntryT) (k : Nat) : (othE xs k).Perm xs := (List.reverse_perm _).trans (turn_perm xs k)
theorem turn_len (xs : List EntryT) (k : Nat) : (turnE xs k).length = xs.length := (turn_perm xs k).length_eq
theorem turn_get {xs : List EntryT} {k i : Nat} (hk : k ≤ xs.length) (hi : i < xs.length) : (turnE xs k)[i]? = xs[(i + k) % xs.length]? := by
  unfold turnE
  by_cases h : i < xs.length - k
  · rw [List.getElem?_append_left (by rw [List.length_drop]; exact h), List.getElem?_drop, Nat.mod_eq_of_lt (by omega), Nat.add_comm]
  · rw [List.getElem?_append_right (by rw [List.length_drop]; omega), List.length_drop]
    have e : (i + k) % xs.length = i + k - xs.length := by
      rw [Nat.mod_eq_sub_mod (by omega), Nat.mod_eq_of_lt (by omega)]
    rw [e, List.getElem?_take_of_lt (by omega)]
    congr 1
    omega
theorem RegOk.perm {b s : Int} {xs ys : List EntryT} (h : RegOk b s xs) (hp : xs.Perm ys) : RegOk b s ys :=
  ⟨h.b1, h.b2, h.s0, h.s1, by rw [← hp.length_eq]; exact h.len, fun x hx => h.ent x (hp.mem_iff.2 hx), (hp.pairwise_iff (fun {x y} hxy => by
    cases hb : sameB y x with
    | false => rfl
    | true => rw [sameB_sym hb] at hxy; cases hxy)).1 h.key⟩
theorem tabR_order {b s : Int} {xs ys : List EntryT} (h : RegOk b s xs) (hp : xs.Perm ys) : tabR b s ys = tabR b s xs := by
  unfold tabR tab0
  rw [serF_order h.key hp, currF_order h.key hp]
theorem stand_order {b s : Int} {xs ys : List EntryT} {rule : List Int} (h : RegOk b s xs) (h2 : regB b s ys = true) (h1 : regB b s xs = true) (hp : xs.Perm ys) : standCF b s ys rule = standCF b s xs rule := by
  unfold standCF
  rw [h1, h2, tabR_order h hp]
theorem regTab_order {b s : Int} {xs ys : List EntryT} (h : RegOk b s xs) (h2 : regB b s ys = true) (h1 : regB b s xs = true) (hp : xs.Perm ys) : regTabC b s ys = regTabC b s xs := by
  unfold regTabC
  rw [h1, h2, tabR_order h hp]
end Go.Proofs.YtalgdeieejpelaaGreat

/- Plain: the steps of a standing; what redress leaves as it was; a shuffled register. -/
namespace Go.Proofs.YtalgdeieejpelaaGreat
open Go.RowKit Go.Sort
set_option linter.unusedVariables false

theorem last_anti (P Q : List Int) : ∀ k, (lastGoR Q P k).1 = -(lastGoR P Q k).1 := by
  intro k
  induction k with
  | zero => rfl
  | succ k ih =>
    rw [lastGoR_succ, lastGoR_succ]
    by_cases h : atI P k = atI Q k
    · rw [if_pos h, if_pos h.symm]; exact ih
    · rw [if_neg h, if_neg (fun e => h e.symm)]
      show atI Q k - atI P k = -(atI P k - atI Q k)
      omega
theorem sgnZ_anti (x : Int) : sgnZ (-x) = - sgnZ x := by
  unfold sgnZ
  by_cases h : x < 0
  · rw [if_neg (by omega), if_pos (by omega), if_pos h]; rfl
  · by_cases h2 : 0 < x
    · rw [if_pos (by omega), if_neg h, if_pos h2]
    · rw [if_neg (by omega), if_neg (by omega), if_neg h, if_neg h2]; rfl
theorem cmp_anti (t : Tb) (rule : List Int) (a b : Int) : (cmpT t rule b a).1 = -(cmpT t rule a b).1 := by
  by_cases h1 : netT t rule a = netT t rule b
  · have h2 := lexC_anti (srtT t rule b) (srtT t rule a)
    generalize he : lexC (srtT t rule a) (srtT t rule b) = e at h2
    by_cases h3 : e = 0
    · subst h3
      have h4 := last_anti (colOf t.pts a) (colOf t.pts b) t.pts.length
      generalize hg : lastGoR (colOf t.pts a) (colOf t.pts b) t.pts.length = g at h4
      generalize hg2 : lastGoR (colOf t.pts b) (colOf t.pts a) t.pts.length = g2 at h4
      obtain ⟨d, k⟩ := g
      obtain ⟨d2, k2⟩ := g2
      simp only at h4
      subst h4
      by_cases h5 : d = 0
      · subst h5
        rw [cmp_none h1 he hg, cmp_none h1.symm (by rw [h2]; rfl) (k := k2) (by rw [hg2]; rfl)]
        rfl
      · rw [cmp_last h1 he hg h5, cmp_last h1.symm (by rw [h2]; rfl) hg2 (by omega)]
        exact sgnZ_anti d
    · rw [cmp_best h1 he h3, cmp_best h1.symm h2 (by omega)]
      exact sgnZ_anti e
  · rw [cmp_net h1, cmp_net (fun h => h1 h.symm)]
    show sgnZ _ = - sgnZ _
    rw [← sgnZ_anti]
    congr 1
    omega
theorem stand_step {t : Tb} (ok : TabOk t) (rule : List Int) {i : Nat} {x y : Int} (hx : (standT t rule)[i]? = some x) (hy : (standT t rule)[i + 1]? = some y) :
    (cmpT t rule x y).1 ≤ 0 ∧ ((cmpT t rule x y).1 = 0 → x < y) := by
  have h := stand_pair (ltT_weak ok rule) t.boats.toNat
  rw [← standT_eq ok] at h
  obtain ⟨hi, rfl⟩ := List.getElem?_eq_some_iff.1 hx
  obtain ⟨hj, rfl⟩ := List.getElem?_eq_some_iff.1 hy
  have h2 := List.pairwise_iff_getElem.1 h i (i + 1) hi hj (by omega)
  unfold tieL ltT at h2
  rw [cmp_anti t rule (standT t rule)[i] (standT t rule)[i + 1]] at h2
  generalize (cmpT t rule (standT t rule)[i] (standT t rule)[i + 1]).1 = v at *
  simp only [Bool.or_eq_true, Bool.and_eq_true, Bool.not_eq_true', decide_eq_true_eq, decide_eq_false_iff_not] at h2
  omega
theorem top_at {b s : Int} {xs : List EntryT} (h : RegOk b s xs) {i k : Nat} (hc : ((tabR b s xs).cds.getD i []).getD k 0 ≠ 9) :
    ((tab0 b s xs).pts.getD i []).getD k 0 = ((tabR b s xs).pts.getD i []).getD k 0 := by
  refine (applyF_at (reds_ok h) ?_).symm
  cases hn : namedB (redsOf (tab0 b s xs) (currF b xs)) i k with
  | false => rfl
  | true =>
    exfalso
    unfold namedB at hn
    obtain ⟨x, hx, he⟩ := List.any_eq_true.1 hn
    simp only [Bool.and_eq_true, beq_iff_eq] at he
    have h1 := reds_mem (reds_ok h) x hx
    unfold redB at h1
    simp only [Bool.and_eq_true, beq_iff_eq] at h1
    have h2 := h1.1.2
    unfold codeAt at h2
    rw [he.1, he.2, Int.toNat_natCast, Int.toNat_natCast] at h2
    exact hc h2
/-- Entries picked by indices. -/
def pickE (xs : List EntryT) (p : List Int) : List EntryT := p.map fun i => xs.getD i.toNat (0, 0, 0, 0, 0, 0, 0)
theorem pickE_len (xs : List EntryT) (p : List Int) : (pickE xs p).length = p.length := by unfold pickE; rw [List.length_map]
theorem pickE_idx (xs : List EntryT) : pickE xs (idx xs.length) = xs := by
  refine List.ext_getElem? fun j => ?_
  unfold pickE
  rw [List.getElem?_map]
  by_cases h : j < xs.length
  · rw [show (idx xs.length)[j]? = some (j : Int) from by unfold idx; rw [List.getElem?_map, List.getElem?_range h]; rfl]
    rw [Option.map_some, Int.toNat_natCast, List.getD_eq_getElem?_getD, List.getElem?_eq_getElem h]
    rfl
  · rw [List.getElem?_eq_none (by rw [idx_length]; omega), List.getElem?_eq_none (by omega)]
    rfl
theorem pickE_perm {xs : List EntryT} {p : List Int} (h : p.Perm (idx xs.length)) : (pickE xs p).Perm xs := by
  have := h.map fun i : Int => xs.getD i.toNat ((0, 0, 0, 0, 0, 0, 0) : EntryT)
  rw [show (idx xs.length).map (fun i : Int => xs.getD i.toNat ((0, 0, 0, 0, 0, 0, 0) : EntryT)) = xs from pickE_idx xs] at this
  exact this
theorem pickE_snoc {xs : List EntryT} {p : List Int} {k : Nat} {j : Nat} {x : EntryT} (hp : p[k]? = some (j : Int)) (hx : xs[j]? = some x) : pickE xs (p.take (k + 1)) = pickE xs (p.take k) ++ [x] := by
  rw [take_snoc_get hp]
  unfold pickE
  rw [List.map_append, List.map_singleton, Int.toNat_natCast, List.getD_eq_getElem?_getD, hx]
  rfl
theorem RegOk.take {b s : Int} {xs : List EntryT} (h : RegOk b s xs) (k : Nat) : RegOk b s (xs.take k) :=
  ⟨h.b1, h.b2, h.s0, h.s1, by rw [List.length_take]; have := h.len; omega, fun x hx => h.ent x (List.mem_of_mem_take hx), h.key.sublist (List.take_sublist k xs)⟩
/-- The next entry of a valid register can be added to those ahead of it. -/
theorem grow_code {b s : Int} {xs : List EntryT} (h : RegOk b s xs) {k : Nat} {x : EntryT} (hx : xs[k]? = some x) : addC b s (xs.take k) x = 0 := by
  have hm := List.mem_of_getElem? hx
  have hk := (List.getElem?_eq_some_iff.1 hx).1
  have h2 : hasB (xs.take k) x = false := by
    unfold hasB
    rw [List.any_eq_false]
    intro y hy
    have hp := (h.take (k + 1)).key
    rw [take_snoc_get hx, List.pairwise_append] at hp
    have := hp.2.2 y hy x (by simp)
    simp [this]
  have h3 : (entB b x && revB (E.rev x)) = true := by
    rw [(h.ent x hm).1, Bool.true_and]
    exact withinB_iff.2 (h.ent x hm).2
  unfold addC
  rw [if_pos (h.take k).regB, if_pos h3, h2, if_neg (by simp), if_neg (by rw [List.length_take]; have := h.len; omega)]
/-- Two cells are exchanged. -/
theorem set_perm {l : List Int} {i k : Nat} {a b : Int} (hi : l[i]? = some a) (hk : l[k]? = some b) : ((l.set i b).set k a).Perm l := by
  obtain ⟨hi1, rfl⟩ := List.getElem?_eq_some_iff.1 hi
  obtain ⟨hk1, rfl⟩ := List.getElem?_eq_some_iff.1 hk
  rw [List.perm_iff_count]
  intro x
  rw [List.count_set (by rw [List.length_set]; exact hk1), List.count_set hi1]
  have e : (l.set i l[k])[k]'(by rw [List.length_set]; exact hk1) = l[k] := by
    rw [List.getElem_set]
    split
    · rfl
    · rfl
  rw [e]
  have h1 : (if l[i] == x then 1 else 0) ≤ l.count x := by
    by_cases h : l[i] = x
    · rw [if_pos (by simpa using h)]
      exact List.count_pos_iff.2 (h ▸ List.getElem_mem hi1)
    · rw [if_neg (by simpa using h)]; omega
  omega
/-- A number of a standing is a boat. -/
theorem stand_boat {t : Tb} {rule : List Int} {k : Nat} {x : Int} (h : (standT t rule)[k]? = some x) : 0 ≤ x ∧ x < t.boats := by
  have := standT_mem.1 (List.mem_of_getElem? h)
  omega
end Go.Proofs.YtalgdeieejpelaaGreat

/- Walks: IsSeries, TableOf, CompareBoats of the program where all is valid. -/
namespace Go.Proofs.YtalgdeieejpelaaGreat
open Go.RowKit Go.Sort
set_option linter.unusedVariables false
set_option maxRecDepth 100000

set_option maxHeartbeats 2000000 in
theorem implIsSeries_ok (b s : Int) (A : Option Addr) (n c : Nat) (rows : List (List FinishT)) (hb1 : 1 ≤ b) (hb2 : b ≤ 16) (hs0 : 0 ≤ s) (hs1 : s ≤ 1) (hn : n ≤ 12) (hr : ∀ r ∈ rows, raceB b r = true) (w : World) (h : RdRaces w A n rows) :
    Calls Tryz.prog 27 #[.agg #[.int .i64 b, .int .i64 s, .slice A n c]] w fun e w' => e = .returned (.bool true) ∧ Below w.heap.size w w' := by
  obtain ⟨w1, hw1, X0, hb1', hs1'⟩ := one_box w #[.int .i64 b, .int .i64 s, .slice A n c] 58
  have H := Lib.hid (fun w' (hb : Below w1.heap.size w1 w') => (h.below hb1').below hb)
  have HX0 := Lib.hid X0; have HB1 := Lib.hid hb1'
  have HI1 := Lib.hid (fun w => within_lit (withinB_iff.2 ⟨hb1, hb2⟩) w)
  have HI2 := Lib.hid (fun w => isScheme_lit (withinB_iff.2 ⟨hs0, hs1⟩) w)
  clear h hb1'
  have F0 := X0.f3
  clear X0
  go_enter Tryz.func27, Tryz.ntmps27
  go_wp2_with fail
  rw [← hw1]
  clear hw1
  go_wp2_with fail
  clear F0
  go_loopw [8] (fun i wr => ∃ k : Nat, k ≤ n ∧ i = .int .i64 k ∧ Hid (Below w1.heap.size w1 wr)) (fun i _ => n - (intOf i).toNat)
  case atStart => exact ⟨0, Nat.zero_le _, rfl, Lib.hid (Below.refl _ _)⟩
  case round =>
    obtain ⟨k, hk, rfl, HB⟩ := hrel
    have F0 := (HX0.out.below HB.out).f3
    by_cases hlt : k < n
    · obtain ⟨b1, o1, B, cB, x, rfl, hx, _, hc, hrd⟩ := (H.out _ HB.out).row hlt
      have hx2 := hr x (List.mem_of_getElem? hx)
      have hkd : decide ((k : Int) < (n : Int)) = true := decide_eq_true (by omega)
      obtain ⟨w3, hw3, X3, hb3, hs3⟩ := one_box wr #[.slice B x.length cB] 90
      have HQ := Lib.hid (fun w' (hb : Below wr.heap.size wr w') => implIsRace_any b B x.length cB x w' (hrd.below hb))
      rw [hx2] at HQ
      have F3 := X3.cell (i := 0) rfl
      have FB := (HX0.out.below (HB.out.trans (hb3.mono HB.out.size))).f3
      have hsz := HB.out.size
      have HB3 := Lib.hid hb3
      have HW3 := Lib.hid hw3
      clear hx hrd hx2 hw3 hb3 X3
      go_wp2_with fail
      rw [← HW3.out]
      clear HW3
      go_wp2_with fail
      refine (HQ.out _ HB3.out).mono ?_
      rintro e w2 ⟨rfl, hb2⟩
      have HB2 := Lib.hid ((HB.out.trans (HB3.out.mono hsz)).trans (hb2.mono (by have := HB3.out.size; omega)))
      clear hb2 HB hc F0 F3 FB HB3
      go_wp2_with fail
      go_roundw
      case rel => exact ⟨k + 1, by omega, by go_num, HB2⟩
      case measure => simp [intOf] <;> omega
    · obtain rfl : k = n := by omega
      have hkd : decide ((k : Int) < (k : Int)) = false := by simp
      have hn1 : decide ((k : Int) ≤ 12) = true := decide_eq_true (by omega)
      go_wp2_with fail
      refine (HI1.out _).mono ?_
      rintro e w' ⟨rfl, rfl⟩
      go_wp2_with fail
      refine (HI2.out _).mono ?_
      rintro e w' ⟨rfl, rfl⟩
      go_wp2_with fail
      go_ret
      exact ⟨rfl, HB1.out.trans (HB.out.mono HB1.out.size)⟩
set_option maxHeartbeats 2000000 in
theorem implTableOfC_ok (b s : Int) (A : Option Addr) (n c : Nat) (rows : List (List FinishT)) (hb1 : 1 ≤ b) (hb2 : b ≤ 16) (hs : s = 0 ∨ s = 1) (hg : GoodR b.toNat rows) (hr : ∀ r ∈ rows, raceB b r = true) (w : World) (h : RdRaces w A n rows) :
    Calls Tryz.prog 33 #[.agg #[.int .i64 b, .int .i64 s, .slice A n c]] w (RetTC w (tabS b s rows, 0)) := by
  have hn12 : n ≤ 12 := by have := hg.1; have := h.len; omega
  obtain ⟨w1, hw1, X0, X1, hb1', hs1'⟩ := two_boxes w #[.int .i64 b, .int .i64 s, .slice A n c] #[.int .i64 0, .slice none 0 0, .slice none 0 0] 58 53
  have HI := Lib.hid (fun w' (hb : Below w.heap.size w w') => implIsSeries_ok b s A n c rows hb1 hb2 (by rcases hs with rfl | rfl <;> omega) (by rcases hs with rfl | rfl <;> omega) hn12 hr w' (h.below hb))
  have HT := Lib.hid (fun w' (hb : Below w.heap.size w w') => implTableOf_any b s A n c rows hb1 hb2 hs hg hr w' (h.below hb))
  have HB1 := Lib.hid hb1'
  have HX0 := Lib.hid X0; have HX1 := Lib.hid X1
  have F0 := X0.f3
  have HW1 := Lib.hid hw1
  have HTB := Lib.hid (show (tabS b s rows).boats = b from rfl)
  generalize tabS b s rows = t at *
  clear h hb1' hw1 X0 X1 hr hg hs
  go_enter Tryz.func33, Tryz.ntmps33
  go_wp2_with fail
  rw [← HW1.out]
  clear HW1
  go_wp2_with fail
  refine (HI.out _ HB1.out).mono ?_
  rintro e w2 ⟨rfl, hb2⟩
  have HB2 := Lib.hid (HB1.out.trans (hb2.mono HB1.out.size))
  have HX2 := Lib.hid (HX0.out.below hb2)
  have HY2 := Lib.hid (HX1.out.below hb2)
  clear hb2 F0
  have F0 := HX2.out.f3
  go_wp2_with fail
  refine (HT.out _ HB2.out).mono ?_
  rintro e w3 ⟨P, n3, c3, vs, C, m3, d3, us, rfl, ho3, hsum, hb3⟩
  have HB3 := Lib.hid (HB2.out.trans (hb3.mono HB2.out.size))
  have HO3 := Lib.hid (ho3.base' (show w.heap.size + 2 ≤ w2.heap.size by have := HB2.out.size; have := HY2.out.lt; omega))
  have HY3 := Lib.hid (HY2.out.below hb3)
  have F1 := HY3.out.f3
  clear hb3 ho3 F0
  go_wp2_with fail
  refine bodyPost_ret (v := .tuple #[.agg #[.int .i64 t.boats, .slice P n3 c3, .slice C m3 d3], .int .i64 0]) (by simp [results, Tryz.results33, go_sem, F1]) rfl ?_
  have hch := put_chg (g := w.heap.size + 1) [.int .i64 t.boats, .slice P n3 c3, .slice C m3 d3] 0 (Chg.refl (w.heap.size + 1) (w.heap.size + 1 + 1) w3) (by omega) (by omega)
  have hso := (HO3.out.chg hch HO3.out.in_ (.inr (by omega))).base' (show w.heap.size ≤ w.heap.size + 2 by omega)
  exact ⟨P, n3, c3, vs, C, m3, d3, us, rfl, hso, hsum, below_chg HB3.out hch (by omega) (by have := HB3.out.size; omega)⟩
set_option maxHeartbeats 2000000 in
theorem implBoats_ok (P : Option Addr) (n c : Nat) (C : Option Addr) (m d : Nat) (t : Tb) (A : Option Addr) (l cl : Nat) (rule : List Int) (a b : Int) (ha : codeT t rule a = 0) (hb : codeT t rule b = 0) (w : World) (h : RdT w P n C m t) (hl : Rd w 1 A l (ints rule)) :
    Calls Tryz.prog 61 #[.agg #[.int .i64 t.boats, .slice P n c, .slice C m d], .slice A l cl, .int .i64 a, .int .i64 b] w fun e w' => e = .returned (.int .i64 0) ∧ Below w.heap.size w w' := by
  obtain ⟨w1, hw1, X0, hb1, hs1⟩ := one_box w #[.int .i64 t.boats, .slice P n c, .slice C m d] 53
  have H1 := Lib.hid (fun w' (hb : Below w.heap.size w w') => implCode_any P n c C m d t A l cl rule a w' (h.below hb) (hl.below hb))
  have H2 := Lib.hid (fun w' (hb : Below w.heap.size w w') => implCode_any P n c C m d t A l cl rule b w' (h.below hb) (hl.below hb))
  rw [ha] at H1
  rw [hb] at H2
  have HB1 := Lib.hid hb1
  have HX := Lib.hid X0
  have HW1 := Lib.hid hw1
  have F0 := X0.f3
  clear h hl hb1 X0 hw1 ha hb
  go_enter Tryz.func61, Tryz.ntmps61
  go_wp2_with fail
  rw [← HW1.out]
  clear HW1
  refine (H1.out _ HB1.out).mono ?_
  rintro e w2 ⟨rfl, hb2⟩
  have HB2 := Lib.hid (HB1.out.trans (hb2.mono HB1.out.size))
  clear F0
  have F0 := (HX.out.below hb2).f3
  clear hb2
  go_wp2_with fail
  refine (H2.out _ HB2.out).mono ?_
  rintro e w3 ⟨rfl, hb3⟩
  have HB3 := Lib.hid (HB2.out.trans (hb3.mono HB2.out.size))
  clear hb3 F0
  go_wp2_with fail
  go_ret
  exact ⟨rfl, HB3.out⟩
set_option maxHeartbeats 2000000 in
theorem implCompare_ok (P : Option Addr) (n c : Nat) (C : Option Addr) (m d : Nat) (t : Tb) (ok : TabOk t) (A : Option Addr) (l cl : Nat) (rule : List Int) (hrule : rule.length ≤ 3) (a b : Nat) (ha : codeT t rule (a : Int) = 0) (hb : codeT t rule (b : Int) = 0) (ha2 : (a : Int) < t.boats) (hb2 : (b : Int) < t.boats) (w : World) (h : RdT w P n C m t) (hl : Rd w 1 A l (ints rule)) :
    Calls Tryz.prog 32 #[.agg #[.int .i64 t.boats, .slice P n c, .slice C m d], .slice A l cl, .int .i64 (a : Int), .int .i64 (b : Int)] w fun e w' => e = .returned (.tuple #[.int .i64 (cmpT t rule a b).1, .int .i64 (cmpT t rule a b).2.1, .int .i64 0]) ∧ Below w.heap.size w w' := by
  obtain ⟨w1, hw1, X0, hb1, hs1⟩ := one_box w #[.int .i64 t.boats, .slice P n c, .slice C m d] 53
  have H1 := Lib.hid (fun w' (hz : Below w.heap.size w w') => implBoats_ok P n c C m d t A l cl rule a b ha hb w' (h.below hz) (hl.below hz))
  have H2 := Lib.hid (fun w' (hz : Below w.heap.size w w') => implCmp_any P n c C m d t ok A l cl rule hrule a b ha2 hb2 w' (h.below hz) (hl.below hz))
  have HB1 := Lib.hid hb1
  have HX := Lib.hid X0
  have HW1 := Lib.hid hw1
  have F0 := X0.f3
  generalize cmpT t rule (a : Int) (b : Int) = q at *
  clear h hl hb1 X0 hw1 ok hrule ha hb ha2 hb2
  go_enter Tryz.func32, Tryz.ntmps32
  go_wp2_with fail
  rw [← HW1.out]
  clear HW1
  refine (H1.out _ HB1.out).mono ?_
  rintro e w2 ⟨rfl, hb2⟩
  have HB2 := Lib.hid (HB1.out.trans (hb2.mono HB1.out.size))
  clear F0
  have F0 := (HX.out.below hb2).f3
  clear hb2
  go_wp2_with fail
  refine (H2.out _ HB2.out).mono ?_
  rintro e w3 ⟨rfl, hb3⟩
  have HB3 := Lib.hid (HB2.out.trans (hb3.mono HB2.out.size))
  clear hb3 F0
  go_wp2_with fail
  go_ret3
  exact ⟨rfl, HB3.out⟩
end Go.Proofs.YtalgdeieejpelaaGreat

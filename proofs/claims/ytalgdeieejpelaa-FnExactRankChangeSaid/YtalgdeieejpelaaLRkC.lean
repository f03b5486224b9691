/- The walk of FnExactRankChange. -/
import Derived.Test.YtalgdeieejpelaaSz
import Derived.Test.YtalgdeieejpelaaTa
import Derived.Test.YtalgdeieejpelaaRs
import Derived.Test.YtalgdeieejpelaaZi
import Derived.Lib.QuietBelow
import Derived.Deep.RegionHeld3
namespace Go.Proofs.Ytalgdeieejpelaa
open Go.RowKit Go.Sort
set_option linter.unusedVariables false
set_option maxRecDepth 100000

set_option maxHeartbeats 4000000 in
theorem fnExactRankChange_walk (P0 : Option Addr) (n0 c0 : Nat) (C0 : Option Addr) (m0 d0 : Nat) (t0 : Tb) (a1 : Option Addr) (len1 cap1 : Nat) (z1 : List RedressT) (a2 : Option Addr) (len2 cap2 : Nat) (z2 : List Int) (a3 : Int) (w : World) (v0 : RdT w P0 n0 C0 m0 t0) (v1 : Rd w 4 a1 len1 (reds z1)) (v2 : IsRow .i64 w a2 len2 cap2 z2) (v3 : (Lit.int .i64 a3).wf = true) :
    Calls Try.prog 3 #[.agg #[.int .i64 t0.boats, .slice P0 n0 c0, .slice C0 m0 d0], .slice a1 len1 cap1, .slice a2 len2 cap2, .int .i64 a3] w fun e w' => e = .returned (.bool true) ∧ Below w.heap.size w w' := by
  have hr0 := v0
  have hr1 := v1
  have hle1 := hr1.le
  have hr2 := v2.rd
  have hle2 := hr2.le
  generalize z2.take len2 = xs2 at hr2
  clear v0
  clear v1
  clear v2
  clear v3
  by_cases hlen2 : len2 ≤ 1048576
  rotate_left
  · go_enter Try.func3, Try.ntmps3
    go_wp2_with fail
    go_ret
    exact ⟨rfl, by first | exact Below.refl _ _ | exact (Below.refl _ _).alloc (Nat.le_refl _) _⟩
  obtain ⟨sz0, hsz0⟩ : ∃ s, s = szTabF 1048576 t0 := ⟨_, rfl⟩
  have HSZ0 := Lib.hid hsz0.symm
  clear hsz0
  obtain ⟨sz1, hsz1⟩ : ∃ s, s = szIf sz0 len1 := ⟨_, rfl⟩
  have HSZ1 := Lib.hid hsz1.symm
  clear hsz1
  go_enter Try.func3, Try.ntmps3
  have BBs : Below w.heap.size w w := Below.refl _ _
  go_wp2_with fail
  obtain ⟨w0, hw0, XaT, hb0, hsb_aT⟩ := one_box w #[.int .i64 t0.boats, .slice P0 n0 c0, .slice C0 m0 d0] 24
  rw [← hw0]
  clear hw0
  replace hsb_aT : w.heap.size < w0.heap.size := by omega
  have BB0 : Below w.heap.size w w0 := hb0
  have s0 := hb0.size
  refine (szTable_any _ _ _ _ _ _ _ _ 1048576 (by omega) (by omega) _ (hr0.below BB0)).mono ?_
  rintro e w1 ⟨rfl, hb1⟩
  have BB1 : Below w.heap.size w w1 := BB0.trans (hb1.mono BB0.size)
  have s1 := hb1.size
  replace XaT := XaT.below hb1
  rw [HSZ0.out]
  by_cases hneg0 : 0 ≤ sz0
  rotate_left
  · go_wp2_with fail
    go_ret
    exact ⟨rfl, BB1⟩
  have hneg0' := hneg0
  rw [← HSZ0.out] at hneg0'
  have hszle0 : sz0 ≤ 1048576 := by rw [← HSZ0.out]; exact szTabF_top hneg0' (by omega) (by omega)
  have hln0 := szTabF_tab hneg0' (by omega) (by omega) hr0
  clear hneg0'
  go_wp2_with fail
  refine (szRedressS_any _ _ _ sz0 _ (by omega) (by omega) hle1).mono ?_
  rintro e w' ⟨rfl, rfl⟩
  rw [show (if sz0 < (len1 : Int) then (-1 : Int) else sz0 - len1) = szIf sz0 len1 from rfl]
  rw [HSZ1.out]
  by_cases hneg1 : 0 ≤ sz1
  rotate_left
  · go_wp2_with fail
    go_ret
    exact ⟨rfl, BB1⟩
  have hneg1' := hneg1
  rw [← HSZ1.out] at hneg1'
  have hszle1 : sz1 ≤ 1048576 := by rw [← HSZ1.out]; exact szIf_top hneg1' (by omega) (by omega)
  have hlen1 : len1 ≤ 1048576 := szIf_le hneg1' (by omega)
  clear hneg1'
  have FaT0 := XaT.cell (i := 0) rfl
  have FaT1 := XaT.cell (i := 1) rfl
  have FaT2 := XaT.cell (i := 2) rfl
  go_wp2_with fail
  refine (toTable_any _ _ _ _ _ _ _ _ _ rfl (hr0.below BB1) hln0.1.1 hln0.1.2 hln0.2.1.out hln0.2.2.out).mono ?_
  rintro e w2 ⟨PS1, nS1, cS1, VS1, CS1, mS1, dS1, US1, rfl, oS1, hnS1, hb2⟩
  clear FaT0 FaT1 FaT2
  have BB2 : Below w.heap.size w w2 := BB1.trans (hb2.mono BB1.size)
  have s2 := hb2.size
  replace XaT := XaT.below hb2
  have vS1 := oS1.in_
  go_wp2_with fail
  refine (toRedressS_any _ _ _ _ _ (hr1.below BB2) hlen1).mono ?_
  rintro e w3 ⟨AS2, nS2, cS2, rfl, oS2, hnS2, hb3⟩
  have BB3 : Below w.heap.size w w3 := BB2.trans (hb3.mono BB2.size)
  have s3 := hb3.size
  replace oS1 := oS1.below hb3
  replace XaT := XaT.below hb3
  have vS2 := oS2.lt
  go_wp2_with fail
  refine (toInt64S_any _ _ _ _ _ (hr2.below BB3) hlen2).mono ?_
  rintro e w4 ⟨AS3, nS3, cS3, rfl, oS3, hnS3, hb4⟩
  have BB4 : Below w.heap.size w w4 := BB3.trans (hb4.mono BB3.size)
  have s4 := hb4.size
  replace oS1 := oS1.below hb4
  replace oS2 := own_below oS2 hb4
  replace XaT := XaT.below hb4
  have vS3 := oS3.lt
  go_wp2_with fail
  refine (specRankCh_any _ _ _ _ _ _ _ _ _ _ _ _ _ _ _ _ _ oS1.rd (own_rd oS2) (own_rd oS3)).mono ?_
  rintro e w5 ⟨rfl, hb5⟩
  have BB5 : Below w.heap.size w w5 := BB4.trans (hb5.mono BB4.size)
  have s5 := hb5.size
  replace oS1 := oS1.below hb5
  replace oS2 := own_below oS2 hb5
  replace oS3 := own_below oS3 hb5
  replace XaT := XaT.below hb5
  clear oS1 vS1 hnS1
  clear oS2 vS2 hnS2
  clear oS3 vS3 hnS3
  have FaT0 := XaT.cell (i := 0) rfl
  have FaT1 := XaT.cell (i := 1) rfl
  have FaT2 := XaT.cell (i := 2) rfl
  go_wp2_with fail
  refine (toTable_any _ _ _ _ _ _ _ _ _ rfl (hr0.below BB5) hln0.1.1 hln0.1.2 hln0.2.1.out hln0.2.2.out).mono ?_
  rintro e w6 ⟨PS4, nS4, cS4, VS4, CS4, mS4, dS4, US4, rfl, oS4, hnS4, hb6⟩
  clear FaT0 FaT1 FaT2
  have BB6 : Below w.heap.size w w6 := BB5.trans (hb6.mono BB5.size)
  have s6 := hb6.size
  replace XaT := XaT.below hb6
  have vS4 := oS4.in_
  go_wp2_with fail
  obtain ⟨w7, hw7, Xx0, hb7, hsb_x0⟩ := one_box w6 #[.int .i64 t0.boats, .slice PS4 nS4 cS4, .slice CS4 mS4 dS4] 31
  rw [← hw7]
  clear hw7
  replace hsb_x0 : w6.heap.size < w7.heap.size := by omega
  have BB7 : Below w.heap.size w w7 := BB6.trans (hb7.mono BB6.size)
  have s7 := hb7.size
  replace oS4 := oS4.below hb7
  replace XaT := XaT.below hb7
  refine (toRedressS_any _ _ _ _ _ (hr1.below BB7) hlen1).mono ?_
  rintro e w8 ⟨AS5, nS5, cS5, rfl, oS5, hnS5, hb8⟩
  have BB8 : Below w.heap.size w w8 := BB7.trans (hb8.mono BB7.size)
  have s8 := hb8.size
  replace oS4 := oS4.below hb8
  replace XaT := XaT.below hb8
  replace Xx0 := Xx0.below hb8
  have vS5 := oS5.lt
  go_wp2_with fail
  refine (toInt64S_any _ _ _ _ _ (hr2.below BB8) hlen2).mono ?_
  rintro e w9 ⟨AS6, nS6, cS6, rfl, oS6, hnS6, hb9⟩
  have BB9 : Below w.heap.size w w9 := BB8.trans (hb9.mono BB8.size)
  have s9 := hb9.size
  replace oS4 := oS4.below hb9
  replace oS5 := own_below oS5 hb9
  replace XaT := XaT.below hb9
  replace Xx0 := Xx0.below hb9
  have vS6 := oS6.lt
  have Fx00 := Xx0.cell (i := 0) rfl
  have Fx01 := Xx0.cell (i := 1) rfl
  have Fx02 := Xx0.cell (i := 2) rfl
  go_wp2_with fail
  refine (implRankCh_any _ _ _ _ _ _ _ _ _ _ _ _ _ _ _ _ _ oS4.rd (own_rd oS5) (own_rd oS6)).mono ?_
  rintro e w10 ⟨rfl, hb10⟩
  clear Fx00 Fx01 Fx02
  have BB10 : Below w.heap.size w w10 := BB9.trans (hb10.mono BB9.size)
  have s10 := hb10.size
  replace oS4 := oS4.below hb10
  replace oS5 := own_below oS5 hb10
  replace oS6 := own_below oS6 hb10
  replace XaT := XaT.below hb10
  replace Xx0 := Xx0.below hb10
  go_wp2_with fail
  have HSR := Lib.hid (show ∀ w1, Below w10.heap.size w10 w1 → (w1.cell? ⟨w6.heap.size, 0, none⟩ = some (.int .i64 t0.boats) ∧ w1.cell? ⟨w6.heap.size, 1, none⟩ = some (.slice PS4 nS4 cS4) ∧ w1.cell? ⟨w6.heap.size, 2, none⟩ = some (.slice CS4 mS4 dS4) ∧ w1.cell? ⟨w.heap.size, 0, none⟩ = some (.int .i64 t0.boats) ∧ w1.cell? ⟨w.heap.size, 1, none⟩ = some (.slice P0 n0 c0) ∧ w1.cell? ⟨w.heap.size, 2, none⟩ = some (.slice C0 m0 d0) ∧ Below w10.heap.size w10 w1) from fun w1 hb => ⟨(Xx0.below hb).cell (i := 0) rfl, (Xx0.below hb).cell (i := 1) rfl, (Xx0.below hb).cell (i := 2) rfl, (XaT.below hb).cell (i := 0) rfl, (XaT.below hb).cell (i := 1) rfl, (XaT.below hb).cell (i := 2) rfl, hb⟩)
  go_region_held3 (fun w1 => w1.cell? ⟨w6.heap.size, 0, none⟩ = some (.int .i64 t0.boats) ∧ w1.cell? ⟨w6.heap.size, 1, none⟩ = some (.slice PS4 nS4 cS4) ∧ w1.cell? ⟨w6.heap.size, 2, none⟩ = some (.slice CS4 mS4 dS4) ∧ w1.cell? ⟨w.heap.size, 0, none⟩ = some (.int .i64 t0.boats) ∧ w1.cell? ⟨w.heap.size, 1, none⟩ = some (.slice P0 n0 c0) ∧ w1.cell? ⟨w.heap.size, 2, none⟩ = some (.slice C0 m0 d0) ∧ Below w10.heap.size w10 w1) (first | exact HSR.out _ hb11 | exact HSR.out _ HBq | exact HSR.out _ ((Drawn.refl _).step 1).below | exact HSR.out _ (Drawn.refl _).below) (first | (go_at_call 7; have hq := (‹_ ∧ _ ∧ _ ∧ _ ∧ _ ∧ _ ∧ Below w10.heap.size w10 _›).2.2.2.2.2.2; refine (toTable_any _ _ _ _ _ _ _ _ _ rfl (hr0.below (BB10.trans (hq.mono BB10.size))) hln0.1.1 hln0.1.2 hln0.2.1.out hln0.2.2.out).mono ?_; rintro e wq ⟨PS7, nS7, cS7, VS7, CS7, mS7, dS7, US7, rfl, oS7, hnS7, hbq⟩; have HBq := hq.trans (hbq.mono hq.size)) | (go_at_call 11; have hq := (‹_ ∧ _ ∧ _ ∧ _ ∧ _ ∧ _ ∧ Below w10.heap.size w10 _›).2.2.2.2.2.2; refine (eqTable_any _ _ _ _ _ _ _ _ _ _ _ _ _ _ _ _ _ ((oS4.below hq).rd) oS7.rd rfl rfl rfl).mono ?_; rintro e w11 ⟨rfl, hbr⟩; have hb11 := hq.trans (hbr.mono hq.size)))
  have BB11 : Below w.heap.size w w11 := BB10.trans (hb11.mono BB10.size)
  have s11 := hb11.size
  replace oS4 := oS4.below hb11
  replace oS5 := own_below oS5 hb11
  replace oS6 := own_below oS6 hb11
  replace XaT := XaT.below hb11
  replace Xx0 := Xx0.below hb11
  go_wp2_with fail
  refine (toRedressS_any _ _ _ _ _ (hr1.below BB11) hlen1).mono ?_
  rintro e w12 ⟨AS8, nS8, cS8, rfl, oS8, hnS8, hb12⟩
  have BB12 : Below w.heap.size w w12 := BB11.trans (hb12.mono BB11.size)
  have s12 := hb12.size
  replace oS4 := oS4.below hb12
  replace oS5 := own_below oS5 hb12
  replace oS6 := own_below oS6 hb12
  replace XaT := XaT.below hb12
  replace Xx0 := Xx0.below hb12
  have vS8 := oS8.lt
  go_wp2_with fail
  refine (eqRedressS_same _ _ _ _ _ _ _ _ (own_rd oS5) (own_rd oS8)).mono ?_
  rintro e w13 ⟨rfl, hb13⟩
  have BB13 : Below w.heap.size w w13 := BB12.trans (hb13.mono BB12.size)
  have s13 := hb13.size
  replace oS4 := oS4.below hb13
  replace oS5 := own_below oS5 hb13
  replace oS6 := own_below oS6 hb13
  replace oS8 := own_below oS8 hb13
  replace XaT := XaT.below hb13
  replace Xx0 := Xx0.below hb13
  clear oS8 vS8 hnS8
  go_wp2_with fail
  refine (toInt64S_any _ _ _ _ _ (hr2.below BB13) hlen2).mono ?_
  rintro e w14 ⟨AS9, nS9, cS9, rfl, oS9, hnS9, hb14⟩
  have BB14 : Below w.heap.size w w14 := BB13.trans (hb14.mono BB13.size)
  have s14 := hb14.size
  replace oS4 := oS4.below hb14
  replace oS5 := own_below oS5 hb14
  replace oS6 := own_below oS6 hb14
  replace XaT := XaT.below hb14
  replace Xx0 := Xx0.below hb14
  have vS9 := oS9.lt
  go_wp2_with fail
  refine (eqInt64S_below _ _ _ _ _ _ _ _ _ (own_rd oS6) (own_rd oS9)).mono ?_
  rintro e w15 ⟨rfl, hb15⟩
  have BB15 : Below w.heap.size w w15 := BB14.trans (hb15.mono BB14.size)
  have s15 := hb15.size
  replace oS4 := oS4.below hb15
  replace oS5 := own_below oS5 hb15
  replace oS6 := own_below oS6 hb15
  replace oS9 := own_below oS9 hb15
  replace XaT := XaT.below hb15
  replace Xx0 := Xx0.below hb15
  clear oS9 vS9 hnS9
  go_wp2_with fail
  go_ret
  exact ⟨rfl, BB15⟩
end Go.Proofs.Ytalgdeieejpelaa

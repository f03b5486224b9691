/- The walk of FnExactCorrectEntry. -/
import Derived.Test.YtdldcjnidajmpaaSzr
import Derived.Test.YtdldcjnidajmpaaRh
import Derived.Test.YtdldcjnidajmpaaJk
import Derived.Test.YtdldcjnidajmpaaRt
import Derived.Lib.QuietBelow
import Derived.Deep.RegionHeld3
namespace Go.Proofs.Ytdldcjnidajmpaa
open Go.RowKit Go.Sort
set_option linter.unusedVariables false
set_option maxRecDepth 100000

set_option maxHeartbeats 4000000 in
theorem fnExactCorrectEntry_walk (rb0 rs0 : Int) (a0 : Option Addr) (len0 cap0 : Nat) (z0 : List EntryT) (p1q0 p1q1 p1q2 p1q3 p1q4 p1q5 p1q6 : Int) (w : World) (v0 : Rd w 7 a0 len0 (ents z0))  :
    Calls Try.prog 10 #[.agg #[.int .i64 rb0, .int .i64 rs0, .slice a0 len0 cap0], .agg #[.int .i64 p1q0, .int .i64 p1q1, .int .i64 p1q2, .int .i64 p1q3, .int .i64 p1q4, .int .i64 p1q5, .int .i64 p1q6]] w fun e w' => e = .returned (.bool true) ∧ Below w.heap.size w w' := by
  have hr0 := v0
  have hle0 := hr0.le
  clear v0
  obtain ⟨sz0, hsz0⟩ : ∃ s, s = szIf 1048576 len0 := ⟨_, rfl⟩
  have HSZ0 := Lib.hid hsz0.symm
  clear hsz0
  go_enter Try.func10, Try.ntmps10
  have BBs : Below w.heap.size w w := Below.refl _ _
  go_wp2_with fail
  obtain ⟨w0, hw0, XaR, hb0, hsb_aR⟩ := one_box w #[.int .i64 rb0, .int .i64 rs0, .slice a0 len0 cap0] 46
  rw [← hw0]
  clear hw0
  have heq_aR := hsb_aR
  replace hsb_aR : w.heap.size < w0.heap.size := by omega
  have BB0 : Below w.heap.size w w0 := hb0
  have s0 := hb0.size
  obtain ⟨w1, hw1, XaX, hb1, hsb_aX⟩ := one_box w0 #[.int .i64 p1q0, .int .i64 p1q1, .int .i64 p1q2, .int .i64 p1q3, .int .i64 p1q4, .int .i64 p1q5, .int .i64 p1q6] 63
  rw [← hw1]
  clear hw1
  rw [heq_aR] at XaX
  replace hsb_aX : w0.heap.size < w1.heap.size := by omega
  have BB1 : Below w.heap.size w w1 := BB0.trans (hb1.mono BB0.size)
  have s1 := hb1.size
  replace XaR := XaR.below hb1
  refine (szRegister_any _ _ _ _ _ _ 1048576 (by omega) (by omega) _ (hr0.below BB1)).mono ?_
  rintro e w2 ⟨rfl, hb2⟩
  have BB2 : Below w.heap.size w w2 := BB1.trans (hb2.mono BB1.size)
  have s2 := hb2.size
  replace XaR := XaR.below hb2
  replace XaX := XaX.below hb2
  rw [show (if 1048576 < (len0 : Int) then (-1 : Int) else 1048576 - len0) = szIf 1048576 len0 from rfl]
  rw [HSZ0.out]
  by_cases hneg0 : 0 ≤ sz0
  rotate_left
  · go_wp2_with fail
    go_ret
    exact ⟨rfl, BB2⟩
  have hneg0' := hneg0
  rw [← HSZ0.out] at hneg0'
  have hszle0 : sz0 ≤ 1048576 := by rw [← HSZ0.out]; exact szIf_top hneg0' (by omega) (by omega)
  have hlen0 : len0 ≤ 1048576 := szIf_le hneg0' (by omega)
  clear hneg0'
  go_wp2_with fail
  obtain ⟨S, hSE, hSI⟩ : ∃ S : World → Prop, (∀ w1, S w1 → (w1.cell? ⟨w.heap.size, 0, none⟩ = some (.int .i64 rb0) ∧ w1.cell? ⟨w.heap.size, 1, none⟩ = some (.int .i64 rs0) ∧ w1.cell? ⟨w.heap.size, 2, none⟩ = some (.slice a0 len0 cap0) ∧ w1.cell? ⟨w.heap.size + 1, 0, none⟩ = some (.int .i64 p1q0) ∧ w1.cell? ⟨w.heap.size + 1, 1, none⟩ = some (.int .i64 p1q1) ∧ w1.cell? ⟨w.heap.size + 1, 2, none⟩ = some (.int .i64 p1q2) ∧ w1.cell? ⟨w.heap.size + 1, 3, none⟩ = some (.int .i64 p1q3) ∧ w1.cell? ⟨w.heap.size + 1, 4, none⟩ = some (.int .i64 p1q4) ∧ w1.cell? ⟨w.heap.size + 1, 5, none⟩ = some (.int .i64 p1q5) ∧ w1.cell? ⟨w.heap.size + 1, 6, none⟩ = some (.int .i64 p1q6))) ∧ (∀ wz9, Below w2.heap.size w2 wz9 → S wz9) :=
    ⟨fun w1 => w1.cell? ⟨w.heap.size, 0, none⟩ = some (.int .i64 rb0) ∧ w1.cell? ⟨w.heap.size, 1, none⟩ = some (.int .i64 rs0) ∧ w1.cell? ⟨w.heap.size, 2, none⟩ = some (.slice a0 len0 cap0) ∧ w1.cell? ⟨w.heap.size + 1, 0, none⟩ = some (.int .i64 p1q0) ∧ w1.cell? ⟨w.heap.size + 1, 1, none⟩ = some (.int .i64 p1q1) ∧ w1.cell? ⟨w.heap.size + 1, 2, none⟩ = some (.int .i64 p1q2) ∧ w1.cell? ⟨w.heap.size + 1, 3, none⟩ = some (.int .i64 p1q3) ∧ w1.cell? ⟨w.heap.size + 1, 4, none⟩ = some (.int .i64 p1q4) ∧ w1.cell? ⟨w.heap.size + 1, 5, none⟩ = some (.int .i64 p1q5) ∧ w1.cell? ⟨w.heap.size + 1, 6, none⟩ = some (.int .i64 p1q6), fun _ h => h, fun wz9 hb => ⟨(XaR.below hb).cell rfl, (XaR.below hb).cell rfl, (XaR.below hb).cell rfl, (XaX.below hb).cell rfl, (XaX.below hb).cell rfl, (XaX.below hb).cell rfl, (XaX.below hb).cell rfl, (XaX.below hb).cell rfl, (XaX.below hb).cell rfl, (XaX.below hb).cell rfl⟩⟩
  have HSE := Lib.hid hSE; have HSI := Lib.hid hSI
  clear hSE hSI
  go_cut [6, 7] (fun p c wx => ∃ (g : Nat) (A : Option Addr) (n c' lo hi : Nat), p = .pointer (some ⟨g, 0, none⟩) ∧ c = .int .i64 (corC rb0 rs0 z0 (p1q0, p1q1, p1q2, p1q3, p1q4, p1q5, p1q6)) ∧ Box wx g #[.int .i64 (corB rb0 rs0 z0 (p1q0, p1q1, p1q2, p1q3, p1q4, p1q5, p1q6)), .int .i64 (corS rb0 rs0 z0 (p1q0, p1q1, p1q2, p1q3, p1q4, p1q5, p1q6)), .slice A n c'] 51 ∧ wx.ownsRow w2.heap.size 66 7 (.slice A n c') n (ents (corL rb0 rs0 z0 (p1q0, p1q1, p1q2, p1q3, p1q4, p1q5, p1q6))) ∧ n ≤ 1048576 ∧ (∀ b, (Value.slice A n c').ownBlock = some b → lo ≤ b ∧ b < hi) ∧ w2.heap.size ≤ lo ∧ hi ≤ wx.heap.size ∧ (g < lo ∨ hi ≤ g) ∧ w2.heap.size ≤ g ∧ g < wx.heap.size ∧ Below w2.heap.size w2 wx)
  case first =>
    refine wp_region_T2 (n := 11) S (fun _ => false) (by kernel_rfl) rfl ?_
    intro ops HOPS
    have hS := HSI.out _ (below_drewN' _ w2 1)
    refine wpAnyT_take 0 (.agg #[.int .i64 rb0, .int .i64 rs0, .slice a0 len0 cap0]) (by rw [HOPS.out]; rfl) (by rw [HOPS.out]; kernel_rfl) (by exact fun _ _ _ h => h) (by rfl) (fun w1 hS => by obtain ⟨q0, q1, q2, q3, q4, q5, q6, q7, q8, q9⟩ := HSE.out _ hS; go_simp) hS ?_
    go_simp
    refine wpAnyT_take 2 (.agg #[.int .i64 p1q0, .int .i64 p1q1, .int .i64 p1q2, .int .i64 p1q3, .int .i64 p1q4, .int .i64 p1q5, .int .i64 p1q6]) (by rw [HOPS.out]; rfl) (by rw [HOPS.out]; kernel_rfl) (by exact fun _ _ _ h => h) (by rfl) (fun w1 hS => by obtain ⟨q0, q1, q2, q3, q4, q5, q6, q7, q8, q9⟩ := HSE.out _ hS; go_simp) hS ?_
    go_simp
    replace hS : S w2.drew := hS
    obtain ⟨wd, hwd⟩ : ∃ wd : World, wd = w2.drew := ⟨_, rfl⟩
    have HBwd := Lib.hid (show Below w2.heap.size w2 wd from by rw [hwd]; exact below_drewN' _ w2 1)
    have hsd : w2.heap.size ≤ wd.heap.size := HBwd.out.size
    rw [← hwd] at hS ⊢
    clear hwd
    refine wpAnyT_two 1 8 (by rw [HOPS.out]; rfl) (by rw [HOPS.out]; rfl) (by rw [HOPS.out]; kernel_rfl) ?_ ?_
    · skip
      intro K' hK
      have HK := Lib.hid hK
      clear hK
      go_simp
      go_at_call 31
      refine (toRegister_any _ _ _ _ _ _ _ (hr0.below (BB2.trans (HBwd.out.mono BB2.size))) hlen0).mono ?_
      rintro e we0 ⟨AT, nT, cT, rfl, oT, hnT, hbwe0⟩
      have HBwe0 := Lib.hid (HBwd.out.trans (hbwe0.mono HBwd.out.size))
      have hzwe0 := hbwe0.size
      refine HK.out _ _ (.inr (HSI.out _ HBwe0.out)) ?_
      clear HK
      go_simp
      refine wpAnyT_two 3 8 (by rw [HOPS.out]; rfl) (by rw [HOPS.out]; rfl) (by rw [HOPS.out]; kernel_rfl) ?_ ?_
      · skip
        intro K' hK
        have HK := Lib.hid hK
        clear hK
        go_simp
        go_at_call 43
        refine (toEntry_any _ _ _ _ _ _ _ _).mono ?_
        rintro e we1 ⟨rfl, hbwe1⟩
        replace oT := own_below oT hbwe1
        have HBwe1 := Lib.hid (HBwe0.out.trans (hbwe1.mono HBwe0.out.size))
        have hzwe1 := hbwe1.size
        refine HK.out _ _ (.inr (HSI.out _ HBwe1.out)) ?_
        clear HK
        go_simp
        refine wpAnyT_two 4 8 (by rw [HOPS.out]; rfl) (by rw [HOPS.out]; rfl) (by rw [HOPS.out]; kernel_rfl) ?_ ?_
        · skip
          intro K' hK
          have HK := Lib.hid hK
          clear hK
          go_simp
          (first | go_at_call 48 | go_at_call 49)
          refine (specCorrectEntry_any _ _ _ _ _ _ _ _ _ _ _ _ _ _ ⟨own_rd oT, own_capE oT⟩).mono ?_
          rintro e we2 ⟨AS1, nS1, cS1, rfl, oS1, hnS1, hbwe2⟩
          have vS1 := oS1.lt
          have HBwe2 := Lib.hid (HBwe1.out.trans (hbwe2.mono HBwe1.out.size))
          have hzwe2 := hbwe2.size
          refine HK.out _ _ (.inr (HSI.out _ HBwe2.out)) ?_
          clear HK
          go_simp
          refine wpAnyT_take 5 (.tuple #[.agg #[.int .i64 (corB rb0 rs0 z0 (p1q0, p1q1, p1q2, p1q3, p1q4, p1q5, p1q6)), .int .i64 (corS rb0 rs0 z0 (p1q0, p1q1, p1q2, p1q3, p1q4, p1q5, p1q6)), .slice AS1 nS1 cS1], .int .i64 (corC rb0 rs0 z0 (p1q0, p1q1, p1q2, p1q3, p1q4, p1q5, p1q6))]) (by rw [HOPS.out]; rfl) (by rw [HOPS.out]; kernel_rfl) (by exact fun _ _ _ h => h) (by rfl) (fun w1 hS => by go_simp) (HSI.out _ HBwe2.out) ?_
          go_simp
          refine wpAnyT_take 6 (.agg #[.int .i64 (corB rb0 rs0 z0 (p1q0, p1q1, p1q2, p1q3, p1q4, p1q5, p1q6)), .int .i64 (corS rb0 rs0 z0 (p1q0, p1q1, p1q2, p1q3, p1q4, p1q5, p1q6)), .slice AS1 nS1 cS1]) (by rw [HOPS.out]; rfl) (by rw [HOPS.out]; kernel_rfl) (by exact fun _ _ _ h => h) (by rfl) (fun w1 hS => by go_simp) (HSI.out _ HBwe2.out) ?_
          go_simp
          refine wpAnyT_take 7 (.int .i64 (corC rb0 rs0 z0 (p1q0, p1q1, p1q2, p1q3, p1q4, p1q5, p1q6))) (by rw [HOPS.out]; rfl) (by rw [HOPS.out]; kernel_rfl) (by exact fun _ _ _ h => h) (by rfl) (fun w1 hS => by go_simp) (HSI.out _ HBwe2.out) ?_
          go_simp
          refine wpAnyT_one 8 (by rw [HOPS.out]; rfl) (by rw [HOPS.out]; kernel_rfl) ?_
          intro K' hK
          have HK := Lib.hid hK
          clear hK
          go_simp
          refine HK.out _ _ (.inr (HSI.out _ (HBwe2.out.alloc HBwe2.out.size _))) ?_
          clear HK
          obtain ⟨wg, hw_wg, XG, hbwg, hs_wg⟩ := one_box we2 #[.int .i64 0, .int .i64 0, .slice none 0 0] 51
          rw [← hw_wg]
          clear hw_wg
          have HBwg := Lib.hid (HBwe2.out.trans (hbwg.mono HBwe2.out.size))
          replace oS1 := own_below oS1 hbwg
          go_simp
          have hgP : w2.heap.size ≤ we2.heap.size := by omega
          have hch := put_chg (g := we2.heap.size) [.int .i64 (corB rb0 rs0 z0 (p1q0, p1q1, p1q2, p1q3, p1q4, p1q5, p1q6)), .int .i64 (corS rb0 rs0 z0 (p1q0, p1q1, p1q2, p1q3, p1q4, p1q5, p1q6)), .slice AS1 nS1 cS1] 0 (Chg.refl we2.heap.size (we2.heap.size + 1) wg) (by omega) (by omega)
          have HBS := Lib.hid (below_chg HBwg.out hch (by omega) (by omega))
          have HOS := Lib.hid (own_chg oS1 hch (fun b hb => by have := vS1 b hb; omega))
          have HXS := Lib.hid (((XG.set 0 (.int .i64 (corB rb0 rs0 z0 (p1q0, p1q1, p1q2, p1q3, p1q4, p1q5, p1q6)))).set 1 (.int .i64 (corS rb0 rs0 z0 (p1q0, p1q1, p1q2, p1q3, p1q4, p1q5, p1q6)))).set 2 (.slice AS1 nS1 cS1))
          have HZS := Lib.hid hch.size
          have FG := XG.f3
          have hgL := XG.lt
          clear hch
          refine wpAnyT_one 9 (by rw [HOPS.out]; rfl) (by rw [HOPS.out]; kernel_rfl) ?_
          intro K' hK
          have HK := Lib.hid hK
          clear hK
          go_simp
          refine HK.out _ _ (.inr (HSI.out _ HBS.out)) ?_
          clear HK
          go_simp
          refine wpAnyT_take 10 (.int .i64 (corC rb0 rs0 z0 (p1q0, p1q1, p1q2, p1q3, p1q4, p1q5, p1q6))) (by rw [HOPS.out]; rfl) (by rw [HOPS.out]; kernel_rfl) (by exact fun _ _ _ h => h) (by rfl) (fun w1 hS => by go_simp) (HSI.out _ HBS.out) ?_
          go_simp
          refine wpAnyT_done (by rw [HOPS.out]; kernel_rfl) ?_ _
          go_wp2_with fail
          go_meet
          exact ⟨we2.heap.size, AS1, nS1, cS1, we1.heap.size, we2.heap.size, rfl, rfl, HXS.out, own_base HOS.out (by omega), hnS1, vS1, by omega, Nat.le_trans (show we2.heap.size ≤ wg.heap.size by omega) HZS.out, by omega, hgP, Nat.lt_of_lt_of_le hgL HZS.out, HBS.out⟩
        · skip
          intro K' hK
          have HK := Lib.hid hK
          clear hK
          go_simp
          refine HK.out _ _ (.inr (HSI.out _ (HBwe1.out.alloc HBwe1.out.size _))) ?_
          clear HK
          obtain ⟨wb, hw_wb, XG, hbwb, hs_wb⟩ := one_box we1 #[.int .i64 0, .int .i64 0, .slice none 0 0] 51
          rw [← hw_wb]
          clear hw_wb
          have HBwb := Lib.hid (HBwe1.out.trans (hbwb.mono HBwe1.out.size))
          replace oT := own_below oT hbwb
          go_simp
          refine wpAnyT_one 4 (by rw [HOPS.out]; rfl) (by rw [HOPS.out]; kernel_rfl) ?_
          intro K' hK
          have HK := Lib.hid hK
          clear hK
          go_simp
          (first | go_at_call 48 | go_at_call 49)
          refine (specCorrectEntry_any _ _ _ _ _ _ _ _ _ _ _ _ _ _ ⟨own_rd oT, own_capE oT⟩).mono ?_
          rintro e we2 ⟨AS1, nS1, cS1, rfl, oS1, hnS1, hbwe2⟩
          have vS1 := oS1.lt
          have HBwe2 := Lib.hid (HBwb.out.trans (hbwe2.mono HBwb.out.size))
          have hzwe2 := hbwe2.size
          replace XG := XG.below hbwe2
          refine HK.out _ _ (.inr (HSI.out _ HBwe2.out)) ?_
          clear HK
          go_simp
          refine wpAnyT_take 5 (.tuple #[.agg #[.int .i64 (corB rb0 rs0 z0 (p1q0, p1q1, p1q2, p1q3, p1q4, p1q5, p1q6)), .int .i64 (corS rb0 rs0 z0 (p1q0, p1q1, p1q2, p1q3, p1q4, p1q5, p1q6)), .slice AS1 nS1 cS1], .int .i64 (corC rb0 rs0 z0 (p1q0, p1q1, p1q2, p1q3, p1q4, p1q5, p1q6))]) (by rw [HOPS.out]; rfl) (by rw [HOPS.out]; kernel_rfl) (by exact fun _ _ _ h => h) (by rfl) (fun w1 hS => by go_simp) (HSI.out _ HBwe2.out) ?_
          go_simp
          refine wpAnyT_take 6 (.agg #[.int .i64 (corB rb0 rs0 z0 (p1q0, p1q1, p1q2, p1q3, p1q4, p1q5, p1q6)), .int .i64 (corS rb0 rs0 z0 (p1q0, p1q1, p1q2, p1q3, p1q4, p1q5, p1q6)), .slice AS1 nS1 cS1]) (by rw [HOPS.out]; rfl) (by rw [HOPS.out]; kernel_rfl) (by exact fun _ _ _ h => h) (by rfl) (fun w1 hS => by go_simp) (HSI.out _ HBwe2.out) ?_
          go_simp
          refine wpAnyT_take 7 (.int .i64 (corC rb0 rs0 z0 (p1q0, p1q1, p1q2, p1q3, p1q4, p1q5, p1q6))) (by rw [HOPS.out]; rfl) (by rw [HOPS.out]; kernel_rfl) (by exact fun _ _ _ h => h) (by rfl) (fun w1 hS => by go_simp) (HSI.out _ HBwe2.out) ?_
          go_simp
          have hgP : w2.heap.size ≤ we1.heap.size := by omega
          have hch := put_chg (g := we1.heap.size) [.int .i64 (corB rb0 rs0 z0 (p1q0, p1q1, p1q2, p1q3, p1q4, p1q5, p1q6)), .int .i64 (corS rb0 rs0 z0 (p1q0, p1q1, p1q2, p1q3, p1q4, p1q5, p1q6)), .slice AS1 nS1 cS1] 0 (Chg.refl we1.heap.size (we1.heap.size + 1) we2) (by omega) (by omega)
          have HBS := Lib.hid (below_chg HBwe2.out hch (by omega) (by omega))
          have HOS := Lib.hid (own_chg oS1 hch (fun b hb => by have := vS1 b hb; omega))
          have HXS := Lib.hid (((XG.set 0 (.int .i64 (corB rb0 rs0 z0 (p1q0, p1q1, p1q2, p1q3, p1q4, p1q5, p1q6)))).set 1 (.int .i64 (corS rb0 rs0 z0 (p1q0, p1q1, p1q2, p1q3, p1q4, p1q5, p1q6)))).set 2 (.slice AS1 nS1 cS1))
          have HZS := Lib.hid hch.size
          have FG := XG.f3
          have hgL := XG.lt
          clear hch
          refine wpAnyT_one 9 (by rw [HOPS.out]; rfl) (by rw [HOPS.out]; kernel_rfl) ?_
          intro K' hK
          have HK := Lib.hid hK
          clear hK
          go_simp
          refine HK.out _ _ (.inr (HSI.out _ HBS.out)) ?_
          clear HK
          go_simp
          refine wpAnyT_take 10 (.int .i64 (corC rb0 rs0 z0 (p1q0, p1q1, p1q2, p1q3, p1q4, p1q5, p1q6))) (by rw [HOPS.out]; rfl) (by rw [HOPS.out]; kernel_rfl) (by exact fun _ _ _ h => h) (by rfl) (fun w1 hS => by go_simp) (HSI.out _ HBS.out) ?_
          go_simp
          refine wpAnyT_done (by rw [HOPS.out]; kernel_rfl) ?_ _
          go_wp2_with fail
          go_meet
          exact ⟨we1.heap.size, AS1, nS1, cS1, wb.heap.size, we2.heap.size, rfl, rfl, HXS.out, own_base HOS.out (by omega), hnS1, vS1, by omega, Nat.le_trans (show we2.heap.size ≤ we2.heap.size by omega) HZS.out, by omega, hgP, Nat.lt_of_lt_of_le hgL HZS.out, HBS.out⟩
      · skip
        intro K' hK
        have HK := Lib.hid hK
        clear hK
        go_simp
        refine HK.out _ _ (.inr (HSI.out _ (HBwe0.out.alloc HBwe0.out.size _))) ?_
        clear HK
        obtain ⟨wb, hw_wb, XG, hbwb, hs_wb⟩ := one_box we0 #[.int .i64 0, .int .i64 0, .slice none 0 0] 51
        rw [← hw_wb]
        clear hw_wb
        have HBwb := Lib.hid (HBwe0.out.trans (hbwb.mono HBwe0.out.size))
        replace oT := own_below oT hbwb
        go_simp
        refine wpAnyT_one 3 (by rw [HOPS.out]; rfl) (by rw [HOPS.out]; kernel_rfl) ?_
        intro K' hK
        have HK := Lib.hid hK
        clear hK
        go_simp
        go_at_call 43
        refine (toEntry_any _ _ _ _ _ _ _ _).mono ?_
        rintro e we1 ⟨rfl, hbwe1⟩
        replace oT := own_below oT hbwe1
        have HBwe1 := Lib.hid (HBwb.out.trans (hbwe1.mono HBwb.out.size))
        have hzwe1 := hbwe1.size
        replace XG := XG.below hbwe1
        refine HK.out _ _ (.inr (HSI.out _ HBwe1.out)) ?_
        clear HK
        go_simp
        refine wpAnyT_one 4 (by rw [HOPS.out]; rfl) (by rw [HOPS.out]; kernel_rfl) ?_
        intro K' hK
        have HK := Lib.hid hK
        clear hK
        go_simp
        (first | go_at_call 48 | go_at_call 49)
        refine (specCorrectEntry_any _ _ _ _ _ _ _ _ _ _ _ _ _ _ ⟨own_rd oT, own_capE oT⟩).mono ?_
        rintro e we2 ⟨AS1, nS1, cS1, rfl, oS1, hnS1, hbwe2⟩
        have vS1 := oS1.lt
        have HBwe2 := Lib.hid (HBwe1.out.trans (hbwe2.mono HBwe1.out.size))
        have hzwe2 := hbwe2.size
        replace XG := XG.below hbwe2
        refine HK.out _ _ (.inr (HSI.out _ HBwe2.out)) ?_
        clear HK
        go_simp
        refine wpAnyT_take 5 (.tuple #[.agg #[.int .i64 (corB rb0 rs0 z0 (p1q0, p1q1, p1q2, p1q3, p1q4, p1q5, p1q6)), .int .i64 (corS rb0 rs0 z0 (p1q0, p1q1, p1q2, p1q3, p1q4, p1q5, p1q6)), .slice AS1 nS1 cS1], .int .i64 (corC rb0 rs0 z0 (p1q0, p1q1, p1q2, p1q3, p1q4, p1q5, p1q6))]) (by rw [HOPS.out]; rfl) (by rw [HOPS.out]; kernel_rfl) (by exact fun _ _ _ h => h) (by rfl) (fun w1 hS => by go_simp) (HSI.out _ HBwe2.out) ?_
        go_simp
        refine wpAnyT_take 6 (.agg #[.int .i64 (corB rb0 rs0 z0 (p1q0, p1q1, p1q2, p1q3, p1q4, p1q5, p1q6)), .int .i64 (corS rb0 rs0 z0 (p1q0, p1q1, p1q2, p1q3, p1q4, p1q5, p1q6)), .slice AS1 nS1 cS1]) (by rw [HOPS.out]; rfl) (by rw [HOPS.out]; kernel_rfl) (by exact fun _ _ _ h => h) (by rfl) (fun w1 hS => by go_simp) (HSI.out _ HBwe2.out) ?_
        go_simp
        refine wpAnyT_take 7 (.int .i64 (corC rb0 rs0 z0 (p1q0, p1q1, p1q2, p1q3, p1q4, p1q5, p1q6))) (by rw [HOPS.out]; rfl) (by rw [HOPS.out]; kernel_rfl) (by exact fun _ _ _ h => h) (by rfl) (fun w1 hS => by go_simp) (HSI.out _ HBwe2.out) ?_
        go_simp
        have hgP : w2.heap.size ≤ we0.heap.size := by omega
        have hch := put_chg (g := we0.heap.size) [.int .i64 (corB rb0 rs0 z0 (p1q0, p1q1, p1q2, p1q3, p1q4, p1q5, p1q6)), .int .i64 (corS rb0 rs0 z0 (p1q0, p1q1, p1q2, p1q3, p1q4, p1q5, p1q6)), .slice AS1 nS1 cS1] 0 (Chg.refl we0.heap.size (we0.heap.size + 1) we2) (by omega) (by omega)
        have HBS := Lib.hid (below_chg HBwe2.out hch (by omega) (by omega))
        have HOS := Lib.hid (own_chg oS1 hch (fun b hb => by have := vS1 b hb; omega))
        have HXS := Lib.hid (((XG.set 0 (.int .i64 (corB rb0 rs0 z0 (p1q0, p1q1, p1q2, p1q3, p1q4, p1q5, p1q6)))).set 1 (.int .i64 (corS rb0 rs0 z0 (p1q0, p1q1, p1q2, p1q3, p1q4, p1q5, p1q6)))).set 2 (.slice AS1 nS1 cS1))
        have HZS := Lib.hid hch.size
        have FG := XG.f3
        have hgL := XG.lt
        clear hch
        refine wpAnyT_one 9 (by rw [HOPS.out]; rfl) (by rw [HOPS.out]; kernel_rfl) ?_
        intro K' hK
        have HK := Lib.hid hK
        clear hK
        go_simp
        refine HK.out _ _ (.inr (HSI.out _ HBS.out)) ?_
        clear HK
        go_simp
        refine wpAnyT_take 10 (.int .i64 (corC rb0 rs0 z0 (p1q0, p1q1, p1q2, p1q3, p1q4, p1q5, p1q6))) (by rw [HOPS.out]; rfl) (by rw [HOPS.out]; kernel_rfl) (by exact fun _ _ _ h => h) (by rfl) (fun w1 hS => by go_simp) (HSI.out _ HBS.out) ?_
        go_simp
        refine wpAnyT_done (by rw [HOPS.out]; kernel_rfl) ?_ _
        go_wp2_with fail
        go_meet
        exact ⟨we0.heap.size, AS1, nS1, cS1, we1.heap.size, we2.heap.size, rfl, rfl, HXS.out, own_base HOS.out (by omega), hnS1, vS1, by omega, Nat.le_trans (show we2.heap.size ≤ we2.heap.size by omega) HZS.out, by omega, hgP, Nat.lt_of_lt_of_le hgL HZS.out, HBS.out⟩
    · skip
      intro K' hK
      have HK := Lib.hid hK
      clear hK
      go_simp
      refine HK.out _ _ (.inr (HSI.out _ (HBwd.out.alloc HBwd.out.size _))) ?_
      clear HK
      obtain ⟨wb, hw_wb, XG, hbwb, hs_wb⟩ := one_box wd #[.int .i64 0, .int .i64 0, .slice none 0 0] 51
      rw [← hw_wb]
      clear hw_wb
      have HBwb := Lib.hid (HBwd.out.trans (hbwb.mono HBwd.out.size))
      go_simp
      refine wpAnyT_one 1 (by rw [HOPS.out]; rfl) (by rw [HOPS.out]; kernel_rfl) ?_
      intro K' hK
      have HK := Lib.hid hK
      clear hK
      go_simp
      go_at_call 31
      refine (toRegister_any _ _ _ _ _ _ _ (hr0.below (BB2.trans (HBwb.out.mono BB2.size))) hlen0).mono ?_
      rintro e we0 ⟨AT, nT, cT, rfl, oT, hnT, hbwe0⟩
      have HBwe0 := Lib.hid (HBwb.out.trans (hbwe0.mono HBwb.out.size))
      have hzwe0 := hbwe0.size
      replace XG := XG.below hbwe0
      refine HK.out _ _ (.inr (HSI.out _ HBwe0.out)) ?_
      clear HK
      go_simp
      refine wpAnyT_one 3 (by rw [HOPS.out]; rfl) (by rw [HOPS.out]; kernel_rfl) ?_
      intro K' hK
      have HK := Lib.hid hK
      clear hK
      go_simp
      go_at_call 43
      refine (toEntry_any _ _ _ _ _ _ _ _).mono ?_
      rintro e we1 ⟨rfl, hbwe1⟩
      replace oT := own_below oT hbwe1
      have HBwe1 := Lib.hid (HBwe0.out.trans (hbwe1.mono HBwe0.out.size))
      have hzwe1 := hbwe1.size
      replace XG := XG.below hbwe1
      refine HK.out _ _ (.inr (HSI.out _ HBwe1.out)) ?_
      clear HK
      go_simp
      refine wpAnyT_one 4 (by rw [HOPS.out]; rfl) (by rw [HOPS.out]; kernel_rfl) ?_
      intro K' hK
      have HK := Lib.hid hK
      clear hK
      go_simp
      (first | go_at_call 48 | go_at_call 49)
      refine (specCorrectEntry_any _ _ _ _ _ _ _ _ _ _ _ _ _ _ ⟨own_rd oT, own_capE oT⟩).mono ?_
      rintro e we2 ⟨AS1, nS1, cS1, rfl, oS1, hnS1, hbwe2⟩
      have vS1 := oS1.lt
      have HBwe2 := Lib.hid (HBwe1.out.trans (hbwe2.mono HBwe1.out.size))
      have hzwe2 := hbwe2.size
      replace XG := XG.below hbwe2
      refine HK.out _ _ (.inr (HSI.out _ HBwe2.out)) ?_
      clear HK
      go_simp
      refine wpAnyT_take 5 (.tuple #[.agg #[.int .i64 (corB rb0 rs0 z0 (p1q0, p1q1, p1q2, p1q3, p1q4, p1q5, p1q6)), .int .i64 (corS rb0 rs0 z0 (p1q0, p1q1, p1q2, p1q3, p1q4, p1q5, p1q6)), .slice AS1 nS1 cS1], .int .i64 (corC rb0 rs0 z0 (p1q0, p1q1, p1q2, p1q3, p1q4, p1q5, p1q6))]) (by rw [HOPS.out]; rfl) (by rw [HOPS.out]; kernel_rfl) (by exact fun _ _ _ h => h) (by rfl) (fun w1 hS => by go_simp) (HSI.out _ HBwe2.out) ?_
      go_simp
      refine wpAnyT_take 6 (.agg #[.int .i64 (corB rb0 rs0 z0 (p1q0, p1q1, p1q2, p1q3, p1q4, p1q5, p1q6)), .int .i64 (corS rb0 rs0 z0 (p1q0, p1q1, p1q2, p1q3, p1q4, p1q5, p1q6)), .slice AS1 nS1 cS1]) (by rw [HOPS.out]; rfl) (by rw [HOPS.out]; kernel_rfl) (by exact fun _ _ _ h => h) (by rfl) (fun w1 hS => by go_simp) (HSI.out _ HBwe2.out) ?_
      go_simp
      refine wpAnyT_take 7 (.int .i64 (corC rb0 rs0 z0 (p1q0, p1q1, p1q2, p1q3, p1q4, p1q5, p1q6))) (by rw [HOPS.out]; rfl) (by rw [HOPS.out]; kernel_rfl) (by exact fun _ _ _ h => h) (by rfl) (fun w1 hS => by go_simp) (HSI.out _ HBwe2.out) ?_
      go_simp
      have hgP : w2.heap.size ≤ wd.heap.size := by omega
      have hch := put_chg (g := wd.heap.size) [.int .i64 (corB rb0 rs0 z0 (p1q0, p1q1, p1q2, p1q3, p1q4, p1q5, p1q6)), .int .i64 (corS rb0 rs0 z0 (p1q0, p1q1, p1q2, p1q3, p1q4, p1q5, p1q6)), .slice AS1 nS1 cS1] 0 (Chg.refl wd.heap.size (wd.heap.size + 1) we2) (by omega) (by omega)
      have HBS := Lib.hid (below_chg HBwe2.out hch (by omega) (by omega))
      have HOS := Lib.hid (own_chg oS1 hch (fun b hb => by have := vS1 b hb; omega))
      have HXS := Lib.hid (((XG.set 0 (.int .i64 (corB rb0 rs0 z0 (p1q0, p1q1, p1q2, p1q3, p1q4, p1q5, p1q6)))).set 1 (.int .i64 (corS rb0 rs0 z0 (p1q0, p1q1, p1q2, p1q3, p1q4, p1q5, p1q6)))).set 2 (.slice AS1 nS1 cS1))
      have HZS := Lib.hid hch.size
      have FG := XG.f3
      have hgL := XG.lt
      clear hch
      refine wpAnyT_one 9 (by rw [HOPS.out]; rfl) (by rw [HOPS.out]; kernel_rfl) ?_
      intro K' hK
      have HK := Lib.hid hK
      clear hK
      go_simp
      refine HK.out _ _ (.inr (HSI.out _ HBS.out)) ?_
      clear HK
      go_simp
      refine wpAnyT_take 10 (.int .i64 (corC rb0 rs0 z0 (p1q0, p1q1, p1q2, p1q3, p1q4, p1q5, p1q6))) (by rw [HOPS.out]; rfl) (by rw [HOPS.out]; kernel_rfl) (by exact fun _ _ _ h => h) (by rfl) (fun w1 hS => by go_simp) (HSI.out _ HBS.out) ?_
      go_simp
      refine wpAnyT_done (by rw [HOPS.out]; kernel_rfl) ?_ _
      go_wp2_with fail
      go_meet
      exact ⟨wd.heap.size, AS1, nS1, cS1, we1.heap.size, we2.heap.size, rfl, rfl, HXS.out, own_base HOS.out (by omega), hnS1, vS1, by omega, Nat.le_trans (show we2.heap.size ≤ we2.heap.size by omega) HZS.out, by omega, hgP, Nat.lt_of_lt_of_le hgL HZS.out, HBS.out⟩
  obtain ⟨gS1, AS1, nS1, cS1, loS1, hiS1, rfl, rfl, Xw0, oS1, hnS1, vS1, hloS1, hhiS1, hsepS1, hgPS1, hgLS1, hb3⟩ := hcut
  obtain ⟨w3, hww3⟩ : ∃ wz : World, wz = wc := ⟨_, rfl⟩
  subst hww3
  clear HSE HSI
  have BB3 : Below w.heap.size w w3 := BB2.trans (hb3.mono BB2.size)
  have s3 := hb3.size
  replace XaR := XaR.below hb3
  replace XaX := XaX.below hb3
  have FaR0 := XaR.cell (i := 0) rfl
  have FaR1 := XaR.cell (i := 1) rfl
  have FaR2 := XaR.cell (i := 2) rfl
  go_wp2_with fail
  refine (toRegister_any _ _ _ _ _ _ _ (hr0.below BB3) hlen0).mono ?_
  rintro e w4 ⟨AS2, nS2, cS2, rfl, oS2, hnS2, hb4⟩
  clear FaR0 FaR1 FaR2
  have BB4 : Below w.heap.size w w4 := BB3.trans (hb4.mono BB3.size)
  have s4 := hb4.size
  replace oS1 := own_below oS1 hb4
  replace XaR := XaR.below hb4
  replace XaX := XaX.below hb4
  replace Xw0 := Xw0.below hb4
  have vS2 := oS2.lt
  go_wp2_with fail
  obtain ⟨w5, hw5, Xx0, hb5, hsb_x0⟩ := one_box w4 #[.int .i64 rb0, .int .i64 rs0, .slice AS2 nS2 cS2] 51
  rw [← hw5]
  clear hw5
  replace hsb_x0 : w4.heap.size < w5.heap.size := by omega
  have BB5 : Below w.heap.size w w5 := BB4.trans (hb5.mono BB4.size)
  have s5 := hb5.size
  replace oS1 := own_below oS1 hb5
  replace oS2 := own_below oS2 hb5
  replace XaR := XaR.below hb5
  replace XaX := XaX.below hb5
  replace Xw0 := Xw0.below hb5
  obtain ⟨S, hSE, hSI⟩ : ∃ S : World → Prop, (∀ w1, S w1 → (w1.cell? ⟨w4.heap.size, 0, none⟩ = some (.int .i64 rb0) ∧ w1.cell? ⟨w4.heap.size, 1, none⟩ = some (.int .i64 rs0) ∧ w1.cell? ⟨w4.heap.size, 2, none⟩ = some (.slice AS2 nS2 cS2) ∧ w1.cell? ⟨w.heap.size + 1, 0, none⟩ = some (.int .i64 p1q0) ∧ w1.cell? ⟨w.heap.size + 1, 1, none⟩ = some (.int .i64 p1q1) ∧ w1.cell? ⟨w.heap.size + 1, 2, none⟩ = some (.int .i64 p1q2) ∧ w1.cell? ⟨w.heap.size + 1, 3, none⟩ = some (.int .i64 p1q3) ∧ w1.cell? ⟨w.heap.size + 1, 4, none⟩ = some (.int .i64 p1q4) ∧ w1.cell? ⟨w.heap.size + 1, 5, none⟩ = some (.int .i64 p1q5) ∧ w1.cell? ⟨w.heap.size + 1, 6, none⟩ = some (.int .i64 p1q6))) ∧ (∀ wz9, Below w5.heap.size w5 wz9 → S wz9) :=
    ⟨fun w1 => w1.cell? ⟨w4.heap.size, 0, none⟩ = some (.int .i64 rb0) ∧ w1.cell? ⟨w4.heap.size, 1, none⟩ = some (.int .i64 rs0) ∧ w1.cell? ⟨w4.heap.size, 2, none⟩ = some (.slice AS2 nS2 cS2) ∧ w1.cell? ⟨w.heap.size + 1, 0, none⟩ = some (.int .i64 p1q0) ∧ w1.cell? ⟨w.heap.size + 1, 1, none⟩ = some (.int .i64 p1q1) ∧ w1.cell? ⟨w.heap.size + 1, 2, none⟩ = some (.int .i64 p1q2) ∧ w1.cell? ⟨w.heap.size + 1, 3, none⟩ = some (.int .i64 p1q3) ∧ w1.cell? ⟨w.heap.size + 1, 4, none⟩ = some (.int .i64 p1q4) ∧ w1.cell? ⟨w.heap.size + 1, 5, none⟩ = some (.int .i64 p1q5) ∧ w1.cell? ⟨w.heap.size + 1, 6, none⟩ = some (.int .i64 p1q6), fun _ h => h, fun wz9 hb => ⟨(Xx0.below hb).cell rfl, (Xx0.below hb).cell rfl, (Xx0.below hb).cell rfl, (XaX.below hb).cell rfl, (XaX.below hb).cell rfl, (XaX.below hb).cell rfl, (XaX.below hb).cell rfl, (XaX.below hb).cell rfl, (XaX.below hb).cell rfl, (XaX.below hb).cell rfl⟩⟩
  have HSE := Lib.hid hSE; have HSI := Lib.hid hSI
  clear hSE hSI
  go_cut [9, 10] (fun p c wx => ∃ (g : Nat) (A : Option Addr) (n c' lo hi : Nat), p = .pointer (some ⟨g, 0, none⟩) ∧ c = .int .i64 (corC rb0 rs0 z0 (p1q0, p1q1, p1q2, p1q3, p1q4, p1q5, p1q6)) ∧ Box wx g #[.int .i64 (corB rb0 rs0 z0 (p1q0, p1q1, p1q2, p1q3, p1q4, p1q5, p1q6)), .int .i64 (corS rb0 rs0 z0 (p1q0, p1q1, p1q2, p1q3, p1q4, p1q5, p1q6)), .slice A n c'] 51 ∧ wx.ownsRow w5.heap.size 66 7 (.slice A n c') n (ents (corL rb0 rs0 z0 (p1q0, p1q1, p1q2, p1q3, p1q4, p1q5, p1q6))) ∧ n ≤ 1048576 ∧ (∀ b, (Value.slice A n c').ownBlock = some b → lo ≤ b ∧ b < hi) ∧ w5.heap.size ≤ lo ∧ hi ≤ wx.heap.size ∧ (g < lo ∨ hi ≤ g) ∧ w5.heap.size ≤ g ∧ g < wx.heap.size ∧ Below w5.heap.size w5 wx)
  case first =>
    refine wp_region_T2 (n := 10) S (fun _ => false) (by kernel_rfl) rfl ?_
    intro ops HOPS
    have hS := HSI.out _ (below_drewN' _ w5 1)
    refine wpAnyT_take 0 (.agg #[.int .i64 rb0, .int .i64 rs0, .slice AS2 nS2 cS2]) (by rw [HOPS.out]; rfl) (by rw [HOPS.out]; kernel_rfl) (by exact fun _ _ _ h => h) (by rfl) (fun w1 hS => by obtain ⟨q0, q1, q2, q3, q4, q5, q6, q7, q8, q9⟩ := HSE.out _ hS; go_simp) hS ?_
    go_simp
    refine wpAnyT_take 1 (.agg #[.int .i64 p1q0, .int .i64 p1q1, .int .i64 p1q2, .int .i64 p1q3, .int .i64 p1q4, .int .i64 p1q5, .int .i64 p1q6]) (by rw [HOPS.out]; rfl) (by rw [HOPS.out]; kernel_rfl) (by exact fun _ _ _ h => h) (by rfl) (fun w1 hS => by obtain ⟨q0, q1, q2, q3, q4, q5, q6, q7, q8, q9⟩ := HSE.out _ hS; go_simp) hS ?_
    go_simp
    replace hS : S w5.drew := hS
    obtain ⟨wd, hwd⟩ : ∃ wd : World, wd = w5.drew := ⟨_, rfl⟩
    have HBwd := Lib.hid (show Below w5.heap.size w5 wd from by rw [hwd]; exact below_drewN' _ w5 1)
    have hsd : w5.heap.size ≤ wd.heap.size := HBwd.out.size
    rw [← hwd] at hS ⊢
    clear hwd
    refine wpAnyT_two 2 7 (by rw [HOPS.out]; rfl) (by rw [HOPS.out]; rfl) (by rw [HOPS.out]; kernel_rfl) ?_ ?_
    · skip
      intro K' hK
      have HK := Lib.hid hK
      clear hK
      go_simp
      go_at_call 43
      refine (toEntry_any _ _ _ _ _ _ _ _).mono ?_
      rintro e we0 ⟨rfl, hbwe0⟩
      have HBwe0 := Lib.hid (HBwd.out.trans (hbwe0.mono HBwd.out.size))
      have hzwe0 := hbwe0.size
      refine HK.out _ _ (.inr (HSI.out _ HBwe0.out)) ?_
      clear HK
      go_simp
      refine wpAnyT_two 3 7 (by rw [HOPS.out]; rfl) (by rw [HOPS.out]; rfl) (by rw [HOPS.out]; kernel_rfl) ?_ ?_
      · skip
        intro K' hK
        have HK := Lib.hid hK
        clear hK
        go_simp
        (first | go_at_call 48 | go_at_call 49)
        refine (implCorrectEntry_any _ _ _ _ _ _ _ _ _ _ _ _ _ _ ⟨own_rd (own_below oS2 HBwe0.out), own_capE oS2⟩).mono ?_
        rintro e we1 ⟨AS3, nS3, cS3, rfl, oS3, hnS3, hbwe1⟩
        have vS3 := oS3.lt
        have HBwe1 := Lib.hid (HBwe0.out.trans (hbwe1.mono HBwe0.out.size))
        have hzwe1 := hbwe1.size
        refine HK.out _ _ (.inr (HSI.out _ HBwe1.out)) ?_
        clear HK
        go_simp
        refine wpAnyT_take 4 (.tuple #[.agg #[.int .i64 (corB rb0 rs0 z0 (p1q0, p1q1, p1q2, p1q3, p1q4, p1q5, p1q6)), .int .i64 (corS rb0 rs0 z0 (p1q0, p1q1, p1q2, p1q3, p1q4, p1q5, p1q6)), .slice AS3 nS3 cS3], .int .i64 (corC rb0 rs0 z0 (p1q0, p1q1, p1q2, p1q3, p1q4, p1q5, p1q6))]) (by rw [HOPS.out]; rfl) (by rw [HOPS.out]; kernel_rfl) (by exact fun _ _ _ h => h) (by rfl) (fun w1 hS => by go_simp) (HSI.out _ HBwe1.out) ?_
        go_simp
        refine wpAnyT_take 5 (.agg #[.int .i64 (corB rb0 rs0 z0 (p1q0, p1q1, p1q2, p1q3, p1q4, p1q5, p1q6)), .int .i64 (corS rb0 rs0 z0 (p1q0, p1q1, p1q2, p1q3, p1q4, p1q5, p1q6)), .slice AS3 nS3 cS3]) (by rw [HOPS.out]; rfl) (by rw [HOPS.out]; kernel_rfl) (by exact fun _ _ _ h => h) (by rfl) (fun w1 hS => by go_simp) (HSI.out _ HBwe1.out) ?_
        go_simp
        refine wpAnyT_take 6 (.int .i64 (corC rb0 rs0 z0 (p1q0, p1q1, p1q2, p1q3, p1q4, p1q5, p1q6))) (by rw [HOPS.out]; rfl) (by rw [HOPS.out]; kernel_rfl) (by exact fun _ _ _ h => h) (by rfl) (fun w1 hS => by go_simp) (HSI.out _ HBwe1.out) ?_
        go_simp
        refine wpAnyT_one 7 (by rw [HOPS.out]; rfl) (by rw [HOPS.out]; kernel_rfl) ?_
        intro K' hK
        have HK := Lib.hid hK
        clear hK
        go_simp
        refine HK.out _ _ (.inr (HSI.out _ (HBwe1.out.alloc HBwe1.out.size _))) ?_
        clear HK
        obtain ⟨wg, hw_wg, XG, hbwg, hs_wg⟩ := one_box we1 #[.int .i64 0, .int .i64 0, .slice none 0 0] 51
        rw [← hw_wg]
        clear hw_wg
        have HBwg := Lib.hid (HBwe1.out.trans (hbwg.mono HBwe1.out.size))
        replace oS3 := own_below oS3 hbwg
        go_simp
        have hgP : w5.heap.size ≤ we1.heap.size := by omega
        have hch := put_chg (g := we1.heap.size) [.int .i64 (corB rb0 rs0 z0 (p1q0, p1q1, p1q2, p1q3, p1q4, p1q5, p1q6)), .int .i64 (corS rb0 rs0 z0 (p1q0, p1q1, p1q2, p1q3, p1q4, p1q5, p1q6)), .slice AS3 nS3 cS3] 0 (Chg.refl we1.heap.size (we1.heap.size + 1) wg) (by omega) (by omega)
        have HBS := Lib.hid (below_chg HBwg.out hch (by omega) (by omega))
        have HOS := Lib.hid (own_chg oS3 hch (fun b hb => by have := vS3 b hb; omega))
        have HXS := Lib.hid (((XG.set 0 (.int .i64 (corB rb0 rs0 z0 (p1q0, p1q1, p1q2, p1q3, p1q4, p1q5, p1q6)))).set 1 (.int .i64 (corS rb0 rs0 z0 (p1q0, p1q1, p1q2, p1q3, p1q4, p1q5, p1q6)))).set 2 (.slice AS3 nS3 cS3))
        have HZS := Lib.hid hch.size
        have FG := XG.f3
        have hgL := XG.lt
        clear hch
        refine wpAnyT_one 8 (by rw [HOPS.out]; rfl) (by rw [HOPS.out]; kernel_rfl) ?_
        intro K' hK
        have HK := Lib.hid hK
        clear hK
        go_simp
        refine HK.out _ _ (.inr (HSI.out _ HBS.out)) ?_
        clear HK
        go_simp
        refine wpAnyT_take 9 (.int .i64 (corC rb0 rs0 z0 (p1q0, p1q1, p1q2, p1q3, p1q4, p1q5, p1q6))) (by rw [HOPS.out]; rfl) (by rw [HOPS.out]; kernel_rfl) (by exact fun _ _ _ h => h) (by rfl) (fun w1 hS => by go_simp) (HSI.out _ HBS.out) ?_
        go_simp
        refine wpAnyT_done (by rw [HOPS.out]; kernel_rfl) ?_ _
        go_wp2_with fail
        go_meet
        exact ⟨we1.heap.size, AS3, nS3, cS3, we0.heap.size, we1.heap.size, rfl, rfl, HXS.out, own_base HOS.out (by omega), hnS3, vS3, by omega, Nat.le_trans (show we1.heap.size ≤ wg.heap.size by omega) HZS.out, by omega, hgP, Nat.lt_of_lt_of_le hgL HZS.out, HBS.out⟩
      · skip
        intro K' hK
        have HK := Lib.hid hK
        clear hK
        go_simp
        refine HK.out _ _ (.inr (HSI.out _ (HBwe0.out.alloc HBwe0.out.size _))) ?_
        clear HK
        obtain ⟨wb, hw_wb, XG, hbwb, hs_wb⟩ := one_box we0 #[.int .i64 0, .int .i64 0, .slice none 0 0] 51
        rw [← hw_wb]
        clear hw_wb
        have HBwb := Lib.hid (HBwe0.out.trans (hbwb.mono HBwe0.out.size))
        go_simp
        refine wpAnyT_one 3 (by rw [HOPS.out]; rfl) (by rw [HOPS.out]; kernel_rfl) ?_
        intro K' hK
        have HK := Lib.hid hK
        clear hK
        go_simp
        (first | go_at_call 48 | go_at_call 49)
        refine (implCorrectEntry_any _ _ _ _ _ _ _ _ _ _ _ _ _ _ ⟨own_rd (own_below oS2 HBwb.out), own_capE oS2⟩).mono ?_
        rintro e we1 ⟨AS3, nS3, cS3, rfl, oS3, hnS3, hbwe1⟩
        have vS3 := oS3.lt
        have HBwe1 := Lib.hid (HBwb.out.trans (hbwe1.mono HBwb.out.size))
        have hzwe1 := hbwe1.size
        replace XG := XG.below hbwe1
        refine HK.out _ _ (.inr (HSI.out _ HBwe1.out)) ?_
        clear HK
        go_simp
        refine wpAnyT_take 4 (.tuple #[.agg #[.int .i64 (corB rb0 rs0 z0 (p1q0, p1q1, p1q2, p1q3, p1q4, p1q5, p1q6)), .int .i64 (corS rb0 rs0 z0 (p1q0, p1q1, p1q2, p1q3, p1q4, p1q5, p1q6)), .slice AS3 nS3 cS3], .int .i64 (corC rb0 rs0 z0 (p1q0, p1q1, p1q2, p1q3, p1q4, p1q5, p1q6))]) (by rw [HOPS.out]; rfl) (by rw [HOPS.out]; kernel_rfl) (by exact fun _ _ _ h => h) (by rfl) (fun w1 hS => by go_simp) (HSI.out _ HBwe1.out) ?_
        go_simp
        refine wpAnyT_take 5 (.agg #[.int .i64 (corB rb0 rs0 z0 (p1q0, p1q1, p1q2, p1q3, p1q4, p1q5, p1q6)), .int .i64 (corS rb0 rs0 z0 (p1q0, p1q1, p1q2, p1q3, p1q4, p1q5, p1q6)), .slice AS3 nS3 cS3]) (by rw [HOPS.out]; rfl) (by rw [HOPS.out]; kernel_rfl) (by exact fun _ _ _ h => h) (by rfl) (fun w1 hS => by go_simp) (HSI.out _ HBwe1.out) ?_
        go_simp
        refine wpAnyT_take 6 (.int .i64 (corC rb0 rs0 z0 (p1q0, p1q1, p1q2, p1q3, p1q4, p1q5, p1q6))) (by rw [HOPS.out]; rfl) (by rw [HOPS.out]; kernel_rfl) (by exact fun _ _ _ h => h) (by rfl) (fun w1 hS => by go_simp) (HSI.out _ HBwe1.out) ?_
        go_simp
        have hgP : w5.heap.size ≤ we0.heap.size := by omega
        have hch := put_chg (g := we0.heap.size) [.int .i64 (corB rb0 rs0 z0 (p1q0, p1q1, p1q2, p1q3, p1q4, p1q5, p1q6)), .int .i64 (corS rb0 rs0 z0 (p1q0, p1q1, p1q2, p1q3, p1q4, p1q5, p1q6)), .slice AS3 nS3 cS3] 0 (Chg.refl we0.heap.size (we0.heap.size + 1) we1) (by omega) (by omega)
        have HBS := Lib.hid (below_chg HBwe1.out hch (by omega) (by omega))
        have HOS := Lib.hid (own_chg oS3 hch (fun b hb => by have := vS3 b hb; omega))
        have HXS := Lib.hid (((XG.set 0 (.int .i64 (corB rb0 rs0 z0 (p1q0, p1q1, p1q2, p1q3, p1q4, p1q5, p1q6)))).set 1 (.int .i64 (corS rb0 rs0 z0 (p1q0, p1q1, p1q2, p1q3, p1q4, p1q5, p1q6)))).set 2 (.slice AS3 nS3 cS3))
        have HZS := Lib.hid hch.size
        have FG := XG.f3
        have hgL := XG.lt
        clear hch
        refine wpAnyT_one 8 (by rw [HOPS.out]; rfl) (by rw [HOPS.out]; kernel_rfl) ?_
        intro K' hK
        have HK := Lib.hid hK
        clear hK
        go_simp
        refine HK.out _ _ (.inr (HSI.out _ HBS.out)) ?_
        clear HK
        go_simp
        refine wpAnyT_take 9 (.int .i64 (corC rb0 rs0 z0 (p1q0, p1q1, p1q2, p1q3, p1q4, p1q5, p1q6))) (by rw [HOPS.out]; rfl) (by rw [HOPS.out]; kernel_rfl) (by exact fun _ _ _ h => h) (by rfl) (fun w1 hS => by go_simp) (HSI.out _ HBS.out) ?_
        go_simp
        refine wpAnyT_done (by rw [HOPS.out]; kernel_rfl) ?_ _
        go_wp2_with fail
        go_meet
        exact ⟨we0.heap.size, AS3, nS3, cS3, wb.heap.size, we1.heap.size, rfl, rfl, HXS.out, own_base HOS.out (by omega), hnS3, vS3, by omega, Nat.le_trans (show we1.heap.size ≤ we1.heap.size by omega) HZS.out, by omega, hgP, Nat.lt_of_lt_of_le hgL HZS.out, HBS.out⟩
    · skip
      intro K' hK
      have HK := Lib.hid hK
      clear hK
      go_simp
      refine HK.out _ _ (.inr (HSI.out _ (HBwd.out.alloc HBwd.out.size _))) ?_
      clear HK
      obtain ⟨wb, hw_wb, XG, hbwb, hs_wb⟩ := one_box wd #[.int .i64 0, .int .i64 0, .slice none 0 0] 51
      rw [← hw_wb]
      clear hw_wb
      have HBwb := Lib.hid (HBwd.out.trans (hbwb.mono HBwd.out.size))
      go_simp
      refine wpAnyT_one 2 (by rw [HOPS.out]; rfl) (by rw [HOPS.out]; kernel_rfl) ?_
      intro K' hK
      have HK := Lib.hid hK
      clear hK
      go_simp
      go_at_call 43
      refine (toEntry_any _ _ _ _ _ _ _ _).mono ?_
      rintro e we0 ⟨rfl, hbwe0⟩
      have HBwe0 := Lib.hid (HBwb.out.trans (hbwe0.mono HBwb.out.size))
      have hzwe0 := hbwe0.size
      replace XG := XG.below hbwe0
      refine HK.out _ _ (.inr (HSI.out _ HBwe0.out)) ?_
      clear HK
      go_simp
      refine wpAnyT_one 3 (by rw [HOPS.out]; rfl) (by rw [HOPS.out]; kernel_rfl) ?_
      intro K' hK
      have HK := Lib.hid hK
      clear hK
      go_simp
      (first | go_at_call 48 | go_at_call 49)
      refine (implCorrectEntry_any _ _ _ _ _ _ _ _ _ _ _ _ _ _ ⟨own_rd (own_below oS2 HBwe0.out), own_capE oS2⟩).mono ?_
      rintro e we1 ⟨AS3, nS3, cS3, rfl, oS3, hnS3, hbwe1⟩
      have vS3 := oS3.lt
      have HBwe1 := Lib.hid (HBwe0.out.trans (hbwe1.mono HBwe0.out.size))
      have hzwe1 := hbwe1.size
      replace XG := XG.below hbwe1
      refine HK.out _ _ (.inr (HSI.out _ HBwe1.out)) ?_
      clear HK
      go_simp
      refine wpAnyT_take 4 (.tuple #[.agg #[.int .i64 (corB rb0 rs0 z0 (p1q0, p1q1, p1q2, p1q3, p1q4, p1q5, p1q6)), .int .i64 (corS rb0 rs0 z0 (p1q0, p1q1, p1q2, p1q3, p1q4, p1q5, p1q6)), .slice AS3 nS3 cS3], .int .i64 (corC rb0 rs0 z0 (p1q0, p1q1, p1q2, p1q3, p1q4, p1q5, p1q6))]) (by rw [HOPS.out]; rfl) (by rw [HOPS.out]; kernel_rfl) (by exact fun _ _ _ h => h) (by rfl) (fun w1 hS => by go_simp) (HSI.out _ HBwe1.out) ?_
      go_simp
      refine wpAnyT_take 5 (.agg #[.int .i64 (corB rb0 rs0 z0 (p1q0, p1q1, p1q2, p1q3, p1q4, p1q5, p1q6)), .int .i64 (corS rb0 rs0 z0 (p1q0, p1q1, p1q2, p1q3, p1q4, p1q5, p1q6)), .slice AS3 nS3 cS3]) (by rw [HOPS.out]; rfl) (by rw [HOPS.out]; kernel_rfl) (by exact fun _ _ _ h => h) (by rfl) (fun w1 hS => by go_simp) (HSI.out _ HBwe1.out) ?_
      go_simp
      refine wpAnyT_take 6 (.int .i64 (corC rb0 rs0 z0 (p1q0, p1q1, p1q2, p1q3, p1q4, p1q5, p1q6))) (by rw [HOPS.out]; rfl) (by rw [HOPS.out]; kernel_rfl) (by exact fun _ _ _ h => h) (by rfl) (fun w1 hS => by go_simp) (HSI.out _ HBwe1.out) ?_
      go_simp
      have hgP : w5.heap.size ≤ wd.heap.size := by omega
      have hch := put_chg (g := wd.heap.size) [.int .i64 (corB rb0 rs0 z0 (p1q0, p1q1, p1q2, p1q3, p1q4, p1q5, p1q6)), .int .i64 (corS rb0 rs0 z0 (p1q0, p1q1, p1q2, p1q3, p1q4, p1q5, p1q6)), .slice AS3 nS3 cS3] 0 (Chg.refl wd.heap.size (wd.heap.size + 1) we1) (by omega) (by omega)
      have HBS := Lib.hid (below_chg HBwe1.out hch (by omega) (by omega))
      have HOS := Lib.hid (own_chg oS3 hch (fun b hb => by have := vS3 b hb; omega))
      have HXS := Lib.hid (((XG.set 0 (.int .i64 (corB rb0 rs0 z0 (p1q0, p1q1, p1q2, p1q3, p1q4, p1q5, p1q6)))).set 1 (.int .i64 (corS rb0 rs0 z0 (p1q0, p1q1, p1q2, p1q3, p1q4, p1q5, p1q6)))).set 2 (.slice AS3 nS3 cS3))
      have HZS := Lib.hid hch.size
      have FG := XG.f3
      have hgL := XG.lt
      clear hch
      refine wpAnyT_one 8 (by rw [HOPS.out]; rfl) (by rw [HOPS.out]; kernel_rfl) ?_
      intro K' hK
      have HK := Lib.hid hK
      clear hK
      go_simp
      refine HK.out _ _ (.inr (HSI.out _ HBS.out)) ?_
      clear HK
      go_simp
      refine wpAnyT_take 9 (.int .i64 (corC rb0 rs0 z0 (p1q0, p1q1, p1q2, p1q3, p1q4, p1q5, p1q6))) (by rw [HOPS.out]; rfl) (by rw [HOPS.out]; kernel_rfl) (by exact fun _ _ _ h => h) (by rfl) (fun w1 hS => by go_simp) (HSI.out _ HBS.out) ?_
      go_simp
      refine wpAnyT_done (by rw [HOPS.out]; kernel_rfl) ?_ _
      go_wp2_with fail
      go_meet
      exact ⟨wd.heap.size, AS3, nS3, cS3, we0.heap.size, we1.heap.size, rfl, rfl, HXS.out, own_base HOS.out (by omega), hnS3, vS3, by omega, Nat.le_trans (show we1.heap.size ≤ we1.heap.size by omega) HZS.out, by omega, hgP, Nat.lt_of_lt_of_le hgL HZS.out, HBS.out⟩
  obtain ⟨gS3, AS3, nS3, cS3, loS3, hiS3, rfl, rfl, Xg0, oS3, hnS3, vS3, hloS3, hhiS3, hsepS3, hgPS3, hgLS3, hb6⟩ := hcut
  obtain ⟨w6, hww6⟩ : ∃ wz : World, wz = wc := ⟨_, rfl⟩
  subst hww6
  clear HSE HSI
  have BB6 : Below w.heap.size w w6 := BB5.trans (hb6.mono BB5.size)
  have s6 := hb6.size
  replace oS1 := own_below oS1 hb6
  replace oS2 := own_below oS2 hb6
  replace XaR := XaR.below hb6
  replace XaX := XaX.below hb6
  replace Xw0 := Xw0.below hb6
  replace Xx0 := Xx0.below hb6
  have Fw00 := Xw0.cell (i := 0) rfl
  have Fw01 := Xw0.cell (i := 1) rfl
  have Fw02 := Xw0.cell (i := 2) rfl
  have Fg00 := Xg0.cell (i := 0) rfl
  have Fg01 := Xg0.cell (i := 1) rfl
  have Fg02 := Xg0.cell (i := 2) rfl
  go_wp2_with fail
  refine (eqRegister_any _ _ _ _ _ _ _ _ _ _ (own_rd oS3) (own_rd oS1)).mono ?_
  rintro e w7 ⟨rfl, hb7⟩
  clear Fw00 Fw01 Fw02 Fg00 Fg01 Fg02
  have BB7 : Below w.heap.size w w7 := BB6.trans (hb7.mono BB6.size)
  have s7 := hb7.size
  replace oS1 := own_below oS1 hb7
  replace oS2 := own_below oS2 hb7
  replace oS3 := own_below oS3 hb7
  replace XaR := XaR.below hb7
  replace XaX := XaX.below hb7
  replace Xw0 := Xw0.below hb7
  replace Xx0 := Xx0.below hb7
  replace Xg0 := Xg0.below hb7
  go_wp2_with fail
  have HSR := Lib.hid (show ∀ w1, Below w7.heap.size w7 w1 → (w1.cell? ⟨w4.heap.size, 0, none⟩ = some (.int .i64 rb0) ∧ w1.cell? ⟨w4.heap.size, 1, none⟩ = some (.int .i64 rs0) ∧ w1.cell? ⟨w4.heap.size, 2, none⟩ = some (.slice AS2 nS2 cS2) ∧ w1.cell? ⟨w.heap.size, 0, none⟩ = some (.int .i64 rb0) ∧ w1.cell? ⟨w.heap.size, 1, none⟩ = some (.int .i64 rs0) ∧ w1.cell? ⟨w.heap.size, 2, none⟩ = some (.slice a0 len0 cap0) ∧ Below w7.heap.size w7 w1) from fun w1 hb => ⟨(Xx0.below hb).cell (i := 0) rfl, (Xx0.below hb).cell (i := 1) rfl, (Xx0.below hb).cell (i := 2) rfl, (XaR.below hb).cell (i := 0) rfl, (XaR.below hb).cell (i := 1) rfl, (XaR.below hb).cell (i := 2) rfl, hb⟩)
  go_region_held3 (fun w1 => w1.cell? ⟨w4.heap.size, 0, none⟩ = some (.int .i64 rb0) ∧ w1.cell? ⟨w4.heap.size, 1, none⟩ = some (.int .i64 rs0) ∧ w1.cell? ⟨w4.heap.size, 2, none⟩ = some (.slice AS2 nS2 cS2) ∧ w1.cell? ⟨w.heap.size, 0, none⟩ = some (.int .i64 rb0) ∧ w1.cell? ⟨w.heap.size, 1, none⟩ = some (.int .i64 rs0) ∧ w1.cell? ⟨w.heap.size, 2, none⟩ = some (.slice a0 len0 cap0) ∧ Below w7.heap.size w7 w1) (first | exact HSR.out _ hb8 | exact HSR.out _ HBq | exact HSR.out _ ((Drawn.refl _).step 1).below | exact HSR.out _ (Drawn.refl _).below) (first | (go_at_call 31; have hq := (‹_ ∧ _ ∧ _ ∧ _ ∧ _ ∧ _ ∧ Below w7.heap.size w7 _›).2.2.2.2.2.2; refine (toRegister_any _ _ _ _ _ _ _ (hr0.below (BB7.trans (hq.mono BB7.size))) hlen0).mono ?_; rintro e wq ⟨AS4, nS4, cS4, rfl, oS4, hnS4, hbq⟩; have HBq := hq.trans (hbq.mono hq.size)) | (go_at_call 33; have hq := (‹_ ∧ _ ∧ _ ∧ _ ∧ _ ∧ _ ∧ Below w7.heap.size w7 _›).2.2.2.2.2.2; refine (eqRegister_any _ _ _ _ _ _ _ _ _ _ (own_rd (own_below oS2 hq)) (own_rd oS4)).mono ?_; rintro e w8 ⟨rfl, hbr⟩; have hb8 := hq.trans (hbr.mono hq.size)))
  have BB8 : Below w.heap.size w w8 := BB7.trans (hb8.mono BB7.size)
  have s8 := hb8.size
  replace oS1 := own_below oS1 hb8
  replace oS2 := own_below oS2 hb8
  replace oS3 := own_below oS3 hb8
  replace XaR := XaR.below hb8
  replace XaX := XaX.below hb8
  replace Xw0 := Xw0.below hb8
  replace Xx0 := Xx0.below hb8
  replace Xg0 := Xg0.below hb8
  have Fx00 := Xx0.cell (i := 0) rfl
  have Fx01 := Xx0.cell (i := 1) rfl
  have Fx02 := Xx0.cell (i := 2) rfl
  go_wp2_with fail
  refine (markRegister_any _ w3.heap.size w4.heap.size _ _ _ _ _ _ _ _ _ oS2 vS2 (by omega) (by omega) (by omega)).mono ?_
  clear oS2
  rintro e w9 ⟨rfl, oS2, hc9⟩
  clear Fx00 Fx01 Fx02
  have BB9 : Below w.heap.size w w9 := below_chg BB8 hc9 (by omega) (by omega)
  have s9 := hc9.size
  replace oS1 := own_chg oS1 hc9 (fun b hb => by have := vS1 b hb; omega)
  replace oS3 := own_chg oS3 hc9 (fun b hb => by have := vS3 b hb; omega)
  replace XaR := XaR.chg hc9 (by omega)
  replace XaX := XaX.chg hc9 (by omega)
  replace Xw0 := Xw0.chg hc9 (by omega)
  replace Xx0 := Xx0.chg hc9 (by omega)
  replace Xg0 := Xg0.chg hc9 (by omega)
  have Fw00 := Xw0.cell (i := 0) rfl
  have Fw01 := Xw0.cell (i := 1) rfl
  have Fw02 := Xw0.cell (i := 2) rfl
  have Fg00 := Xg0.cell (i := 0) rfl
  have Fg01 := Xg0.cell (i := 1) rfl
  have Fg02 := Xg0.cell (i := 2) rfl
  go_wp2_with fail
  refine (eqRegister_any _ _ _ _ _ _ _ _ _ _ (own_rd oS3) (own_rd oS1)).mono ?_
  rintro e w10 ⟨rfl, hb10⟩
  clear Fw00 Fw01 Fw02 Fg00 Fg01 Fg02
  have BB10 : Below w.heap.size w w10 := BB9.trans (hb10.mono BB9.size)
  have s10 := hb10.size
  replace oS1 := own_below oS1 hb10
  replace oS2 := own_below oS2 hb10
  replace oS3 := own_below oS3 hb10
  replace XaR := XaR.below hb10
  replace XaX := XaX.below hb10
  replace Xw0 := Xw0.below hb10
  replace Xx0 := Xx0.below hb10
  replace Xg0 := Xg0.below hb10
  have Fg00 := Xg0.cell (i := 0) rfl
  have Fg01 := Xg0.cell (i := 1) rfl
  have Fg02 := Xg0.cell (i := 2) rfl
  go_wp2_with fail
  refine (markRegister_any _ loS3 hiS3 _ _ _ _ _ _ _ _ _ oS3 vS3 (by omega) (by omega) (by omega)).mono ?_
  clear oS3
  rintro e w11 ⟨rfl, oS3, hc11⟩
  clear Fg00 Fg01 Fg02
  have BB11 : Below w.heap.size w w11 := below_chg BB10 hc11 (by omega) (by omega)
  have s11 := hc11.size
  replace oS1 := own_chg oS1 hc11 (fun b hb => by have := vS1 b hb; omega)
  replace oS2 := own_chg oS2 hc11 (fun b hb => by have := vS2 b hb; omega)
  replace XaR := XaR.chg hc11 (by omega)
  replace XaX := XaX.chg hc11 (by omega)
  replace Xw0 := Xw0.chg hc11 (by omega)
  replace Xx0 := Xx0.chg hc11 (by omega)
  replace Xg0 := Xg0.chg hc11 (by omega)
  have Fg00 := Xg0.cell (i := 0) rfl
  have Fg01 := Xg0.cell (i := 1) rfl
  have Fg02 := Xg0.cell (i := 2) rfl
  go_wp2_with fail
  refine (heldRegister_any _ _ _ _ _ _ _ (own_rd oS3) (by omega) (by omega) (by omega)).mono ?_
  rintro e w12 ⟨rfl, hb12⟩
  clear Fg00 Fg01 Fg02
  have BB12 : Below w.heap.size w w12 := BB11.trans (hb12.mono BB11.size)
  have s12 := hb12.size
  replace oS1 := own_below oS1 hb12
  replace oS2 := own_below oS2 hb12
  replace oS3 := own_below oS3 hb12
  replace XaR := XaR.below hb12
  replace XaX := XaX.below hb12
  replace Xw0 := Xw0.below hb12
  replace Xx0 := Xx0.below hb12
  replace Xg0 := Xg0.below hb12
  go_wp2_with fail
  obtain ⟨S, hSE, hSI⟩ : ∃ S : World → Prop, (∀ w1, S w1 → (w1.cell? ⟨w.heap.size, 0, none⟩ = some (.int .i64 rb0) ∧ w1.cell? ⟨w.heap.size, 1, none⟩ = some (.int .i64 rs0) ∧ w1.cell? ⟨w.heap.size, 2, none⟩ = some (.slice a0 len0 cap0) ∧ w1.cell? ⟨w.heap.size + 1, 0, none⟩ = some (.int .i64 p1q0) ∧ w1.cell? ⟨w.heap.size + 1, 1, none⟩ = some (.int .i64 p1q1) ∧ w1.cell? ⟨w.heap.size + 1, 2, none⟩ = some (.int .i64 p1q2) ∧ w1.cell? ⟨w.heap.size + 1, 3, none⟩ = some (.int .i64 p1q3) ∧ w1.cell? ⟨w.heap.size + 1, 4, none⟩ = some (.int .i64 p1q4) ∧ w1.cell? ⟨w.heap.size + 1, 5, none⟩ = some (.int .i64 p1q5) ∧ w1.cell? ⟨w.heap.size + 1, 6, none⟩ = some (.int .i64 p1q6))) ∧ (∀ wz9, Below w12.heap.size w12 wz9 → S wz9) :=
    ⟨fun w1 => w1.cell? ⟨w.heap.size, 0, none⟩ = some (.int .i64 rb0) ∧ w1.cell? ⟨w.heap.size, 1, none⟩ = some (.int .i64 rs0) ∧ w1.cell? ⟨w.heap.size, 2, none⟩ = some (.slice a0 len0 cap0) ∧ w1.cell? ⟨w.heap.size + 1, 0, none⟩ = some (.int .i64 p1q0) ∧ w1.cell? ⟨w.heap.size + 1, 1, none⟩ = some (.int .i64 p1q1) ∧ w1.cell? ⟨w.heap.size + 1, 2, none⟩ = some (.int .i64 p1q2) ∧ w1.cell? ⟨w.heap.size + 1, 3, none⟩ = some (.int .i64 p1q3) ∧ w1.cell? ⟨w.heap.size + 1, 4, none⟩ = some (.int .i64 p1q4) ∧ w1.cell? ⟨w.heap.size + 1, 5, none⟩ = some (.int .i64 p1q5) ∧ w1.cell? ⟨w.heap.size + 1, 6, none⟩ = some (.int .i64 p1q6), fun _ h => h, fun wz9 hb => ⟨(XaR.below hb).cell rfl, (XaR.below hb).cell rfl, (XaR.below hb).cell rfl, (XaX.below hb).cell rfl, (XaX.below hb).cell rfl, (XaX.below hb).cell rfl, (XaX.below hb).cell rfl, (XaX.below hb).cell rfl, (XaX.below hb).cell rfl, (XaX.below hb).cell rfl⟩⟩
  have HSE := Lib.hid hSE; have HSI := Lib.hid hSI
  clear hSE hSI
  go_cut [14, 15] (fun p c wx => ∃ (g : Nat) (A : Option Addr) (n c' lo hi : Nat), p = .pointer (some ⟨g, 0, none⟩) ∧ c = .int .i64 (corC rb0 rs0 z0 (p1q0, p1q1, p1q2, p1q3, p1q4, p1q5, p1q6)) ∧ Box wx g #[.int .i64 (corB rb0 rs0 z0 (p1q0, p1q1, p1q2, p1q3, p1q4, p1q5, p1q6)), .int .i64 (corS rb0 rs0 z0 (p1q0, p1q1, p1q2, p1q3, p1q4, p1q5, p1q6)), .slice A n c'] 51 ∧ wx.ownsRow w12.heap.size 66 7 (.slice A n c') n (ents (corL rb0 rs0 z0 (p1q0, p1q1, p1q2, p1q3, p1q4, p1q5, p1q6))) ∧ n ≤ 1048576 ∧ (∀ b, (Value.slice A n c').ownBlock = some b → lo ≤ b ∧ b < hi) ∧ w12.heap.size ≤ lo ∧ hi ≤ wx.heap.size ∧ (g < lo ∨ hi ≤ g) ∧ w12.heap.size ≤ g ∧ g < wx.heap.size ∧ Below w12.heap.size w12 wx)
  case first =>
    refine wp_region_T2 (n := 11) S (fun _ => false) (by kernel_rfl) rfl ?_
    intro ops HOPS
    have hS := HSI.out _ (below_drewN' _ w12 1)
    refine wpAnyT_take 0 (.agg #[.int .i64 rb0, .int .i64 rs0, .slice a0 len0 cap0]) (by rw [HOPS.out]; rfl) (by rw [HOPS.out]; kernel_rfl) (by exact fun _ _ _ h => h) (by rfl) (fun w1 hS => by obtain ⟨q0, q1, q2, q3, q4, q5, q6, q7, q8, q9⟩ := HSE.out _ hS; go_simp) hS ?_
    go_simp
    refine wpAnyT_take 2 (.agg #[.int .i64 p1q0, .int .i64 p1q1, .int .i64 p1q2, .int .i64 p1q3, .int .i64 p1q4, .int .i64 p1q5, .int .i64 p1q6]) (by rw [HOPS.out]; rfl) (by rw [HOPS.out]; kernel_rfl) (by exact fun _ _ _ h => h) (by rfl) (fun w1 hS => by obtain ⟨q0, q1, q2, q3, q4, q5, q6, q7, q8, q9⟩ := HSE.out _ hS; go_simp) hS ?_
    go_simp
    replace hS : S w12.drew := hS
    obtain ⟨wd, hwd⟩ : ∃ wd : World, wd = w12.drew := ⟨_, rfl⟩
    have HBwd := Lib.hid (show Below w12.heap.size w12 wd from by rw [hwd]; exact below_drewN' _ w12 1)
    have hsd : w12.heap.size ≤ wd.heap.size := HBwd.out.size
    rw [← hwd] at hS ⊢
    clear hwd
    refine wpAnyT_two 1 8 (by rw [HOPS.out]; rfl) (by rw [HOPS.out]; rfl) (by rw [HOPS.out]; kernel_rfl) ?_ ?_
    · skip
      intro K' hK
      have HK := Lib.hid hK
      clear hK
      go_simp
      go_at_call 31
      refine (toRegister_any _ _ _ _ _ _ _ (hr0.below (BB12.trans (HBwd.out.mono BB12.size))) hlen0).mono ?_
      rintro e we0 ⟨AT, nT, cT, rfl, oT, hnT, hbwe0⟩
      have HBwe0 := Lib.hid (HBwd.out.trans (hbwe0.mono HBwd.out.size))
      have hzwe0 := hbwe0.size
      refine HK.out _ _ (.inr (HSI.out _ HBwe0.out)) ?_
      clear HK
      go_simp
      refine wpAnyT_two 3 8 (by rw [HOPS.out]; rfl) (by rw [HOPS.out]; rfl) (by rw [HOPS.out]; kernel_rfl) ?_ ?_
      · skip
        intro K' hK
        have HK := Lib.hid hK
        clear hK
        go_simp
        go_at_call 43
        refine (toEntry_any _ _ _ _ _ _ _ _).mono ?_
        rintro e we1 ⟨rfl, hbwe1⟩
        replace oT := own_below oT hbwe1
        have HBwe1 := Lib.hid (HBwe0.out.trans (hbwe1.mono HBwe0.out.size))
        have hzwe1 := hbwe1.size
        refine HK.out _ _ (.inr (HSI.out _ HBwe1.out)) ?_
        clear HK
        go_simp
        refine wpAnyT_two 4 8 (by rw [HOPS.out]; rfl) (by rw [HOPS.out]; rfl) (by rw [HOPS.out]; kernel_rfl) ?_ ?_
        · skip
          intro K' hK
          have HK := Lib.hid hK
          clear hK
          go_simp
          (first | go_at_call 48 | go_at_call 49)
          refine (implCorrectEntry_any _ _ _ _ _ _ _ _ _ _ _ _ _ _ ⟨own_rd oT, own_capE oT⟩).mono ?_
          rintro e we2 ⟨AS5, nS5, cS5, rfl, oS5, hnS5, hbwe2⟩
          have vS5 := oS5.lt
          have HBwe2 := Lib.hid (HBwe1.out.trans (hbwe2.mono HBwe1.out.size))
          have hzwe2 := hbwe2.size
          refine HK.out _ _ (.inr (HSI.out _ HBwe2.out)) ?_
          clear HK
          go_simp
          refine wpAnyT_take 5 (.tuple #[.agg #[.int .i64 (corB rb0 rs0 z0 (p1q0, p1q1, p1q2, p1q3, p1q4, p1q5, p1q6)), .int .i64 (corS rb0 rs0 z0 (p1q0, p1q1, p1q2, p1q3, p1q4, p1q5, p1q6)), .slice AS5 nS5 cS5], .int .i64 (corC rb0 rs0 z0 (p1q0, p1q1, p1q2, p1q3, p1q4, p1q5, p1q6))]) (by rw [HOPS.out]; rfl) (by rw [HOPS.out]; kernel_rfl) (by exact fun _ _ _ h => h) (by rfl) (fun w1 hS => by go_simp) (HSI.out _ HBwe2.out) ?_
          go_simp
          refine wpAnyT_take 6 (.agg #[.int .i64 (corB rb0 rs0 z0 (p1q0, p1q1, p1q2, p1q3, p1q4, p1q5, p1q6)), .int .i64 (corS rb0 rs0 z0 (p1q0, p1q1, p1q2, p1q3, p1q4, p1q5, p1q6)), .slice AS5 nS5 cS5]) (by rw [HOPS.out]; rfl) (by rw [HOPS.out]; kernel_rfl) (by exact fun _ _ _ h => h) (by rfl) (fun w1 hS => by go_simp) (HSI.out _ HBwe2.out) ?_
          go_simp
          refine wpAnyT_take 7 (.int .i64 (corC rb0 rs0 z0 (p1q0, p1q1, p1q2, p1q3, p1q4, p1q5, p1q6))) (by rw [HOPS.out]; rfl) (by rw [HOPS.out]; kernel_rfl) (by exact fun _ _ _ h => h) (by rfl) (fun w1 hS => by go_simp) (HSI.out _ HBwe2.out) ?_
          go_simp
          refine wpAnyT_one 8 (by rw [HOPS.out]; rfl) (by rw [HOPS.out]; kernel_rfl) ?_
          intro K' hK
          have HK := Lib.hid hK
          clear hK
          go_simp
          refine HK.out _ _ (.inr (HSI.out _ (HBwe2.out.alloc HBwe2.out.size _))) ?_
          clear HK
          obtain ⟨wg, hw_wg, XG, hbwg, hs_wg⟩ := one_box we2 #[.int .i64 0, .int .i64 0, .slice none 0 0] 51
          rw [← hw_wg]
          clear hw_wg
          have HBwg := Lib.hid (HBwe2.out.trans (hbwg.mono HBwe2.out.size))
          replace oS5 := own_below oS5 hbwg
          go_simp
          have hgP : w12.heap.size ≤ we2.heap.size := by omega
          have hch := put_chg (g := we2.heap.size) [.int .i64 (corB rb0 rs0 z0 (p1q0, p1q1, p1q2, p1q3, p1q4, p1q5, p1q6)), .int .i64 (corS rb0 rs0 z0 (p1q0, p1q1, p1q2, p1q3, p1q4, p1q5, p1q6)), .slice AS5 nS5 cS5] 0 (Chg.refl we2.heap.size (we2.heap.size + 1) wg) (by omega) (by omega)
          have HBS := Lib.hid (below_chg HBwg.out hch (by omega) (by omega))
          have HOS := Lib.hid (own_chg oS5 hch (fun b hb => by have := vS5 b hb; omega))
          have HXS := Lib.hid (((XG.set 0 (.int .i64 (corB rb0 rs0 z0 (p1q0, p1q1, p1q2, p1q3, p1q4, p1q5, p1q6)))).set 1 (.int .i64 (corS rb0 rs0 z0 (p1q0, p1q1, p1q2, p1q3, p1q4, p1q5, p1q6)))).set 2 (.slice AS5 nS5 cS5))
          have HZS := Lib.hid hch.size
          have FG := XG.f3
          have hgL := XG.lt
          clear hch
          refine wpAnyT_one 9 (by rw [HOPS.out]; rfl) (by rw [HOPS.out]; kernel_rfl) ?_
          intro K' hK
          have HK := Lib.hid hK
          clear hK
          go_simp
          refine HK.out _ _ (.inr (HSI.out _ HBS.out)) ?_
          clear HK
          go_simp
          refine wpAnyT_take 10 (.int .i64 (corC rb0 rs0 z0 (p1q0, p1q1, p1q2, p1q3, p1q4, p1q5, p1q6))) (by rw [HOPS.out]; rfl) (by rw [HOPS.out]; kernel_rfl) (by exact fun _ _ _ h => h) (by rfl) (fun w1 hS => by go_simp) (HSI.out _ HBS.out) ?_
          go_simp
          refine wpAnyT_done (by rw [HOPS.out]; kernel_rfl) ?_ _
          go_wp2_with fail
          go_meet
          exact ⟨we2.heap.size, AS5, nS5, cS5, we1.heap.size, we2.heap.size, rfl, rfl, HXS.out, own_base HOS.out (by omega), hnS5, vS5, by omega, Nat.le_trans (show we2.heap.size ≤ wg.heap.size by omega) HZS.out, by omega, hgP, Nat.lt_of_lt_of_le hgL HZS.out, HBS.out⟩
        · skip
          intro K' hK
          have HK := Lib.hid hK
          clear hK
          go_simp
          refine HK.out _ _ (.inr (HSI.out _ (HBwe1.out.alloc HBwe1.out.size _))) ?_
          clear HK
          obtain ⟨wb, hw_wb, XG, hbwb, hs_wb⟩ := one_box we1 #[.int .i64 0, .int .i64 0, .slice none 0 0] 51
          rw [← hw_wb]
          clear hw_wb
          have HBwb := Lib.hid (HBwe1.out.trans (hbwb.mono HBwe1.out.size))
          replace oT := own_below oT hbwb
          go_simp
          refine wpAnyT_one 4 (by rw [HOPS.out]; rfl) (by rw [HOPS.out]; kernel_rfl) ?_
          intro K' hK
          have HK := Lib.hid hK
          clear hK
          go_simp
          (first | go_at_call 48 | go_at_call 49)
          refine (implCorrectEntry_any _ _ _ _ _ _ _ _ _ _ _ _ _ _ ⟨own_rd oT, own_capE oT⟩).mono ?_
          rintro e we2 ⟨AS5, nS5, cS5, rfl, oS5, hnS5, hbwe2⟩
          have vS5 := oS5.lt
          have HBwe2 := Lib.hid (HBwb.out.trans (hbwe2.mono HBwb.out.size))
          have hzwe2 := hbwe2.size
          replace XG := XG.below hbwe2
          refine HK.out _ _ (.inr (HSI.out _ HBwe2.out)) ?_
          clear HK
          go_simp
          refine wpAnyT_take 5 (.tuple #[.agg #[.int .i64 (corB rb0 rs0 z0 (p1q0, p1q1, p1q2, p1q3, p1q4, p1q5, p1q6)), .int .i64 (corS rb0 rs0 z0 (p1q0, p1q1, p1q2, p1q3, p1q4, p1q5, p1q6)), .slice AS5 nS5 cS5], .int .i64 (corC rb0 rs0 z0 (p1q0, p1q1, p1q2, p1q3, p1q4, p1q5, p1q6))]) (by rw [HOPS.out]; rfl) (by rw [HOPS.out]; kernel_rfl) (by exact fun _ _ _ h => h) (by rfl) (fun w1 hS => by go_simp) (HSI.out _ HBwe2.out) ?_
          go_simp
          refine wpAnyT_take 6 (.agg #[.int .i64 (corB rb0 rs0 z0 (p1q0, p1q1, p1q2, p1q3, p1q4, p1q5, p1q6)), .int .i64 (corS rb0 rs0 z0 (p1q0, p1q1, p1q2, p1q3, p1q4, p1q5, p1q6)), .slice AS5 nS5 cS5]) (by rw [HOPS.out]; rfl) (by rw [HOPS.out]; kernel_rfl) (by exact fun _ _ _ h => h) (by rfl) (fun w1 hS => by go_simp) (HSI.out _ HBwe2.out) ?_
          go_simp
          refine wpAnyT_take 7 (.int .i64 (corC rb0 rs0 z0 (p1q0, p1q1, p1q2, p1q3, p1q4, p1q5, p1q6))) (by rw [HOPS.out]; rfl) (by rw [HOPS.out]; kernel_rfl) (by exact fun _ _ _ h => h) (by rfl) (fun w1 hS => by go_simp) (HSI.out _ HBwe2.out) ?_
          go_simp
          have hgP : w12.heap.size ≤ we1.heap.size := by omega
          have hch := put_chg (g := we1.heap.size) [.int .i64 (corB rb0 rs0 z0 (p1q0, p1q1, p1q2, p1q3, p1q4, p1q5, p1q6)), .int .i64 (corS rb0 rs0 z0 (p1q0, p1q1, p1q2, p1q3, p1q4, p1q5, p1q6)), .slice AS5 nS5 cS5] 0 (Chg.refl we1.heap.size (we1.heap.size + 1) we2) (by omega) (by omega)
          have HBS := Lib.hid (below_chg HBwe2.out hch (by omega) (by omega))
          have HOS := Lib.hid (own_chg oS5 hch (fun b hb => by have := vS5 b hb; omega))
          have HXS := Lib.hid (((XG.set 0 (.int .i64 (corB rb0 rs0 z0 (p1q0, p1q1, p1q2, p1q3, p1q4, p1q5, p1q6)))).set 1 (.int .i64 (corS rb0 rs0 z0 (p1q0, p1q1, p1q2, p1q3, p1q4, p1q5, p1q6)))).set 2 (.slice AS5 nS5 cS5))
          have HZS := Lib.hid hch.size
          have FG := XG.f3
          have hgL := XG.lt
          clear hch
          refine wpAnyT_one 9 (by rw [HOPS.out]; rfl) (by rw [HOPS.out]; kernel_rfl) ?_
          intro K' hK
          have HK := Lib.hid hK
          clear hK
          go_simp
          refine HK.out _ _ (.inr (HSI.out _ HBS.out)) ?_
          clear HK
          go_simp
          refine wpAnyT_take 10 (.int .i64 (corC rb0 rs0 z0 (p1q0, p1q1, p1q2, p1q3, p1q4, p1q5, p1q6))) (by rw [HOPS.out]; rfl) (by rw [HOPS.out]; kernel_rfl) (by exact fun _ _ _ h => h) (by rfl) (fun w1 hS => by go_simp) (HSI.out _ HBS.out) ?_
          go_simp
          refine wpAnyT_done (by rw [HOPS.out]; kernel_rfl) ?_ _
          go_wp2_with fail
          go_meet
          exact ⟨we1.heap.size, AS5, nS5, cS5, wb.heap.size, we2.heap.size, rfl, rfl, HXS.out, own_base HOS.out (by omega), hnS5, vS5, by omega, Nat.le_trans (show we2.heap.size ≤ we2.heap.size by omega) HZS.out, by omega, hgP, Nat.lt_of_lt_of_le hgL HZS.out, HBS.out⟩
      · skip
        intro K' hK
        have HK := Lib.hid hK
        clear hK
        go_simp
        refine HK.out _ _ (.inr (HSI.out _ (HBwe0.out.alloc HBwe0.out.size _))) ?_
        clear HK
        obtain ⟨wb, hw_wb, XG, hbwb, hs_wb⟩ := one_box we0 #[.int .i64 0, .int .i64 0, .slice none 0 0] 51
        rw [← hw_wb]
        clear hw_wb
        have HBwb := Lib.hid (HBwe0.out.trans (hbwb.mono HBwe0.out.size))
        replace oT := own_below oT hbwb
        go_simp
        refine wpAnyT_one 3 (by rw [HOPS.out]; rfl) (by rw [HOPS.out]; kernel_rfl) ?_
        intro K' hK
        have HK := Lib.hid hK
        clear hK
        go_simp
        go_at_call 43
        refine (toEntry_any _ _ _ _ _ _ _ _).mono ?_
        rintro e we1 ⟨rfl, hbwe1⟩
        replace oT := own_below oT hbwe1
        have HBwe1 := Lib.hid (HBwb.out.trans (hbwe1.mono HBwb.out.size))
        have hzwe1 := hbwe1.size
        replace XG := XG.below hbwe1
        refine HK.out _ _ (.inr (HSI.out _ HBwe1.out)) ?_
        clear HK
        go_simp
        refine wpAnyT_one 4 (by rw [HOPS.out]; rfl) (by rw [HOPS.out]; kernel_rfl) ?_
        intro K' hK
        have HK := Lib.hid hK
        clear hK
        go_simp
        (first | go_at_call 48 | go_at_call 49)
        refine (implCorrectEntry_any _ _ _ _ _ _ _ _ _ _ _ _ _ _ ⟨own_rd oT, own_capE oT⟩).mono ?_
        rintro e we2 ⟨AS5, nS5, cS5, rfl, oS5, hnS5, hbwe2⟩
        have vS5 := oS5.lt
        have HBwe2 := Lib.hid (HBwe1.out.trans (hbwe2.mono HBwe1.out.size))
        have hzwe2 := hbwe2.size
        replace XG := XG.below hbwe2
        refine HK.out _ _ (.inr (HSI.out _ HBwe2.out)) ?_
        clear HK
        go_simp
        refine wpAnyT_take 5 (.tuple #[.agg #[.int .i64 (corB rb0 rs0 z0 (p1q0, p1q1, p1q2, p1q3, p1q4, p1q5, p1q6)), .int .i64 (corS rb0 rs0 z0 (p1q0, p1q1, p1q2, p1q3, p1q4, p1q5, p1q6)), .slice AS5 nS5 cS5], .int .i64 (corC rb0 rs0 z0 (p1q0, p1q1, p1q2, p1q3, p1q4, p1q5, p1q6))]) (by rw [HOPS.out]; rfl) (by rw [HOPS.out]; kernel_rfl) (by exact fun _ _ _ h => h) (by rfl) (fun w1 hS => by go_simp) (HSI.out _ HBwe2.out) ?_
        go_simp
        refine wpAnyT_take 6 (.agg #[.int .i64 (corB rb0 rs0 z0 (p1q0, p1q1, p1q2, p1q3, p1q4, p1q5, p1q6)), .int .i64 (corS rb0 rs0 z0 (p1q0, p1q1, p1q2, p1q3, p1q4, p1q5, p1q6)), .slice AS5 nS5 cS5]) (by rw [HOPS.out]; rfl) (by rw [HOPS.out]; kernel_rfl) (by exact fun _ _ _ h => h) (by rfl) (fun w1 hS => by go_simp) (HSI.out _ HBwe2.out) ?_
        go_simp
        refine wpAnyT_take 7 (.int .i64 (corC rb0 rs0 z0 (p1q0, p1q1, p1q2, p1q3, p1q4, p1q5, p1q6))) (by rw [HOPS.out]; rfl) (by rw [HOPS.out]; kernel_rfl) (by exact fun _ _ _ h => h) (by rfl) (fun w1 hS => by go_simp) (HSI.out _ HBwe2.out) ?_
        go_simp
        have hgP : w12.heap.size ≤ we0.heap.size := by omega
        have hch := put_chg (g := we0.heap.size) [.int .i64 (corB rb0 rs0 z0 (p1q0, p1q1, p1q2, p1q3, p1q4, p1q5, p1q6)), .int .i64 (corS rb0 rs0 z0 (p1q0, p1q1, p1q2, p1q3, p1q4, p1q5, p1q6)), .slice AS5 nS5 cS5] 0 (Chg.refl we0.heap.size (we0.heap.size + 1) we2) (by omega) (by omega)
        have HBS := Lib.hid (below_chg HBwe2.out hch (by omega) (by omega))
        have HOS := Lib.hid (own_chg oS5 hch (fun b hb => by have := vS5 b hb; omega))
        have HXS := Lib.hid (((XG.set 0 (.int .i64 (corB rb0 rs0 z0 (p1q0, p1q1, p1q2, p1q3, p1q4, p1q5, p1q6)))).set 1 (.int .i64 (corS rb0 rs0 z0 (p1q0, p1q1, p1q2, p1q3, p1q4, p1q5, p1q6)))).set 2 (.slice AS5 nS5 cS5))
        have HZS := Lib.hid hch.size
        have FG := XG.f3
        have hgL := XG.lt
        clear hch
        refine wpAnyT_one 9 (by rw [HOPS.out]; rfl) (by rw [HOPS.out]; kernel_rfl) ?_
        intro K' hK
        have HK := Lib.hid hK
        clear hK
        go_simp
        refine HK.out _ _ (.inr (HSI.out _ HBS.out)) ?_
        clear HK
        go_simp
        refine wpAnyT_take 10 (.int .i64 (corC rb0 rs0 z0 (p1q0, p1q1, p1q2, p1q3, p1q4, p1q5, p1q6))) (by rw [HOPS.out]; rfl) (by rw [HOPS.out]; kernel_rfl) (by exact fun _ _ _ h => h) (by rfl) (fun w1 hS => by go_simp) (HSI.out _ HBS.out) ?_
        go_simp
        refine wpAnyT_done (by rw [HOPS.out]; kernel_rfl) ?_ _
        go_wp2_with fail
        go_meet
        exact ⟨we0.heap.size, AS5, nS5, cS5, we1.heap.size, we2.heap.size, rfl, rfl, HXS.out, own_base HOS.out (by omega), hnS5, vS5, by omega, Nat.le_trans (show we2.heap.size ≤ we2.heap.size by omega) HZS.out, by omega, hgP, Nat.lt_of_lt_of_le hgL HZS.out, HBS.out⟩
    · skip
      intro K' hK
      have HK := Lib.hid hK
      clear hK
      go_simp
      refine HK.out _ _ (.inr (HSI.out _ (HBwd.out.alloc HBwd.out.size _))) ?_
      clear HK
      obtain ⟨wb, hw_wb, XG, hbwb, hs_wb⟩ := one_box wd #[.int .i64 0, .int .i64 0, .slice none 0 0] 51
      rw [← hw_wb]
      clear hw_wb
      have HBwb := Lib.hid (HBwd.out.trans (hbwb.mono HBwd.out.size))
      go_simp
      refine wpAnyT_one 1 (by rw [HOPS.out]; rfl) (by rw [HOPS.out]; kernel_rfl) ?_
      intro K' hK
      have HK := Lib.hid hK
      clear hK
      go_simp
      go_at_call 31
      refine (toRegister_any _ _ _ _ _ _ _ (hr0.below (BB12.trans (HBwb.out.mono BB12.size))) hlen0).mono ?_
      rintro e we0 ⟨AT, nT, cT, rfl, oT, hnT, hbwe0⟩
      have HBwe0 := Lib.hid (HBwb.out.trans (hbwe0.mono HBwb.out.size))
      have hzwe0 := hbwe0.size
      replace XG := XG.below hbwe0
      refine HK.out _ _ (.inr (HSI.out _ HBwe0.out)) ?_
      clear HK
      go_simp
      refine wpAnyT_one 3 (by rw [HOPS.out]; rfl) (by rw [HOPS.out]; kernel_rfl) ?_
      intro K' hK
      have HK := Lib.hid hK
      clear hK
      go_simp
      go_at_call 43
      refine (toEntry_any _ _ _ _ _ _ _ _).mono ?_
      rintro e we1 ⟨rfl, hbwe1⟩
      replace oT := own_below oT hbwe1
      have HBwe1 := Lib.hid (HBwe0.out.trans (hbwe1.mono HBwe0.out.size))
      have hzwe1 := hbwe1.size
      replace XG := XG.below hbwe1
      refine HK.out _ _ (.inr (HSI.out _ HBwe1.out)) ?_
      clear HK
      go_simp
      refine wpAnyT_one 4 (by rw [HOPS.out]; rfl) (by rw [HOPS.out]; kernel_rfl) ?_
      intro K' hK
      have HK := Lib.hid hK
      clear hK
      go_simp
      (first | go_at_call 48 | go_at_call 49)
      refine (implCorrectEntry_any _ _ _ _ _ _ _ _ _ _ _ _ _ _ ⟨own_rd oT, own_capE oT⟩).mono ?_
      rintro e we2 ⟨AS5, nS5, cS5, rfl, oS5, hnS5, hbwe2⟩
      have vS5 := oS5.lt
      have HBwe2 := Lib.hid (HBwe1.out.trans (hbwe2.mono HBwe1.out.size))
      have hzwe2 := hbwe2.size
      replace XG := XG.below hbwe2
      refine HK.out _ _ (.inr (HSI.out _ HBwe2.out)) ?_
      clear HK
      go_simp
      refine wpAnyT_take 5 (.tuple #[.agg #[.int .i64 (corB rb0 rs0 z0 (p1q0, p1q1, p1q2, p1q3, p1q4, p1q5, p1q6)), .int .i64 (corS rb0 rs0 z0 (p1q0, p1q1, p1q2, p1q3, p1q4, p1q5, p1q6)), .slice AS5 nS5 cS5], .int .i64 (corC rb0 rs0 z0 (p1q0, p1q1, p1q2, p1q3, p1q4, p1q5, p1q6))]) (by rw [HOPS.out]; rfl) (by rw [HOPS.out]; kernel_rfl) (by exact fun _ _ _ h => h) (by rfl) (fun w1 hS => by go_simp) (HSI.out _ HBwe2.out) ?_
      go_simp
      refine wpAnyT_take 6 (.agg #[.int .i64 (corB rb0 rs0 z0 (p1q0, p1q1, p1q2, p1q3, p1q4, p1q5, p1q6)), .int .i64 (corS rb0 rs0 z0 (p1q0, p1q1, p1q2, p1q3, p1q4, p1q5, p1q6)), .slice AS5 nS5 cS5]) (by rw [HOPS.out]; rfl) (by rw [HOPS.out]; kernel_rfl) (by exact fun _ _ _ h => h) (by rfl) (fun w1 hS => by go_simp) (HSI.out _ HBwe2.out) ?_
      go_simp
      refine wpAnyT_take 7 (.int .i64 (corC rb0 rs0 z0 (p1q0, p1q1, p1q2, p1q3, p1q4, p1q5, p1q6))) (by rw [HOPS.out]; rfl) (by rw [HOPS.out]; kernel_rfl) (by exact fun _ _ _ h => h) (by rfl) (fun w1 hS => by go_simp) (HSI.out _ HBwe2.out) ?_
      go_simp
      have hgP : w12.heap.size ≤ wd.heap.size := by omega
      have hch := put_chg (g := wd.heap.size) [.int .i64 (corB rb0 rs0 z0 (p1q0, p1q1, p1q2, p1q3, p1q4, p1q5, p1q6)), .int .i64 (corS rb0 rs0 z0 (p1q0, p1q1, p1q2, p1q3, p1q4, p1q5, p1q6)), .slice AS5 nS5 cS5] 0 (Chg.refl wd.heap.size (wd.heap.size + 1) we2) (by omega) (by omega)
      have HBS := Lib.hid (below_chg HBwe2.out hch (by omega) (by omega))
      have HOS := Lib.hid (own_chg oS5 hch (fun b hb => by have := vS5 b hb; omega))
      have HXS := Lib.hid (((XG.set 0 (.int .i64 (corB rb0 rs0 z0 (p1q0, p1q1, p1q2, p1q3, p1q4, p1q5, p1q6)))).set 1 (.int .i64 (corS rb0 rs0 z0 (p1q0, p1q1, p1q2, p1q3, p1q4, p1q5, p1q6)))).set 2 (.slice AS5 nS5 cS5))
      have HZS := Lib.hid hch.size
      have FG := XG.f3
      have hgL := XG.lt
      clear hch
      refine wpAnyT_one 9 (by rw [HOPS.out]; rfl) (by rw [HOPS.out]; kernel_rfl) ?_
      intro K' hK
      have HK := Lib.hid hK
      clear hK
      go_simp
      refine HK.out _ _ (.inr (HSI.out _ HBS.out)) ?_
      clear HK
      go_simp
      refine wpAnyT_take 10 (.int .i64 (corC rb0 rs0 z0 (p1q0, p1q1, p1q2, p1q3, p1q4, p1q5, p1q6))) (by rw [HOPS.out]; rfl) (by rw [HOPS.out]; kernel_rfl) (by exact fun _ _ _ h => h) (by rfl) (fun w1 hS => by go_simp) (HSI.out _ HBS.out) ?_
      go_simp
      refine wpAnyT_done (by rw [HOPS.out]; kernel_rfl) ?_ _
      go_wp2_with fail
      go_meet
      exact ⟨wd.heap.size, AS5, nS5, cS5, we1.heap.size, we2.heap.size, rfl, rfl, HXS.out, own_base HOS.out (by omega), hnS5, vS5, by omega, Nat.le_trans (show we2.heap.size ≤ we2.heap.size by omega) HZS.out, by omega, hgP, Nat.lt_of_lt_of_le hgL HZS.out, HBS.out⟩
  obtain ⟨gS5, AS5, nS5, cS5, loS5, hiS5, rfl, rfl, Xh0, oS5, hnS5, vS5, hloS5, hhiS5, hsepS5, hgPS5, hgLS5, hb13⟩ := hcut
  obtain ⟨w13, hww13⟩ : ∃ wz : World, wz = wc := ⟨_, rfl⟩
  subst hww13
  clear HSE HSI
  have BB13 : Below w.heap.size w w13 := BB12.trans (hb13.mono BB12.size)
  have s13 := hb13.size
  replace oS1 := own_below oS1 hb13
  replace oS2 := own_below oS2 hb13
  replace oS3 := own_below oS3 hb13
  replace XaR := XaR.below hb13
  replace XaX := XaX.below hb13
  replace Xw0 := Xw0.below hb13
  replace Xx0 := Xx0.below hb13
  replace Xg0 := Xg0.below hb13
  have Fw00 := Xw0.cell (i := 0) rfl
  have Fw01 := Xw0.cell (i := 1) rfl
  have Fw02 := Xw0.cell (i := 2) rfl
  have Fh00 := Xh0.cell (i := 0) rfl
  have Fh01 := Xh0.cell (i := 1) rfl
  have Fh02 := Xh0.cell (i := 2) rfl
  go_wp2_with fail
  refine (eqRegister_any _ _ _ _ _ _ _ _ _ _ (own_rd oS5) (own_rd oS1)).mono ?_
  rintro e w14 ⟨rfl, hb14⟩
  clear Fw00 Fw01 Fw02 Fh00 Fh01 Fh02
  have BB14 : Below w.heap.size w w14 := BB13.trans (hb14.mono BB13.size)
  have s14 := hb14.size
  replace oS1 := own_below oS1 hb14
  replace oS2 := own_below oS2 hb14
  replace oS3 := own_below oS3 hb14
  replace oS5 := own_below oS5 hb14
  replace XaR := XaR.below hb14
  replace XaX := XaX.below hb14
  replace Xw0 := Xw0.below hb14
  replace Xx0 := Xx0.below hb14
  replace Xg0 := Xg0.below hb14
  replace Xh0 := Xh0.below hb14
  have Fg00 := Xg0.cell (i := 0) rfl
  have Fg01 := Xg0.cell (i := 1) rfl
  have Fg02 := Xg0.cell (i := 2) rfl
  go_wp2_with fail
  refine (heldRegister_any _ _ _ _ _ _ _ (own_rd oS3) (by omega) (by omega) (by omega)).mono ?_
  rintro e w15 ⟨rfl, hb15⟩
  clear Fg00 Fg01 Fg02
  have BB15 : Below w.heap.size w w15 := BB14.trans (hb15.mono BB14.size)
  have s15 := hb15.size
  replace oS1 := own_below oS1 hb15
  replace oS2 := own_below oS2 hb15
  replace oS3 := own_below oS3 hb15
  replace oS5 := own_below oS5 hb15
  replace XaR := XaR.below hb15
  replace XaX := XaX.below hb15
  replace Xw0 := Xw0.below hb15
  replace Xx0 := Xx0.below hb15
  replace Xg0 := Xg0.below hb15
  replace Xh0 := Xh0.below hb15
  go_wp2_with fail
  go_ret
  exact ⟨rfl, BB15⟩
end Go.Proofs.Ytdldcjnidajmpaa

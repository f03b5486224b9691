/- The walk of FnExactMergeRegisters. -/
import Derived.Test.YtdldcjnidajmpaaSzr
import Derived.Test.YtdldcjnidajmpaaRh
import Derived.Test.YtdldcjnidajmpaaJm
import Derived.Test.YtdldcjnidajmpaaJn
import Derived.Test.YtdldcjnidajmpaaRt
import Derived.Lib.QuietBelow
import Derived.Deep.RegionHeld3
namespace Go.Proofs.Ytdldcjnidajmpaa
open Go.RowKit Go.Sort
set_option linter.unusedVariables false
set_option maxRecDepth 100000

set_option maxHeartbeats 4000000 in
theorem fnExactMergeRegisters_walk (rb0 rs0 : Int) (a0 : Option Addr) (len0 cap0 : Nat) (z0 : List EntryT) (rb1 rs1 : Int) (a1 : Option Addr) (len1 cap1 : Nat) (z1 : List EntryT) (w : World) (v0 : Rd w 7 a0 len0 (ents z0)) (v1 : Rd w 7 a1 len1 (ents z1)) :
    Calls Try.prog 9 #[.agg #[.int .i64 rb0, .int .i64 rs0, .slice a0 len0 cap0], .agg #[.int .i64 rb1, .int .i64 rs1, .slice a1 len1 cap1]] w fun e w' => e = .returned (.bool true) ∧ Below w.heap.size w w' := by
  have hr0 := v0
  have hle0 := hr0.le
  have hr1 := v1
  have hle1 := hr1.le
  clear v0
  clear v1
  obtain ⟨sz0, hsz0⟩ : ∃ s, s = szIf 1048576 len0 := ⟨_, rfl⟩
  have HSZ0 := Lib.hid hsz0.symm
  clear hsz0
  obtain ⟨sz1, hsz1⟩ : ∃ s, s = szIf sz0 len1 := ⟨_, rfl⟩
  have HSZ1 := Lib.hid hsz1.symm
  clear hsz1
  go_enter Try.func9, Try.ntmps9
  have BBs : Below w.heap.size w w := Below.refl _ _
  go_wp2_with fail
  obtain ⟨w0, hw0, XaA, hb0, hsb_aA⟩ := one_box w #[.int .i64 rb0, .int .i64 rs0, .slice a0 len0 cap0] 46
  rw [← hw0]
  clear hw0
  have heq_aA := hsb_aA
  replace hsb_aA : w.heap.size < w0.heap.size := by omega
  have BB0 : Below w.heap.size w w0 := hb0
  have s0 := hb0.size
  obtain ⟨w1, hw1, XaB, hb1, hsb_aB⟩ := one_box w0 #[.int .i64 rb1, .int .i64 rs1, .slice a1 len1 cap1] 46
  rw [← hw1]
  clear hw1
  rw [heq_aA] at XaB
  replace hsb_aB : w0.heap.size < w1.heap.size := by omega
  have BB1 : Below w.heap.size w w1 := BB0.trans (hb1.mono BB0.size)
  have s1 := hb1.size
  replace XaA := XaA.below hb1
  refine (szRegister_any _ _ _ _ _ _ 1048576 (by omega) (by omega) _ (hr0.below BB1)).mono ?_
  rintro e w2 ⟨rfl, hb2⟩
  have BB2 : Below w.heap.size w w2 := BB1.trans (hb2.mono BB1.size)
  have s2 := hb2.size
  replace XaA := XaA.below hb2
  replace XaB := XaB.below hb2
  rw [show (if 1048576 < (len0 : Int) then (-1 : Int) else 1048576 - len0) = szIf 1048576 len0 from rfl]
  rw [HSZ0.out]
  by_cases hneg0 : 0 ≤ sz0
  rotate_left
  · go_wp2_with fail
    go_ret
    exact ⟨rfl, BB2⟩
  have hneg0' := hneg0
  rw [← HSZ0.out] at hneg0'
  have hszle0 : sz0 ≤ 1048576 := by rw [← HSZ0.out]; exact szIf_top hneg0' (by omega) (by omega)
  have hlen0 : len0 ≤ 1048576 := szIf_le hneg0' (by omega)
  clear hneg0'
  have FaB0 := XaB.cell (i := 0) rfl
  have FaB1 := XaB.cell (i := 1) rfl
  have FaB2 := XaB.cell (i := 2) rfl
  go_wp2_with fail
  refine (szRegister_any _ _ _ _ _ _ sz0 (by omega) (by omega) _ (hr1.below BB2)).mono ?_
  rintro e w3 ⟨rfl, hb3⟩
  clear FaB0 FaB1 FaB2
  have BB3 : Below w.heap.size w w3 := BB2.trans (hb3.mono BB2.size)
  have s3 := hb3.size
  replace XaA := XaA.below hb3
  replace XaB := XaB.below hb3
  rw [show (if sz0 < (len1 : Int) then (-1 : Int) else sz0 - len1) = szIf sz0 len1 from rfl]
  rw [HSZ1.out]
  by_cases hneg1 : 0 ≤ sz1
  rotate_left
  · go_wp2_with fail
    go_ret
    exact ⟨rfl, BB3⟩
  have hneg1' := hneg1
  rw [← HSZ1.out] at hneg1'
  have hszle1 : sz1 ≤ 1048576 := by rw [← HSZ1.out]; exact szIf_top hneg1' (by omega) (by omega)
  have hlen1 : len1 ≤ 1048576 := szIf_le hneg1' (by omega)
  clear hneg1'
  go_wp2_with fail
  obtain ⟨S, hSE, hSI⟩ : ∃ S : World → Prop, (∀ w1, S w1 → (w1.cell? ⟨w.heap.size, 0, none⟩ = some (.int .i64 rb0) ∧ w1.cell? ⟨w.heap.size, 1, none⟩ = some (.int .i64 rs0) ∧ w1.cell? ⟨w.heap.size, 2, none⟩ = some (.slice a0 len0 cap0) ∧ w1.cell? ⟨w.heap.size + 1, 0, none⟩ = some (.int .i64 rb1) ∧ w1.cell? ⟨w.heap.size + 1, 1, none⟩ = some (.int .i64 rs1) ∧ w1.cell? ⟨w.heap.size + 1, 2, none⟩ = some (.slice a1 len1 cap1))) ∧ (∀ wz9, Below w3.heap.size w3 wz9 → S wz9) :=
    ⟨fun w1 => w1.cell? ⟨w.heap.size, 0, none⟩ = some (.int .i64 rb0) ∧ w1.cell? ⟨w.heap.size, 1, none⟩ = some (.int .i64 rs0) ∧ w1.cell? ⟨w.heap.size, 2, none⟩ = some (.slice a0 len0 cap0) ∧ w1.cell? ⟨w.heap.size + 1, 0, none⟩ = some (.int .i64 rb1) ∧ w1.cell? ⟨w.heap.size + 1, 1, none⟩ = some (.int .i64 rs1) ∧ w1.cell? ⟨w.heap.size + 1, 2, none⟩ = some (.slice a1 len1 cap1), fun _ h => h, fun wz9 hb => ⟨(XaA.below hb).cell rfl, (XaA.below hb).cell rfl, (XaA.below hb).cell rfl, (XaB.below hb).cell rfl, (XaB.below hb).cell rfl, (XaB.below hb).cell rfl⟩⟩
  have HSE := Lib.hid hSE; have HSI := Lib.hid hSI
  clear hSE hSI
  go_cut [6, 7] (fun p c wx => ∃ (g : Nat) (A : Option Addr) (n c' lo hi : Nat), p = .pointer (some ⟨g, 0, none⟩) ∧ c = .int .i64 (mrgC rb0 rs0 z0 rb1 rs1 z1) ∧ Box wx g #[.int .i64 (mrgB rb0 rs0 z0 rb1 rs1 z1), .int .i64 (mrgS rb0 rs0 z0 rb1 rs1 z1), .slice A n c'] 51 ∧ wx.ownsRow w3.heap.size 66 7 (.slice A n c') n (ents (mrgL rb0 rs0 z0 rb1 rs1 z1)) ∧ n ≤ 1048576 ∧ (∀ b, (Value.slice A n c').ownBlock = some b → lo ≤ b ∧ b < hi) ∧ w3.heap.size ≤ lo ∧ hi ≤ wx.heap.size ∧ (g < lo ∨ hi ≤ g) ∧ w3.heap.size ≤ g ∧ g < wx.heap.size ∧ Below w3.heap.size w3 wx)
  case first =>
    refine wp_region_T2 (n := 11) S (fun _ => false) (by kernel_rfl) rfl ?_
    intro ops HOPS
    have hS := HSI.out _ (below_drewN' _ w3 1)
    refine wpAnyT_take 0 (.agg #[.int .i64 rb0, .int .i64 rs0, .slice a0 len0 cap0]) (by rw [HOPS.out]; rfl) (by rw [HOPS.out]; kernel_rfl) (by exact fun _ _ _ h => h) (by rfl) (fun w1 hS => by obtain ⟨q0, q1, q2, q3, q4, q5⟩ := HSE.out _ hS; go_simp) hS ?_
    go_simp
    refine wpAnyT_take 2 (.agg #[.int .i64 rb1, .int .i64 rs1, .slice a1 len1 cap1]) (by rw [HOPS.out]; rfl) (by rw [HOPS.out]; kernel_rfl) (by exact fun _ _ _ h => h) (by rfl) (fun w1 hS => by obtain ⟨q0, q1, q2, q3, q4, q5⟩ := HSE.out _ hS; go_simp) hS ?_
    go_simp
    replace hS : S w3.drew := hS
    obtain ⟨wd, hwd⟩ : ∃ wd : World, wd = w3.drew := ⟨_, rfl⟩
    have HBwd := Lib.hid (show Below w3.heap.size w3 wd from by rw [hwd]; exact below_drewN' _ w3 1)
    have hsd : w3.heap.size ≤ wd.heap.size := HBwd.out.size
    rw [← hwd] at hS ⊢
    clear hwd
    refine wpAnyT_two 1 8 (by rw [HOPS.out]; rfl) (by rw [HOPS.out]; rfl) (by rw [HOPS.out]; kernel_rfl) ?_ ?_
    · skip
      intro K' hK
      have HK := Lib.hid hK
      clear hK
      go_simp
      go_at_call 31
      refine (toRegister_any _ _ _ _ _ _ _ (hr0.below (BB3.trans (HBwd.out.mono BB3.size))) hlen0).mono ?_
      rintro e we0 ⟨AT, nT, cT, rfl, oT, hnT, hbwe0⟩
      have HBwe0 := Lib.hid (HBwd.out.trans (hbwe0.mono HBwd.out.size))
      have hzwe0 := hbwe0.size
      refine HK.out _ _ (.inr (HSI.out _ HBwe0.out)) ?_
      clear HK
      go_simp
      refine wpAnyT_two 3 8 (by rw [HOPS.out]; rfl) (by rw [HOPS.out]; rfl) (by rw [HOPS.out]; kernel_rfl) ?_ ?_
      · skip
        intro K' hK
        have HK := Lib.hid hK
        clear hK
        go_simp
        go_at_call 31
        refine (toRegister_any _ _ _ _ _ _ _ (hr1.below (BB3.trans (HBwe0.out.mono BB3.size))) hlen1).mono ?_
        rintro e we1 ⟨AT2, nT2, cT2, rfl, oT2, hnT2, hbwe1⟩
        replace oT := own_below oT hbwe1
        have HBwe1 := Lib.hid (HBwe0.out.trans (hbwe1.mono HBwe0.out.size))
        have hzwe1 := hbwe1.size
        refine HK.out _ _ (.inr (HSI.out _ HBwe1.out)) ?_
        clear HK
        go_simp
        refine wpAnyT_two 4 8 (by rw [HOPS.out]; rfl) (by rw [HOPS.out]; rfl) (by rw [HOPS.out]; kernel_rfl) ?_ ?_
        · skip
          intro K' hK
          have HK := Lib.hid hK
          clear hK
          go_simp
          (first | go_at_call 46 | go_at_call 47)
          refine (specMerge_any _ _ _ _ _ _ _ _ _ _ _ _ _ ⟨own_rd oT, own_capE oT⟩ ⟨own_rd oT2, own_capE oT2⟩).mono ?_
          rintro e we2 ⟨AS1, nS1, cS1, rfl, oS1, hnS1, hbwe2⟩
          have vS1 := oS1.lt
          have HBwe2 := Lib.hid (HBwe1.out.trans (hbwe2.mono HBwe1.out.size))
          have hzwe2 := hbwe2.size
          refine HK.out _ _ (.inr (HSI.out _ HBwe2.out)) ?_
          clear HK
          go_simp
          refine wpAnyT_take 5 (.tuple #[.agg #[.int .i64 (mrgB rb0 rs0 z0 rb1 rs1 z1), .int .i64 (mrgS rb0 rs0 z0 rb1 rs1 z1), .slice AS1 nS1 cS1], .int .i64 (mrgC rb0 rs0 z0 rb1 rs1 z1)]) (by rw [HOPS.out]; rfl) (by rw [HOPS.out]; kernel_rfl) (by exact fun _ _ _ h => h) (by rfl) (fun w1 hS => by go_simp) (HSI.out _ HBwe2.out) ?_
          go_simp
          refine wpAnyT_take 6 (.agg #[.int .i64 (mrgB rb0 rs0 z0 rb1 rs1 z1), .int .i64 (mrgS rb0 rs0 z0 rb1 rs1 z1), .slice AS1 nS1 cS1]) (by rw [HOPS.out]; rfl) (by rw [HOPS.out]; kernel_rfl) (by exact fun _ _ _ h => h) (by rfl) (fun w1 hS => by go_simp) (HSI.out _ HBwe2.out) ?_
          go_simp
          refine wpAnyT_take 7 (.int .i64 (mrgC rb0 rs0 z0 rb1 rs1 z1)) (by rw [HOPS.out]; rfl) (by rw [HOPS.out]; kernel_rfl) (by exact fun _ _ _ h => h) (by rfl) (fun w1 hS => by go_simp) (HSI.out _ HBwe2.out) ?_
          go_simp
          refine wpAnyT_one 8 (by rw [HOPS.out]; rfl) (by rw [HOPS.out]; kernel_rfl) ?_
          intro K' hK
          have HK := Lib.hid hK
          clear hK
          go_simp
          refine HK.out _ _ (.inr (HSI.out _ (HBwe2.out.alloc HBwe2.out.size _))) ?_
          clear HK
          obtain ⟨wg, hw_wg, XG, hbwg, hs_wg⟩ := one_box we2 #[.int .i64 0, .int .i64 0, .slice none 0 0] 51
          rw [← hw_wg]
          clear hw_wg
          have HBwg := Lib.hid (HBwe2.out.trans (hbwg.mono HBwe2.out.size))
          replace oS1 := own_below oS1 hbwg
          go_simp
          have hgP : w3.heap.size ≤ we2.heap.size := by omega
          have hch := put_chg (g := we2.heap.size) [.int .i64 (mrgB rb0 rs0 z0 rb1 rs1 z1), .int .i64 (mrgS rb0 rs0 z0 rb1 rs1 z1), .slice AS1 nS1 cS1] 0 (Chg.refl we2.heap.size (we2.heap.size + 1) wg) (by omega) (by omega)
          have HBS := Lib.hid (below_chg HBwg.out hch (by omega) (by omega))
          have HOS := Lib.hid (own_chg oS1 hch (fun b hb => by have := vS1 b hb; omega))
          have HXS := Lib.hid (((XG.set 0 (.int .i64 (mrgB rb0 rs0 z0 rb1 rs1 z1))).set 1 (.int .i64 (mrgS rb0 rs0 z0 rb1 rs1 z1))).set 2 (.slice AS1 nS1 cS1))
          have HZS := Lib.hid hch.size
          have FG := XG.f3
          have hgL := XG.lt
          clear hch
          refine wpAnyT_one 9 (by rw [HOPS.out]; rfl) (by rw [HOPS.out]; kernel_rfl) ?_
          intro K' hK
          have HK := Lib.hid hK
          clear hK
          go_simp
          refine HK.out _ _ (.inr (HSI.out _ HBS.out)) ?_
          clear HK
          go_simp
          refine wpAnyT_take 10 (.int .i64 (mrgC rb0 rs0 z0 rb1 rs1 z1)) (by rw [HOPS.out]; rfl) (by rw [HOPS.out]; kernel_rfl) (by exact fun _ _ _ h => h) (by rfl) (fun w1 hS => by go_simp) (HSI.out _ HBS.out) ?_
          go_simp
          refine wpAnyT_done (by rw [HOPS.out]; kernel_rfl) ?_ _
          go_wp2_with fail
          go_meet
          exact ⟨we2.heap.size, AS1, nS1, cS1, we1.heap.size, we2.heap.size, rfl, rfl, HXS.out, own_base HOS.out (by omega), hnS1, vS1, by omega, Nat.le_trans (show we2.heap.size ≤ wg.heap.size by omega) HZS.out, by omega, hgP, Nat.lt_of_lt_of_le hgL HZS.out, HBS.out⟩
        · skip
          intro K' hK
          have HK := Lib.hid hK
          clear hK
          go_simp
          refine HK.out _ _ (.inr (HSI.out _ (HBwe1.out.alloc HBwe1.out.size _))) ?_
          clear HK
          obtain ⟨wb, hw_wb, XG, hbwb, hs_wb⟩ := one_box we1 #[.int .i64 0, .int .i64 0, .slice none 0 0] 51
          rw [← hw_wb]
          clear hw_wb
          have HBwb := Lib.hid (HBwe1.out.trans (hbwb.mono HBwe1.out.size))
          replace oT := own_below oT hbwb
          replace oT2 := own_below oT2 hbwb
          go_simp
          refine wpAnyT_one 4 (by rw [HOPS.out]; rfl) (by rw [HOPS.out]; kernel_rfl) ?_
          intro K' hK
          have HK := Lib.hid hK
          clear hK
          go_simp
          (first | go_at_call 46 | go_at_call 47)
          refine (specMerge_any _ _ _ _ _ _ _ _ _ _ _ _ _ ⟨own_rd oT, own_capE oT⟩ ⟨own_rd oT2, own_capE oT2⟩).mono ?_
          rintro e we2 ⟨AS1, nS1, cS1, rfl, oS1, hnS1, hbwe2⟩
          have vS1 := oS1.lt
          have HBwe2 := Lib.hid (HBwb.out.trans (hbwe2.mono HBwb.out.size))
          have hzwe2 := hbwe2.size
          replace XG := XG.below hbwe2
          refine HK.out _ _ (.inr (HSI.out _ HBwe2.out)) ?_
          clear HK
          go_simp
          refine wpAnyT_take 5 (.tuple #[.agg #[.int .i64 (mrgB rb0 rs0 z0 rb1 rs1 z1), .int .i64 (mrgS rb0 rs0 z0 rb1 rs1 z1), .slice AS1 nS1 cS1], .int .i64 (mrgC rb0 rs0 z0 rb1 rs1 z1)]) (by rw [HOPS.out]; rfl) (by rw [HOPS.out]; kernel_rfl) (by exact fun _ _ _ h => h) (by rfl) (fun w1 hS => by go_simp) (HSI.out _ HBwe2.out) ?_
          go_simp
          refine wpAnyT_take 6 (.agg #[.int .i64 (mrgB rb0 rs0 z0 rb1 rs1 z1), .int .i64 (mrgS rb0 rs0 z0 rb1 rs1 z1), .slice AS1 nS1 cS1]) (by rw [HOPS.out]; rfl) (by rw [HOPS.out]; kernel_rfl) (by exact fun _ _ _ h => h) (by rfl) (fun w1 hS => by go_simp) (HSI.out _ HBwe2.out) ?_
          go_simp
          refine wpAnyT_take 7 (.int .i64 (mrgC rb0 rs0 z0 rb1 rs1 z1)) (by rw [HOPS.out]; rfl) (by rw [HOPS.out]; kernel_rfl) (by exact fun _ _ _ h => h) (by rfl) (fun w1 hS => by go_simp) (HSI.out _ HBwe2.out) ?_
          go_simp
          have hgP : w3.heap.size ≤ we1.heap.size := by omega
          have hch := put_chg (g := we1.heap.size) [.int .i64 (mrgB rb0 rs0 z0 rb1 rs1 z1), .int .i64 (mrgS rb0 rs0 z0 rb1 rs1 z1), .slice AS1 nS1 cS1] 0 (Chg.refl we1.heap.size (we1.heap.size + 1) we2) (by omega) (by omega)
          have HBS := Lib.hid (below_chg HBwe2.out hch (by omega) (by omega))
          have HOS := Lib.hid (own_chg oS1 hch (fun b hb => by have := vS1 b hb; omega))
          have HXS := Lib.hid (((XG.set 0 (.int .i64 (mrgB rb0 rs0 z0 rb1 rs1 z1))).set 1 (.int .i64 (mrgS rb0 rs0 z0 rb1 rs1 z1))).set 2 (.slice AS1 nS1 cS1))
          have HZS := Lib.hid hch.size
          have FG := XG.f3
          have hgL := XG.lt
          clear hch
          refine wpAnyT_one 9 (by rw [HOPS.out]; rfl) (by rw [HOPS.out]; kernel_rfl) ?_
          intro K' hK
          have HK := Lib.hid hK
          clear hK
          go_simp
          refine HK.out _ _ (.inr (HSI.out _ HBS.out)) ?_
          clear HK
          go_simp
          refine wpAnyT_take 10 (.int .i64 (mrgC rb0 rs0 z0 rb1 rs1 z1)) (by rw [HOPS.out]; rfl) (by rw [HOPS.out]; kernel_rfl) (by exact fun _ _ _ h => h) (by rfl) (fun w1 hS => by go_simp) (HSI.out _ HBS.out) ?_
          go_simp
          refine wpAnyT_done (by rw [HOPS.out]; kernel_rfl) ?_ _
          go_wp2_with fail
          go_meet
          exact ⟨we1.heap.size, AS1, nS1, cS1, wb.heap.size, we2.heap.size, rfl, rfl, HXS.out, own_base HOS.out (by omega), hnS1, vS1, by omega, Nat.le_trans (show we2.heap.size ≤ we2.heap.size by omega) HZS.out, by omega, hgP, Nat.lt_of_lt_of_le hgL HZS.out, HBS.out⟩
      · skip
        intro K' hK
        have HK := Lib.hid hK
        clear hK
        go_simp
        refine HK.out _ _ (.inr (HSI.out _ (HBwe0.out.alloc HBwe0.out.size _))) ?_
        clear HK
        obtain ⟨wb, hw_wb, XG, hbwb, hs_wb⟩ := one_box we0 #[.int .i64 0, .int .i64 0, .slice none 0 0] 51
        rw [← hw_wb]
        clear hw_wb
        have HBwb := Lib.hid (HBwe0.out.trans (hbwb.mono HBwe0.out.size))
        replace oT := own_below oT hbwb
        go_simp
        refine wpAnyT_one 3 (by rw [HOPS.out]; rfl) (by rw [HOPS.out]; kernel_rfl) ?_
        intro K' hK
        have HK := Lib.hid hK
        clear hK
        go_simp
        go_at_call 31
        refine (toRegister_any _ _ _ _ _ _ _ (hr1.below (BB3.trans (HBwb.out.mono BB3.size))) hlen1).mono ?_
        rintro e we1 ⟨AT2, nT2, cT2, rfl, oT2, hnT2, hbwe1⟩
        replace oT := own_below oT hbwe1
        have HBwe1 := Lib.hid (HBwb.out.trans (hbwe1.mono HBwb.out.size))
        have hzwe1 := hbwe1.size
        replace XG := XG.below hbwe1
        refine HK.out _ _ (.inr (HSI.out _ HBwe1.out)) ?_
        clear HK
        go_simp
        refine wpAnyT_one 4 (by rw [HOPS.out]; rfl) (by rw [HOPS.out]; kernel_rfl) ?_
        intro K' hK
        have HK := Lib.hid hK
        clear hK
        go_simp
        (first | go_at_call 46 | go_at_call 47)
        refine (specMerge_any _ _ _ _ _ _ _ _ _ _ _ _ _ ⟨own_rd oT, own_capE oT⟩ ⟨own_rd oT2, own_capE oT2⟩).mono ?_
        rintro e we2 ⟨AS1, nS1, cS1, rfl, oS1, hnS1, hbwe2⟩
        have vS1 := oS1.lt
        have HBwe2 := Lib.hid (HBwe1.out.trans (hbwe2.mono HBwe1.out.size))
        have hzwe2 := hbwe2.size
        replace XG := XG.below hbwe2
        refine HK.out _ _ (.inr (HSI.out _ HBwe2.out)) ?_
        clear HK
        go_simp
        refine wpAnyT_take 5 (.tuple #[.agg #[.int .i64 (mrgB rb0 rs0 z0 rb1 rs1 z1), .int .i64 (mrgS rb0 rs0 z0 rb1 rs1 z1), .slice AS1 nS1 cS1], .int .i64 (mrgC rb0 rs0 z0 rb1 rs1 z1)]) (by rw [HOPS.out]; rfl) (by rw [HOPS.out]; kernel_rfl) (by exact fun _ _ _ h => h) (by rfl) (fun w1 hS => by go_simp) (HSI.out _ HBwe2.out) ?_
        go_simp
        refine wpAnyT_take 6 (.agg #[.int .i64 (mrgB rb0 rs0 z0 rb1 rs1 z1), .int .i64 (mrgS rb0 rs0 z0 rb1 rs1 z1), .slice AS1 nS1 cS1]) (by rw [HOPS.out]; rfl) (by rw [HOPS.out]; kernel_rfl) (by exact fun _ _ _ h => h) (by rfl) (fun w1 hS => by go_simp) (HSI.out _ HBwe2.out) ?_
        go_simp
        refine wpAnyT_take 7 (.int .i64 (mrgC rb0 rs0 z0 rb1 rs1 z1)) (by rw [HOPS.out]; rfl) (by rw [HOPS.out]; kernel_rfl) (by exact fun _ _ _ h => h) (by rfl) (fun w1 hS => by go_simp) (HSI.out _ HBwe2.out) ?_
        go_simp
        have hgP : w3.heap.size ≤ we0.heap.size := by omega
        have hch := put_chg (g := we0.heap.size) [.int .i64 (mrgB rb0 rs0 z0 rb1 rs1 z1), .int .i64 (mrgS rb0 rs0 z0 rb1 rs1 z1), .slice AS1 nS1 cS1] 0 (Chg.refl we0.heap.size (we0.heap.size + 1) we2) (by omega) (by omega)
        have HBS := Lib.hid (below_chg HBwe2.out hch (by omega) (by omega))
        have HOS := Lib.hid (own_chg oS1 hch (fun b hb => by have := vS1 b hb; omega))
        have HXS := Lib.hid (((XG.set 0 (.int .i64 (mrgB rb0 rs0 z0 rb1 rs1 z1))).set 1 (.int .i64 (mrgS rb0 rs0 z0 rb1 rs1 z1))).set 2 (.slice AS1 nS1 cS1))
        have HZS := Lib.hid hch.size
        have FG := XG.f3
        have hgL := XG.lt
        clear hch
        refine wpAnyT_one 9 (by rw [HOPS.out]; rfl) (by rw [HOPS.out]; kernel_rfl) ?_
        intro K' hK
        have HK := Lib.hid hK
        clear hK
        go_simp
        refine HK.out _ _ (.inr (HSI.out _ HBS.out)) ?_
        clear HK
        go_simp
        refine wpAnyT_take 10 (.int .i64 (mrgC rb0 rs0 z0 rb1 rs1 z1)) (by rw [HOPS.out]; rfl) (by rw [HOPS.out]; kernel_rfl) (by exact fun _ _ _ h => h) (by rfl) (fun w1 hS => by go_simp) (HSI.out _ HBS.out) ?_
        go_simp
        refine wpAnyT_done (by rw [HOPS.out]; kernel_rfl) ?_ _
        go_wp2_with fail
        go_meet
        exact ⟨we0.heap.size, AS1, nS1, cS1, we1.heap.size, we2.heap.size, rfl, rfl, HXS.out, own_base HOS.out (by omega), hnS1, vS1, by omega, Nat.le_trans (show we2.heap.size ≤ we2.heap.size by omega) HZS.out, by omega, hgP, Nat.lt_of_lt_of_le hgL HZS.out, HBS.out⟩
    · skip
      intro K' hK
      have HK := Lib.hid hK
      clear hK
      go_simp
      refine HK.out _ _ (.inr (HSI.out _ (HBwd.out.alloc HBwd.out.size _))) ?_
      clear HK
      obtain ⟨wb, hw_wb, XG, hbwb, hs_wb⟩ := one_box wd #[.int .i64 0, .int .i64 0, .slice none 0 0] 51
      rw [← hw_wb]
      clear hw_wb
      have HBwb := Lib.hid (HBwd.out.trans (hbwb.mono HBwd.out.size))
      go_simp
      refine wpAnyT_one 1 (by rw [HOPS.out]; rfl) (by rw [HOPS.out]; kernel_rfl) ?_
      intro K' hK
      have HK := Lib.hid hK
      clear hK
      go_simp
      go_at_call 31
      refine (toRegister_any _ _ _ _ _ _ _ (hr0.below (BB3.trans (HBwb.out.mono BB3.size))) hlen0).mono ?_
      rintro e we0 ⟨AT, nT, cT, rfl, oT, hnT, hbwe0⟩
      have HBwe0 := Lib.hid (HBwb.out.trans (hbwe0.mono HBwb.out.size))
      have hzwe0 := hbwe0.size
      replace XG := XG.below hbwe0
      refine HK.out _ _ (.inr (HSI.out _ HBwe0.out)) ?_
      clear HK
      go_simp
      refine wpAnyT_one 3 (by rw [HOPS.out]; rfl) (by rw [HOPS.out]; kernel_rfl) ?_
      intro K' hK
      have HK := Lib.hid hK
      clear hK
      go_simp
      go_at_call 31
      refine (toRegister_any _ _ _ _ _ _ _ (hr1.below (BB3.trans (HBwe0.out.mono BB3.size))) hlen1).mono ?_
      rintro e we1 ⟨AT2, nT2, cT2, rfl, oT2, hnT2, hbwe1⟩
      replace oT := own_below oT hbwe1
      have HBwe1 := Lib.hid (HBwe0.out.trans (hbwe1.mono HBwe0.out.size))
      have hzwe1 := hbwe1.size
      replace XG := XG.below hbwe1
      refine HK.out _ _ (.inr (HSI.out _ HBwe1.out)) ?_
      clear HK
      go_simp
      refine wpAnyT_one 4 (by rw [HOPS.out]; rfl) (by rw [HOPS.out]; kernel_rfl) ?_
      intro K' hK
      have HK := Lib.hid hK
      clear hK
      go_simp
      (first | go_at_call 46 | go_at_call 47)
      refine (specMerge_any _ _ _ _ _ _ _ _ _ _ _ _ _ ⟨own_rd oT, own_capE oT⟩ ⟨own_rd oT2, own_capE oT2⟩).mono ?_
      rintro e we2 ⟨AS1, nS1, cS1, rfl, oS1, hnS1, hbwe2⟩
      have vS1 := oS1.lt
      have HBwe2 := Lib.hid (HBwe1.out.trans (hbwe2.mono HBwe1.out.size))
      have hzwe2 := hbwe2.size
      replace XG := XG.below hbwe2
      refine HK.out _ _ (.inr (HSI.out _ HBwe2.out)) ?_
      clear HK
      go_simp
      refine wpAnyT_take 5 (.tuple #[.agg #[.int .i64 (mrgB rb0 rs0 z0 rb1 rs1 z1), .int .i64 (mrgS rb0 rs0 z0 rb1 rs1 z1), .slice AS1 nS1 cS1], .int .i64 (mrgC rb0 rs0 z0 rb1 rs1 z1)]) (by rw [HOPS.out]; rfl) (by rw [HOPS.out]; kernel_rfl) (by exact fun _ _ _ h => h) (by rfl) (fun w1 hS => by go_simp) (HSI.out _ HBwe2.out) ?_
      go_simp
      refine wpAnyT_take 6 (.agg #[.int .i64 (mrgB rb0 rs0 z0 rb1 rs1 z1), .int .i64 (mrgS rb0 rs0 z0 rb1 rs1 z1), .slice AS1 nS1 cS1]) (by rw [HOPS.out]; rfl) (by rw [HOPS.out]; kernel_rfl) (by exact fun _ _ _ h => h) (by rfl) (fun w1 hS => by go_simp) (HSI.out _ HBwe2.out) ?_
      go_simp
      refine wpAnyT_take 7 (.int .i64 (mrgC rb0 rs0 z0 rb1 rs1 z1)) (by rw [HOPS.out]; rfl) (by rw [HOPS.out]; kernel_rfl) (by exact fun _ _ _ h => h) (by rfl) (fun w1 hS => by go_simp) (HSI.out _ HBwe2.out) ?_
      go_simp
      have hgP : w3.heap.size ≤ wd.heap.size := by omega
      have hch := put_chg (g := wd.heap.size) [.int .i64 (mrgB rb0 rs0 z0 rb1 rs1 z1), .int .i64 (mrgS rb0 rs0 z0 rb1 rs1 z1), .slice AS1 nS1 cS1] 0 (Chg.refl wd.heap.size (wd.heap.size + 1) we2) (by omega) (by omega)
      have HBS := Lib.hid (below_chg HBwe2.out hch (by omega) (by omega))
      have HOS := Lib.hid (own_chg oS1 hch (fun b hb => by have := vS1 b hb; omega))
      have HXS := Lib.hid (((XG.set 0 (.int .i64 (mrgB rb0 rs0 z0 rb1 rs1 z1))).set 1 (.int .i64 (mrgS rb0 rs0 z0 rb1 rs1 z1))).set 2 (.slice AS1 nS1 cS1))
      have HZS := Lib.hid hch.size
      have FG := XG.f3
      have hgL := XG.lt
      clear hch
      refine wpAnyT_one 9 (by rw [HOPS.out]; rfl) (by rw [HOPS.out]; kernel_rfl) ?_
      intro K' hK
      have HK := Lib.hid hK
      clear hK
      go_simp
      refine HK.out _ _ (.inr (HSI.out _ HBS.out)) ?_
      clear HK
      go_simp
      refine wpAnyT_take 10 (.int .i64 (mrgC rb0 rs0 z0 rb1 rs1 z1)) (by rw [HOPS.out]; rfl) (by rw [HOPS.out]; kernel_rfl) (by exact fun _ _ _ h => h) (by rfl) (fun w1 hS => by go_simp) (HSI.out _ HBS.out) ?_
      go_simp
      refine wpAnyT_done (by rw [HOPS.out]; kernel_rfl) ?_ _
      go_wp2_with fail
      go_meet
      exact ⟨wd.heap.size, AS1, nS1, cS1, we1.heap.size, we2.heap.size, rfl, rfl, HXS.out, own_base HOS.out (by omega), hnS1, vS1, by omega, Nat.le_trans (show we2.heap.size ≤ we2.heap.size by omega) HZS.out, by omega, hgP, Nat.lt_of_lt_of_le hgL HZS.out, HBS.out⟩
  obtain ⟨gS1, AS1, nS1, cS1, loS1, hiS1, rfl, rfl, Xw0, oS1, hnS1, vS1, hloS1, hhiS1, hsepS1, hgPS1, hgLS1, hb4⟩ := hcut
  obtain ⟨w4, hww4⟩ : ∃ wz : World, wz = wc := ⟨_, rfl⟩
  subst hww4
  clear HSE HSI
  have BB4 : Below w.heap.size w w4 := BB3.trans (hb4.mono BB3.size)
  have s4 := hb4.size
  replace XaA := XaA.below hb4
  replace XaB := XaB.below hb4
  have FaA0 := XaA.cell (i := 0) rfl
  have FaA1 := XaA.cell (i := 1) rfl
  have FaA2 := XaA.cell (i := 2) rfl
  go_wp2_with fail
  refine (toRegister_any _ _ _ _ _ _ _ (hr0.below BB4) hlen0).mono ?_
  rintro e w5 ⟨AS2, nS2, cS2, rfl, oS2, hnS2, hb5⟩
  clear FaA0 FaA1 FaA2
  have BB5 : Below w.heap.size w w5 := BB4.trans (hb5.mono BB4.size)
  have s5 := hb5.size
  replace oS1 := own_below oS1 hb5
  replace XaA := XaA.below hb5
  replace XaB := XaB.below hb5
  replace Xw0 := Xw0.below hb5
  have vS2 := oS2.lt
  have FaB0 := XaB.cell (i := 0) rfl
  have FaB1 := XaB.cell (i := 1) rfl
  have FaB2 := XaB.cell (i := 2) rfl
  have LaB := XaB.lt
  go_wp2_with fail
  obtain ⟨w6, hw6, Xx0, hb6, hsb_x0⟩ := one_box w5 #[.int .i64 rb0, .int .i64 rs0, .slice AS2 nS2 cS2] 51
  rw [← hw6]
  clear hw6
  replace hsb_x0 : w5.heap.size < w6.heap.size := by omega
  have BB6 : Below w.heap.size w w6 := BB5.trans (hb6.mono BB5.size)
  have s6 := hb6.size
  replace oS1 := own_below oS1 hb6
  replace oS2 := own_below oS2 hb6
  replace XaA := XaA.below hb6
  replace XaB := XaB.below hb6
  replace Xw0 := Xw0.below hb6
  refine (toRegister_any _ _ _ _ _ _ _ (hr1.below BB6) hlen1).mono ?_
  rintro e w7 ⟨AS3, nS3, cS3, rfl, oS3, hnS3, hb7⟩
  clear FaB0 FaB1 FaB2 LaB
  have BB7 : Below w.heap.size w w7 := BB6.trans (hb7.mono BB6.size)
  have s7 := hb7.size
  replace oS1 := own_below oS1 hb7
  replace oS2 := own_below oS2 hb7
  replace XaA := XaA.below hb7
  replace XaB := XaB.below hb7
  replace Xw0 := Xw0.below hb7
  replace Xx0 := Xx0.below hb7
  have vS3 := oS3.lt
  have Fx00 := Xx0.cell (i := 0) rfl
  have Fx01 := Xx0.cell (i := 1) rfl
  have Fx02 := Xx0.cell (i := 2) rfl
  have Lx0 := Xx0.lt
  go_wp2_with fail
  obtain ⟨w8, hw8, Xx1, hb8, hsb_x1⟩ := one_box w7 #[.int .i64 rb1, .int .i64 rs1, .slice AS3 nS3 cS3] 51
  rw [← hw8]
  clear hw8
  replace hsb_x1 : w7.heap.size < w8.heap.size := by omega
  have BB8 : Below w.heap.size w w8 := BB7.trans (hb8.mono BB7.size)
  have s8 := hb8.size
  replace oS1 := own_below oS1 hb8
  replace oS2 := own_below oS2 hb8
  replace oS3 := own_below oS3 hb8
  replace XaA := XaA.below hb8
  replace XaB := XaB.below hb8
  replace Xw0 := Xw0.below hb8
  replace Xx0 := Xx0.below hb8
  refine (implMerge_any _ _ _ _ _ _ _ _ _ _ _ _ _ ⟨own_rd oS2, own_capE oS2⟩ ⟨own_rd oS3, own_capE oS3⟩).mono ?_
  rintro e w9 ⟨AS4, nS4, cS4, rfl, oS4, hnS4, hb9⟩
  clear Fx00 Fx01 Fx02 Lx0
  have BB9 : Below w.heap.size w w9 := BB8.trans (hb9.mono BB8.size)
  have s9 := hb9.size
  replace oS1 := own_below oS1 hb9
  replace oS2 := own_below oS2 hb9
  replace oS3 := own_below oS3 hb9
  replace XaA := XaA.below hb9
  replace XaB := XaB.below hb9
  replace Xw0 := Xw0.below hb9
  replace Xx0 := Xx0.below hb9
  replace Xx1 := Xx1.below hb9
  have vS4 := oS4.lt
  have Fw00 := Xw0.cell (i := 0) rfl
  have Fw01 := Xw0.cell (i := 1) rfl
  have Fw02 := Xw0.cell (i := 2) rfl
  have Lw0 := Xw0.lt
  go_wp2_with fail
  obtain ⟨w10, hw10, Xg0, hb10, hsb_g0⟩ := one_box w9 #[.int .i64 (mrgB rb0 rs0 z0 rb1 rs1 z1), .int .i64 (mrgS rb0 rs0 z0 rb1 rs1 z1), .slice AS4 nS4 cS4] 51
  rw [← hw10]
  clear hw10
  replace hsb_g0 : w9.heap.size < w10.heap.size := by omega
  have BB10 : Below w.heap.size w w10 := BB9.trans (hb10.mono BB9.size)
  have s10 := hb10.size
  replace oS1 := own_below oS1 hb10
  replace oS2 := own_below oS2 hb10
  replace oS3 := own_below oS3 hb10
  replace oS4 := own_below oS4 hb10
  replace XaA := XaA.below hb10
  replace XaB := XaB.below hb10
  replace Xw0 := Xw0.below hb10
  replace Xx0 := Xx0.below hb10
  replace Xx1 := Xx1.below hb10
  refine (eqRegister_any _ _ _ _ _ _ _ _ _ _ (own_rd oS4) (own_rd oS1)).mono ?_
  rintro e w11 ⟨rfl, hb11⟩
  clear Fw00 Fw01 Fw02 Lw0
  have BB11 : Below w.heap.size w w11 := BB10.trans (hb11.mono BB10.size)
  have s11 := hb11.size
  replace oS1 := own_below oS1 hb11
  replace oS2 := own_below oS2 hb11
  replace oS3 := own_below oS3 hb11
  replace oS4 := own_below oS4 hb11
  replace XaA := XaA.below hb11
  replace XaB := XaB.below hb11
  replace Xw0 := Xw0.below hb11
  replace Xx0 := Xx0.below hb11
  replace Xx1 := Xx1.below hb11
  replace Xg0 := Xg0.below hb11
  go_wp2_with fail
  have HSR := Lib.hid (show ∀ w1, Below w11.heap.size w11 w1 → (w1.cell? ⟨w5.heap.size, 0, none⟩ = some (.int .i64 rb0) ∧ w1.cell? ⟨w5.heap.size, 1, none⟩ = some (.int .i64 rs0) ∧ w1.cell? ⟨w5.heap.size, 2, none⟩ = some (.slice AS2 nS2 cS2) ∧ w1.cell? ⟨w.heap.size, 0, none⟩ = some (.int .i64 rb0) ∧ w1.cell? ⟨w.heap.size, 1, none⟩ = some (.int .i64 rs0) ∧ w1.cell? ⟨w.heap.size, 2, none⟩ = some (.slice a0 len0 cap0) ∧ Below w11.heap.size w11 w1) from fun w1 hb => ⟨(Xx0.below hb).cell (i := 0) rfl, (Xx0.below hb).cell (i := 1) rfl, (Xx0.below hb).cell (i := 2) rfl, (XaA.below hb).cell (i := 0) rfl, (XaA.below hb).cell (i := 1) rfl, (XaA.below hb).cell (i := 2) rfl, hb⟩)
  go_region_held3 (fun w1 => w1.cell? ⟨w5.heap.size, 0, none⟩ = some (.int .i64 rb0) ∧ w1.cell? ⟨w5.heap.size, 1, none⟩ = some (.int .i64 rs0) ∧ w1.cell? ⟨w5.heap.size, 2, none⟩ = some (.slice AS2 nS2 cS2) ∧ w1.cell? ⟨w.heap.size, 0, none⟩ = some (.int .i64 rb0) ∧ w1.cell? ⟨w.heap.size, 1, none⟩ = some (.int .i64 rs0) ∧ w1.cell? ⟨w.heap.size, 2, none⟩ = some (.slice a0 len0 cap0) ∧ Below w11.heap.size w11 w1) (first | exact HSR.out _ hb12 | exact HSR.out _ HBq | exact HSR.out _ ((Drawn.refl _).step 1).below | exact HSR.out _ (Drawn.refl _).below) (first | (go_at_call 31; have hq := (‹_ ∧ _ ∧ _ ∧ _ ∧ _ ∧ _ ∧ Below w11.heap.size w11 _›).2.2.2.2.2.2; refine (toRegister_any _ _ _ _ _ _ _ (hr0.below (BB11.trans (hq.mono BB11.size))) hlen0).mono ?_; rintro e wq ⟨AS5, nS5, cS5, rfl, oS5, hnS5, hbq⟩; have HBq := hq.trans (hbq.mono hq.size)) | (go_at_call 33; have hq := (‹_ ∧ _ ∧ _ ∧ _ ∧ _ ∧ _ ∧ Below w11.heap.size w11 _›).2.2.2.2.2.2; refine (eqRegister_any _ _ _ _ _ _ _ _ _ _ (own_rd (own_below oS2 hq)) (own_rd oS5)).mono ?_; rintro e w12 ⟨rfl, hbr⟩; have hb12 := hq.trans (hbr.mono hq.size)))
  have BB12 : Below w.heap.size w w12 := BB11.trans (hb12.mono BB11.size)
  have s12 := hb12.size
  replace oS1 := own_below oS1 hb12
  replace oS2 := own_below oS2 hb12
  replace oS3 := own_below oS3 hb12
  replace oS4 := own_below oS4 hb12
  replace XaA := XaA.below hb12
  replace XaB := XaB.below hb12
  replace Xw0 := Xw0.below hb12
  replace Xx0 := Xx0.below hb12
  replace Xx1 := Xx1.below hb12
  replace Xg0 := Xg0.below hb12
  go_wp2_with fail
  have HSR := Lib.hid (show ∀ w1, Below w12.heap.size w12 w1 → (w1.cell? ⟨w7.heap.size, 0, none⟩ = some (.int .i64 rb1) ∧ w1.cell? ⟨w7.heap.size, 1, none⟩ = some (.int .i64 rs1) ∧ w1.cell? ⟨w7.heap.size, 2, none⟩ = some (.slice AS3 nS3 cS3) ∧ w1.cell? ⟨w.heap.size + 1, 0, none⟩ = some (.int .i64 rb1) ∧ w1.cell? ⟨w.heap.size + 1, 1, none⟩ = some (.int .i64 rs1) ∧ w1.cell? ⟨w.heap.size + 1, 2, none⟩ = some (.slice a1 len1 cap1) ∧ Below w12.heap.size w12 w1) from fun w1 hb => ⟨(Xx1.below hb).cell (i := 0) rfl, (Xx1.below hb).cell (i := 1) rfl, (Xx1.below hb).cell (i := 2) rfl, (XaB.below hb).cell (i := 0) rfl, (XaB.below hb).cell (i := 1) rfl, (XaB.below hb).cell (i := 2) rfl, hb⟩)
  go_region_held3 (fun w1 => w1.cell? ⟨w7.heap.size, 0, none⟩ = some (.int .i64 rb1) ∧ w1.cell? ⟨w7.heap.size, 1, none⟩ = some (.int .i64 rs1) ∧ w1.cell? ⟨w7.heap.size, 2, none⟩ = some (.slice AS3 nS3 cS3) ∧ w1.cell? ⟨w.heap.size + 1, 0, none⟩ = some (.int .i64 rb1) ∧ w1.cell? ⟨w.heap.size + 1, 1, none⟩ = some (.int .i64 rs1) ∧ w1.cell? ⟨w.heap.size + 1, 2, none⟩ = some (.slice a1 len1 cap1) ∧ Below w12.heap.size w12 w1) (first | exact HSR.out _ hb13 | exact HSR.out _ HBq | exact HSR.out _ ((Drawn.refl _).step 1).below | exact HSR.out _ (Drawn.refl _).below) (first | (go_at_call 31; have hq := (‹_ ∧ _ ∧ _ ∧ _ ∧ _ ∧ _ ∧ Below w12.heap.size w12 _›).2.2.2.2.2.2; refine (toRegister_any _ _ _ _ _ _ _ (hr1.below (BB12.trans (hq.mono BB12.size))) hlen1).mono ?_; rintro e wq ⟨AS6, nS6, cS6, rfl, oS6, hnS6, hbq⟩; have HBq := hq.trans (hbq.mono hq.size)) | (go_at_call 33; have hq := (‹_ ∧ _ ∧ _ ∧ _ ∧ _ ∧ _ ∧ Below w12.heap.size w12 _›).2.2.2.2.2.2; refine (eqRegister_any _ _ _ _ _ _ _ _ _ _ (own_rd (own_below oS3 hq)) (own_rd oS6)).mono ?_; rintro e w13 ⟨rfl, hbr⟩; have hb13 := hq.trans (hbr.mono hq.size)))
  have BB13 : Below w.heap.size w w13 := BB12.trans (hb13.mono BB12.size)
  have s13 := hb13.size
  replace oS1 := own_below oS1 hb13
  replace oS2 := own_below oS2 hb13
  replace oS3 := own_below oS3 hb13
  replace oS4 := own_below oS4 hb13
  replace XaA := XaA.below hb13
  replace XaB := XaB.below hb13
  replace Xw0 := Xw0.below hb13
  replace Xx0 := Xx0.below hb13
  replace Xx1 := Xx1.below hb13
  replace Xg0 := Xg0.below hb13
  have Fx00 := Xx0.cell (i := 0) rfl
  have Fx01 := Xx0.cell (i := 1) rfl
  have Fx02 := Xx0.cell (i := 2) rfl
  go_wp2_with fail
  refine (markRegister_any _ w4.heap.size w5.heap.size _ _ _ _ _ _ _ _ _ oS2 vS2 (by omega) (by omega) (by omega)).mono ?_
  clear oS2
  rintro e w14 ⟨rfl, oS2, hc14⟩
  clear Fx00 Fx01 Fx02
  have BB14 : Below w.heap.size w w14 := below_chg BB13 hc14 (by omega) (by omega)
  have s14 := hc14.size
  replace oS1 := own_chg oS1 hc14 (fun b hb => by have := vS1 b hb; omega)
  replace oS3 := own_chg oS3 hc14 (fun b hb => by have := vS3 b hb; omega)
  replace oS4 := own_chg oS4 hc14 (fun b hb => by have := vS4 b hb; omega)
  replace XaA := XaA.chg hc14 (by omega)
  replace XaB := XaB.chg hc14 (by omega)
  replace Xw0 := Xw0.chg hc14 (by omega)
  replace Xx0 := Xx0.chg hc14 (by omega)
  replace Xx1 := Xx1.chg hc14 (by omega)
  replace Xg0 := Xg0.chg hc14 (by omega)
  have Fx10 := Xx1.cell (i := 0) rfl
  have Fx11 := Xx1.cell (i := 1) rfl
  have Fx12 := Xx1.cell (i := 2) rfl
  go_wp2_with fail
  refine (markRegister_any _ w6.heap.size w7.heap.size _ _ _ _ _ _ _ _ _ oS3 vS3 (by omega) (by omega) (by omega)).mono ?_
  clear oS3
  rintro e w15 ⟨rfl, oS3, hc15⟩
  clear Fx10 Fx11 Fx12
  have BB15 : Below w.heap.size w w15 := below_chg BB14 hc15 (by omega) (by omega)
  have s15 := hc15.size
  replace oS1 := own_chg oS1 hc15 (fun b hb => by have := vS1 b hb; omega)
  replace oS2 := own_chg oS2 hc15 (fun b hb => by have := vS2 b hb; omega)
  replace oS4 := own_chg oS4 hc15 (fun b hb => by have := vS4 b hb; omega)
  replace XaA := XaA.chg hc15 (by omega)
  replace XaB := XaB.chg hc15 (by omega)
  replace Xw0 := Xw0.chg hc15 (by omega)
  replace Xx0 := Xx0.chg hc15 (by omega)
  replace Xx1 := Xx1.chg hc15 (by omega)
  replace Xg0 := Xg0.chg hc15 (by omega)
  have Fw00 := Xw0.cell (i := 0) rfl
  have Fw01 := Xw0.cell (i := 1) rfl
  have Fw02 := Xw0.cell (i := 2) rfl
  have Fg00 := Xg0.cell (i := 0) rfl
  have Fg01 := Xg0.cell (i := 1) rfl
  have Fg02 := Xg0.cell (i := 2) rfl
  go_wp2_with fail
  refine (eqRegister_any _ _ _ _ _ _ _ _ _ _ (own_rd oS4) (own_rd oS1)).mono ?_
  rintro e w16 ⟨rfl, hb16⟩
  clear Fw00 Fw01 Fw02 Fg00 Fg01 Fg02
  have BB16 : Below w.heap.size w w16 := BB15.trans (hb16.mono BB15.size)
  have s16 := hb16.size
  replace oS1 := own_below oS1 hb16
  replace oS2 := own_below oS2 hb16
  replace oS3 := own_below oS3 hb16
  replace oS4 := own_below oS4 hb16
  replace XaA := XaA.below hb16
  replace XaB := XaB.below hb16
  replace Xw0 := Xw0.below hb16
  replace Xx0 := Xx0.below hb16
  replace Xx1 := Xx1.below hb16
  replace Xg0 := Xg0.below hb16
  have Fg00 := Xg0.cell (i := 0) rfl
  have Fg01 := Xg0.cell (i := 1) rfl
  have Fg02 := Xg0.cell (i := 2) rfl
  go_wp2_with fail
  refine (markRegister_any _ w8.heap.size w9.heap.size _ _ _ _ _ _ _ _ _ oS4 vS4 (by omega) (by omega) (by omega)).mono ?_
  clear oS4
  rintro e w17 ⟨rfl, oS4, hc17⟩
  clear Fg00 Fg01 Fg02
  have BB17 : Below w.heap.size w w17 := below_chg BB16 hc17 (by omega) (by omega)
  have s17 := hc17.size
  replace oS1 := own_chg oS1 hc17 (fun b hb => by have := vS1 b hb; omega)
  replace oS2 := own_chg oS2 hc17 (fun b hb => by have := vS2 b hb; omega)
  replace oS3 := own_chg oS3 hc17 (fun b hb => by have := vS3 b hb; omega)
  replace XaA := XaA.chg hc17 (by omega)
  replace XaB := XaB.chg hc17 (by omega)
  replace Xw0 := Xw0.chg hc17 (by omega)
  replace Xx0 := Xx0.chg hc17 (by omega)
  replace Xx1 := Xx1.chg hc17 (by omega)
  replace Xg0 := Xg0.chg hc17 (by omega)
  have Fg00 := Xg0.cell (i := 0) rfl
  have Fg01 := Xg0.cell (i := 1) rfl
  have Fg02 := Xg0.cell (i := 2) rfl
  go_wp2_with fail
  refine (heldRegister_any _ _ _ _ _ _ _ (own_rd oS4) (by omega) (by omega) (by omega)).mono ?_
  rintro e w18 ⟨rfl, hb18⟩
  clear Fg00 Fg01 Fg02
  have BB18 : Below w.heap.size w w18 := BB17.trans (hb18.mono BB17.size)
  have s18 := hb18.size
  replace oS1 := own_below oS1 hb18
  replace oS2 := own_below oS2 hb18
  replace oS3 := own_below oS3 hb18
  replace oS4 := own_below oS4 hb18
  replace XaA := XaA.below hb18
  replace XaB := XaB.below hb18
  replace Xw0 := Xw0.below hb18
  replace Xx0 := Xx0.below hb18
  replace Xx1 := Xx1.below hb18
  replace Xg0 := Xg0.below hb18
  go_wp2_with fail
  obtain ⟨S, hSE, hSI⟩ : ∃ S : World → Prop, (∀ w1, S w1 → (w1.cell? ⟨w.heap.size, 0, none⟩ = some (.int .i64 rb0) ∧ w1.cell? ⟨w.heap.size, 1, none⟩ = some (.int .i64 rs0) ∧ w1.cell? ⟨w.heap.size, 2, none⟩ = some (.slice a0 len0 cap0) ∧ w1.cell? ⟨w.heap.size + 1, 0, none⟩ = some (.int .i64 rb1) ∧ w1.cell? ⟨w.heap.size + 1, 1, none⟩ = some (.int .i64 rs1) ∧ w1.cell? ⟨w.heap.size + 1, 2, none⟩ = some (.slice a1 len1 cap1))) ∧ (∀ wz9, Below w18.heap.size w18 wz9 → S wz9) :=
    ⟨fun w1 => w1.cell? ⟨w.heap.size, 0, none⟩ = some (.int .i64 rb0) ∧ w1.cell? ⟨w.heap.size, 1, none⟩ = some (.int .i64 rs0) ∧ w1.cell? ⟨w.heap.size, 2, none⟩ = some (.slice a0 len0 cap0) ∧ w1.cell? ⟨w.heap.size + 1, 0, none⟩ = some (.int .i64 rb1) ∧ w1.cell? ⟨w.heap.size + 1, 1, none⟩ = some (.int .i64 rs1) ∧ w1.cell? ⟨w.heap.size + 1, 2, none⟩ = some (.slice a1 len1 cap1), fun _ h => h, fun wz9 hb => ⟨(XaA.below hb).cell rfl, (XaA.below hb).cell rfl, (XaA.below hb).cell rfl, (XaB.below hb).cell rfl, (XaB.below hb).cell rfl, (XaB.below hb).cell rfl⟩⟩
  have HSE := Lib.hid hSE; have HSI := Lib.hid hSI
  clear hSE hSI
  go_cut [15, 16] (fun p c wx => ∃ (g : Nat) (A : Option Addr) (n c' lo hi : Nat), p = .pointer (some ⟨g, 0, none⟩) ∧ c = .int .i64 (mrgC rb0 rs0 z0 rb1 rs1 z1) ∧ Box wx g #[.int .i64 (mrgB rb0 rs0 z0 rb1 rs1 z1), .int .i64 (mrgS rb0 rs0 z0 rb1 rs1 z1), .slice A n c'] 51 ∧ wx.ownsRow w18.heap.size 66 7 (.slice A n c') n (ents (mrgL rb0 rs0 z0 rb1 rs1 z1)) ∧ n ≤ 1048576 ∧ (∀ b, (Value.slice A n c').ownBlock = some b → lo ≤ b ∧ b < hi) ∧ w18.heap.size ≤ lo ∧ hi ≤ wx.heap.size ∧ (g < lo ∨ hi ≤ g) ∧ w18.heap.size ≤ g ∧ g < wx.heap.size ∧ Below w18.heap.size w18 wx)
  case first =>
    refine wp_region_T2 (n := 11) S (fun _ => false) (by kernel_rfl) rfl ?_
    intro ops HOPS
    have hS := HSI.out _ (below_drewN' _ w18 1)
    refine wpAnyT_take 0 (.agg #[.int .i64 rb0, .int .i64 rs0, .slice a0 len0 cap0]) (by rw [HOPS.out]; rfl) (by rw [HOPS.out]; kernel_rfl) (by exact fun _ _ _ h => h) (by rfl) (fun w1 hS => by obtain ⟨q0, q1, q2, q3, q4, q5⟩ := HSE.out _ hS; go_simp) hS ?_
    go_simp
    refine wpAnyT_take 2 (.agg #[.int .i64 rb1, .int .i64 rs1, .slice a1 len1 cap1]) (by rw [HOPS.out]; rfl) (by rw [HOPS.out]; kernel_rfl) (by exact fun _ _ _ h => h) (by rfl) (fun w1 hS => by obtain ⟨q0, q1, q2, q3, q4, q5⟩ := HSE.out _ hS; go_simp) hS ?_
    go_simp
    replace hS : S w18.drew := hS
    obtain ⟨wd, hwd⟩ : ∃ wd : World, wd = w18.drew := ⟨_, rfl⟩
    have HBwd := Lib.hid (show Below w18.heap.size w18 wd from by rw [hwd]; exact below_drewN' _ w18 1)
    have hsd : w18.heap.size ≤ wd.heap.size := HBwd.out.size
    rw [← hwd] at hS ⊢
    clear hwd
    refine wpAnyT_two 1 8 (by rw [HOPS.out]; rfl) (by rw [HOPS.out]; rfl) (by rw [HOPS.out]; kernel_rfl) ?_ ?_
    · skip
      intro K' hK
      have HK := Lib.hid hK
      clear hK
      go_simp
      go_at_call 31
      refine (toRegister_any _ _ _ _ _ _ _ (hr0.below (BB18.trans (HBwd.out.mono BB18.size))) hlen0).mono ?_
      rintro e we0 ⟨AT, nT, cT, rfl, oT, hnT, hbwe0⟩
      have HBwe0 := Lib.hid (HBwd.out.trans (hbwe0.mono HBwd.out.size))
      have hzwe0 := hbwe0.size
      refine HK.out _ _ (.inr (HSI.out _ HBwe0.out)) ?_
      clear HK
      go_simp
      refine wpAnyT_two 3 8 (by rw [HOPS.out]; rfl) (by rw [HOPS.out]; rfl) (by rw [HOPS.out]; kernel_rfl) ?_ ?_
      · skip
        intro K' hK
        have HK := Lib.hid hK
        clear hK
        go_simp
        go_at_call 31
        refine (toRegister_any _ _ _ _ _ _ _ (hr1.below (BB18.trans (HBwe0.out.mono BB18.size))) hlen1).mono ?_
        rintro e we1 ⟨AT2, nT2, cT2, rfl, oT2, hnT2, hbwe1⟩
        replace oT := own_below oT hbwe1
        have HBwe1 := Lib.hid (HBwe0.out.trans (hbwe1.mono HBwe0.out.size))
        have hzwe1 := hbwe1.size
        refine HK.out _ _ (.inr (HSI.out _ HBwe1.out)) ?_
        clear HK
        go_simp
        refine wpAnyT_two 4 8 (by rw [HOPS.out]; rfl) (by rw [HOPS.out]; rfl) (by rw [HOPS.out]; kernel_rfl) ?_ ?_
        · skip
          intro K' hK
          have HK := Lib.hid hK
          clear hK
          go_simp
          (first | go_at_call 46 | go_at_call 47)
          refine (implMerge_any _ _ _ _ _ _ _ _ _ _ _ _ _ ⟨own_rd oT, own_capE oT⟩ ⟨own_rd oT2, own_capE oT2⟩).mono ?_
          rintro e we2 ⟨AS7, nS7, cS7, rfl, oS7, hnS7, hbwe2⟩
          have vS7 := oS7.lt
          have HBwe2 := Lib.hid (HBwe1.out.trans (hbwe2.mono HBwe1.out.size))
          have hzwe2 := hbwe2.size
          refine HK.out _ _ (.inr (HSI.out _ HBwe2.out)) ?_
          clear HK
          go_simp
          refine wpAnyT_take 5 (.tuple #[.agg #[.int .i64 (mrgB rb0 rs0 z0 rb1 rs1 z1), .int .i64 (mrgS rb0 rs0 z0 rb1 rs1 z1), .slice AS7 nS7 cS7], .int .i64 (mrgC rb0 rs0 z0 rb1 rs1 z1)]) (by rw [HOPS.out]; rfl) (by rw [HOPS.out]; kernel_rfl) (by exact fun _ _ _ h => h) (by rfl) (fun w1 hS => by go_simp) (HSI.out _ HBwe2.out) ?_
          go_simp
          refine wpAnyT_take 6 (.agg #[.int .i64 (mrgB rb0 rs0 z0 rb1 rs1 z1), .int .i64 (mrgS rb0 rs0 z0 rb1 rs1 z1), .slice AS7 nS7 cS7]) (by rw [HOPS.out]; rfl) (by rw [HOPS.out]; kernel_rfl) (by exact fun _ _ _ h => h) (by rfl) (fun w1 hS => by go_simp) (HSI.out _ HBwe2.out) ?_
          go_simp
          refine wpAnyT_take 7 (.int .i64 (mrgC rb0 rs0 z0 rb1 rs1 z1)) (by rw [HOPS.out]; rfl) (by rw [HOPS.out]; kernel_rfl) (by exact fun _ _ _ h => h) (by rfl) (fun w1 hS => by go_simp) (HSI.out _ HBwe2.out) ?_
          go_simp
          refine wpAnyT_one 8 (by rw [HOPS.out]; rfl) (by rw [HOPS.out]; kernel_rfl) ?_
          intro K' hK
          have HK := Lib.hid hK
          clear hK
          go_simp
          refine HK.out _ _ (.inr (HSI.out _ (HBwe2.out.alloc HBwe2.out.size _))) ?_
          clear HK
          obtain ⟨wg, hw_wg, XG, hbwg, hs_wg⟩ := one_box we2 #[.int .i64 0, .int .i64 0, .slice none 0 0] 51
          rw [← hw_wg]
          clear hw_wg
          have HBwg := Lib.hid (HBwe2.out.trans (hbwg.mono HBwe2.out.size))
          replace oS7 := own_below oS7 hbwg
          go_simp
          have hgP : w18.heap.size ≤ we2.heap.size := by omega
          have hch := put_chg (g := we2.heap.size) [.int .i64 (mrgB rb0 rs0 z0 rb1 rs1 z1), .int .i64 (mrgS rb0 rs0 z0 rb1 rs1 z1), .slice AS7 nS7 cS7] 0 (Chg.refl we2.heap.size (we2.heap.size + 1) wg) (by omega) (by omega)
          have HBS := Lib.hid (below_chg HBwg.out hch (by omega) (by omega))
          have HOS := Lib.hid (own_chg oS7 hch (fun b hb => by have := vS7 b hb; omega))
          have HXS := Lib.hid (((XG.set 0 (.int .i64 (mrgB rb0 rs0 z0 rb1 rs1 z1))).set 1 (.int .i64 (mrgS rb0 rs0 z0 rb1 rs1 z1))).set 2 (.slice AS7 nS7 cS7))
          have HZS := Lib.hid hch.size
          have FG := XG.f3
          have hgL := XG.lt
          clear hch
          refine wpAnyT_one 9 (by rw [HOPS.out]; rfl) (by rw [HOPS.out]; kernel_rfl) ?_
          intro K' hK
          have HK := Lib.hid hK
          clear hK
          go_simp
          refine HK.out _ _ (.inr (HSI.out _ HBS.out)) ?_
          clear HK
          go_simp
          refine wpAnyT_take 10 (.int .i64 (mrgC rb0 rs0 z0 rb1 rs1 z1)) (by rw [HOPS.out]; rfl) (by rw [HOPS.out]; kernel_rfl) (by exact fun _ _ _ h => h) (by rfl) (fun w1 hS => by go_simp) (HSI.out _ HBS.out) ?_
          go_simp
          refine wpAnyT_done (by rw [HOPS.out]; kernel_rfl) ?_ _
          go_wp2_with fail
          go_meet
          exact ⟨we2.heap.size, AS7, nS7, cS7, we1.heap.size, we2.heap.size, rfl, rfl, HXS.out, own_base HOS.out (by omega), hnS7, vS7, by omega, Nat.le_trans (show we2.heap.size ≤ wg.heap.size by omega) HZS.out, by omega, hgP, Nat.lt_of_lt_of_le hgL HZS.out, HBS.out⟩
        · skip
          intro K' hK
          have HK := Lib.hid hK
          clear hK
          go_simp
          refine HK.out _ _ (.inr (HSI.out _ (HBwe1.out.alloc HBwe1.out.size _))) ?_
          clear HK
          obtain ⟨wb, hw_wb, XG, hbwb, hs_wb⟩ := one_box we1 #[.int .i64 0, .int .i64 0, .slice none 0 0] 51
          rw [← hw_wb]
          clear hw_wb
          have HBwb := Lib.hid (HBwe1.out.trans (hbwb.mono HBwe1.out.size))
          replace oT := own_below oT hbwb
          replace oT2 := own_below oT2 hbwb
          go_simp
          refine wpAnyT_one 4 (by rw [HOPS.out]; rfl) (by rw [HOPS.out]; kernel_rfl) ?_
          intro K' hK
          have HK := Lib.hid hK
          clear hK
          go_simp
          (first | go_at_call 46 | go_at_call 47)
          refine (implMerge_any _ _ _ _ _ _ _ _ _ _ _ _ _ ⟨own_rd oT, own_capE oT⟩ ⟨own_rd oT2, own_capE oT2⟩).mono ?_
          rintro e we2 ⟨AS7, nS7, cS7, rfl, oS7, hnS7, hbwe2⟩
          have vS7 := oS7.lt
          have HBwe2 := Lib.hid (HBwb.out.trans (hbwe2.mono HBwb.out.size))
          have hzwe2 := hbwe2.size
          replace XG := XG.below hbwe2
          refine HK.out _ _ (.inr (HSI.out _ HBwe2.out)) ?_
          clear HK
          go_simp
          refine wpAnyT_take 5 (.tuple #[.agg #[.int .i64 (mrgB rb0 rs0 z0 rb1 rs1 z1), .int .i64 (mrgS rb0 rs0 z0 rb1 rs1 z1), .slice AS7 nS7 cS7], .int .i64 (mrgC rb0 rs0 z0 rb1 rs1 z1)]) (by rw [HOPS.out]; rfl) (by rw [HOPS.out]; kernel_rfl) (by exact fun _ _ _ h => h) (by rfl) (fun w1 hS => by go_simp) (HSI.out _ HBwe2.out) ?_
          go_simp
          refine wpAnyT_take 6 (.agg #[.int .i64 (mrgB rb0 rs0 z0 rb1 rs1 z1), .int .i64 (mrgS rb0 rs0 z0 rb1 rs1 z1), .slice AS7 nS7 cS7]) (by rw [HOPS.out]; rfl) (by rw [HOPS.out]; kernel_rfl) (by exact fun _ _ _ h => h) (by rfl) (fun w1 hS => by go_simp) (HSI.out _ HBwe2.out) ?_
          go_simp
          refine wpAnyT_take 7 (.int .i64 (mrgC rb0 rs0 z0 rb1 rs1 z1)) (by rw [HOPS.out]; rfl) (by rw [HOPS.out]; kernel_rfl) (by exact fun _ _ _ h => h) (by rfl) (fun w1 hS => by go_simp) (HSI.out _ HBwe2.out) ?_
          go_simp
          have hgP : w18.heap.size ≤ we1.heap.size := by omega
          have hch := put_chg (g := we1.heap.size) [.int .i64 (mrgB rb0 rs0 z0 rb1 rs1 z1), .int .i64 (mrgS rb0 rs0 z0 rb1 rs1 z1), .slice AS7 nS7 cS7] 0 (Chg.refl we1.heap.size (we1.heap.size + 1) we2) (by omega) (by omega)
          have HBS := Lib.hid (below_chg HBwe2.out hch (by omega) (by omega))
          have HOS := Lib.hid (own_chg oS7 hch (fun b hb => by have := vS7 b hb; omega))
          have HXS := Lib.hid (((XG.set 0 (.int .i64 (mrgB rb0 rs0 z0 rb1 rs1 z1))).set 1 (.int .i64 (mrgS rb0 rs0 z0 rb1 rs1 z1))).set 2 (.slice AS7 nS7 cS7))
          have HZS := Lib.hid hch.size
          have FG := XG.f3
          have hgL := XG.lt
          clear hch
          refine wpAnyT_one 9 (by rw [HOPS.out]; rfl) (by rw [HOPS.out]; kernel_rfl) ?_
          intro K' hK
          have HK := Lib.hid hK
          clear hK
          go_simp
          refine HK.out _ _ (.inr (HSI.out _ HBS.out)) ?_
          clear HK
          go_simp
          refine wpAnyT_take 10 (.int .i64 (mrgC rb0 rs0 z0 rb1 rs1 z1)) (by rw [HOPS.out]; rfl) (by rw [HOPS.out]; kernel_rfl) (by exact fun _ _ _ h => h) (by rfl) (fun w1 hS => by go_simp) (HSI.out _ HBS.out) ?_
          go_simp
          refine wpAnyT_done (by rw [HOPS.out]; kernel_rfl) ?_ _
          go_wp2_with fail
          go_meet
          exact ⟨we1.heap.size, AS7, nS7, cS7, wb.heap.size, we2.heap.size, rfl, rfl, HXS.out, own_base HOS.out (by omega), hnS7, vS7, by omega, Nat.le_trans (show we2.heap.size ≤ we2.heap.size by omega) HZS.out, by omega, hgP, Nat.lt_of_lt_of_le hgL HZS.out, HBS.out⟩
      · skip
        intro K' hK
        have HK := Lib.hid hK
        clear hK
        go_simp
        refine HK.out _ _ (.inr (HSI.out _ (HBwe0.out.alloc HBwe0.out.size _))) ?_
        clear HK
        obtain ⟨wb, hw_wb, XG, hbwb, hs_wb⟩ := one_box we0 #[.int .i64 0, .int .i64 0, .slice none 0 0] 51
        rw [← hw_wb]
        clear hw_wb
        have HBwb := Lib.hid (HBwe0.out.trans (hbwb.mono HBwe0.out.size))
        replace oT := own_below oT hbwb
        go_simp
        refine wpAnyT_one 3 (by rw [HOPS.out]; rfl) (by rw [HOPS.out]; kernel_rfl) ?_
        intro K' hK
        have HK := Lib.hid hK
        clear hK
        go_simp
        go_at_call 31
        refine (toRegister_any _ _ _ _ _ _ _ (hr1.below (BB18.trans (HBwb.out.mono BB18.size))) hlen1).mono ?_
        rintro e we1 ⟨AT2, nT2, cT2, rfl, oT2, hnT2, hbwe1⟩
        replace oT := own_below oT hbwe1
        have HBwe1 := Lib.hid (HBwb.out.trans (hbwe1.mono HBwb.out.size))
        have hzwe1 := hbwe1.size
        replace XG := XG.below hbwe1
        refine HK.out _ _ (.inr (HSI.out _ HBwe1.out)) ?_
        clear HK
        go_simp
        refine wpAnyT_one 4 (by rw [HOPS.out]; rfl) (by rw [HOPS.out]; kernel_rfl) ?_
        intro K' hK
        have HK := Lib.hid hK
        clear hK
        go_simp
        (first | go_at_call 46 | go_at_call 47)
        refine (implMerge_any _ _ _ _ _ _ _ _ _ _ _ _ _ ⟨own_rd oT, own_capE oT⟩ ⟨own_rd oT2, own_capE oT2⟩).mono ?_
        rintro e we2 ⟨AS7, nS7, cS7, rfl, oS7, hnS7, hbwe2⟩
        have vS7 := oS7.lt
        have HBwe2 := Lib.hid (HBwe1.out.trans (hbwe2.mono HBwe1.out.size))
        have hzwe2 := hbwe2.size
        replace XG := XG.below hbwe2
        refine HK.out _ _ (.inr (HSI.out _ HBwe2.out)) ?_
        clear HK
        go_simp
        refine wpAnyT_take 5 (.tuple #[.agg #[.int .i64 (mrgB rb0 rs0 z0 rb1 rs1 z1), .int .i64 (mrgS rb0 rs0 z0 rb1 rs1 z1), .slice AS7 nS7 cS7], .int .i64 (mrgC rb0 rs0 z0 rb1 rs1 z1)]) (by rw [HOPS.out]; rfl) (by rw [HOPS.out]; kernel_rfl) (by exact fun _ _ _ h => h) (by rfl) (fun w1 hS => by go_simp) (HSI.out _ HBwe2.out) ?_
        go_simp
        refine wpAnyT_take 6 (.agg #[.int .i64 (mrgB rb0 rs0 z0 rb1 rs1 z1), .int .i64 (mrgS rb0 rs0 z0 rb1 rs1 z1), .slice AS7 nS7 cS7]) (by rw [HOPS.out]; rfl) (by rw [HOPS.out]; kernel_rfl) (by exact fun _ _ _ h => h) (by rfl) (fun w1 hS => by go_simp) (HSI.out _ HBwe2.out) ?_
        go_simp
        refine wpAnyT_take 7 (.int .i64 (mrgC rb0 rs0 z0 rb1 rs1 z1)) (by rw [HOPS.out]; rfl) (by rw [HOPS.out]; kernel_rfl) (by exact fun _ _ _ h => h) (by rfl) (fun w1 hS => by go_simp) (HSI.out _ HBwe2.out) ?_
        go_simp
        have hgP : w18.heap.size ≤ we0.heap.size := by omega
        have hch := put_chg (g := we0.heap.size) [.int .i64 (mrgB rb0 rs0 z0 rb1 rs1 z1), .int .i64 (mrgS rb0 rs0 z0 rb1 rs1 z1), .slice AS7 nS7 cS7] 0 (Chg.refl we0.heap.size (we0.heap.size + 1) we2) (by omega) (by omega)
        have HBS := Lib.hid (below_chg HBwe2.out hch (by omega) (by omega))
        have HOS := Lib.hid (own_chg oS7 hch (fun b hb => by have := vS7 b hb; omega))
        have HXS := Lib.hid (((XG.set 0 (.int .i64 (mrgB rb0 rs0 z0 rb1 rs1 z1))).set 1 (.int .i64 (mrgS rb0 rs0 z0 rb1 rs1 z1))).set 2 (.slice AS7 nS7 cS7))
        have HZS := Lib.hid hch.size
        have FG := XG.f3
        have hgL := XG.lt
        clear hch
        refine wpAnyT_one 9 (by rw [HOPS.out]; rfl) (by rw [HOPS.out]; kernel_rfl) ?_
        intro K' hK
        have HK := Lib.hid hK
        clear hK
        go_simp
        refine HK.out _ _ (.inr (HSI.out _ HBS.out)) ?_
        clear HK
        go_simp
        refine wpAnyT_take 10 (.int .i64 (mrgC rb0 rs0 z0 rb1 rs1 z1)) (by rw [HOPS.out]; rfl) (by rw [HOPS.out]; kernel_rfl) (by exact fun _ _ _ h => h) (by rfl) (fun w1 hS => by go_simp) (HSI.out _ HBS.out) ?_
        go_simp
        refine wpAnyT_done (by rw [HOPS.out]; kernel_rfl) ?_ _
        go_wp2_with fail
        go_meet
        exact ⟨we0.heap.size, AS7, nS7, cS7, we1.heap.size, we2.heap.size, rfl, rfl, HXS.out, own_base HOS.out (by omega), hnS7, vS7, by omega, Nat.le_trans (show we2.heap.size ≤ we2.heap.size by omega) HZS.out, by omega, hgP, Nat.lt_of_lt_of_le hgL HZS.out, HBS.out⟩
    · skip
      intro K' hK
      have HK := Lib.hid hK
      clear hK
      go_simp
      refine HK.out _ _ (.inr (HSI.out _ (HBwd.out.alloc HBwd.out.size _))) ?_
      clear HK
      obtain ⟨wb, hw_wb, XG, hbwb, hs_wb⟩ := one_box wd #[.int .i64 0, .int .i64 0, .slice none 0 0] 51
      rw [← hw_wb]
      clear hw_wb
      have HBwb := Lib.hid (HBwd.out.trans (hbwb.mono HBwd.out.size))
      go_simp
      refine wpAnyT_one 1 (by rw [HOPS.out]; rfl) (by rw [HOPS.out]; kernel_rfl) ?_
      intro K' hK
      have HK := Lib.hid hK
      clear hK
      go_simp
      go_at_call 31
      refine (toRegister_any _ _ _ _ _ _ _ (hr0.below (BB18.trans (HBwb.out.mono BB18.size))) hlen0).mono ?_
      rintro e we0 ⟨AT, nT, cT, rfl, oT, hnT, hbwe0⟩
      have HBwe0 := Lib.hid (HBwb.out.trans (hbwe0.mono HBwb.out.size))
      have hzwe0 := hbwe0.size
      replace XG := XG.below hbwe0
      refine HK.out _ _ (.inr (HSI.out _ HBwe0.out)) ?_
      clear HK
      go_simp
      refine wpAnyT_one 3 (by rw [HOPS.out]; rfl) (by rw [HOPS.out]; kernel_rfl) ?_
      intro K' hK
      have HK := Lib.hid hK
      clear hK
      go_simp
      go_at_call 31
      refine (toRegister_any _ _ _ _ _ _ _ (hr1.below (BB18.trans (HBwe0.out.mono BB18.size))) hlen1).mono ?_
      rintro e we1 ⟨AT2, nT2, cT2, rfl, oT2, hnT2, hbwe1⟩
      replace oT := own_below oT hbwe1
      have HBwe1 := Lib.hid (HBwe0.out.trans (hbwe1.mono HBwe0.out.size))
      have hzwe1 := hbwe1.size
      replace XG := XG.below hbwe1
      refine HK.out _ _ (.inr (HSI.out _ HBwe1.out)) ?_
      clear HK
      go_simp
      refine wpAnyT_one 4 (by rw [HOPS.out]; rfl) (by rw [HOPS.out]; kernel_rfl) ?_
      intro K' hK
      have HK := Lib.hid hK
      clear hK
      go_simp
      (first | go_at_call 46 | go_at_call 47)
      refine (implMerge_any _ _ _ _ _ _ _ _ _ _ _ _ _ ⟨own_rd oT, own_capE oT⟩ ⟨own_rd oT2, own_capE oT2⟩).mono ?_
      rintro e we2 ⟨AS7, nS7, cS7, rfl, oS7, hnS7, hbwe2⟩
      have vS7 := oS7.lt
      have HBwe2 := Lib.hid (HBwe1.out.trans (hbwe2.mono HBwe1.out.size))
      have hzwe2 := hbwe2.size
      replace XG := XG.below hbwe2
      refine HK.out _ _ (.inr (HSI.out _ HBwe2.out)) ?_
      clear HK
      go_simp
      refine wpAnyT_take 5 (.tuple #[.agg #[.int .i64 (mrgB rb0 rs0 z0 rb1 rs1 z1), .int .i64 (mrgS rb0 rs0 z0 rb1 rs1 z1), .slice AS7 nS7 cS7], .int .i64 (mrgC rb0 rs0 z0 rb1 rs1 z1)]) (by rw [HOPS.out]; rfl) (by rw [HOPS.out]; kernel_rfl) (by exact fun _ _ _ h => h) (by rfl) (fun w1 hS => by go_simp) (HSI.out _ HBwe2.out) ?_
      go_simp
      refine wpAnyT_take 6 (.agg #[.int .i64 (mrgB rb0 rs0 z0 rb1 rs1 z1), .int .i64 (mrgS rb0 rs0 z0 rb1 rs1 z1), .slice AS7 nS7 cS7]) (by rw [HOPS.out]; rfl) (by rw [HOPS.out]; kernel_rfl) (by exact fun _ _ _ h => h) (by rfl) (fun w1 hS => by go_simp) (HSI.out _ HBwe2.out) ?_
      go_simp
      refine wpAnyT_take 7 (.int .i64 (mrgC rb0 rs0 z0 rb1 rs1 z1)) (by rw [HOPS.out]; rfl) (by rw [HOPS.out]; kernel_rfl) (by exact fun _ _ _ h => h) (by rfl) (fun w1 hS => by go_simp) (HSI.out _ HBwe2.out) ?_
      go_simp
      have hgP : w18.heap.size ≤ wd.heap.size := by omega
      have hch := put_chg (g := wd.heap.size) [.int .i64 (mrgB rb0 rs0 z0 rb1 rs1 z1), .int .i64 (mrgS rb0 rs0 z0 rb1 rs1 z1), .slice AS7 nS7 cS7] 0 (Chg.refl wd.heap.size (wd.heap.size + 1) we2) (by omega) (by omega)
      have HBS := Lib.hid (below_chg HBwe2.out hch (by omega) (by omega))
      have HOS := Lib.hid (own_chg oS7 hch (fun b hb => by have := vS7 b hb; omega))
      have HXS := Lib.hid (((XG.set 0 (.int .i64 (mrgB rb0 rs0 z0 rb1 rs1 z1))).set 1 (.int .i64 (mrgS rb0 rs0 z0 rb1 rs1 z1))).set 2 (.slice AS7 nS7 cS7))
      have HZS := Lib.hid hch.size
      have FG := XG.f3
      have hgL := XG.lt
      clear hch
      refine wpAnyT_one 9 (by rw [HOPS.out]; rfl) (by rw [HOPS.out]; kernel_rfl) ?_
      intro K' hK
      have HK := Lib.hid hK
      clear hK
      go_simp
      refine HK.out _ _ (.inr (HSI.out _ HBS.out)) ?_
      clear HK
      go_simp
      refine wpAnyT_take 10 (.int .i64 (mrgC rb0 rs0 z0 rb1 rs1 z1)) (by rw [HOPS.out]; rfl) (by rw [HOPS.out]; kernel_rfl) (by exact fun _ _ _ h => h) (by rfl) (fun w1 hS => by go_simp) (HSI.out _ HBS.out) ?_
      go_simp
      refine wpAnyT_done (by rw [HOPS.out]; kernel_rfl) ?_ _
      go_wp2_with fail
      go_meet
      exact ⟨wd.heap.size, AS7, nS7, cS7, we1.heap.size, we2.heap.size, rfl, rfl, HXS.out, own_base HOS.out (by omega), hnS7, vS7, by omega, Nat.le_trans (show we2.heap.size ≤ we2.heap.size by omega) HZS.out, by omega, hgP, Nat.lt_of_lt_of_le hgL HZS.out, HBS.out⟩
  obtain ⟨gS7, AS7, nS7, cS7, loS7, hiS7, rfl, rfl, Xh0, oS7, hnS7, vS7, hloS7, hhiS7, hsepS7, hgPS7, hgLS7, hb19⟩ := hcut
  obtain ⟨w19, hww19⟩ : ∃ wz : World, wz = wc := ⟨_, rfl⟩
  subst hww19
  clear HSE HSI
  have BB19 : Below w.heap.size w w19 := BB18.trans (hb19.mono BB18.size)
  have s19 := hb19.size
  replace oS1 := own_below oS1 hb19
  replace oS2 := own_below oS2 hb19
  replace oS3 := own_below oS3 hb19
  replace oS4 := own_below oS4 hb19
  replace XaA := XaA.below hb19
  replace XaB := XaB.below hb19
  replace Xw0 := Xw0.below hb19
  replace Xx0 := Xx0.below hb19
  replace Xx1 := Xx1.below hb19
  replace Xg0 := Xg0.below hb19
  have Fw00 := Xw0.cell (i := 0) rfl
  have Fw01 := Xw0.cell (i := 1) rfl
  have Fw02 := Xw0.cell (i := 2) rfl
  have Fh00 := Xh0.cell (i := 0) rfl
  have Fh01 := Xh0.cell (i := 1) rfl
  have Fh02 := Xh0.cell (i := 2) rfl
  go_wp2_with fail
  refine (eqRegister_any _ _ _ _ _ _ _ _ _ _ (own_rd oS7) (own_rd oS1)).mono ?_
  rintro e w20 ⟨rfl, hb20⟩
  clear Fw00 Fw01 Fw02 Fh00 Fh01 Fh02
  have BB20 : Below w.heap.size w w20 := BB19.trans (hb20.mono BB19.size)
  have s20 := hb20.size
  replace oS1 := own_below oS1 hb20
  replace oS2 := own_below oS2 hb20
  replace oS3 := own_below oS3 hb20
  replace oS4 := own_below oS4 hb20
  replace oS7 := own_below oS7 hb20
  replace XaA := XaA.below hb20
  replace XaB := XaB.below hb20
  replace Xw0 := Xw0.below hb20
  replace Xx0 := Xx0.below hb20
  replace Xx1 := Xx1.below hb20
  replace Xg0 := Xg0.below hb20
  replace Xh0 := Xh0.below hb20
  have Fg00 := Xg0.cell (i := 0) rfl
  have Fg01 := Xg0.cell (i := 1) rfl
  have Fg02 := Xg0.cell (i := 2) rfl
  go_wp2_with fail
  refine (heldRegister_any _ _ _ _ _ _ _ (own_rd oS4) (by omega) (by omega) (by omega)).mono ?_
  rintro e w21 ⟨rfl, hb21⟩
  clear Fg00 Fg01 Fg02
  have BB21 : Below w.heap.size w w21 := BB20.trans (hb21.mono BB20.size)
  have s21 := hb21.size
  replace oS1 := own_below oS1 hb21
  replace oS2 := own_below oS2 hb21
  replace oS3 := own_below oS3 hb21
  replace oS4 := own_below oS4 hb21
  replace oS7 := own_below oS7 hb21
  replace XaA := XaA.below hb21
  replace XaB := XaB.below hb21
  replace Xw0 := Xw0.below hb21
  replace Xx0 := Xx0.below hb21
  replace Xx1 := Xx1.below hb21
  replace Xg0 := Xg0.below hb21
  replace Xh0 := Xh0.below hb21
  go_wp2_with fail
  go_ret
  exact ⟨rfl, BB21⟩
end Go.Proofs.Ytdldcjnidajmpaa

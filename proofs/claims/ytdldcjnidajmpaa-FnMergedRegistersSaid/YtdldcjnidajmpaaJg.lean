/- Walks: a register with one more entry, the spec (chapter 33). -/
import Derived.Test.YtdldcjnidajmpaaZmd
namespace Go.Proofs.Ytdldcjnidajmpaa
open Go.RowKit Go.Sort Go.Lib
set_option linter.unusedVariables false
set_option maxRecDepth 100000

set_option maxHeartbeats 2000000 in
theorem l33Add_any (b s : Int) (A : Option Addr) (n c : Nat) (xs : List EntryT) (x0 x1 x2 x3 x4 x5 x6 : Int) (w : World) (h1 : Rd w 7 A n (ents xs)) (hnm : n + 1 ≤ 1048576) :
    Calls Try.prog 102 #[.agg #[.int .i64 b, .int .i64 s, .slice A n c], .agg #[.int .i64 x0, .int .i64 x1, .int .i64 x2, .int .i64 x3, .int .i64 x4, .int .i64 x5, .int .i64 x6]] w (RetReg w b s (xs ++ [(x0, x1, x2, x3, x4, x5, x6)])) := by
  obtain ⟨w1, hw1, X0, X1, X2, hb1, hs1⟩ := three_boxes w #[.int .i64 b, .int .i64 s, .slice A n c] #[.int .i64 x0, .int .i64 x1, .int .i64 x2, .int .i64 x3, .int .i64 x4, .int .i64 x5, .int .i64 x6] #[.int .i64 0, .int .i64 0, .slice none 0 0] 51 66 51
  have HB1 := Lib.hid hb1
  have HR1 := Lib.hid (fun w' (hb : Below w.heap.size w w') => h1.below hb)
  obtain ⟨S, hSE, hSI⟩ : ∃ S : World → Prop, (∀ w1, S w1 → (w1.cell? ⟨w.heap.size, 0, none⟩ = some (.int .i64 b) ∧ w1.cell? ⟨w.heap.size, 1, none⟩ = some (.int .i64 s) ∧ w1.cell? ⟨w.heap.size, 2, none⟩ = some (.slice A n c) ∧ w1.cell? ⟨w.heap.size + 1, 0, none⟩ = some (.int .i64 x0) ∧ w1.cell? ⟨w.heap.size + 1, 1, none⟩ = some (.int .i64 x1) ∧ w1.cell? ⟨w.heap.size + 1, 2, none⟩ = some (.int .i64 x2) ∧ w1.cell? ⟨w.heap.size + 1, 3, none⟩ = some (.int .i64 x3) ∧ w1.cell? ⟨w.heap.size + 1, 4, none⟩ = some (.int .i64 x4) ∧ w1.cell? ⟨w.heap.size + 1, 5, none⟩ = some (.int .i64 x5) ∧ w1.cell? ⟨w.heap.size + 1, 6, none⟩ = some (.int .i64 x6))) ∧ (∀ w2, Below w1.heap.size w1 w2 → S w2) :=
    ⟨fun w1 => w1.cell? ⟨w.heap.size, 0, none⟩ = some (.int .i64 b) ∧ w1.cell? ⟨w.heap.size, 1, none⟩ = some (.int .i64 s) ∧ w1.cell? ⟨w.heap.size, 2, none⟩ = some (.slice A n c) ∧ w1.cell? ⟨w.heap.size + 1, 0, none⟩ = some (.int .i64 x0) ∧ w1.cell? ⟨w.heap.size + 1, 1, none⟩ = some (.int .i64 x1) ∧ w1.cell? ⟨w.heap.size + 1, 2, none⟩ = some (.int .i64 x2) ∧ w1.cell? ⟨w.heap.size + 1, 3, none⟩ = some (.int .i64 x3) ∧ w1.cell? ⟨w.heap.size + 1, 4, none⟩ = some (.int .i64 x4) ∧ w1.cell? ⟨w.heap.size + 1, 5, none⟩ = some (.int .i64 x5) ∧ w1.cell? ⟨w.heap.size + 1, 6, none⟩ = some (.int .i64 x6), fun _ h => h, fun w2 hb => ⟨(X0.below hb).cell rfl, (X0.below hb).cell rfl, (X0.below hb).cell rfl, (X1.below hb).cell rfl, (X1.below hb).cell rfl, (X1.below hb).cell rfl, (X1.below hb).cell rfl, (X1.below hb).cell rfl, (X1.below hb).cell rfl, (X1.below hb).cell rfl⟩⟩
  have HSE := Lib.hid hSE; have HSI := Lib.hid hSI
  clear hSE hSI
  have HX0 := Lib.hid X0; have HX1 := Lib.hid X1; have HX2 := Lib.hid X2
  have F0 := X0.f3
  clear h1 hb1 X0 X1 X2
  go_enter Try.func102, Try.ntmps102
  go_wp2_with fail
  rw [← hw1]
  clear hw1
  go_wp2_with fail
  clear F0
  refine wp_region_T2 (n := 13) S (fun j => decide (12 ≤ j)) (by kernel_rfl) rfl ?_
  intro ops HOPS
  have hS := HSI.out _ (below_drewN' _ w1 1)
  refine wpAnyT_take 0 (.pointer (some ⟨w.heap.size, 0, none⟩)) (by rw [HOPS.out]; rfl) (by rw [HOPS.out]; kernel_rfl) (by exact fun _ _ _ h => h) (by rfl) (fun w1 hS => by go_simp) hS ?_
  go_simp
  refine wpAnyT_take 1 (.int .i64 b) (by rw [HOPS.out]; rfl) (by rw [HOPS.out]; kernel_rfl) (by exact fun _ _ _ h => h) (by rfl) (fun w1 hS => by obtain ⟨q0, q1, q2, p0, p1, p2, p3, p4, p5, p6⟩ := HSE.out _ hS; go_simp) hS ?_
  go_simp
  refine wpAnyT_take 2 (.pointer (some ⟨w.heap.size, 1, none⟩)) (by rw [HOPS.out]; rfl) (by rw [HOPS.out]; kernel_rfl) (by exact fun _ _ _ h => h) (by rfl) (fun w1 hS => by go_simp) hS ?_
  go_simp
  refine wpAnyT_take 3 (.int .i64 s) (by rw [HOPS.out]; rfl) (by rw [HOPS.out]; kernel_rfl) (by exact fun _ _ _ h => h) (by rfl) (fun w1 hS => by obtain ⟨q0, q1, q2, p0, p1, p2, p3, p4, p5, p6⟩ := HSE.out _ hS; go_simp) hS ?_
  go_simp
  refine wpAnyT_take 5 (.pointer (some ⟨w.heap.size, 2, none⟩)) (by rw [HOPS.out]; rfl) (by rw [HOPS.out]; kernel_rfl) (by exact fun _ _ _ h => h) (by rfl) (fun w1 hS => by go_simp) hS ?_
  go_simp
  refine wpAnyT_take 6 (.slice A n c) (by rw [HOPS.out]; rfl) (by rw [HOPS.out]; kernel_rfl) (by exact fun _ _ _ h => h) (by rfl) (fun w1 hS => by obtain ⟨q0, q1, q2, p0, p1, p2, p3, p4, p5, p6⟩ := HSE.out _ hS; go_simp) hS ?_
  go_simp
  refine wpAnyT_take 8 (.agg #[.int .i64 x0, .int .i64 x1, .int .i64 x2, .int .i64 x3, .int .i64 x4, .int .i64 x5, .int .i64 x6]) (by rw [HOPS.out]; rfl) (by rw [HOPS.out]; kernel_rfl) (by exact fun _ _ _ h => h) (by rfl) (fun w1 hS => by obtain ⟨q0, q1, q2, p0, p1, p2, p3, p4, p5, p6⟩ := HSE.out _ hS; go_simp) hS ?_
  go_simp
  replace hS : S w1.drew := hS
  obtain ⟨wd, hwd⟩ : ∃ wd : World, wd = w1.drew := ⟨_, rfl⟩
  have HB_wd := Lib.hid (show Below w1.heap.size w1 wd from by rw [hwd]; exact below_drewN' _ w1 1)
  have hsd : wd.heap.size = w1.heap.size := by rw [hwd]; rfl
  rw [← hwd] at hS ⊢
  clear hwd
  rw [hs1] at hsd
  refine wpAnyT_two 4 9 (by rw [HOPS.out]; rfl) (by rw [HOPS.out]; rfl) (by rw [HOPS.out]; kernel_rfl) ?_ ?_
  · intro K' hK
    have HK := Lib.hid hK
    clear hK
    go_simp
    refine HK.out _ _ (.inr (HSI.out _ (HB_wd.out.alloc HB_wd.out.size _))) ?_
    clear HK
    have oe_wa := own_emptyE wd w1.heap.size 66 7 HB_wd.out.size
    obtain ⟨wa, hw_wa, XX_wa, hb_wa, hs_wa⟩ := one_box wd #[] 66
    rw [← hw_wa] at oe_wa ⊢
    clear hw_wa
    have HB_wa := Lib.hid (HB_wd.out.trans (hb_wa.mono HB_wd.out.size))
    rw [hsd] at oe_wa hs_wa
    have HO := Lib.hid oe_wa
    clear XX_wa oe_wa
    go_simp
    refine wpAnyT_two 7 9 (by rw [HOPS.out]; rfl) (by rw [HOPS.out]; rfl) (by rw [HOPS.out]; kernel_rfl) ?_ ?_
    · intro K' hK
      have HK := Lib.hid hK
      clear hK
      refine step_apps _ (by rfl) _ _ (by rfl) (xs := []) (by rfl) HO.out (by rfl) (HR1.out _ (HB1.out.trans (HB_wa.out.mono HB1.out.size))) (by omega) HB_wa.out.size ?_
      intro A7 c7 wb ho_wb hg_wb
      simp only [Nat.zero_add, List.nil_append] at ho_wb ⊢
      have HB_wb := Lib.hid (HB_wa.out.grown hg_wb HB_wa.out.size (fun k hk => (HO.out.lt k hk).1))
      replace HO := Lib.hid ho_wb
      clear ho_wb hg_wb
      refine HK.out _ _ (.inr (HSI.out _ HB_wb.out)) ?_
      clear HK
      go_simp
      refine wpAnyT_one 9 (by rw [HOPS.out]; rfl) (by rw [HOPS.out]; kernel_rfl) ?_
      intro K' hK
      have HK := Lib.hid hK
      clear hK
      go_simp
      refine HK.out _ _ (.inr (HSI.out _ (HB_wb.out.alloc HB_wb.out.size _))) ?_
      clear HK
      obtain ⟨wc, hw_wc, XX_wc, hb_wc, hs_wc⟩ := one_box wb #[.int .i64 x0, .int .i64 x1, .int .i64 x2, .int .i64 x3, .int .i64 x4, .int .i64 x5, .int .i64 x6] 66
      rw [← hw_wc]
      clear hw_wc
      have HB_wc := Lib.hid (HB_wb.out.trans (hb_wc.mono HB_wb.out.size))
      have HX := Lib.hid XX_wc
      clear XX_wc
      replace HO := Lib.hid (own_below HO.out hb_wc)
      go_simp
      refine wpAnyT_one 10 (by rw [HOPS.out]; rfl) (by rw [HOPS.out]; kernel_rfl) ?_
      intro K' hK
      have HK := Lib.hid hK
      clear hK
      refine step_ent (x0 := x0) (x1 := x1) (x2 := x2) (x3 := x3) (x4 := x4) (x5 := x5) (x6 := x6) _ (by rfl) _ _ (by rfl) (by rfl) HO.out (by rfl) HX.out (by omega) HB_wc.out.size ?_
      intro g10 c10 we ho_we hg_we _ _
      have HB_we := Lib.hid (HB_wc.out.grown hg_we HB_wc.out.size (fun k hk => (HO.out.lt k hk).1))
      replace HO := Lib.hid ho_we
      clear ho_we hg_we HX
      refine HK.out _ _ (.inr (HSI.out _ HB_we.out)) ?_
      clear HK
      go_simp
      refine wpAnyT_take 11 (.agg #[.int .i64 b, .int .i64 s, .slice (some ⟨g10, 0, none⟩) (n + 1) c10]) (by rw [HOPS.out]; rfl) (by rw [HOPS.out]; kernel_rfl) (by exact fun _ _ _ h => h) (by rfl) (fun w1 hS => by go_simp) (HSI.out _ HB_we.out) ?_
      go_simp
      have F1 := (HX2.out.below HB_we.out).f3
      refine wpAnyT_one 12 (by rw [HOPS.out]; rfl) (by rw [HOPS.out]; kernel_rfl) ?_
      intro K' hK
      have HK := Lib.hid hK
      clear hK
      go_simp
      refine HK.out _ _ (.inl (by decide)) ?_
      clear HK
      go_simp
      refine wpAnyT_done (by rw [HOPS.out]; kernel_rfl) ?_ _
      go_wp2_with fail
      refine bodyPost_ret (v := .agg #[.int .i64 b, .int .i64 s, .slice (some ⟨g10, 0, none⟩) (n + 1) c10]) (by simp [results, Try.results102, go_sem, F1]) rfl ?_
      have hch := put_chg (g := w.heap.size + 1 + 1) [.int .i64 b, .int .i64 s, .slice (some ⟨g10, 0, none⟩) (n + 1) c10] 0 (Chg.refl (w.heap.size + 1 + 1) (w.heap.size + 1 + 1 + 1) we) (by omega) (by omega)
      have hsz := HB_we.out.size
      exact ⟨_, _, _, rfl, own_base (own_chg HO.out hch (fun b hb => .inr (by have := (HO.out.lt b hb).1; omega))) (by omega), by omega, below_chg (HB1.out.trans (HB_we.out.mono HB1.out.size)) hch (by omega) (by omega)⟩
    · intro K' hK
      have HK := Lib.hid hK
      clear hK
      go_simp
      refine HK.out _ _ (.inr (HSI.out _ (HB_wa.out.alloc HB_wa.out.size _))) ?_
      clear HK
      obtain ⟨wb, hw_wb, XX_wb, hb_wb, hs_wb⟩ := one_box wa #[.int .i64 x0, .int .i64 x1, .int .i64 x2, .int .i64 x3, .int .i64 x4, .int .i64 x5, .int .i64 x6] 66
      rw [← hw_wb]
      clear hw_wb
      have HB_wb := Lib.hid (HB_wa.out.trans (hb_wb.mono HB_wa.out.size))
      rw [hs_wa] at XX_wb hs_wb
      have HX := Lib.hid XX_wb
      clear XX_wb
      replace HO := Lib.hid (own_below HO.out hb_wb)
      go_simp
      refine wpAnyT_one 7 (by rw [HOPS.out]; rfl) (by rw [HOPS.out]; kernel_rfl) ?_
      intro K' hK
      have HK := Lib.hid hK
      clear hK
      refine step_apps _ (by rfl) _ _ (by rfl) (xs := []) (by rfl) HO.out (by rfl) (HR1.out _ (HB1.out.trans (HB_wb.out.mono HB1.out.size))) (by omega) HB_wb.out.size ?_
      intro A7 c7 wc ho_wc hg_wc
      simp only [Nat.zero_add, List.nil_append] at ho_wc ⊢
      have HB_wc := Lib.hid (HB_wb.out.grown hg_wc HB_wb.out.size (fun k hk => (HO.out.lt k hk).1))
      replace HX := Lib.hid (HX.out.grown hg_wc (by simp [Value.ownBlock]))
      replace HO := Lib.hid ho_wc
      clear ho_wc hg_wc
      refine HK.out _ _ (.inr (HSI.out _ HB_wc.out)) ?_
      clear HK
      go_simp
      refine wpAnyT_one 10 (by rw [HOPS.out]; rfl) (by rw [HOPS.out]; kernel_rfl) ?_
      intro K' hK
      have HK := Lib.hid hK
      clear hK
      refine step_ent (x0 := x0) (x1 := x1) (x2 := x2) (x3 := x3) (x4 := x4) (x5 := x5) (x6 := x6) _ (by rfl) _ _ (by rfl) (by rfl) HO.out (by rfl) HX.out (by omega) HB_wc.out.size ?_
      intro g10 c10 we ho_we hg_we _ _
      have HB_we := Lib.hid (HB_wc.out.grown hg_we HB_wc.out.size (fun k hk => (HO.out.lt k hk).1))
      replace HO := Lib.hid ho_we
      clear ho_we hg_we HX
      refine HK.out _ _ (.inr (HSI.out _ HB_we.out)) ?_
      clear HK
      go_simp
      refine wpAnyT_take 11 (.agg #[.int .i64 b, .int .i64 s, .slice (some ⟨g10, 0, none⟩) (n + 1) c10]) (by rw [HOPS.out]; rfl) (by rw [HOPS.out]; kernel_rfl) (by exact fun _ _ _ h => h) (by rfl) (fun w1 hS => by go_simp) (HSI.out _ HB_we.out) ?_
      go_simp
      have F1 := (HX2.out.below HB_we.out).f3
      refine wpAnyT_one 12 (by rw [HOPS.out]; rfl) (by rw [HOPS.out]; kernel_rfl) ?_
      intro K' hK
      have HK := Lib.hid hK
      clear hK
      go_simp
      refine HK.out _ _ (.inl (by decide)) ?_
      clear HK
      go_simp
      refine wpAnyT_done (by rw [HOPS.out]; kernel_rfl) ?_ _
      go_wp2_with fail
      refine bodyPost_ret (v := .agg #[.int .i64 b, .int .i64 s, .slice (some ⟨g10, 0, none⟩) (n + 1) c10]) (by simp [results, Try.results102, go_sem, F1]) rfl ?_
      have hch := put_chg (g := w.heap.size + 1 + 1) [.int .i64 b, .int .i64 s, .slice (some ⟨g10, 0, none⟩) (n + 1) c10] 0 (Chg.refl (w.heap.size + 1 + 1) (w.heap.size + 1 + 1 + 1) we) (by omega) (by omega)
      have hsz := HB_we.out.size
      exact ⟨_, _, _, rfl, own_base (own_chg HO.out hch (fun b hb => .inr (by have := (HO.out.lt b hb).1; omega))) (by omega), by omega, below_chg (HB1.out.trans (HB_we.out.mono HB1.out.size)) hch (by omega) (by omega)⟩
  · intro K' hK
    have HK := Lib.hid hK
    clear hK
    go_simp
    refine HK.out _ _ (.inr (HSI.out _ (HB_wd.out.alloc HB_wd.out.size _))) ?_
    clear HK
    obtain ⟨wa, hw_wa, XX_wa, hb_wa, hs_wa⟩ := one_box wd #[.int .i64 x0, .int .i64 x1, .int .i64 x2, .int .i64 x3, .int .i64 x4, .int .i64 x5, .int .i64 x6] 66
    rw [← hw_wa]
    clear hw_wa
    have HB_wa := Lib.hid (HB_wd.out.trans (hb_wa.mono HB_wd.out.size))
    rw [hsd] at XX_wa hs_wa
    have HX := Lib.hid XX_wa
    clear XX_wa
    go_simp
    refine wpAnyT_one 4 (by rw [HOPS.out]; rfl) (by rw [HOPS.out]; kernel_rfl) ?_
    intro K' hK
    have HK := Lib.hid hK
    clear hK
    go_simp
    refine HK.out _ _ (.inr (HSI.out _ (HB_wa.out.alloc HB_wa.out.size _))) ?_
    clear HK
    have oe_wb := own_emptyE wa w1.heap.size 66 7 HB_wa.out.size
    obtain ⟨wb, hw_wb, XX_wb, hb_wb, hs_wb⟩ := one_box wa #[] 66
    rw [← hw_wb] at oe_wb ⊢
    clear hw_wb
    have HB_wb := Lib.hid (HB_wa.out.trans (hb_wb.mono HB_wa.out.size))
    rw [hs_wa] at oe_wb hs_wb
    have HO := Lib.hid oe_wb
    replace HX := Lib.hid (HX.out.below hb_wb)
    clear XX_wb oe_wb
    go_simp
    refine wpAnyT_one 7 (by rw [HOPS.out]; rfl) (by rw [HOPS.out]; kernel_rfl) ?_
    intro K' hK
    have HK := Lib.hid hK
    clear hK
    refine step_apps _ (by rfl) _ _ (by rfl) (xs := []) (by rfl) HO.out (by rfl) (HR1.out _ (HB1.out.trans (HB_wb.out.mono HB1.out.size))) (by omega) HB_wb.out.size ?_
    intro A7 c7 wc ho_wc hg_wc
    simp only [Nat.zero_add, List.nil_append] at ho_wc ⊢
    have HB_wc := Lib.hid (HB_wb.out.grown hg_wc HB_wb.out.size (fun k hk => (HO.out.lt k hk).1))
    replace HX := Lib.hid (HX.out.grown hg_wc (by simp [Value.ownBlock]))
    replace HO := Lib.hid ho_wc
    clear ho_wc hg_wc
    refine HK.out _ _ (.inr (HSI.out _ HB_wc.out)) ?_
    clear HK
    go_simp
    refine wpAnyT_one 10 (by rw [HOPS.out]; rfl) (by rw [HOPS.out]; kernel_rfl) ?_
    intro K' hK
    have HK := Lib.hid hK
    clear hK
    refine step_ent (x0 := x0) (x1 := x1) (x2 := x2) (x3 := x3) (x4 := x4) (x5 := x5) (x6 := x6) _ (by rfl) _ _ (by rfl) (by rfl) HO.out (by rfl) HX.out (by omega) HB_wc.out.size ?_
    intro g10 c10 we ho_we hg_we _ _
    have HB_we := Lib.hid (HB_wc.out.grown hg_we HB_wc.out.size (fun k hk => (HO.out.lt k hk).1))
    replace HO := Lib.hid ho_we
    clear ho_we hg_we HX
    refine HK.out _ _ (.inr (HSI.out _ HB_we.out)) ?_
    clear HK
    go_simp
    refine wpAnyT_take 11 (.agg #[.int .i64 b, .int .i64 s, .slice (some ⟨g10, 0, none⟩) (n + 1) c10]) (by rw [HOPS.out]; rfl) (by rw [HOPS.out]; kernel_rfl) (by exact fun _ _ _ h => h) (by rfl) (fun w1 hS => by go_simp) (HSI.out _ HB_we.out) ?_
    go_simp
    have F1 := (HX2.out.below HB_we.out).f3
    refine wpAnyT_one 12 (by rw [HOPS.out]; rfl) (by rw [HOPS.out]; kernel_rfl) ?_
    intro K' hK
    have HK := Lib.hid hK
    clear hK
    go_simp
    refine HK.out _ _ (.inl (by decide)) ?_
    clear HK
    go_simp
    refine wpAnyT_done (by rw [HOPS.out]; kernel_rfl) ?_ _
    go_wp2_with fail
    refine bodyPost_ret (v := .agg #[.int .i64 b, .int .i64 s, .slice (some ⟨g10, 0, none⟩) (n + 1) c10]) (by simp [results, Try.results102, go_sem, F1]) rfl ?_
    have hch := put_chg (g := w.heap.size + 1 + 1) [.int .i64 b, .int .i64 s, .slice (some ⟨g10, 0, none⟩) (n + 1) c10] 0 (Chg.refl (w.heap.size + 1 + 1) (w.heap.size + 1 + 1 + 1) we) (by omega) (by omega)
    have hsz := HB_we.out.size
    exact ⟨_, _, _, rfl, own_base (own_chg HO.out hch (fun b hb => .inr (by have := (HO.out.lt b hb).1; omega))) (by omega), by omega, below_chg (HB1.out.trans (HB_we.out.mono HB1.out.size)) hch (by omega) (by omega)⟩
end Go.Proofs.Ytdldcjnidajmpaa

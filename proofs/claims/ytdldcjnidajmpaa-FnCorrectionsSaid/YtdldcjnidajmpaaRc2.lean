/- Walks: a corrected entry is drawn. -/
import Derived.Test.YtdldcjnidajmpaaRu2
import Derived.Test.YtdldcjnidajmpaaZme
import Derived.Test.YtdldcjnidajmpaaZmb
import Derived.Test.YtdldcjnidajmpaaZma
namespace Go.Proofs.Ytdldcjnidajmpaa
open Go.RowKit Go.Sort
set_option linter.unusedVariables false
set_option maxRecDepth 100000

set_option maxHeartbeats 4000000 in
theorem drawCor_any (w0 : World) (A : Option Addr) (n cap : Nat) (code : List Int) (hcode : Code0 w0 A n code) (hn : n ≤ 4096) (w : World) (hb : Below w0.heap.size w0 w) :
    Calls Try.prog 59 #[.slice A n cap] w (RetAD w (corD code)) := by
  have HAD := Lib.hid (fun w' hb => drawAdd_any w0 A n cap code hcode w' hb)
  have HRD := Lib.hid (fun w' (hb : Below w0.heap.size w0 w') => hcode.rd.below hb)
  have HBY := Lib.hid hcode.byte
  have ex : corD code = ((addD code).1, corX (nextF (1 :: code) (fromF (1 :: code)) 12).1 (addD code).2) := rfl
  generalize corD code = D at *
  generalize addD code = R at *
  obtain ⟨⟨rb, rs, rl⟩, ⟨x0, x1, x2, x3, x4, x5, x6⟩⟩ := R
  simp only at ex
  obtain ⟨NX, hNX⟩ : ∃ q, q = nextF (1 :: code) (fromF (1 :: code)) 12 := ⟨_, rfl⟩
  rw [← hNX] at ex
  have HNX := Lib.hid hNX
  have HEX := Lib.hid ex
  obtain ⟨v, s9⟩ := NX
  obtain ⟨wa, hwa, XR, XX, hba, hsa⟩ := two_boxes w #[.int .i64 0, .int .i64 0, .slice none 0 0] #[.int .i64 0, .int .i64 0, .int .i64 0, .int .i64 0, .int .i64 0, .int .i64 0, .int .i64 0] 51 66
  have HBA := Lib.hid hba
  have HB0 := Lib.hid (hb.trans (hba.mono hb.size))
  have HZ0 := Lib.hid XR; have HZ1 := Lib.hid XX
  have hwz : w.heap.size + 2 ≤ wa.heap.size := by omega
  clear hb XR XX hba ex hNX hcode hsa
  go_enter Try.func59, Try.ntmps59
  go_wp2_with fail
  rw [← hwa]
  clear hwa
  go_wp2_with fail
  refine (HAD.out _ HB0.out).mono ?_
  rintro e w1 ⟨A1, m1, c1, rfl, o1, l1, hb1⟩
  simp only [E.race, E.boat, E.rev, E.code, E.time, E.kind, E.points] at o1 ⊢
  have B1 := Lib.hid (HB0.out.trans (hb1.mono HB0.out.size))
  have HB1 := Lib.hid (HBA.out.trans (hb1.mono HBA.out.size))
  replace HZ0 := Lib.hid (HZ0.out.below hb1); replace HZ1 := Lib.hid (HZ1.out.below hb1)
  have hz1 := hb1.size
  obtain ⟨w2, hw2, XR, XX, hb2, hs2⟩ := two_boxes w1 #[.int .i64 rb, .int .i64 rs, .slice A1 m1 c1] #[.int .i64 x0, .int .i64 x1, .int .i64 x2, .int .i64 x3, .int .i64 x4, .int .i64 x5, .int .i64 x6] 51 66
  have HXR := Lib.hid XR; have HXX := Lib.hid XX
  have HO := Lib.hid (own_below o1 hb2)
  have HBL := Lib.hid (fun b hb => (o1.lt b hb).2)
  replace HZ0 := Lib.hid (HZ0.out.below hb2); replace HZ1 := Lib.hid (HZ1.out.below hb2)
  have B2 := Lib.hid (B1.out.trans (hb2.mono B1.out.size))
  have HB2 := Lib.hid (HB1.out.trans (hb2.mono HB1.out.size))
  have hz2 : w1.heap.size + 1 < w2.heap.size := by omega
  have HW2 := Lib.hid hw2
  have HS2 := Lib.hid hs2
  clear XR XX hb2 hb1 o1 HAD HB0 HBA B1 HB1
  have hlit : (w2.alloc (.cells #[.int .u8 1] 5)).ownsRow w2.heap.size 5 1 (.slice (some ⟨w2.heap.size, 0, none⟩) 1 1) 1 (u8s [1]) := World.ownsRow_lit (base := w2.heap.size) (e := 5) (size := 1) w2 #[.int .u8 1] 1 (Nat.le_refl _) (by unfold maxLen; omega) (by simp)
  rw [hs2, hw2] at hlit
  have HLIT := Lib.hid hlit
  have hrc := HRD.out _ (B2.out.alloc B2.out.size (.cells #[.int .u8 1] 5))
  rw [hw2] at hrc
  have HRC := Lib.hid hrc
  clear hlit hrc HRD hs2 hw2
  go_wp2_with (at_builtin; refine wpl_code _ rfl _ _ rfl rfl HLIT.out rfl HRC.out (by omega) ?cB ?_; rotate_left; intro A3 c3 w3 hown3 hgr3)
  · have HW3 := Lib.hid hgr3
    have HO3 := Lib.hid hown3
    clear hown3 hgr3
    have hgr := HW3.out
    rw [← HW2.out] at hgr
    have hb3 : Below w2.heap.size w2 w3 := ((Below.refl _ _).alloc (Nat.le_refl _) _).grown hgr (by simp) (fun k hk => by injection hk with hk; have := HS2.out; omega)
    have hcode3 := code_more HO3.out (by omega) (by omega) HBY.out
    have hfr := from_any w3 A3 (1 + n) c3 (1 :: code) hcode3 w3 (Below.refl _ _)
    have HFR := Lib.hid hfr
    have HN3 := Lib.hid (fun g w' h => next_any w3 A3 (1 + n) c3 (1 :: code) hcode3 g (fromF (1 :: code)) 12 (by omega) w' h)
    rw [← HNX.out] at HN3
    replace HXR := Lib.hid (HXR.out.below hb3); replace HXX := Lib.hid (HXX.out.below hb3)
    replace HZ0 := Lib.hid (HZ0.out.below hb3); replace HZ1 := Lib.hid (HZ1.out.below hb3)
    replace HO := Lib.hid (own_below HO.out hb3)
    have HB3 := Lib.hid (HB2.out.trans (hb3.mono HB2.out.size))
    have hz3 := hb3.size
    clear hgr hb3 hcode3 hfr HW3 HO3 HB2 B2 HW2 HLIT HRC HNX
    refine HFR.out.mono ?_
    rintro e w4 ⟨g, rfl, hs4, hge, hb4⟩
    replace HXR := Lib.hid (HXR.out.below hb4); replace HXX := Lib.hid (HXX.out.below hb4)
    replace HZ0 := Lib.hid (HZ0.out.below hb4); replace HZ1 := Lib.hid (HZ1.out.below hb4)
    replace HO := Lib.hid (own_below HO.out hb4)
    have HB4 := Lib.hid (HB3.out.trans (hb4.mono HB3.out.size))
    have HS4 := Lib.hid hs4
    have hz4 := hb4.size
    clear hb4 hs4 HFR HB3
    go_wp2_with fail
    refine (HN3.out _ _ HS4.out).mono ?_
    rintro e w5 ⟨rfl, hs5, hc5⟩
    have hl5 := fun b hb => HBL.out b hb
    replace HXR := Lib.hid (HXR.out.chg hc5 (.inl (by omega))); replace HXX := Lib.hid (HXX.out.chg hc5 (.inl (by omega)))
    replace HZ0 := Lib.hid (HZ0.out.chg hc5 (.inl (by omega))); replace HZ1 := Lib.hid (HZ1.out.chg hc5 (.inl (by omega)))
    replace HO := Lib.hid (own_chg HO.out hc5 (fun b hb => .inl (by have := hl5 b hb; omega)))
    have HB5 := Lib.hid (below_chg HB4.out hc5 (by omega) HB4.out.size)
    clear hs5 hc5 HS4 HB4 HN3 hl5
    simp only
    by_cases hv : 0 < v
    · have hvb : decide (v > 0) = true := by simpa using hv
      have hex : D = ((rb, rs, rl), (x0, x1, 0, x3, x4, x5, x6)) := by rw [HEX.out]; unfold corX; rw [if_pos hv]
      replace HEX := Lib.hid hex
      clear hex hv
      have F4 := HXX.out.f7
      have FZ4 := HXX.out.z7
      go_wp2_with fail
      replace HXR := Lib.hid (HXR.out.other (c := w1.heap.size + 1) (i := 2) (by omega) (.int .i64 0))
      replace HZ0 := Lib.hid (HZ0.out.other (c := w1.heap.size + 1) (i := 2) (by omega) (.int .i64 0))
      replace HZ1 := Lib.hid (HZ1.out.other (c := w1.heap.size + 1) (i := 2) (by omega) (.int .i64 0))
      have HO5 := Lib.hid (show (w5.setCell ⟨w1.heap.size + 1, 2, none⟩ (.int .i64 0)).ownsRow wa.heap.size 66 7 (.slice A1 m1 c1) m1 (ents rl) from own_chg HO.out (put_chg (g := w1.heap.size + 1) [.int .i64 0] 2 (Chg.refl (w1.heap.size + 1) (w1.heap.size + 1 + 1) w5) (by omega) (by omega)) (fun b hb => by have := HBL.out b hb; omega))
      have HB := Lib.hid (show Below w.heap.size w (w5.setCell ⟨w1.heap.size + 1, 2, none⟩ (.int .i64 0)) from HB5.out.setCell (p := ⟨w1.heap.size + 1, 2, none⟩) (by simp; omega) _)
      have HX5 := Lib.hid (show Box (w5.setCell ⟨w1.heap.size + 1, 2, none⟩ (.int .i64 0)) (w1.heap.size + 1) #[.int .i64 x0, .int .i64 x1, .int .i64 0, .int .i64 x3, .int .i64 x4, .int .i64 x5, .int .i64 x6] 66 from by have := HXX.out.set 2 (.int .i64 0); simpa using this)
      clear HO HB5 HXX F4 FZ4
      generalize w5.setCell ⟨w1.heap.size + 1, 2, none⟩ (.int .i64 0) = w6 at *
      have HO := HO5; have HXX := HX5
      clear HO5 HX5
      obtain ⟨S, hSE, hSI⟩ : ∃ S : World → Prop, (∀ W9, S W9 → (W9.cell? ⟨w1.heap.size, 0, none⟩ = some (.int .i64 rb) ∧ W9.cell? ⟨w1.heap.size, 1, none⟩ = some (.int .i64 rs) ∧ W9.cell? ⟨w1.heap.size, 2, none⟩ = some (.slice A1 m1 c1) ∧ W9.cell? ⟨w1.heap.size + 1, 0, none⟩ = some (.int .i64 x0) ∧ W9.cell? ⟨w1.heap.size + 1, 1, none⟩ = some (.int .i64 x1) ∧ W9.cell? ⟨w1.heap.size + 1, 2, none⟩ = some (.int .i64 0) ∧ W9.cell? ⟨w1.heap.size + 1, 3, none⟩ = some (.int .i64 x3) ∧ W9.cell? ⟨w1.heap.size + 1, 4, none⟩ = some (.int .i64 x4) ∧ W9.cell? ⟨w1.heap.size + 1, 5, none⟩ = some (.int .i64 x5) ∧ W9.cell? ⟨w1.heap.size + 1, 6, none⟩ = some (.int .i64 x6))) ∧ (∀ W9, Below w6.heap.size w6 W9 → S W9) ∧ (∀ W9 b i v, S W9 → b < w.heap.size + 2 → S (W9.setCell ⟨b, i, none⟩ v)) :=
        ⟨fun W9 => Box W9 w1.heap.size #[.int .i64 rb, .int .i64 rs, .slice A1 m1 c1] 51 ∧ Box W9 (w1.heap.size + 1) #[.int .i64 x0, .int .i64 x1, .int .i64 0, .int .i64 x3, .int .i64 x4, .int .i64 x5, .int .i64 x6] 66, fun _ h9 => ⟨h9.1.cell rfl, h9.1.cell rfl, h9.1.cell rfl, h9.2.cell rfl, h9.2.cell rfl, h9.2.cell rfl, h9.2.cell rfl, h9.2.cell rfl, h9.2.cell rfl, h9.2.cell rfl⟩, fun W9 hb => ⟨HXR.out.below hb, HXX.out.below hb⟩, fun W9 b i v h9 hb => ⟨h9.1.other (by omega) _, h9.2.other (by omega) _⟩⟩
      have HSE := Lib.hid hSE; have HSI := Lib.hid hSI.1; have HSP := Lib.hid hSI.2
      clear hSE hSI
      refine wp_region_T2 (n := 4) S (fun _ => false) (by kernel_rfl) rfl ?_
      intro ops HOPS
      have hS := HSI.out _ (below_drewN' _ w6 1)
      refine wpAnyT_take 0 (.agg #[.int .i64 rb, .int .i64 rs, .slice A1 m1 c1]) (by rw [HOPS.out]; rfl) (by rw [HOPS.out]; kernel_rfl) (by exact fun _ _ _ h => h) (by rfl) (fun w1 hS => by obtain ⟨k0, k1, k2, k3, k4, k5, k6, k7, k8, k9⟩ := HSE.out _ hS; go_simp) hS ?_
      go_simp
      refine wpAnyT_take 1 (.agg #[.int .i64 x0, .int .i64 x1, .int .i64 0, .int .i64 x3, .int .i64 x4, .int .i64 x5, .int .i64 x6]) (by rw [HOPS.out]; rfl) (by rw [HOPS.out]; kernel_rfl) (by exact fun _ _ _ h => h) (by rfl) (fun w1 hS => by obtain ⟨k0, k1, k2, k3, k4, k5, k6, k7, k8, k9⟩ := HSE.out _ hS; go_simp) hS ?_
      go_simp
      replace hS : S w6.drew := hS
      obtain ⟨wd, hwd⟩ : ∃ wd : World, wd = w6.drew := ⟨_, rfl⟩
      have hbd : Below w6.heap.size w6 wd := by rw [hwd]; exact below_drewN' _ _ 1
      rw [← hwd] at hS ⊢
      clear hwd
      have FZ0 := (HZ0.out.below hbd).f3
      have FZ1 := (HZ1.out.below hbd).f7
      have FZ2 := (HZ1.out.below hbd).z7
      have HBd := Lib.hid (HB.out.trans (hbd.mono HB.out.size))
      have HOd := Lib.hid (own_below HO.out hbd)
      clear hbd
      refine wpAnyT_one 2 (by rw [HOPS.out]; rfl) (by rw [HOPS.out]; kernel_rfl) ?_
      intro K' hK
      have HK := Lib.hid hK
      clear hK
      go_simp
      refine HK.out _ _ (.inr (HSP.out _ _ _ _ (HSP.out _ _ _ _ (HSP.out _ _ _ _ hS (by omega)) (by omega)) (by omega))) ?_
      clear HK
      go_simp
      refine wpAnyT_one 3 (by rw [HOPS.out]; rfl) (by rw [HOPS.out]; kernel_rfl) ?_
      intro K' hK
      have HK := Lib.hid hK
      clear hK
      go_simp
      refine HK.out _ _ (.inr (HSP.out _ _ _ _ (HSP.out _ _ _ _ (HSP.out _ _ _ _ (HSP.out _ _ _ _ (HSP.out _ _ _ _ (HSP.out _ _ _ _ (HSP.out _ _ _ _ (HSP.out _ _ _ _ (HSP.out _ _ _ _ (HSP.out _ _ _ _ hS (by omega)) (by omega)) (by omega)) (by omega)) (by omega)) (by omega)) (by omega)) (by omega)) (by omega)) (by omega))) ?_
      clear HK
      go_simp
      refine wpAnyT_done (by rw [HOPS.out]; kernel_rfl) ?_ _
      go_wp2_with fail
      refine bodyPost_ret (v := .tuple #[.agg #[.int .i64 rb, .int .i64 rs, .slice A1 m1 c1], .agg #[.int .i64 x0, .int .i64 x1, .int .i64 0, .int .i64 x3, .int .i64 x4, .int .i64 x5, .int .i64 x6]]) (by simp [results, Try.results59, go_sem, FZ0, FZ1]) rfl ?_
      rw [HEX.out]
      exact retAD_of HOd.out (by omega) HBd.out (by (repeat refine chg_set ?_ (by omega) (by omega) _); exact Chg.refl _ _ _) (by omega)
    · have hvb : decide (v > 0) = false := by simpa using hv
      have hex : D = ((rb, rs, rl), (x0, x1, x2, x3, x4, x5, x6)) := by rw [HEX.out]; unfold corX; rw [if_neg hv]
      replace HEX := Lib.hid hex
      have HB := HB5
      clear hex hv HB5
      go_wp2_with fail
      obtain ⟨S, hSE, hSI⟩ : ∃ S : World → Prop, (∀ W9, S W9 → (W9.cell? ⟨w1.heap.size, 0, none⟩ = some (.int .i64 rb) ∧ W9.cell? ⟨w1.heap.size, 1, none⟩ = some (.int .i64 rs) ∧ W9.cell? ⟨w1.heap.size, 2, none⟩ = some (.slice A1 m1 c1) ∧ W9.cell? ⟨w1.heap.size + 1, 0, none⟩ = some (.int .i64 x0) ∧ W9.cell? ⟨w1.heap.size + 1, 1, none⟩ = some (.int .i64 x1) ∧ W9.cell? ⟨w1.heap.size + 1, 2, none⟩ = some (.int .i64 x2) ∧ W9.cell? ⟨w1.heap.size + 1, 3, none⟩ = some (.int .i64 x3) ∧ W9.cell? ⟨w1.heap.size + 1, 4, none⟩ = some (.int .i64 x4) ∧ W9.cell? ⟨w1.heap.size + 1, 5, none⟩ = some (.int .i64 x5) ∧ W9.cell? ⟨w1.heap.size + 1, 6, none⟩ = some (.int .i64 x6))) ∧ (∀ W9, Below w5.heap.size w5 W9 → S W9) ∧ (∀ W9 b i v, S W9 → b < w.heap.size + 2 → S (W9.setCell ⟨b, i, none⟩ v)) :=
        ⟨fun W9 => Box W9 w1.heap.size #[.int .i64 rb, .int .i64 rs, .slice A1 m1 c1] 51 ∧ Box W9 (w1.heap.size + 1) #[.int .i64 x0, .int .i64 x1, .int .i64 x2, .int .i64 x3, .int .i64 x4, .int .i64 x5, .int .i64 x6] 66, fun _ h9 => ⟨h9.1.cell rfl, h9.1.cell rfl, h9.1.cell rfl, h9.2.cell rfl, h9.2.cell rfl, h9.2.cell rfl, h9.2.cell rfl, h9.2.cell rfl, h9.2.cell rfl, h9.2.cell rfl⟩, fun W9 hb => ⟨HXR.out.below hb, HXX.out.below hb⟩, fun W9 b i v h9 hb => ⟨h9.1.other (by omega) _, h9.2.other (by omega) _⟩⟩
      have HSE := Lib.hid hSE; have HSI := Lib.hid hSI.1; have HSP := Lib.hid hSI.2
      clear hSE hSI
      refine wp_region_T2 (n := 4) S (fun _ => false) (by kernel_rfl) rfl ?_
      intro ops HOPS
      have hS := HSI.out _ (below_drewN' _ w5 1)
      refine wpAnyT_take 0 (.agg #[.int .i64 rb, .int .i64 rs, .slice A1 m1 c1]) (by rw [HOPS.out]; rfl) (by rw [HOPS.out]; kernel_rfl) (by exact fun _ _ _ h => h) (by rfl) (fun w1 hS => by obtain ⟨k0, k1, k2, k3, k4, k5, k6, k7, k8, k9⟩ := HSE.out _ hS; go_simp) hS ?_
      go_simp
      refine wpAnyT_take 1 (.agg #[.int .i64 x0, .int .i64 x1, .int .i64 x2, .int .i64 x3, .int .i64 x4, .int .i64 x5, .int .i64 x6]) (by rw [HOPS.out]; rfl) (by rw [HOPS.out]; kernel_rfl) (by exact fun _ _ _ h => h) (by rfl) (fun w1 hS => by obtain ⟨k0, k1, k2, k3, k4, k5, k6, k7, k8, k9⟩ := HSE.out _ hS; go_simp) hS ?_
      go_simp
      replace hS : S w5.drew := hS
      obtain ⟨wd, hwd⟩ : ∃ wd : World, wd = w5.drew := ⟨_, rfl⟩
      have hbd : Below w5.heap.size w5 wd := by rw [hwd]; exact below_drewN' _ _ 1
      rw [← hwd] at hS ⊢
      clear hwd
      have FZ0 := (HZ0.out.below hbd).f3
      have FZ1 := (HZ1.out.below hbd).f7
      have FZ2 := (HZ1.out.below hbd).z7
      have HBd := Lib.hid (HB.out.trans (hbd.mono HB.out.size))
      have HOd := Lib.hid (own_below HO.out hbd)
      clear hbd
      refine wpAnyT_one 2 (by rw [HOPS.out]; rfl) (by rw [HOPS.out]; kernel_rfl) ?_
      intro K' hK
      have HK := Lib.hid hK
      clear hK
      go_simp
      refine HK.out _ _ (.inr (HSP.out _ _ _ _ (HSP.out _ _ _ _ (HSP.out _ _ _ _ hS (by omega)) (by omega)) (by omega))) ?_
      clear HK
      go_simp
      refine wpAnyT_one 3 (by rw [HOPS.out]; rfl) (by rw [HOPS.out]; kernel_rfl) ?_
      intro K' hK
      have HK := Lib.hid hK
      clear hK
      go_simp
      refine HK.out _ _ (.inr (HSP.out _ _ _ _ (HSP.out _ _ _ _ (HSP.out _ _ _ _ (HSP.out _ _ _ _ (HSP.out _ _ _ _ (HSP.out _ _ _ _ (HSP.out _ _ _ _ (HSP.out _ _ _ _ (HSP.out _ _ _ _ (HSP.out _ _ _ _ hS (by omega)) (by omega)) (by omega)) (by omega)) (by omega)) (by omega)) (by omega)) (by omega)) (by omega)) (by omega))) ?_
      clear HK
      go_simp
      refine wpAnyT_done (by rw [HOPS.out]; kernel_rfl) ?_ _
      go_wp2_with fail
      refine bodyPost_ret (v := .tuple #[.agg #[.int .i64 rb, .int .i64 rs, .slice A1 m1 c1], .agg #[.int .i64 x0, .int .i64 x1, .int .i64 x2, .int .i64 x3, .int .i64 x4, .int .i64 x5, .int .i64 x6]]) (by simp [results, Try.results59, go_sem, FZ0, FZ1]) rfl ?_
      rw [HEX.out]
      exact retAD_of HOd.out (by omega) HBd.out (by (repeat refine chg_set ?_ (by omega) (by omega) _); exact Chg.refl _ _ _) (by omega)
  · have := HS2.out
    simp
    first | omega | skip
end Go.Proofs.Ytdldcjnidajmpaa

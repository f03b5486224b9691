/- Walks: DrawEnterLine: some entry comes (chapter 34). -/
import Derived.Test.YtnpldahkhaacnaaGreatDoorVc
namespace Go.Proofs.YtnpldahkhaacnaaGreatDoor
open Go.RowKit Go.Sort
set_option linter.unusedVariables false
set_option maxRecDepth 100000

def RetEn7 (w : World) (e : Ending) (w' : World) : Prop :=
  ∃ x0 x1 x2 x3 x4 x5 x6, e = .returned (.agg #[.int .i64 x0, .int .i64 x1, .int .i64 x2, .int .i64 x3, .int .i64 x4, .int .i64 x5, .int .i64 x6]) ∧ Below w.heap.size w w'
set_option maxHeartbeats 8000000 in
theorem drawEL_any (w0 : World) (A : Option Addr) (n cap : Nat) (code : List Int) (hcode : Code0 w0 A n code) (w : World) (hb : Below w0.heap.size w0 w) :
    Calls Tryz.prog 9 #[.slice A n cap] w (RetEn7 w) := by
  have HFR := Lib.hid (fun w' h => from_any w0 A n cap code hcode w' h)
  have HNX := Lib.hid (fun g s k hk w' h => next_any w0 A n cap code hcode g s k hk w' h)
  have HEN := Lib.hid (fun g s w' h => drawEnt_any w0 A n cap code hcode g s 6 (by omega) w' h)
  obtain ⟨s0, hs0⟩ : ∃ s0, s0 = fromF code := ⟨_, rfl⟩
  rw [← hs0] at HFR
  clear hs0
  obtain ⟨wa, hwa, XR, hba, hsa⟩ := one_box w #[.int .i64 0, .int .i64 0, .int .i64 0, .int .i64 0, .int .i64 0, .int .i64 0, .int .i64 0] 25
  have HB := Lib.hid (hb.trans (hba.mono hb.size))
  have HX := Lib.hid XR
  have HBA := Lib.hid hba
  have hza : w.heap.size < wa.heap.size := by omega
  clear hb XR hba hsa
  go_enter Tryz.func9, Tryz.ntmps9
  go_wp2_with fail
  rw [← hwa]
  clear hwa
  (try go_wp2_with fail)
  refine (HFR.out _ HB.out).mono ?_
  rintro e w1 ⟨g, rfl, hs1, hge, hb1⟩
  have HX := Lib.hid (HX.out.below hb1)
  have HS := Lib.hid hs1
  have HB1 := Lib.hid (HBA.out.trans (hb1.mono HBA.out.size))
  have hgl := hs1.lt
  have hwg : w.heap.size < g := by omega
  clear hs1 hb1 HFR HB HBA
  go_wp2_with fail
  refine (HEN.out _ _ _ HS.out).mono ?_
  rintro e w2 ⟨x0, x1, x2, x3, x4, x5, x6, s2, rfl, hs, hc⟩
  have HX := Lib.hid (HX.out.chg hc (.inl (by omega)))
  have HS := Lib.hid hs
  have HB1 := Lib.hid (below_chg HB1.out hc (by omega) HB1.out.size)
  have hz2 := hc.size
  clear hs hc HEN
  obtain ⟨w3, hw3, XY, hb3, hs3⟩ := one_box w2 #[.int .i64 x0, .int .i64 x1, .int .i64 x2, .int .i64 x3, .int .i64 x4, .int .i64 x5, .int .i64 x6] 25
  have HW3 := Lib.hid hw3
  have HY := Lib.hid XY
  have HX := Lib.hid (HX.out.below hb3)
  have HS := Lib.hid (HS.out.below hb3)
  have HB1 := Lib.hid (HB1.out.trans (hb3.mono HB1.out.size))
  have hg2 : g < w2.heap.size := by omega
  clear XY hb3 hw3
  go_wp2_with fail
  rw [← HW3.out]
  clear HW3
  have HN := HNX.out g s2 20 (by omega) _ HS.out
  have q4 := nextF_bd code s2 20 (by omega)
  generalize nextF code s2 20 = r at HN q4
  obtain ⟨v4, s4⟩ := r
  simp only at q4
  refine HN.mono ?_
  rintro e w4 ⟨rfl, hs, hc⟩
  have HX := Lib.hid (HX.out.chg hc (.inl (by omega)))
  have HY := Lib.hid (HY.out.chg hc (.inr (by omega)))
  have HS := Lib.hid hs
  have HB1 := Lib.hid (below_chg HB1.out hc (by omega) HB1.out.size)
  have hz4 := hc.size
  clear hs hc HN
  by_cases h0 : v4 = 0
  · have b0 : (v4 == 0) = true := by simp [h0]
    clear h0
    obtain ⟨w5, hw5, XL, hb5, hs5⟩ := one_box w4 #[.int .i64 (-1), .int .i64 12, .int .i64 11] 2
    have HW5 := Lib.hid hw5
    have HL := Lib.hid XL
    have HX := Lib.hid (HX.out.below hb5)
    have HY := Lib.hid (HY.out.below hb5)
    have HS := Lib.hid (HS.out.below hb5)
    have HB1 := Lib.hid (HB1.out.trans (hb5.mono HB1.out.size))
    have hg4 : g < w4.heap.size := by omega
    clear XL hb5 hw5 hs5
    go_wp2_with fail
    rw [← HW5.out]
    clear HW5
    have HN := HNX.out g s4 3 (by omega) _ HS.out
    have q6 := nextF_bd code s4 3 (by omega)
    generalize nextF code s4 3 = r at HN q6
    obtain ⟨v6, s6⟩ := r
    simp only at q6
    refine HN.mono ?_
    rintro e w6 ⟨rfl, hs, hc⟩
    have HX := Lib.hid (HX.out.chg hc (.inl (by omega)))
    have HY := Lib.hid (HY.out.chg hc (.inr (by omega)))
    have HL := Lib.hid (HL.out.chg hc (.inr (by omega)))
    have HB1 := Lib.hid (below_chg HB1.out hc (by omega) HB1.out.size)
    have hz6 := hc.size
    clear hs hc HN
    have FL := HL.out.f3
    have hcase : v6 = 0 ∨ v6 = 1 ∨ v6 = 2 := by omega
    rcases hcase with rfl | rfl | rfl
    · skip
      have FY := HY.out.f7
      have FYZ := HY.out.z7
      obtain ⟨wy, hwy⟩ : ∃ wy : World, wy = w6.setCell ⟨w2.heap.size, 0, none⟩ (.int .i64 ((-1))) := ⟨_, rfl⟩
      have HYN := (show Box wy w2.heap.size #[.int .i64 (-1), .int .i64 x1, .int .i64 x2, .int .i64 x3, .int .i64 x4, .int .i64 x5, .int .i64 x6] 25 from by rw [hwy]; have := HY.out.set 0 (.int .i64 ((-1))); simpa using this)
      have HXN := (show Box wy w.heap.size #[.int .i64 0, .int .i64 0, .int .i64 0, .int .i64 0, .int .i64 0, .int .i64 0, .int .i64 0] 25 from by rw [hwy]; exact HX.out.other (by omega) _)
      have HBN := Lib.hid (show Below w.heap.size w wy from by rw [hwy]; exact HB1.out.setCell (p := ⟨w2.heap.size, 0, none⟩) (by show w.heap.size ≤ w2.heap.size; omega) _)
      have FX := HXN.f7
      have FXZ := HXN.z7
      have FY2 := HYN.f7
      have HWY := Lib.hid hwy
      rw [hwy] at FX FXZ FY2
      clear hwy HYN HXN
      go_wp2_with fail
      refine bodyPost_ret (v := .agg #[.int .i64 (-1), .int .i64 x1, .int .i64 x2, .int .i64 x3, .int .i64 x4, .int .i64 x5, .int .i64 x6]) (by simp [results, Tryz.results9, go_sem, FX]) rfl ?_
      rw [← HWY.out]
      have hput := put_chg (g := w.heap.size) [.int .i64 (-1), .int .i64 x1, .int .i64 x2, .int .i64 x3, .int .i64 x4, .int .i64 x5, .int .i64 x6] 0 (Chg.refl w.heap.size (w.heap.size + 1) wy) (Nat.le_refl _) (by omega)
      exact ⟨_, _, _, _, _, _, _, rfl, below_chg HBN.out hput (Nat.le_refl _) HBN.out.size⟩
    · skip
      have FY := HY.out.f7
      have FYZ := HY.out.z7
      obtain ⟨wy, hwy⟩ : ∃ wy : World, wy = w6.setCell ⟨w2.heap.size, 0, none⟩ (.int .i64 (12)) := ⟨_, rfl⟩
      have HYN := (show Box wy w2.heap.size #[.int .i64 12, .int .i64 x1, .int .i64 x2, .int .i64 x3, .int .i64 x4, .int .i64 x5, .int .i64 x6] 25 from by rw [hwy]; have := HY.out.set 0 (.int .i64 (12)); simpa using this)
      have HXN := (show Box wy w.heap.size #[.int .i64 0, .int .i64 0, .int .i64 0, .int .i64 0, .int .i64 0, .int .i64 0, .int .i64 0] 25 from by rw [hwy]; exact HX.out.other (by omega) _)
      have HBN := Lib.hid (show Below w.heap.size w wy from by rw [hwy]; exact HB1.out.setCell (p := ⟨w2.heap.size, 0, none⟩) (by show w.heap.size ≤ w2.heap.size; omega) _)
      have FX := HXN.f7
      have FXZ := HXN.z7
      have FY2 := HYN.f7
      have HWY := Lib.hid hwy
      rw [hwy] at FX FXZ FY2
      clear hwy HYN HXN
      go_wp2_with fail
      refine bodyPost_ret (v := .agg #[.int .i64 12, .int .i64 x1, .int .i64 x2, .int .i64 x3, .int .i64 x4, .int .i64 x5, .int .i64 x6]) (by simp [results, Tryz.results9, go_sem, FX]) rfl ?_
      rw [← HWY.out]
      have hput := put_chg (g := w.heap.size) [.int .i64 12, .int .i64 x1, .int .i64 x2, .int .i64 x3, .int .i64 x4, .int .i64 x5, .int .i64 x6] 0 (Chg.refl w.heap.size (w.heap.size + 1) wy) (Nat.le_refl _) (by omega)
      exact ⟨_, _, _, _, _, _, _, rfl, below_chg HBN.out hput (Nat.le_refl _) HBN.out.size⟩
    · skip
      have FY := HY.out.f7
      have FYZ := HY.out.z7
      obtain ⟨wy, hwy⟩ : ∃ wy : World, wy = w6.setCell ⟨w2.heap.size, 0, none⟩ (.int .i64 (11)) := ⟨_, rfl⟩
      have HYN := (show Box wy w2.heap.size #[.int .i64 11, .int .i64 x1, .int .i64 x2, .int .i64 x3, .int .i64 x4, .int .i64 x5, .int .i64 x6] 25 from by rw [hwy]; have := HY.out.set 0 (.int .i64 (11)); simpa using this)
      have HXN := (show Box wy w.heap.size #[.int .i64 0, .int .i64 0, .int .i64 0, .int .i64 0, .int .i64 0, .int .i64 0, .int .i64 0] 25 from by rw [hwy]; exact HX.out.other (by omega) _)
      have HBN := Lib.hid (show Below w.heap.size w wy from by rw [hwy]; exact HB1.out.setCell (p := ⟨w2.heap.size, 0, none⟩) (by show w.heap.size ≤ w2.heap.size; omega) _)
      have FX := HXN.f7
      have FXZ := HXN.z7
      have FY2 := HYN.f7
      have HWY := Lib.hid hwy
      rw [hwy] at FX FXZ FY2
      clear hwy HYN HXN
      go_wp2_with fail
      refine bodyPost_ret (v := .agg #[.int .i64 11, .int .i64 x1, .int .i64 x2, .int .i64 x3, .int .i64 x4, .int .i64 x5, .int .i64 x6]) (by simp [results, Tryz.results9, go_sem, FX]) rfl ?_
      rw [← HWY.out]
      have hput := put_chg (g := w.heap.size) [.int .i64 11, .int .i64 x1, .int .i64 x2, .int .i64 x3, .int .i64 x4, .int .i64 x5, .int .i64 x6] 0 (Chg.refl w.heap.size (w.heap.size + 1) wy) (Nat.le_refl _) (by omega)
      exact ⟨_, _, _, _, _, _, _, rfl, below_chg HBN.out hput (Nat.le_refl _) HBN.out.size⟩
  have b0 : (v4 == 0) = false := by simp [h0]
  clear h0
  by_cases h1 : v4 = 1
  · have b1 : (v4 == 1) = true := by simp [h1]
    clear h1
    obtain ⟨tm, htm⟩ : ∃ tm, tm = wrap64 (x4 + 1) := ⟨_, rfl⟩
    have HTM := Lib.hid htm
    clear htm
    have FY := HY.out.f7
    have FYZ := HY.out.z7
    obtain ⟨wy, hwy⟩ : ∃ wy : World, wy = w4.setCell ⟨w2.heap.size, 4, none⟩ (.int .i64 tm) := ⟨_, rfl⟩
    have HYN := (show Box wy w2.heap.size #[.int .i64 x0, .int .i64 x1, .int .i64 x2, .int .i64 x3, .int .i64 tm, .int .i64 x5, .int .i64 x6] 25 from by rw [hwy]; have := HY.out.set 4 (.int .i64 tm); simpa using this)
    have HXN := (show Box wy w.heap.size #[.int .i64 0, .int .i64 0, .int .i64 0, .int .i64 0, .int .i64 0, .int .i64 0, .int .i64 0] 25 from by rw [hwy]; exact HX.out.other (by omega) _)
    have HBN := Lib.hid (show Below w.heap.size w wy from by rw [hwy]; exact HB1.out.setCell (p := ⟨w2.heap.size, 4, none⟩) (by show w.heap.size ≤ w2.heap.size; omega) _)
    have FX := HXN.f7
    have FXZ := HXN.z7
    have FY2 := HYN.f7
    have HWY := Lib.hid hwy
    rw [hwy, HTM.out] at FX FXZ FY2
    clear hwy HYN HXN
    go_wp2_with fail
    refine bodyPost_ret (v := .agg #[.int .i64 x0, .int .i64 x1, .int .i64 x2, .int .i64 x3, .int .i64 (wrap64 (x4 + 1)), .int .i64 x5, .int .i64 x6]) (by simp [results, Tryz.results9, go_sem, FX]) rfl ?_
    rw [← HTM.out, ← HWY.out]
    have hput := put_chg (g := w.heap.size) [.int .i64 x0, .int .i64 x1, .int .i64 x2, .int .i64 x3, .int .i64 tm, .int .i64 x5, .int .i64 x6] 0 (Chg.refl w.heap.size (w.heap.size + 1) wy) (Nat.le_refl _) (by omega)
    exact ⟨_, _, _, _, _, _, _, rfl, below_chg HBN.out hput (Nat.le_refl _) HBN.out.size⟩
  have b1 : (v4 == 1) = false := by simp [h1]
  clear h1
  by_cases h2 : v4 = 2
  · have b2 : (v4 == 2) = true := by simp [h2]
    clear h2
    have FY := HY.out.f7
    have FYZ := HY.out.z7
    obtain ⟨wy, hwy⟩ : ∃ wy : World, wy = w4.setCell ⟨w2.heap.size, 2, none⟩ (.int .i64 (3)) := ⟨_, rfl⟩
    have HYN := (show Box wy w2.heap.size #[.int .i64 x0, .int .i64 x1, .int .i64 3, .int .i64 x3, .int .i64 x4, .int .i64 x5, .int .i64 x6] 25 from by rw [hwy]; have := HY.out.set 2 (.int .i64 (3)); simpa using this)
    have HXN := (show Box wy w.heap.size #[.int .i64 0, .int .i64 0, .int .i64 0, .int .i64 0, .int .i64 0, .int .i64 0, .int .i64 0] 25 from by rw [hwy]; exact HX.out.other (by omega) _)
    have HBN := Lib.hid (show Below w.heap.size w wy from by rw [hwy]; exact HB1.out.setCell (p := ⟨w2.heap.size, 2, none⟩) (by show w.heap.size ≤ w2.heap.size; omega) _)
    have FX := HXN.f7
    have FXZ := HXN.z7
    have FY2 := HYN.f7
    have HWY := Lib.hid hwy
    rw [hwy] at FX FXZ FY2
    clear hwy HYN HXN
    go_wp2_with fail
    refine bodyPost_ret (v := .agg #[.int .i64 x0, .int .i64 x1, .int .i64 3, .int .i64 x3, .int .i64 x4, .int .i64 x5, .int .i64 x6]) (by simp [results, Tryz.results9, go_sem, FX]) rfl ?_
    rw [← HWY.out]
    have hput := put_chg (g := w.heap.size) [.int .i64 x0, .int .i64 x1, .int .i64 3, .int .i64 x3, .int .i64 x4, .int .i64 x5, .int .i64 x6] 0 (Chg.refl w.heap.size (w.heap.size + 1) wy) (Nat.le_refl _) (by omega)
    exact ⟨_, _, _, _, _, _, _, rfl, below_chg HBN.out hput (Nat.le_refl _) HBN.out.size⟩
  have b2 : (v4 == 2) = false := by simp [h2]
  clear h2
  have FX := HX.out.f7
  have FZ := HX.out.z7
  have FY := HY.out.f7
  go_wp2_with fail
  refine bodyPost_ret (v := .agg #[.int .i64 x0, .int .i64 x1, .int .i64 x2, .int .i64 x3, .int .i64 x4, .int .i64 x5, .int .i64 x6]) (by simp [results, Tryz.results9, go_sem, FX]) rfl ?_
  have hput := put_chg (g := w.heap.size) [.int .i64 x0, .int .i64 x1, .int .i64 x2, .int .i64 x3, .int .i64 x4, .int .i64 x5, .int .i64 x6] 0 (Chg.refl w.heap.size (w.heap.size + 1) w4) (Nat.le_refl _) (by omega)
  exact ⟨_, _, _, _, _, _, _, rfl, below_chg HB1.out hput (Nat.le_refl _) HB1.out.size⟩
end Go.Proofs.YtnpldahkhaacnaaGreatDoor

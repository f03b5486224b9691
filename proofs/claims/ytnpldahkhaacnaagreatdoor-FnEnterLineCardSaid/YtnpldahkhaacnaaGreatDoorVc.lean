/- Walks: an entry for the console is drawn (chapter 34). -/
import Derived.Test.YtnpldahkhaacnaaGreatDoorWd
import Derived.Test.YtnpldahkhaacnaaGreatDoorZma
import Derived.Test.YtnpldahkhaacnaaGreatDoorQz
import Derived.IntWalk
namespace Go.Proofs.YtnpldahkhaacnaaGreatDoor
open Go.RowKit Go.Sort
set_option linter.unusedVariables false
set_option maxRecDepth 100000

theorem src_turn {w0 w w' : World} {A : Option Addr} {n cap : Nat} {code : List Int} {g lo hi : Nat} {s : St} (h : Src w0 w A n cap code g s) (k : Chg lo hi w w') (hl : (g < lo ∨ hi ≤ g) ∧ w0.heap.size ≤ lo) : Src w0 w' A n cap code g s :=
  ⟨(k.block g h.lt hl.1).trans h.blk, h.old, below_chg h.bel k hl.2 h.bel.size, h.ok⟩
/-- Some entry is drawn. -/
def RetEn (w0 w : World) (A : Option Addr) (n cap : Nat) (code : List Int) (g : Nat) (e : Ending) (w' : World) : Prop :=
  ∃ x0 x1 x2 x3 x4 x5 x6 s', e = .returned (.agg #[.int .i64 x0, .int .i64 x1, .int .i64 x2, .int .i64 x3, .int .i64 x4, .int .i64 x5, .int .i64 x6]) ∧ Src w0 w' A n cap code g s' ∧ Chg g (g + 1) w w'
theorem chg_after {lo hi lo2 hi2 : Nat} {w W W' : World} (h : Chg lo hi w W) (k : Chg lo2 hi2 W W') (hb : w.heap.size ≤ lo2) : Chg lo hi w W' :=
  ⟨k.os.trans h.os, k.tape.trans h.tape, k.output.trans h.output, Nat.le_trans h.size k.size, fun i hi hn => (k.block i (Nat.lt_of_lt_of_le hi h.size) (.inl (by omega))).trans (h.block i hi hn)⟩
set_option maxHeartbeats 4000000 in
theorem drawEnt_any (w0 : World) (A : Option Addr) (n cap : Nat) (code : List Int) (hcode : Code0 w0 A n code) (g : Nat) (s : St) (b : Int) (hb : b ≤ 1000000) (w : World) (h : Src w0 w A n cap code g s) :
    Calls Tryz.prog 28 #[.pointer (some ⟨g, 0, none⟩), .int .i64 b] w (RetEn w0 w A n cap code g) := by
  have hgl := h.lt
  have hw0 := h.bel.size
  have HNX := Lib.hid (fun s k hk w' h => next_any w0 A n cap code hcode g s k hk w' h)
  obtain ⟨wa, hwa, XR, hba, hsa⟩ := one_box w #[.int .i64 0, .int .i64 0, .int .i64 0, .int .i64 0, .int .i64 0, .int .i64 0, .int .i64 0] 25
  have HX := Lib.hid XR
  have HS := Lib.hid (h.below hba)
  have HC := Lib.hid (show Chg g (g + 1) w wa from Chg.of_below hba)
  have hza : w.heap.size < wa.heap.size := by omega
  clear h XR hba hsa
  go_enter Tryz.func28, Tryz.ntmps28
  go_wp2_with fail
  rw [← hwa]
  clear hwa
  (try go_wp2_with fail)
  have HN := HNX.out s 4 (by omega) _ HS.out
  generalize nextF code s 4 = r at HN
  obtain ⟨v1, s1⟩ := r
  refine HN.mono ?_
  rintro e w1 ⟨rfl, hs, hc⟩
  have HS := Lib.hid hs
  have hz1 := hc.size
  have HX := Lib.hid (HX.out.chg hc (.inr (by omega)))
  have HC := Lib.hid (HC.out.trans hc)
  clear hs hc HN
  have HN := HNX.out s1 b (by omega) _ HS.out
  generalize nextF code s1 b = r at HN
  obtain ⟨v2, s2⟩ := r
  go_wp2_with fail
  refine HN.mono ?_
  rintro e w2 ⟨rfl, hs, hc⟩
  have HS := Lib.hid hs
  have hz2 := hc.size
  have HX := Lib.hid (HX.out.chg hc (.inr (by omega)))
  have HC := Lib.hid (HC.out.trans hc)
  clear hs hc HN
  have q3 := nextF_bd code s2 90000 (by omega)
  have HN := HNX.out s2 90000 (by omega) _ HS.out
  generalize nextF code s2 90000 = r at HN q3
  obtain ⟨v3, s3⟩ := r
  simp only at q3
  go_wp2_with fail
  refine HN.mono ?_
  rintro e w3 ⟨rfl, hs, hc⟩
  have HS := Lib.hid hs
  have hz3 := hc.size
  have HX := Lib.hid (HX.out.chg hc (.inr (by omega)))
  have HC := Lib.hid (HC.out.trans hc)
  clear hs hc HN
  obtain ⟨w4, hw4, XY, hb4, hs4⟩ := one_box w3 #[.int .i64 v1, .int .i64 v2, .int .i64 0, .int .i64 0, .int .i64 (1 + v3), .int .i64 0, .int .i64 0] 25
  have HW4 := Lib.hid hw4
  have HY := Lib.hid XY
  have HX := Lib.hid (HX.out.below hb4)
  have HS := Lib.hid (HS.out.below hb4)
  have HC := Lib.hid (HC.out.trans (Chg.of_below hb4))
  clear XY hb4 hw4
  go_wp2_with fail
  rw [← HW4.out]
  clear HW4
  have HN := HNX.out s3 3 (by omega) _ HS.out
  generalize nextF code s3 3 = r at HN
  obtain ⟨v5, s5⟩ := r
  refine HN.mono ?_
  rintro e w5 ⟨rfl, hs, hc⟩
  have HS := Lib.hid hs
  have hz5 := hc.size
  have HX := Lib.hid (HX.out.chg hc (.inr (by omega)))
  have HY := Lib.hid (HY.out.chg hc (.inr (by omega)))
  have HC := Lib.hid (HC.out.trans hc)
  clear hs hc HN
  by_cases h5 : v5 = 0
  rotate_left
  · have h5b : (v5 == 0) = false := by simp [h5]
    clear h5
    have FX := HX.out.f7
    have FZ := HX.out.z7
    have FY := HY.out.f7
    go_wp2_with fail
    refine bodyPost_ret (v := .agg #[.int .i64 v1, .int .i64 v2, .int .i64 0, .int .i64 0, .int .i64 (1 + v3), .int .i64 0, .int .i64 0]) (by simp [results, Tryz.results28, go_sem, FX]) rfl ?_
    have hput := put_chg (g := w.heap.size) [.int .i64 v1, .int .i64 v2, .int .i64 0, .int .i64 0, .int .i64 (1 + v3), .int .i64 0, .int .i64 0] 0 (Chg.refl w.heap.size (w.heap.size + 1) w5) (Nat.le_refl _) (by omega)
    exact ⟨_, _, _, _, _, _, _, _, rfl, src_turn HS.out hput (by omega), chg_after HC.out hput (Nat.le_refl _)⟩
  have h5b : (v5 == 0) = true := by simp [h5]
  clear h5
  go_wp2_with fail
  obtain ⟨S, hSE, hSI⟩ : ∃ S : World → Prop, (∀ w9, S w9 → (w9.cell? ⟨w3.heap.size, 0, none⟩ = some (.int .i64 v1) ∧ w9.cell? ⟨w3.heap.size, 1, none⟩ = some (.int .i64 v2))) ∧ (∀ w9, Box w9 w3.heap.size #[.int .i64 v1, .int .i64 v2, .int .i64 0, .int .i64 0, .int .i64 (1 + v3), .int .i64 0, .int .i64 0] 25 → S w9) :=
    ⟨fun w9 => Box w9 w3.heap.size #[.int .i64 v1, .int .i64 v2, .int .i64 0, .int .i64 0, .int .i64 (1 + v3), .int .i64 0, .int .i64 0] 25, fun _ h => ⟨h.cell (i := 0) rfl, h.cell (i := 1) rfl⟩, fun _ h => h⟩
  have HSE := Lib.hid hSE; have HSI := Lib.hid hSI
  clear hSE hSI
  refine wp_region_T2 (n := 9) S (fun j => decide (8 ≤ j)) (by kernel_rfl) rfl ?_
  intro ops HOPS
  obtain ⟨wd, hwd, hbd⟩ : ∃ wd : World, wd = w5.drew ∧ Below w5.heap.size w5 wd := ⟨_, rfl, below_drewN' _ w5 1⟩
  have HX := Lib.hid (HX.out.below hbd)
  have HY := Lib.hid (HY.out.below hbd)
  have HS := Lib.hid (HS.out.below hbd)
  have HC := Lib.hid (HC.out.trans (Chg.of_below hbd))
  have hzd := hbd.size
  rw [← hwd]
  clear hwd hbd
  have hS := HSI.out _ HY.out
  have HN6 := HNX.out s5 9 (by omega) _ HS.out
  have q6 := nextF_bd code s5 9 (by omega)
  generalize nextF code s5 9 = r at HN6 q6
  obtain ⟨v6, s6⟩ := r
  simp only at q6
  have HN6 := Lib.hid HN6
  refine wpAnyT_take 0 (.pointer (some ⟨w3.heap.size, 0, none⟩)) (by rw [HOPS.out]; rfl) (by rw [HOPS.out]; kernel_rfl) (by exact fun _ _ _ h => h) (by rfl) (fun w1 hS => by go_simp) hS ?_
  go_simp
  refine wpAnyT_take 1 (.int .i64 v1) (by rw [HOPS.out]; rfl) (by rw [HOPS.out]; kernel_rfl) (by exact fun _ _ _ h => h) (by rfl) (fun w1 hS => by obtain ⟨k0, k1⟩ := HSE.out _ hS; go_simp) hS ?_
  go_simp
  refine wpAnyT_take 2 (.pointer (some ⟨w3.heap.size, 1, none⟩)) (by rw [HOPS.out]; rfl) (by rw [HOPS.out]; kernel_rfl) (by exact fun _ _ _ h => h) (by rfl) (fun w1 hS => by go_simp) hS ?_
  go_simp
  refine wpAnyT_take 3 (.int .i64 v2) (by rw [HOPS.out]; rfl) (by rw [HOPS.out]; kernel_rfl) (by exact fun _ _ _ h => h) (by rfl) (fun w1 hS => by obtain ⟨k0, k1⟩ := HSE.out _ hS; go_simp) hS ?_
  go_simp
  refine wpAnyT_take 4 (.pointer (some ⟨g, 0, none⟩)) (by rw [HOPS.out]; rfl) (by rw [HOPS.out]; kernel_rfl) (by exact fun _ _ _ h => h) (by rfl) (fun w1 hS => by go_simp) hS ?_
  go_simp
  refine wpAnyT_one 5 (by rw [HOPS.out]; rfl) (by rw [HOPS.out]; kernel_rfl) ?_
  intro K' hK
  have HK := Lib.hid hK
  clear hK
  go_simp
  go_at_call 29
  refine HN6.out.mono ?_
  rintro e wq ⟨rfl, hs6, hc6⟩
  have HX6 := Lib.hid (HX.out.chg hc6 (.inr (by omega)))
  have HY6 := Lib.hid (HY.out.chg hc6 (.inr (by omega)))
  have HS6 := Lib.hid hs6
  have HC6 := Lib.hid (HC.out.trans hc6)
  have hz6 := hc6.size
  clear hs6 hc6
  simp only
  have hwv : IntKind.i64.wrap (1 + v6) = 1 + v6 := IntWalk.i64_in _ (by omega)
  refine HK.out _ _ (.inr (HSI.out _ HY6.out)) ?_
  clear HK
  have hS := HSI.out _ HY6.out
  go_simp
  refine wpAnyT_take 6 (.int .i64 (1 + v6)) (by rw [HOPS.out]; rfl) (by rw [HOPS.out]; kernel_rfl) (by exact fun _ _ _ h => h) (by rfl) (fun w1 hS => by go_simp) hS ?_
  go_simp
  refine wpAnyT_take 7 (.agg #[.int .i64 v1, .int .i64 v2, .int .i64 0, .int .i64 (1 + v6), .int .i64 0, .int .i64 0, .int .i64 0]) (by rw [HOPS.out]; rfl) (by rw [HOPS.out]; kernel_rfl) (by exact fun _ _ _ h => h) (by rfl) (fun w1 hS => by go_simp) hS ?_
  go_simp
  have FY := HY6.out.f7
  have FYZ := HY6.out.z7
  refine wpAnyT_one 8 (by rw [HOPS.out]; rfl) (by rw [HOPS.out]; kernel_rfl) ?_
  intro K' hK
  have HK := Lib.hid hK
  clear hK
  go_simp
  refine HK.out _ _ (.inl (by decide)) ?_
  clear HK
  go_simp
  refine wpAnyT_done (by rw [HOPS.out]; kernel_rfl) ?_ _
  clear FY FYZ
  obtain ⟨wy, hwy⟩ : ∃ wy : World, wy = (((((((wq.setCell ⟨w3.heap.size, 0, none⟩ (.int .i64 v1)).setCell ⟨w3.heap.size, 1, none⟩ (.int .i64 v2)).setCell ⟨w3.heap.size, 2, none⟩ (.int .i64 0)).setCell ⟨w3.heap.size, 3, none⟩ (.int .i64 (1 + v6))).setCell ⟨w3.heap.size, 4, none⟩ (.int .i64 0)).setCell ⟨w3.heap.size, 5, none⟩ (.int .i64 0)).setCell ⟨w3.heap.size, 6, none⟩ (.int .i64 0)) := ⟨_, rfl⟩
  have hcy : Chg w3.heap.size (w3.heap.size + 1) wq wy := by rw [hwy]; (repeat refine chg_set ?_ (Nat.le_refl _) (by omega) _); exact Chg.refl _ _ _
  have HYN := Lib.hid (show Box wy w3.heap.size #[.int .i64 v1, .int .i64 v2, .int .i64 0, .int .i64 (1 + v6), .int .i64 0, .int .i64 0, .int .i64 0] 25 from by rw [hwy]; have := ((((((HY6.out.set 0 (.int .i64 v1)).set 1 (.int .i64 v2)).set 2 (.int .i64 0)).set 3 (.int .i64 (1 + v6))).set 4 (.int .i64 0)).set 5 (.int .i64 0)).set 6 (.int .i64 0); simpa using this)
  have HXN := Lib.hid (HX6.out.chg hcy (.inl (by omega)))
  have HSN := Lib.hid (src_turn HS6.out hcy (by omega))
  have HCN := Lib.hid (chg_after HC6.out hcy (by omega))
  have hzy := hcy.size
  rw [← hwy]
  clear hwy hcy HX HY HS HC HX6 HY6 HS6 HC6
  have HX := HXN; have HY := HYN; have HS := HSN; have HC := HCN
  clear HXN HYN HSN HCN
  have FX := HX.out.f7
  have FZ := HX.out.z7
  have FY := HY.out.f7
  go_wp2_with fail
  refine bodyPost_ret (v := .agg #[.int .i64 v1, .int .i64 v2, .int .i64 0, .int .i64 (1 + v6), .int .i64 0, .int .i64 0, .int .i64 0]) (by simp [results, Tryz.results28, go_sem, FX]) rfl ?_
  have hput := put_chg (g := w.heap.size) [.int .i64 v1, .int .i64 v2, .int .i64 0, .int .i64 (1 + v6), .int .i64 0, .int .i64 0, .int .i64 0] 0 (Chg.refl w.heap.size (w.heap.size + 1) wy) (Nat.le_refl _) (by omega)
  exact ⟨_, _, _, _, _, _, _, _, rfl, src_turn HS.out hput (by omega), chg_after HC.out hput (Nat.le_refl _)⟩
end Go.Proofs.YtnpldahkhaacnaaGreatDoor

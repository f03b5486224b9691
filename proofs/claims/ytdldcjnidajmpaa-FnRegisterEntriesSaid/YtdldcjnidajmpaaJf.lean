/- Walks: a register with more entries (chapter 33). -/
import Derived.Test.YtdldcjnidajmpaaJe
import Derived.Test.YtdldcjnidajmpaaRh
namespace Go.Proofs.Ytdldcjnidajmpaa
open Go.RowKit Go.Sort Go.Lib
set_option linter.unusedVariables false
set_option maxRecDepth 100000

set_option maxHeartbeats 800000 in
theorem withEntries_any (b s : Int) (A : Option Addr) (n c : Nat) (xs : List EntryT) (B : Option Addr) (m d : Nat) (ys : List EntryT) (w : World) (h1 : Rd w 7 A n (ents xs)) (h2 : Rd w 7 B m (ents ys)) (hnm : n + m ≤ 1048576) :
    Calls Try.prog 105 #[.agg #[.int .i64 b, .int .i64 s, .slice A n c], .slice B m d] w (RetReg w b s (xs ++ ys)) := by
  obtain ⟨w1, hw1, X0, X1, hb1, hs1⟩ := two_boxes w #[.int .i64 b, .int .i64 s, .slice A n c] #[.int .i64 0, .int .i64 0, .slice none 0 0] 51 51
  have HB1 := Lib.hid hb1
  have HR1 := Lib.hid (fun w' (hb : Below w.heap.size w w') => h1.below hb)
  have HR2 := Lib.hid (fun w' (hb : Below w.heap.size w w') => h2.below hb)
  obtain ⟨S, hSE, hSI⟩ : ∃ S : World → Prop, (∀ w1, S w1 → (w1.cell? ⟨w.heap.size, 0, none⟩ = some (.int .i64 b) ∧ w1.cell? ⟨w.heap.size, 1, none⟩ = some (.int .i64 s) ∧ w1.cell? ⟨w.heap.size, 2, none⟩ = some (.slice A n c))) ∧ (∀ w2, Below w1.heap.size w1 w2 → S w2) :=
    ⟨fun w1 => w1.cell? ⟨w.heap.size, 0, none⟩ = some (.int .i64 b) ∧ w1.cell? ⟨w.heap.size, 1, none⟩ = some (.int .i64 s) ∧ w1.cell? ⟨w.heap.size, 2, none⟩ = some (.slice A n c), fun _ h => h, fun w2 hb => ⟨(X0.below hb).cell rfl, (X0.below hb).cell rfl, (X0.below hb).cell rfl⟩⟩
  have HSE := Lib.hid hSE; have HSI := Lib.hid hSI
  clear hSE hSI
  have HX0 := Lib.hid X0; have HX1 := Lib.hid X1
  have F0 := X0.f3
  clear h1 h2 hb1 X0 X1
  go_enter Try.func105, Try.ntmps105
  go_wp2_with fail
  rw [← hw1]
  clear hw1
  go_wp2_with fail
  clear F0
  refine wp_region_T2 (n := 11) S (fun j => decide (10 ≤ j)) (by kernel_rfl) rfl ?_
  intro ops HOPS
  have hS := HSI.out _ (below_drewN' _ w1 1)
  refine wpAnyT_take 0 (.pointer (some ⟨w.heap.size, 0, none⟩)) (by rw [HOPS.out]; rfl) (by rw [HOPS.out]; kernel_rfl) (by exact fun _ _ _ h => h) (by rfl) (fun w1 hS => by go_simp) hS ?_
  go_simp
  refine wpAnyT_take 1 (.int .i64 b) (by rw [HOPS.out]; rfl) (by rw [HOPS.out]; kernel_rfl) (by exact fun _ _ _ h => h) (by rfl) (fun w1 hS => by obtain ⟨q0, q1, q2⟩ := HSE.out _ hS; go_simp) hS ?_
  go_simp
  refine wpAnyT_take 2 (.pointer (some ⟨w.heap.size, 1, none⟩)) (by rw [HOPS.out]; rfl) (by rw [HOPS.out]; kernel_rfl) (by exact fun _ _ _ h => h) (by rfl) (fun w1 hS => by go_simp) hS ?_
  go_simp
  refine wpAnyT_take 3 (.int .i64 s) (by rw [HOPS.out]; rfl) (by rw [HOPS.out]; kernel_rfl) (by exact fun _ _ _ h => h) (by rfl) (fun w1 hS => by obtain ⟨q0, q1, q2⟩ := HSE.out _ hS; go_simp) hS ?_
  go_simp
  refine wpAnyT_take 4 (.pointer (some ⟨w.heap.size, 2, none⟩)) (by rw [HOPS.out]; rfl) (by rw [HOPS.out]; kernel_rfl) (by exact fun _ _ _ h => h) (by rfl) (fun w1 hS => by go_simp) hS ?_
  go_simp
  refine wpAnyT_take 5 (.slice A n c) (by rw [HOPS.out]; rfl) (by rw [HOPS.out]; kernel_rfl) (by exact fun _ _ _ h => h) (by rfl) (fun w1 hS => by obtain ⟨q0, q1, q2⟩ := HSE.out _ hS; go_simp) hS ?_
  go_simp
  refine wpAnyT_take 6 (.slice B m d) (by rw [HOPS.out]; rfl) (by rw [HOPS.out]; kernel_rfl) (by exact fun _ _ _ h => h) (by rfl) (fun w1 hS => by go_simp) hS ?_
  go_simp
  replace hS : S w1.drew := hS
  obtain ⟨wd, hwd⟩ : ∃ wd : World, wd = w1.drew := ⟨_, rfl⟩
  have hbd : Below w1.heap.size w1 wd := by rw [hwd]; exact below_drewN' _ w1 1
  have hsd : wd.heap.size = w1.heap.size := by rw [hwd]; rfl
  rw [← hwd] at hS ⊢
  clear hwd
  have HBD := Lib.hid hbd
  refine wpAnyT_one 7 (by rw [HOPS.out]; rfl) (by rw [HOPS.out]; kernel_rfl) ?_
  intro K' hK
  have HK := Lib.hid hK
  clear hK
  go_simp
  refine HK.out _ _ (.inr (HSI.out _ (HBD.out.alloc (by omega) _))) ?_
  clear HK
  go_simp
  obtain ⟨wv, hwv, XV, hbv, hsv⟩ := one_box wd #[.slice A n c, .slice B m d] 49
  rw [← hwv]
  clear hwv
  have HBV := Lib.hid (hbd.trans (hbv.mono (by omega)))
  have HBV0 := Lib.hid (HB1.out.trans (HBV.out.mono HB1.out.size))
  have hC := concat_any wd.heap.size A n c xs B m d ys wv (XV.cell (i := 0) rfl) (XV.cell (i := 1) rfl) (HR1.out _ HBV0.out) (HR2.out _ HBV0.out) hnm
  rw [hsd, hs1] at hC
  have HC := Lib.hid hC
  clear hC
  refine wpAnyT_one 8 (by rw [HOPS.out]; rfl) (by rw [HOPS.out]; kernel_rfl) ?_
  intro K' hK
  have HK := Lib.hid hK
  clear hK
  go_simp
  (go_at_call 133); refine HC.out.mono ?_
  rintro e w5 ⟨A5, n5, c5, rfl, ho5, hn5, hb5⟩
  have HB5 := Lib.hid (HBV.out.trans (hb5.mono HBV.out.size))
  refine HK.out _ _ (.inr (HSI.out _ HB5.out)) ?_
  clear HK
  go_simp
  refine wpAnyT_take 9 (.agg #[.int .i64 b, .int .i64 s, .slice A5 n5 c5]) (by rw [HOPS.out]; rfl) (by rw [HOPS.out]; kernel_rfl) (by exact fun _ _ _ h => h) (by rfl) (fun w1 hS => by go_simp) (HSI.out _ HB5.out) ?_
  go_simp
  have F1 := (HX1.out.below HB5.out).f3
  refine wpAnyT_one 10 (by rw [HOPS.out]; rfl) (by rw [HOPS.out]; kernel_rfl) ?_
  intro K' hK
  have HK := Lib.hid hK
  clear hK
  go_simp
  refine HK.out _ _ (.inl (by decide)) ?_
  clear HK
  go_simp
  refine wpAnyT_done (by rw [HOPS.out]; kernel_rfl) ?_ _
  go_wp2_with fail
  refine bodyPost_ret (v := .agg #[.int .i64 b, .int .i64 s, .slice A5 n5 c5]) (by simp [results, Try.results105, go_sem, F1]) rfl ?_
  have hch := put_chg (g := w.heap.size + 1) [.int .i64 b, .int .i64 s, .slice A5 n5 c5] 0 (Chg.refl (w.heap.size + 1) (w.heap.size + 1 + 1) w5) (by omega) (by omega)
  have hsz := HBV.out.size
  exact ⟨A5, n5, c5, rfl, own_base (own_chg ho5 hch (fun b hb => .inr (by have := (ho5.lt b hb).1; omega))) (by omega), hn5, below_chg (HB1.out.trans (HB5.out.mono HB1.out.size)) hch (by omega) (by omega)⟩
end Go.Proofs.Ytdldcjnidajmpaa

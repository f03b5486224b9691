/- Walks: the change of a rank is drawn; RanksOf (chapters 28 and 29). -/
import Derived.Test.YtalgdeieejpelaaGreatDoorYv
import Derived.Test.YtalgdeieejpelaaGreatDoorZmi
import Derived.Test.YtalgdeieejpelaaGreatDoorZi
import Derived.Test.YtalgdeieejpelaaGreatDoorZma
import Derived.IntWalk
namespace Go.Proofs.YtalgdeieejpelaaGreatDoor
open Go.RowKit Go.Sort
set_option linter.unusedVariables false
set_option maxRecDepth 100000

def rkD (code : List Int) : (Tb × List RedT) × List Int × Int :=
  ((red29 code (fromF code)).1, (ruleD code (red29 code (fromF code)).2).1, (boat27 code (red29 code (fromF code)).1.1.boats (ruleD code (red29 code (fromF code)).2).2).1)
/-- A table, redress, a rule and a boat are drawn. -/
def RetRKD (w : World) (r : (Tb × List RedT) × List Int × Int) (e : Ending) (w' : World) : Prop :=
  ∃ P np cp C nc dc A' m c A2 l cl, e = .returned (.tuple #[.agg #[.int .i64 r.1.1.boats, .slice P np cp, .slice C nc dc], .slice A' m c, .slice A2 l cl, .int .i64 r.2.2]) ∧ KRd w' w.heap.size P np C nc r.1.1 ∧ w'.ownsRow w.heap.size 25 4 (.slice A' m c) m (reds r.1.2) ∧ w'.ownsRow w.heap.size 2 1 (.slice A2 l cl) l (ints r.2.1) ∧ Below w.heap.size w w'
theorem red29_boats (code : List Int) (s : St) : 0 ≤ (red29 code s).1.1.boats ∧ (red29 code s).1.1.boats ≤ 16 := by
  obtain ⟨t, l, ht, -, ex⟩ := red29_parts code s
  rw [ex, ht]
  exact tab29_bd code s
set_option maxHeartbeats 4000000 in
theorem drawRK_any (w0 : World) (A : Option Addr) (n cap : Nat) (code : List Int) (hcode : Code0 w0 A n code) (w : World) (hb : Below w0.heap.size w0 w) :
    Calls Tryz.prog 11 #[.slice A n cap] w (RetRKD w (rkD code)) := by
  have HFR := Lib.hid (fun w' h => from_any w0 A n cap code hcode w' h)
  have HRX := Lib.hid (fun g w' h => red29_any w0 A n cap code hcode g (fromF code) w' h)
  have HRU := Lib.hid (fun g s w' h => ruleD_any w0 A n cap code hcode g s w' h)
  have HBO := Lib.hid (fun g s b h0 h1 P np cp C nc dc w' h => boat27_any w0 A n cap code hcode g s b h0 h1 P np cp C nc dc w' h)
  have hb0 := hb.size
  have hbt := red29_boats code (fromF code)
  have ex : rkD code = ((red29 code (fromF code)).1, (ruleD code (red29 code (fromF code)).2).1, (boat27 code (red29 code (fromF code)).1.1.boats (ruleD code (red29 code (fromF code)).2).2).1) := rfl
  generalize rkD code = D at *
  generalize red29 code (fromF code) = R at *
  obtain ⟨⟨t, xs⟩, s1⟩ := R
  simp only at hbt ex
  have HR2 := Lib.hid (fun g w' h => HRU.out g s1 w' h)
  generalize ruleD code s1 = U at *
  obtain ⟨ru, s2⟩ := U
  simp only at ex
  have HB2 := Lib.hid (fun g P np cp C nc dc w' h => HBO.out g s2 t.boats hbt.1 hbt.2 P np cp C nc dc w' h)
  generalize boat27 code t.boats s2 = V at *
  obtain ⟨bo, s3⟩ := V
  simp only at ex
  subst ex
  obtain ⟨wa, hwa, XR, hba, hsa⟩ := one_box w #[.int .i64 0, .slice none 0 0, .slice none 0 0] 33
  have HB := Lib.hid (hb.trans (hba.mono hb.size))
  have HX := Lib.hid XR
  have HBA := Lib.hid hba
  have hza : w.heap.size < wa.heap.size := by omega
  clear hb XR hba HRU HBO hbt
  go_enter Tryz.func11, Tryz.ntmps11
  go_wp2_with fail
  rw [← hwa]
  clear hwa
  (try go_wp2_with fail)
  refine (HFR.out _ HB.out).mono ?_
  rintro e w1 ⟨g, rfl, hs1, hge, hb1⟩
  have hgl := hs1.lt
  have HS := Lib.hid hs1
  have HX := Lib.hid (HX.out.below hb1)
  have HB1 := Lib.hid (HBA.out.trans (hb1.mono HBA.out.size))
  have hz1 := hb1.size
  clear hs1 hb1 HFR HB HBA
  go_wp2_with fail
  refine (HRX.out _ _ HS.out).mono ?_
  rintro e w2 ⟨P, np, cp, C, nc, dc, A', m, c, rfl, hk, ho, hm, hs2, hc2⟩
  have HX := Lib.hid (HX.out.chg hc2 (.inl (by omega)))
  have HKT := Lib.hid hk
  have HO := Lib.hid ho
  have HS := Lib.hid hs2
  have hz2 := hc2.size
  have HB1 := Lib.hid (below_chg HB1.out hc2 (by omega) HB1.out.size)
  clear hk ho hs2 hc2 hm HRX
  simp only at HKT HO HS
  simp only
  obtain ⟨w3, hw3, X5, hb3, hs3⟩ := one_box w2 #[.int .i64 t.boats, .slice P np cp, .slice C nc dc] 33
  have HW3 := Lib.hid hw3
  have HY := Lib.hid X5
  have HX := Lib.hid (HX.out.below hb3)
  have HKT := Lib.hid (HKT.out.below hb3)
  have HO := Lib.hid (own_below HO.out hb3)
  have HS := Lib.hid (HS.out.below hb3)
  have HB1 := Lib.hid (HB1.out.trans (hb3.mono HB1.out.size))
  clear X5 hw3 hb3
  go_wp2_with fail
  rw [← HW3.out]
  clear HW3
  refine (HR2.out _ _ HS.out).mono ?_
  rintro e w4 ⟨A2, l, cl, rfl, hq, hs4, hc4⟩
  have HX := Lib.hid (HX.out.chg hc4 (.inl (by omega)))
  have HY := Lib.hid (HY.out.chg hc4 (.inr (by omega)))
  have HKT := Lib.hid (HKT.out.turn (chg_wide hc4 (Nat.zero_le _) (by omega)))
  have HO := Lib.hid (own_ne_chg HO.out hc4 (by omega))
  have HQ := Lib.hid hq
  have HS := Lib.hid hs4
  have HB1 := Lib.hid (below_chg HB1.out hc4 (by omega) HB1.out.size)
  have hz4 := hc4.size
  clear hq hs4 hc4
  simp only at HQ HS
  obtain ⟨S, hSE, hSI⟩ : ∃ S : World → Prop, (∀ w9, S w9 → (w9.cell? ⟨w2.heap.size, 0, none⟩ = some (.int .i64 t.boats) ∧ w9.cell? ⟨w2.heap.size, 1, none⟩ = some (.slice P np cp) ∧ w9.cell? ⟨w2.heap.size, 2, none⟩ = some (.slice C nc dc))) ∧ (∀ w9, Box w9 w2.heap.size #[.int .i64 t.boats, .slice P np cp, .slice C nc dc] 33 → S w9) :=
    ⟨fun w9 => Box w9 w2.heap.size #[.int .i64 t.boats, .slice P np cp, .slice C nc dc] 33, fun _ h => ⟨h.cell (i := 0) rfl, h.cell (i := 1) rfl, h.cell (i := 2) rfl⟩, fun _ h => h⟩
  have HSE := Lib.hid hSE; have HSI := Lib.hid hSI
  clear hSE hSI
  go_wp2_with fail
  refine wp_region_T2 (n := 10) S (fun _ => false) (by kernel_rfl) rfl ?_
  intro ops HOPS
  obtain ⟨wd, hwd, hbd⟩ : ∃ wd : World, wd = w4.drew ∧ Below w4.heap.size w4 wd := ⟨_, rfl, below_drewN' _ w4 1⟩
  have HX := Lib.hid (HX.out.below hbd)
  have HY := Lib.hid (HY.out.below hbd)
  have HKT := Lib.hid (HKT.out.below hbd)
  have HO := Lib.hid (own_below HO.out hbd)
  have HQ := Lib.hid (own_below HQ.out hbd)
  have HS := Lib.hid (HS.out.below hbd)
  have HB1 := Lib.hid (HB1.out.trans (hbd.mono HB1.out.size))
  have hzd := hbd.size
  rw [← hwd]
  clear hwd hbd
  have hS := HSI.out _ HY.out
  refine wpAnyT_take 0 (.agg #[.int .i64 t.boats, .slice P np cp, .slice C nc dc]) (by rw [HOPS.out]; rfl) (by rw [HOPS.out]; kernel_rfl) (by exact fun _ _ _ h => h) (by rfl) (fun w1 hS => by obtain ⟨s1, s2, s3⟩ := HSE.out _ hS; go_simp) hS ?_
  go_simp
  refine wpAnyT_take 1 (.slice A' m c) (by rw [HOPS.out]; rfl) (by rw [HOPS.out]; kernel_rfl) (by exact fun _ _ _ h => h) (by rfl) (fun w1 hS => by go_simp) hS ?_
  go_simp
  refine wpAnyT_take 2 (.slice A2 l cl) (by rw [HOPS.out]; rfl) (by rw [HOPS.out]; kernel_rfl) (by exact fun _ _ _ h => h) (by rfl) (fun w1 hS => by go_simp) hS ?_
  go_simp
  refine wpAnyT_take 3 (.pointer (some ⟨g, 0, none⟩)) (by rw [HOPS.out]; rfl) (by rw [HOPS.out]; kernel_rfl) (by exact fun _ _ _ h => h) (by rfl) (fun w1 hS => by go_simp) hS ?_
  go_simp
  refine wpAnyT_take 4 (.agg #[.int .i64 t.boats, .slice P np cp, .slice C nc dc]) (by rw [HOPS.out]; rfl) (by rw [HOPS.out]; kernel_rfl) (by exact fun _ _ _ h => h) (by rfl) (fun w1 hS => by obtain ⟨s1, s2, s3⟩ := HSE.out _ hS; go_simp) hS ?_
  go_simp
  refine wpAnyT_one 5 (by rw [HOPS.out]; rfl) (by rw [HOPS.out]; kernel_rfl) ?_
  intro K' hK
  have HK := Lib.hid hK
  clear hK
  go_simp
  go_at_call 29
  refine (HB2.out _ _ _ _ _ _ _ _ HS.out).mono ?_
  rintro e wq ⟨rfl, hs5, hc5⟩
  have HX5 := Lib.hid (HX.out.chg hc5 (.inl (by omega)))
  have HY5 := Lib.hid (HY.out.chg hc5 (.inr (by omega)))
  have HK5 := Lib.hid (HKT.out.turn (chg_wide hc5 (Nat.zero_le _) (by omega)))
  have HO5 := Lib.hid (own_ne_chg HO.out hc5 (by omega))
  have HQ5 := Lib.hid (own_ne_chg HQ.out hc5 (by omega))
  have HB5 := Lib.hid (below_chg HB1.out hc5 (by omega) HB1.out.size)
  have hz5 := hc5.size
  clear hs5 hc5
  have FZ := HX5.out.f3
  refine HK.out _ _ (.inr (HSI.out _ HY5.out)) ?_
  clear HK
  have hS := HSI.out _ HY5.out
  go_simp
  refine wpAnyT_one 6 (by rw [HOPS.out]; rfl) (by rw [HOPS.out]; kernel_rfl) ?_
  intro K' hK
  have HK := Lib.hid hK
  clear hK
  go_simp
  refine HK.out _ _ (.inr (HSI.out _ (((HY5.out.other (c := w.heap.size) (i := 0) (by omega) (.int .i64 t.boats)).other (c := w.heap.size) (i := 1) (by omega) (.slice P np cp)).other (c := w.heap.size) (i := 2) (by omega) (.slice C nc dc)))) ?_
  clear HK
  have hS := (HSI.out _ (((HY5.out.other (c := w.heap.size) (i := 0) (by omega) (.int .i64 t.boats)).other (c := w.heap.size) (i := 1) (by omega) (.slice P np cp)).other (c := w.heap.size) (i := 2) (by omega) (.slice C nc dc)))
  go_simp
  refine wpAnyT_take 7 (.slice A' m c) (by rw [HOPS.out]; rfl) (by rw [HOPS.out]; kernel_rfl) (by exact fun _ _ _ h => h) (by rfl) (fun w1 hS => by go_simp) hS ?_
  go_simp
  refine wpAnyT_take 8 (.slice A2 l cl) (by rw [HOPS.out]; rfl) (by rw [HOPS.out]; kernel_rfl) (by exact fun _ _ _ h => h) (by rfl) (fun w1 hS => by go_simp) hS ?_
  go_simp
  refine wpAnyT_take 9 (.int .i64 bo) (by rw [HOPS.out]; rfl) (by rw [HOPS.out]; kernel_rfl) (by exact fun _ _ _ h => h) (by rfl) (fun w1 hS => by go_simp) hS ?_
  go_simp
  refine wpAnyT_done (by rw [HOPS.out]; kernel_rfl) ?_ _
  go_wp2_with fail
  refine bodyPost_ret (v := .tuple #[.agg #[.int .i64 t.boats, .slice P np cp, .slice C nc dc], .slice A' m c, .slice A2 l cl, .int .i64 bo]) (by simp [results, Tryz.results11, go_sem, FZ]) rfl ?_
  have hput := put_chg (g := w.heap.size) [.int .i64 t.boats, .slice P np cp, .slice C nc dc] 0 (Chg.refl w.heap.size (w.heap.size + 1) wq) (Nat.le_refl _) (by omega)
  exact ⟨P, np, cp, C, nc, dc, A', m, c, A2, l, cl, rfl, (HK5.out.turn (chg_wide hput (Nat.zero_le _) (by omega))).less (by omega), own_base (own_chg HO5.out hput (fun b hb => .inr (by have := (HO5.out.lt b hb).1; omega))) (by omega), own_base (own_chg HQ5.out hput (fun b hb => .inr (by have := (HQ5.out.lt b hb).1; omega))) (by omega), below_chg HB5.out hput (Nat.le_refl _) HB5.out.size⟩
set_option maxHeartbeats 2000000 in
theorem implRanksOf_ok (P : Option Addr) (n c : Nat) (C : Option Addr) (m d : Nat) (t : Tb) (ok : TabOk t) (A : Option Addr) (l cl : Nat) (rule : List Int) (hrule : rule.length ≤ 3) (hc : codeT t rule 0 = 0) (w : World) (h : RdT w P n C m t) (hl : Rd w 1 A l (ints rule)) :
    Calls Tryz.prog 14 #[.agg #[.int .i64 t.boats, .slice P n c, .slice C m d], .slice A l cl] w fun e w' => ∃ A' n' c', e = .returned (.tuple #[.slice A' n' c', .int .i64 0]) ∧ w'.ownsRow w.heap.size 2 1 (.slice A' n' c') n' (ints (rkL t rule)) ∧ Below w.heap.size w w' := by
  obtain ⟨w1, hw1, X0, hb1, hs1⟩ := one_box w #[.int .i64 t.boats, .slice P n c, .slice C m d] 33
  have H1 := Lib.hid (fun w' (hz : Below w.heap.size w w') => implCode_any P n c C m d t A l cl rule 0 w' (h.below hz) (hl.below hz))
  rw [hc] at H1
  have H2 := Lib.hid (fun w' (hz : Below w.heap.size w w') => implRanks_any P n c C m d t ok A l cl rule hrule w' (h.below hz) (hl.below hz))
  have HB1 := Lib.hid hb1
  have HX := Lib.hid X0
  have HW1 := Lib.hid hw1
  have F0 := X0.f3
  generalize rkL t rule = L at *
  clear h hl hb1 X0 hw1 ok hrule hc
  go_enter Tryz.func14, Tryz.ntmps14
  go_wp2_with fail
  rw [← HW1.out]
  clear HW1
  refine (H1.out _ HB1.out).mono ?_
  rintro e w2 ⟨rfl, hb2⟩
  have HB2 := Lib.hid (HB1.out.trans (hb2.mono HB1.out.size))
  clear F0
  have F0 := (HX.out.below hb2).f3
  clear hb2
  go_wp2_with fail
  refine (H2.out _ HB2.out).mono ?_
  rintro e w3 ⟨A', n', c', rfl, ho3, -, hb3⟩
  have HB3 := Lib.hid (HB2.out.trans (hb3.mono HB2.out.size))
  have HO3 := Lib.hid (own_base ho3 HB2.out.size)
  clear hb3 ho3 F0
  go_wp2_with fail
  go_ret2
  exact ⟨A', n', c', rfl, HO3.out, HB3.out⟩
end Go.Proofs.YtalgdeieejpelaaGreatDoor

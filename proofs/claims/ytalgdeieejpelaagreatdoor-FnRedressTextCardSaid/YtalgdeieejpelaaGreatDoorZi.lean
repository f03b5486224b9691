/- Walks: RankChange (chapters 28 and 29), both sides. -/
import Derived.Test.YtalgdeieejpelaaGreatDoorZh
import Derived.Test.YtalgdeieejpelaaGreatDoorTm
import Derived.Test.YtalgdeieejpelaaGreatDoorZme
namespace Go.Proofs.YtalgdeieejpelaaGreatDoor
open Go.RowKit Go.Sort
set_option linter.unusedVariables false
set_option maxRecDepth 100000

/-- A boat's rank ahead of redress, its rank behind it, a code. -/
def rkChF (t : Tb) (xs : List RedT) (rule : List Int) (boat : Int) : Int × Int × Int :=
  if redCodeF t xs = 0 then (if codeT t rule boat = 0 then (rankT t rule boat, rankT (applyF t xs) rule boat, 0) else (0, 0, codeT t rule boat)) else (0, 0, redCodeF t xs)
theorem rkCh_red {t : Tb} {xs : List RedT} {rule : List Int} {boat : Int} (h : redCodeF t xs ≠ 0) : rkChF t xs rule boat = (0, 0, redCodeF t xs) := by unfold rkChF; rw [if_neg h]
theorem rkCh_code {t : Tb} {xs : List RedT} {rule : List Int} {boat : Int} (h : codeT t rule boat ≠ 0) : rkChF t xs rule boat = (0, 0, codeT t rule boat) := by
  unfold rkChF
  by_cases hr : redCodeF t xs = 0
  · rw [if_pos hr, if_neg h]
  · rw [if_neg hr]
    unfold codeT at h ⊢
    unfold redCodeF at hr ⊢
    by_cases ht : tableB t = true
    · rw [if_pos ht] at h hr ⊢
      rw [if_pos ht]
      by_cases h1 : redsB t xs = true
      · rw [if_pos h1] at hr; exact absurd rfl hr
      · rw [if_neg h1]
        by_cases h2 : ruleB rule = true ∧ withinB boat 0 (t.boats - 1) = true
        · rw [if_pos h2] at h; exact absurd rfl h
        · rw [if_neg h2]
    · rw [if_neg ht, if_neg ht]
theorem rkCh_ok {t : Tb} {xs : List RedT} {rule : List Int} {boat : Int} (h : redCodeF t xs = 0) (h2 : codeT t rule boat = 0) : rkChF t xs rule boat = (rankT t rule boat, rankT (applyF t xs) rule boat, 0) := by
  unfold rkChF; rw [if_pos h, if_pos h2]
theorem code_ok {t : Tb} {rule : List Int} {boat : Int} (h : codeT t rule boat = 0) : rule.length ≤ 3 ∧ 0 ≤ boat ∧ boat < t.boats := by
  unfold codeT at h
  by_cases ht : tableB t = true
  · rw [if_pos ht] at h
    by_cases h2 : ruleB rule = true ∧ withinB boat 0 (t.boats - 1) = true
    · have := withinB_iff.1 h2.2
      exact ⟨ruleB_len h2.1, by omega, by omega⟩
    · rw [if_neg h2] at h; omega
  · rw [if_neg ht] at h; omega
section
variable {Pr : Program} {ops : Array Oper} {Q : Exit → Act → World → Prop} {md : Region.Mode}
/-- From here on a stronger condition holds. -/
theorem wpAnyT_mono {S S' : World → Prop} {late : Nat → Bool} (hS : ∀ w, S' w → S w) : ∀ (fuel : Nat) (listed : Array Bool) (a : Act) (w : World), wpAnyT Pr md ops Q S' late fuel listed a w → wpAnyT Pr md ops Q S late fuel listed a w
  | 0, _, _, _, h => h
  | fuel + 1, _, _, _, h => ⟨h.1, fun i hi => wpOp_mono (fun a' w' h' => ⟨h'.1.imp id (hS w'), wpAnyT_mono hS fuel _ a' w' h'.2⟩) (h.2 i hi)⟩
end
set_option maxHeartbeats 16000000 in
theorem implRankCh_any (P : Option Addr) (n c : Nat) (C : Option Addr) (m d : Nat) (t : Tb) (L : Option Addr) (ln lc : Nat) (xs : List RedT) (A : Option Addr) (l cl : Nat) (rule : List Int) (boat : Int) (w : World) (h : RdT w P n C m t) (hx : Rd w 4 L ln (reds xs)) (hl : Rd w 1 A l (ints rule)) :
    Calls Tryz.prog 12 #[.agg #[.int .i64 t.boats, .slice P n c, .slice C m d], .slice L ln lc, .slice A l cl, .int .i64 boat] w (RetC w (rkChF t xs rule boat)) := by
  have HCR := Lib.hid (fun w' (hb : Below w.heap.size w w') => redressCode_any P n c C m d t L ln lc xs w' (h.below hb) (hx.below hb))
  have HCT := Lib.hid (fun w' (hb : Below w.heap.size w w') => implCode_any P n c C m d t A l cl rule boat w' (h.below hb) (hl.below hb))
  obtain ⟨w1, hw1, X0, hb1, hs1⟩ := one_box w #[.int .i64 t.boats, .slice P n c, .slice C m d] 33
  have HW1 := Lib.hid hw1
  have HX := Lib.hid X0
  have HB1 := Lib.hid hb1
  have F0 := X0.f3
  clear hw1 X0 hb1
  by_cases hz : redCodeF t xs = 0
  rotate_left
  · rw [rkCh_red hz]
    generalize redCodeF t xs = code at *
    have hne : (code != 0) = true := by simp [hz]
    clear hz h hx hl HCT
    go_enter Tryz.func12, Tryz.ntmps12
    go_wp2_with fail
    rw [← HW1.out]
    clear HW1
    refine (HCR.out _ HB1.out).mono ?_
    rintro e w2 ⟨rfl, hb2⟩
    have HB2 := Lib.hid (HB1.out.trans (hb2.mono HB1.out.size))
    clear hb2 F0
    go_wp2_with fail
    go_ret3
    exact ⟨rfl, HB2.out⟩
  by_cases hz2 : codeT t rule boat = 0
  rotate_left
  · rw [rkCh_code hz2]
    rw [hz] at HCR
    generalize codeT t rule boat = code at *
    have hne : (code != 0) = true := by simp [hz2]
    clear hz hz2 h hx hl
    go_enter Tryz.func12, Tryz.ntmps12
    go_wp2_with fail
    rw [← HW1.out]
    clear HW1
    refine (HCR.out _ HB1.out).mono ?_
    rintro e w2 ⟨rfl, hb2⟩
    have HB2 := Lib.hid (HB1.out.trans (hb2.mono HB1.out.size))
    clear F0
    have F0 := (HX.out.below hb2).f3
    clear hb2
    go_wp2_with fail
    refine (HCT.out _ HB2.out).mono ?_
    rintro e w3 ⟨rfl, hb3⟩
    have HB3 := Lib.hid (HB2.out.trans (hb3.mono HB2.out.size))
    clear hb3 F0
    go_wp2_with fail
    go_ret3
    exact ⟨rfl, HB3.out⟩
  obtain ⟨hrule, hb0, hbN⟩ := code_ok hz2
  have ok := tableB_ok (redCode_ok hz).1
  have ok2 : TabOk (applyF t xs) := tableB_ok (applyF_tab ok (redCode_ok hz).2)
  obtain ⟨bt, rfl⟩ := int_up boat hb0
  obtain ⟨N, hN⟩ : ∃ N : Nat, t.boats = (N : Int) := ⟨t.boats.toNat, by have := ok.b1; omega⟩
  have hNb : bt < N := by omega
  have HAP := Lib.hid (fun w' (hb : Below w.heap.size w w') => applyRedress_any P n c C m d t L ln lc xs ok (redCode_ok hz).2 w' (h.below hb) (hx.below hb))
  have HRK := Lib.hid (fun w' (hb : Below w.heap.size w w') => implRanks_any P n c C m d t ok A l cl rule hrule w' (h.below hb) (hl.below hb))
  have HR2 := Lib.hid (fun P1 n1 c1 C1 m1 d1 w' (hb : Below w.heap.size w w') (ho : RdT w' P1 n1 C1 m1 (applyF t xs)) => implRanks_any P1 n1 c1 C1 m1 d1 (applyF t xs) ok2 A l cl rule hrule w' ho (hl.below hb))
  rw [rkCh_ok hz hz2]
  rw [hz] at HCR
  rw [hz2] at HCT
  have hB2 : (applyF t xs).boats = t.boats := rfl
  generalize applyF t xs = t2 at *
  have HRG := Lib.hid (rkL_get hN rule hNb)
  have HRL := Lib.hid (rkL_len hN rule)
  have HRG2 := Lib.hid (rkL_get (t := t2) (hB2.trans hN) rule hNb)
  have HRL2 := Lib.hid (rkL_len (t := t2) (hB2.trans hN) rule)
  have HLR := Lib.hid (fun w' (hb : Below w.heap.size w w') => hl.below hb)
  generalize rankT t rule (bt : Int) = k1 at *
  generalize rankT t2 rule (bt : Int) = k2 at *
  generalize rkL t rule = R1 at *
  generalize rkL t2 rule = R2 at *
  clear hz hz2 ok ok2 h hx hl hrule hb0 hbN hN hB2
  go_enter Tryz.func12, Tryz.ntmps12
  go_wp2_with fail
  rw [← HW1.out]
  clear HW1
  refine (HCR.out _ HB1.out).mono ?_
  rintro e w2 ⟨rfl, hb2⟩
  have HB2 := Lib.hid (HB1.out.trans (hb2.mono HB1.out.size))
  clear F0
  have HX2 := Lib.hid (HX.out.below hb2)
  have F0 := HX2.out.f3
  clear hb2
  go_wp2_with fail
  refine (HCT.out _ HB2.out).mono ?_
  rintro e w3 ⟨rfl, hb3⟩
  have HB3 := Lib.hid (HB2.out.trans (hb3.mono HB2.out.size))
  have HX3 := Lib.hid (HX2.out.below hb3)
  clear hb3 F0
  go_wp2_with fail
  obtain ⟨S1, hSE, hSI⟩ : ∃ S : World → Prop, (∀ w1, S w1 → (Below w3.heap.size w3 w1 ∧ w1.cell? ⟨w.heap.size, 0, none⟩ = some (.int .i64 t.boats) ∧ w1.cell? ⟨w.heap.size, 1, none⟩ = some (.slice P n c) ∧ w1.cell? ⟨w.heap.size, 2, none⟩ = some (.slice C m d))) ∧ (∀ w1, Below w3.heap.size w3 w1 → S w1) := ⟨fun w1 => Below w3.heap.size w3 w1, fun w1 hb => ⟨hb, (HX3.out.below hb).cell (i := 0) rfl, (HX3.out.below hb).cell (i := 1) rfl, (HX3.out.below hb).cell (i := 2) rfl⟩, fun _ h => h⟩
  have HSE_S1 := Lib.hid hSE
  have HSI_S1 := Lib.hid hSI
  clear hSE hSI
  refine wp_norm ?_
  refine wp_region_T2 (n := 17) S1 (fun j => false) (by kernel_rfl) rfl ?_
  intro ops HOPS
  have hS := HSI_S1.out _ (below_drewN' _ w3 1)
  refine wpAnyT_take 0 (.agg #[.int .i64 t.boats, .slice P n c, .slice C m d]) (by rw [HOPS.out]; rfl) (by rw [HOPS.out]; kernel_rfl) (by exact fun _ _ _ h => h) (by rfl) (fun w1 hS => by obtain ⟨_, s1, s2, s3⟩ := HSE_S1.out _ hS; go_simp) hS ?_
  go_simp
  refine wpAnyT_take 1 (.slice A l cl) (by rw [HOPS.out]; rfl) (by rw [HOPS.out]; kernel_rfl) (by exact fun _ _ _ h => h) (by rfl) (fun w1 hS => by go_simp) hS ?_
  go_simp
  refine wpAnyT_take 3 (.int .i64 (bt : Int)) (by rw [HOPS.out]; rfl) (by rw [HOPS.out]; kernel_rfl) (by exact fun _ _ _ h => h) (by rfl) (fun w1 hS => by go_simp) hS ?_
  go_simp
  refine wpAnyT_take 6 (.agg #[.int .i64 t.boats, .slice P n c, .slice C m d]) (by rw [HOPS.out]; rfl) (by rw [HOPS.out]; kernel_rfl) (by exact fun _ _ _ h => h) (by rfl) (fun w1 hS => by obtain ⟨_, s1, s2, s3⟩ := HSE_S1.out _ hS; go_simp) hS ?_
  go_simp
  refine wpAnyT_take 7 (.slice L ln lc) (by rw [HOPS.out]; rfl) (by rw [HOPS.out]; kernel_rfl) (by exact fun _ _ _ h => h) (by rfl) (fun w1 hS => by go_simp) hS ?_
  go_simp
  refine wpAnyT_take 9 (.slice A l cl) (by rw [HOPS.out]; rfl) (by rw [HOPS.out]; kernel_rfl) (by exact fun _ _ _ h => h) (by rfl) (fun w1 hS => by go_simp) hS ?_
  go_simp
  refine wpAnyT_take 11 (.int .i64 (bt : Int)) (by rw [HOPS.out]; rfl) (by rw [HOPS.out]; kernel_rfl) (by exact fun _ _ _ h => h) (by rfl) (fun w1 hS => by go_simp) hS ?_
  go_simp
  refine wpAnyT_one 2 (by rw [HOPS.out]; rfl) (by rw [HOPS.out]; kernel_rfl) ?_
  intro K' hK
  have HK := Lib.hid hK
  clear hK
  go_simp
  go_at_call 32
  refine (HRK.out _ (HB3.out.trans ((below_drewN' _ w3 1).mono HB3.out.size))).mono ?_
  rintro e wr1 ⟨A1, q1, d1, rfl, ho1, -, hb1⟩
  have HBr1 := Lib.hid (show Below w3.heap.size w3 wr1 from (below_drewN' w3.heap.size w3 1).trans hb1)
  obtain rfl : q1 = N := by rw [← own_len ho1, HRL.out]
  obtain ⟨g1, y1, rfl, -, -, hy1, hc1, -⟩ := own_int_at ho1 (k := bt) hNb
  obtain rfl : y1 = k1 := by have := HRG.out; rw [hy1] at this; injection this
  refine HK.out _ _ (.inr (HSI_S1.out _ HBr1.out)) ?_
  clear HK
  go_simp
  obtain ⟨S2, hSE, hSI⟩ : ∃ S : World → Prop, (∀ w1, S w1 → (Below wr1.heap.size wr1 w1 ∧ w1.cell? ⟨g1, bt, none⟩ = some (.int .i64 y1))) ∧ (∀ w1, Below wr1.heap.size wr1 w1 → S w1) := ⟨fun w1 => Below wr1.heap.size wr1 w1, fun w1 hb => ⟨hb, (hb.cell (p := ⟨g1, bt, none⟩) (cell_lt hc1)).trans hc1⟩, fun _ h => h⟩
  have HSE_S2 := Lib.hid hSE
  have HSI_S2 := Lib.hid hSI
  clear hSE hSI
  clear hS ho1 hy1 hc1
  refine wpAnyT_mono (S' := S2) (fun w1 h => HSI_S1.out _ (HBr1.out.trans ((HSE_S2.out _ h).1.mono HBr1.out.size))) _ _ _ _ ?_
  have hS := HSI_S2.out _ (Below.refl _ _)
  refine wpAnyT_take 4 (.pointer (some ⟨g1, bt, none⟩)) (by rw [HOPS.out]; rfl) (by rw [HOPS.out]; kernel_rfl) (by exact fun _ _ _ h => h) (by rfl) (fun w1 hS => by go_simp) hS ?_
  go_simp
  refine wpAnyT_take 5 (.int .i64 y1) (by rw [HOPS.out]; rfl) (by rw [HOPS.out]; kernel_rfl) (by exact fun _ _ _ h => h) (by rfl) (fun w1 hS => by obtain ⟨_, s1⟩ := HSE_S2.out _ hS; go_simp) hS ?_
  go_simp
  refine wpAnyT_one 8 (by rw [HOPS.out]; rfl) (by rw [HOPS.out]; kernel_rfl) ?_
  intro K' hK
  have HK := Lib.hid hK
  clear hK
  go_simp
  go_at_call 33
  refine (HAP.out _ (HB3.out.trans (HBr1.out.mono HB3.out.size))).mono ?_
  rintro e wr2 ⟨P2, n2, c2, vs2, C2, m2, d2, us2, rfl, ho2, -, hb2⟩
  have HBr2 := Lib.hid hb2
  have HO2 := Lib.hid ho2.rd
  clear ho2 hb2
  refine HK.out _ _ (.inr (HSI_S2.out _ HBr2.out)) ?_
  clear HK
  go_simp
  refine wpAnyT_one 10 (by rw [HOPS.out]; rfl) (by rw [HOPS.out]; kernel_rfl) ?_
  intro K' hK
  have HK := Lib.hid hK
  clear hK
  go_simp
  go_at_call 32
  refine (HR2.out _ _ _ _ _ _ _ (HB3.out.trans ((HBr1.out.trans (HBr2.out.mono HBr1.out.size)).mono HB3.out.size)) HO2.out).mono ?_
  rintro e wr3 ⟨A3, q3, d3, rfl, ho3, -, hb3⟩
  have HBr3 := Lib.hid (show Below wr1.heap.size wr1 wr3 from HBr2.out.trans (hb3.mono HBr2.out.size))
  have hq3 : q3 = q1 := by rw [← own_len ho3, HRL2.out]
  subst hq3
  obtain ⟨g3, y3, rfl, -, -, hy3, hc3, -⟩ := own_int_at ho3 (k := bt) hNb
  obtain rfl : y3 = k2 := by have := HRG2.out; rw [hy3] at this; injection this
  refine HK.out _ _ (.inr (HSI_S2.out _ HBr3.out)) ?_
  clear HK
  go_simp
  obtain ⟨S3, hSE, hSI⟩ : ∃ S : World → Prop, (∀ w1, S w1 → (Below wr3.heap.size wr3 w1 ∧ w1.cell? ⟨g3, bt, none⟩ = some (.int .i64 y3))) ∧ (∀ w1, Below wr3.heap.size wr3 w1 → S w1) := ⟨fun w1 => Below wr3.heap.size wr3 w1, fun w1 hb => ⟨hb, (hb.cell (p := ⟨g3, bt, none⟩) (cell_lt hc3)).trans hc3⟩, fun _ h => h⟩
  have HSE_S3 := Lib.hid hSE
  have HSI_S3 := Lib.hid hSI
  clear hSE hSI
  clear hS ho3 hy3 hc3
  refine wpAnyT_mono (S' := S3) (fun w1 h => HSI_S2.out _ (HBr3.out.trans ((HSE_S3.out _ h).1.mono HBr3.out.size))) _ _ _ _ ?_
  have hS := HSI_S3.out _ (Below.refl _ _)
  refine wpAnyT_take 12 (.pointer (some ⟨g3, bt, none⟩)) (by rw [HOPS.out]; rfl) (by rw [HOPS.out]; kernel_rfl) (by exact fun _ _ _ h => h) (by rfl) (fun w1 hS => by go_simp) hS ?_
  go_simp
  refine wpAnyT_take 13 (.int .i64 y3) (by rw [HOPS.out]; rfl) (by rw [HOPS.out]; kernel_rfl) (by exact fun _ _ _ h => h) (by rfl) (fun w1 hS => by obtain ⟨_, s1⟩ := HSE_S3.out _ hS; go_simp) hS ?_
  go_simp
  refine wpAnyT_take 14 (.int .i64 y1) (by rw [HOPS.out]; rfl) (by rw [HOPS.out]; kernel_rfl) (by exact fun _ _ _ h => h) (by rfl) (fun w1 hS => by go_simp) hS ?_
  go_simp
  refine wpAnyT_take 15 (.int .i64 y3) (by rw [HOPS.out]; rfl) (by rw [HOPS.out]; kernel_rfl) (by exact fun _ _ _ h => h) (by rfl) (fun w1 hS => by go_simp) hS ?_
  go_simp
  refine wpAnyT_take 16 (.int .i64 0) (by rw [HOPS.out]; rfl) (by rw [HOPS.out]; kernel_rfl) (by exact fun _ _ _ h => h) (by rfl) (fun w1 hS => by go_simp) hS ?_
  go_simp
  refine wpAnyT_done (by rw [HOPS.out]; kernel_rfl) ?_ _
  simp only [NormQ]
  have HBE := Lib.hid (HB3.out.trans ((HBr1.out.trans (HBr3.out.mono HBr1.out.size)).mono HB3.out.size))
  go_wp2_with fail
  go_ret3
  exact ⟨rfl, HBE.out⟩
set_option maxHeartbeats 16000000 in
theorem specRankCh_any (P : Option Addr) (n c : Nat) (C : Option Addr) (m d : Nat) (t : Tb) (L : Option Addr) (ln lc : Nat) (xs : List RedT) (A : Option Addr) (l cl : Nat) (rule : List Int) (boat : Int) (w : World) (h : RdT w P n C m t) (hx : Rd w 4 L ln (reds xs)) (hl : Rd w 1 A l (ints rule)) :
    Calls Tryz.prog 13 #[.agg #[.int .i64 t.boats, .slice P n c, .slice C m d], .slice L ln lc, .slice A l cl, .int .i64 boat] w (RetC w (rkChF t xs rule boat)) := by
  have HCR := Lib.hid (fun w' (hb : Below w.heap.size w w') => l29Code_any P n c C m d t L ln lc xs w' (h.below hb) (hx.below hb))
  have HCT := Lib.hid (fun w' (hb : Below w.heap.size w w') => specCode_any P n c C m d t A l cl rule boat w' (h.below hb) (hl.below hb))
  obtain ⟨w1, hw1, X0, hb1, hs1⟩ := one_box w #[.int .i64 t.boats, .slice P n c, .slice C m d] 33
  have HW1 := Lib.hid hw1
  have HX := Lib.hid X0
  have HB1 := Lib.hid hb1
  have F0 := X0.f3
  clear hw1 X0 hb1
  by_cases hz2 : codeT t rule boat = 0
  rotate_left
  · rw [rkCh_code hz2]
    generalize codeT t rule boat = code at *
    have hne : (code == 0) = false := by simp [hz2]
    have hne2 : (code != 0) = true := by simp [hz2]
    clear hz2 h hx hl HCR
    go_enter Tryz.func13, Tryz.ntmps13
    go_wp2_with fail
    rw [← HW1.out]
    clear HW1
    refine (HCT.out _ HB1.out).mono ?_
    rintro e w2 ⟨rfl, hb2⟩
    have HB2 := Lib.hid (HB1.out.trans (hb2.mono HB1.out.size))
    clear hb2 F0
    go_wp2_with fail
    go_ret3
    exact ⟨rfl, HB2.out⟩
  by_cases hz : redCodeF t xs = 0
  rotate_left
  · rw [rkCh_red hz]
    rw [hz2] at HCT
    generalize redCodeF t xs = code at *
    have hne : (code != 0) = true := by simp [hz]
    clear hz hz2 h hx hl
    go_enter Tryz.func13, Tryz.ntmps13
    go_wp2_with fail
    rw [← HW1.out]
    clear HW1
    refine (HCT.out _ HB1.out).mono ?_
    rintro e w2 ⟨rfl, hb2⟩
    have HB2 := Lib.hid (HB1.out.trans (hb2.mono HB1.out.size))
    clear F0
    have F0 := (HX.out.below hb2).f3
    clear hb2
    go_wp2_with fail
    refine (HCR.out _ HB2.out).mono ?_
    rintro e w3 ⟨rfl, hb3⟩
    have HB3 := Lib.hid (HB2.out.trans (hb3.mono HB2.out.size))
    clear hb3 F0
    go_wp2_with fail
    go_ret3
    exact ⟨rfl, HB3.out⟩
  obtain ⟨hrule, hb0, hbN⟩ := code_ok hz2
  have ok := tableB_ok (redCode_ok hz).1
  have ok2 : TabOk (applyF t xs) := tableB_ok (applyF_tab ok (redCode_ok hz).2)
  obtain ⟨bt, rfl⟩ := int_up boat hb0
  obtain ⟨N, hN⟩ : ∃ N : Nat, t.boats = (N : Int) := ⟨t.boats.toNat, by have := ok.b1; omega⟩
  have hNb : bt < N := by omega
  have HAP := Lib.hid (fun w' (hb : Below w.heap.size w w') => l29Apply_any P n c C m d t L ln lc xs ok (redCode_ok hz).2 w' (h.below hb) (hx.below hb))
  have HRK := Lib.hid (fun w' (hb : Below w.heap.size w w') => specRank_any P n c C m d t ok A l cl rule hrule bt (by omega) w' (h.below hb) (hl.below hb))
  have HR2 := Lib.hid (fun P1 n1 c1 C1 m1 d1 w' (hb : Below w.heap.size w w') (ho : RdT w' P1 n1 C1 m1 (applyF t xs)) => specRank_any P1 n1 c1 C1 m1 d1 (applyF t xs) ok2 A l cl rule hrule bt (by show (bt : Int) < t.boats; omega) w' ho (hl.below hb))
  rw [rkCh_ok hz hz2]
  rw [hz] at HCR
  rw [hz2] at HCT
  have hB2 : (applyF t xs).boats = t.boats := rfl
  generalize applyF t xs = t2 at *
  generalize rankT t rule (bt : Int) = k1 at *
  generalize rankT t2 rule (bt : Int) = k2 at *
  clear hz hz2 ok ok2 h hx hl hrule hb0 hbN hN hB2
  go_enter Tryz.func13, Tryz.ntmps13
  go_wp2_with fail
  rw [← HW1.out]
  clear HW1
  refine (HCT.out _ HB1.out).mono ?_
  rintro e w2 ⟨rfl, hb2⟩
  have HB2 := Lib.hid (HB1.out.trans (hb2.mono HB1.out.size))
  clear F0
  have HX2 := Lib.hid (HX.out.below hb2)
  have F0 := HX2.out.f3
  clear hb2
  go_wp2_with fail
  refine (HCR.out _ HB2.out).mono ?_
  rintro e w3 ⟨rfl, hb3⟩
  have HB3 := Lib.hid (HB2.out.trans (hb3.mono HB2.out.size))
  have HX3 := Lib.hid (HX2.out.below hb3)
  clear hb3 F0
  go_wp2_with fail
  obtain ⟨S1, hSE, hSI⟩ : ∃ S : World → Prop, (∀ w1, S w1 → (Below w3.heap.size w3 w1 ∧ w1.cell? ⟨w.heap.size, 0, none⟩ = some (.int .i64 t.boats) ∧ w1.cell? ⟨w.heap.size, 1, none⟩ = some (.slice P n c) ∧ w1.cell? ⟨w.heap.size, 2, none⟩ = some (.slice C m d))) ∧ (∀ w1, Below w3.heap.size w3 w1 → S w1) := ⟨fun w1 => Below w3.heap.size w3 w1, fun w1 hb => ⟨hb, (HX3.out.below hb).cell (i := 0) rfl, (HX3.out.below hb).cell (i := 1) rfl, (HX3.out.below hb).cell (i := 2) rfl⟩, fun _ h => h⟩
  have HSE_S1 := Lib.hid hSE
  have HSI_S1 := Lib.hid hSI
  clear hSE hSI
  refine wp_norm ?_
  refine wp_region_T2 (n := 13) S1 (fun j => false) (by kernel_rfl) rfl ?_
  intro ops HOPS
  have hS := HSI_S1.out _ (below_drewN' _ w3 1)
  refine wpAnyT_take 0 (.agg #[.int .i64 t.boats, .slice P n c, .slice C m d]) (by rw [HOPS.out]; rfl) (by rw [HOPS.out]; kernel_rfl) (by exact fun _ _ _ h => h) (by rfl) (fun w1 hS => by obtain ⟨_, s1, s2, s3⟩ := HSE_S1.out _ hS; go_simp) hS ?_
  go_simp
  refine wpAnyT_take 1 (.slice A l cl) (by rw [HOPS.out]; rfl) (by rw [HOPS.out]; kernel_rfl) (by exact fun _ _ _ h => h) (by rfl) (fun w1 hS => by go_simp) hS ?_
  go_simp
  refine wpAnyT_take 2 (.int .i64 (bt : Int)) (by rw [HOPS.out]; rfl) (by rw [HOPS.out]; kernel_rfl) (by exact fun _ _ _ h => h) (by rfl) (fun w1 hS => by go_simp) hS ?_
  go_simp
  refine wpAnyT_take 4 (.agg #[.int .i64 t.boats, .slice P n c, .slice C m d]) (by rw [HOPS.out]; rfl) (by rw [HOPS.out]; kernel_rfl) (by exact fun _ _ _ h => h) (by rfl) (fun w1 hS => by obtain ⟨_, s1, s2, s3⟩ := HSE_S1.out _ hS; go_simp) hS ?_
  go_simp
  refine wpAnyT_take 5 (.slice L ln lc) (by rw [HOPS.out]; rfl) (by rw [HOPS.out]; kernel_rfl) (by exact fun _ _ _ h => h) (by rfl) (fun w1 hS => by go_simp) hS ?_
  go_simp
  refine wpAnyT_take 7 (.slice A l cl) (by rw [HOPS.out]; rfl) (by rw [HOPS.out]; kernel_rfl) (by exact fun _ _ _ h => h) (by rfl) (fun w1 hS => by go_simp) hS ?_
  go_simp
  refine wpAnyT_take 8 (.int .i64 (bt : Int)) (by rw [HOPS.out]; rfl) (by rw [HOPS.out]; kernel_rfl) (by exact fun _ _ _ h => h) (by rfl) (fun w1 hS => by go_simp) hS ?_
  go_simp
  refine wpAnyT_one 3 (by rw [HOPS.out]; rfl) (by rw [HOPS.out]; kernel_rfl) ?_
  intro K' hK
  have HK := Lib.hid hK
  clear hK
  go_simp
  go_at_call 36
  refine (HRK.out _ (HB3.out.trans ((below_drewN' _ w3 1).mono HB3.out.size))).mono ?_
  rintro e wr1 ⟨rfl, hb1⟩
  have HBr1 := Lib.hid (show Below w3.heap.size w3 wr1 from (below_drewN' w3.heap.size w3 1).trans hb1)
  clear hb1
  refine HK.out _ _ (.inr (HSI_S1.out _ HBr1.out)) ?_
  clear HK
  go_simp
  refine wpAnyT_one 6 (by rw [HOPS.out]; rfl) (by rw [HOPS.out]; kernel_rfl) ?_
  intro K' hK
  have HK := Lib.hid hK
  clear hK
  go_simp
  go_at_call 37
  refine (HAP.out _ (HB3.out.trans (HBr1.out.mono HB3.out.size))).mono ?_
  rintro e wr2 ⟨P2, n2, c2, vs2, C2, m2, d2, us2, rfl, ho2, -, hb2⟩
  have HBr2 := Lib.hid (HBr1.out.trans (hb2.mono HBr1.out.size))
  have HO2 := Lib.hid ho2.rd
  clear ho2 hb2
  refine HK.out _ _ (.inr (HSI_S1.out _ HBr2.out)) ?_
  clear HK
  go_simp
  refine wpAnyT_one 9 (by rw [HOPS.out]; rfl) (by rw [HOPS.out]; kernel_rfl) ?_
  intro K' hK
  have HK := Lib.hid hK
  clear hK
  go_simp
  go_at_call 36
  refine (HR2.out _ _ _ _ _ _ _ (HB3.out.trans (HBr2.out.mono HB3.out.size)) HO2.out).mono ?_
  rintro e wr3 ⟨rfl, hb3⟩
  have HBr3 := Lib.hid (HBr2.out.trans (hb3.mono HBr2.out.size))
  clear hb3
  refine HK.out _ _ (.inr (HSI_S1.out _ HBr3.out)) ?_
  clear HK
  go_simp
  clear hS
  have hS := HSI_S1.out _ HBr3.out
  refine wpAnyT_take 10 (.int .i64 k1) (by rw [HOPS.out]; rfl) (by rw [HOPS.out]; kernel_rfl) (by exact fun _ _ _ h => h) (by rfl) (fun w1 hS => by go_simp) hS ?_
  go_simp
  refine wpAnyT_take 11 (.int .i64 k2) (by rw [HOPS.out]; rfl) (by rw [HOPS.out]; kernel_rfl) (by exact fun _ _ _ h => h) (by rfl) (fun w1 hS => by go_simp) hS ?_
  go_simp
  refine wpAnyT_take 12 (.int .i64 0) (by rw [HOPS.out]; rfl) (by rw [HOPS.out]; kernel_rfl) (by exact fun _ _ _ h => h) (by rfl) (fun w1 hS => by go_simp) hS ?_
  go_simp
  refine wpAnyT_done (by rw [HOPS.out]; kernel_rfl) ?_ _
  simp only [NormQ]
  have HBE := Lib.hid (HB3.out.trans (HBr3.out.mono HB3.out.size))
  go_wp2_with fail
  go_ret3
  exact ⟨rfl, HBE.out⟩
end Go.Proofs.YtalgdeieejpelaaGreatDoor

/- The walk of FnRegister. -/
import Derived.Test.YtalgdeieejpelaaGreatZmn
import Derived.Test.YtalgdeieejpelaaGreatZu
import Derived.Test.YtalgdeieejpelaaGreatZmg
import Derived.Test.YtalgdeieejpelaaGreatZmh
import Derived.IntWalk
namespace Go.Proofs.YtalgdeieejpelaaGreat
open Go.RowKit Go.Sort
set_option linter.unusedVariables false
set_option maxRecDepth 100000

set_option maxHeartbeats 16000000 in
theorem fnRegister_walk (a0 : Option Addr) (len0 cap0 : Nat) (z0 : List Int) (w : World) (v0 : IsRow .u8 w a0 len0 cap0 z0) :
    Calls Tryz.prog 4 #[.slice a0 len0 cap0] w fun e w' => e = .returned (.bool true) ∧ Below w.heap.size w w' := by
  have hle := v0.lenle
  by_cases hbig : 4096 < len0
  · have hd : decide (4096 < len0) = true := by simpa using hbig
    have HB := Lib.hid (big_any a0 len0 cap0 hle w)
    rw [hd] at HB
    clear hd v0
    go_enter Tryz.func4, Tryz.ntmps4
    go_wp2_with fail
    refine HB.out.mono ?_
    rintro e w' ⟨rfl, rfl⟩
    go_wp2_with fail
    go_ret
    exact ⟨rfl, Below.refl _ _⟩
  have hd : decide (4096 < len0) = false := by simpa using hbig
  have HB := Lib.hid (big_any a0 len0 cap0 hle w)
  rw [hd] at HB
  clear hd
  have hcode := code0_of v0 (by omega)
  generalize z0.take len0 = code at hcode
  clear v0
  have hn4 := hcode.n4
  have HD := Lib.hid (fun W hb => drawRR_any w a0 len0 cap0 code hcode W hb)
  have HCODE := Lib.hid hcode
  clear hcode
  generalize rrD code = D at *
  obtain ⟨⟨rb, rs, rl⟩, ru⟩ := D
  obtain ⟨Z, hZ⟩ : ∃ Z, Z = standCF rb rs rl ru := ⟨_, rfl⟩
  have HI := Lib.hid (fun A n c A2 l cl W h h' => implRegStand_any rb rs A n c rl A2 l cl ru W h h')
  have HS := Lib.hid (fun A n c A2 l cl W h h' => specRegStand_any rb rs A n c rl A2 l cl ru W h h')
  rw [← hZ] at HI HS
  obtain ⟨L, C⟩ := Z
  have HZ := Lib.hid hZ.symm
  clear hZ
  go_enter Tryz.func4, Tryz.ntmps4
  go_wp2_with fail
  refine HB.out.mono ?_
  rintro e w' ⟨rfl, rfl⟩
  go_wp2_with fail
  refine (HD.out _ (Below.refl _ _)).mono ?_
  rintro e W1 ⟨A1, m1, c1, D1, l1, e1, rfl, o1, lm1, q1, hb⟩
  have B_W1 := Lib.hid (hb)
  have z_W1 := hb.size
  have O1 := Lib.hid o1
  have Q1 := Lib.hid q1
  clear hb
  try simp only
  clear lm1
  obtain ⟨W2, hw, Xr, hb, hs⟩ := one_box W1 #[.int .i64 rb, .int .i64 rs, .slice A1 m1 c1] 31
  replace Xr := Lib.hid Xr
  have B_W2 := Lib.hid (B_W1.out.trans (hb.mono B_W1.out.size))
  have z_W2 := hb.size
  replace O1 := Lib.hid (own_below O1.out hb)
  replace Q1 := Lib.hid (own_below Q1.out hb)
  have l_r := Xr.out.lt
  have e_W2 : W2.heap.size = W1.heap.size + 1 := hs
  replace e_W2 := Lib.hid e_W2
  have HW_W2 := Lib.hid hw
  clear hb hs hw
  go_wp2_with fail
  rw [← HW_W2.out]
  clear HW_W2
  refine (HI.out _ _ _ _ _ _ _ ⟨own_rd O1.out, own_capE O1.out⟩ (own_rd Q1.out)).mono ?_
  rintro e W3 ⟨A2, n2, c2, rfl, o2, sm2, hb⟩
  have B_W3 := Lib.hid (B_W2.out.trans (hb.mono B_W2.out.size))
  have z_W3 := hb.size
  replace O1 := Lib.hid (own_below O1.out hb)
  replace Q1 := Lib.hid (own_below Q1.out hb)
  replace Xr := Lib.hid (Xr.out.below hb)
  have L2 := Lib.hid o2
  clear hb
  try simp only
  clear O1
  clear Q1
  go_wp2_with fail
  refine (HD.out _ B_W3.out).mono ?_
  rintro e W4 ⟨A3, m3, c3, D3, l3, e3, rfl, o3, lm3, q3, hb⟩
  have B_W4 := Lib.hid (B_W3.out.trans (hb.mono B_W3.out.size))
  have z_W4 := hb.size
  replace L2 := Lib.hid (own_below L2.out hb)
  replace Xr := Lib.hid (Xr.out.below hb)
  have O3 := Lib.hid o3
  have Q3 := Lib.hid q3
  clear hb
  try simp only
  have ee := e_W2.out
  have e4 := B_W1.out.size
  have e5 := B_W2.out.size
  have e6 := B_W3.out.size
  obtain ⟨W5, hw⟩ : ∃ wz : World, wz = (((W4.setCell ⟨W1.heap.size, 0, none⟩ (.int .i64 rb)).setCell ⟨W1.heap.size, 1, none⟩ (.int .i64 rs)).setCell ⟨W1.heap.size, 2, none⟩ (.slice A3 m3 c3)) := ⟨_, rfl⟩
  have hc : Chg (W1.heap.size) (W1.heap.size + 1) W4 W5 := by rw [hw]; (repeat refine chg_set ?_ (by omega) (by omega) _); exact Chg.refl _ _ _
  have B_W5 := Lib.hid (below_chg B_W4.out hc (by omega) B_W4.out.size)
  have z_W5 := hc.size
  replace L2 := Lib.hid (own_chg L2.out hc (fun b hb => by have := (L2.out.lt b hb).1; omega))
  replace O3 := Lib.hid (own_chg O3.out hc (fun b hb => by have := (O3.out.lt b hb).1; omega))
  replace Q3 := Lib.hid (own_chg Q3.out hc (fun b hb => by have := (Q3.out.lt b hb).1; omega))
  have Yr : Box W5 (W1.heap.size) #[.int .i64 rb, .int .i64 rs, .slice A3 m3 c3] 31 := by rw [hw]; have := (((Xr.out.set 0 (.int .i64 rb)).set 1 (.int .i64 rs)).set 2 (.slice A3 m3 c3)); simpa using this
  have Gr := Xr.out.f3
  replace Xr := Lib.hid Yr
  clear Yr
  have HW_W5 := Lib.hid hw
  clear hw hc
  go_wp2_with fail
  rw [← HW_W5.out]
  clear HW_W5 Gr
  clear ee e4 e5 e6
  refine (HS.out _ _ _ _ _ _ _ ⟨own_rd O3.out, own_capE O3.out⟩ (own_rd Q3.out)).mono ?_
  rintro e W6 ⟨A4, n4, c4, rfl, o4, sm4, hb⟩
  have B_W6 := Lib.hid (B_W5.out.trans (hb.mono B_W5.out.size))
  have z_W6 := hb.size
  replace L2 := Lib.hid (own_below L2.out hb)
  replace O3 := Lib.hid (own_below O3.out hb)
  replace Q3 := Lib.hid (own_below Q3.out hb)
  replace Xr := Lib.hid (Xr.out.below hb)
  have L4 := Lib.hid o4
  clear hb
  try simp only
  have hcc : (C != C) = false := by simp
  go_wp2_with fail
  refine (likeInts_same _ _ _ _ _ _ L _ (own_rd L2.out) (own_rd L4.out)).mono ?_
  rintro e W7 ⟨rfl, hb⟩
  have B_W7 := Lib.hid (B_W6.out.trans (hb.mono B_W6.out.size))
  have z_W7 := hb.size
  replace L2 := Lib.hid (own_below L2.out hb)
  replace O3 := Lib.hid (own_below O3.out hb)
  replace Q3 := Lib.hid (own_below Q3.out hb)
  replace L4 := Lib.hid (own_below L4.out hb)
  replace Xr := Lib.hid (Xr.out.below hb)
  clear hb
  try simp only
  clear hcc
  by_cases hC0 : C = 0
  rotate_left
  · have hCb : (C != 0) = true := by simp [hC0]
    clear hC0
    go_wp2_with fail
    go_ret
    exact ⟨rfl, B_W7.out⟩
  subst hC0
  obtain ⟨hreg, hrule, hL⟩ := stand_good HZ.out
  have HOK := Lib.hid (regB_ok hreg)
  have HRL := Lib.hid hrule
  have HLE := Lib.hid hL
  have HLN := Lib.hid (own_len_flat entC_len (by decide) O3.out)
  clear hreg hrule hL
  clear L4
  have HOT := Lib.hid (fun kk A n c A2 l cl W h h' => implRegStand_any rb rs A n c (othE rl kk) A2 l cl ru W h h')
  have HO2 := Lib.hid (show ∀ kk, standCF rb rs (othE rl kk) ru = (L, 0) from fun kk => by rw [stand_order HOK.out (HOK.out.perm (oth_perm rl kk).symm).regB HOK.out.regB (oth_perm rl kk).symm]; exact HZ.out)
  have HTO := Lib.hid (show ∀ kk, tabR rb rs (othE rl kk) = tabR rb rs rl from fun kk => tabR_order HOK.out (oth_perm rl kk).symm)
  obtain ⟨tt, htt⟩ : ∃ tt, tt = tabR rb rs rl := ⟨_, rfl⟩
  obtain ⟨rows, hrows⟩ : ∃ rows, rows = serF rb rl := ⟨_, rfl⟩
  have HT1 := Lib.hid (fun A n c W h => implRegTab_good HOK.out htt.symm A n c W h)
  have HT2 := Lib.hid (fun kk A n c W h => implRegTab_good (HOK.out.perm (oth_perm rl kk).symm) ((HTO.out kk).trans htt.symm) A n c W h)
  have HX1 := Lib.hid (fun A n c W h => implRegSer_ok HOK.out hrows.symm A n c W h)
  have HX2 := Lib.hid (fun A n c W h => specRegSer_ok HOK.out hrows.symm A n c W h)
  have HIS := Lib.hid (fun A n c W h => implIsSeries_ok rb rs A n c rows HOK.out.b1 HOK.out.b2 HOK.out.s0 HOK.out.s1 (show n ≤ 12 from by have h1 := (ser_isok HOK.out).1; have h2 := RdRaces.len h; rw [← hrows] at h1; omega) (by rw [hrows]; exact (ser_isok HOK.out).2) W h)
  clear htt hrows HI HS
  have Fr := Xr.out.f3
  have U_L2 := Lib.hid (fun b (hb : (Value.slice _ _ _).ownBlock = some b) => (L2.out.lt b hb).2)
  have U_O3 := Lib.hid (fun b (hb : (Value.slice _ _ _).ownBlock = some b) => (O3.out.lt b hb).2)
  have U_Q3 := Lib.hid (fun b (hb : (Value.slice _ _ _).ownBlock = some b) => (Q3.out.lt b hb).2)
  obtain ⟨W8, hwx, hb, hsx⟩ := alloc_new W7 #[] 50
  have B_W8 := Lib.hid (B_W7.out.trans (hb.mono B_W7.out.size))
  have z_W8 := hb.size
  replace L2 := Lib.hid (own_below L2.out hb)
  replace O3 := Lib.hid (own_below O3.out hb)
  replace Q3 := Lib.hid (own_below Q3.out hb)
  replace Xr := Lib.hid (Xr.out.below hb)
  clear hb
  obtain ⟨W9, hw, Xh, hb, hs⟩ := one_box W8 #[.int .i64 rb, .int .i64 rs, .slice (some ⟨W7.heap.size, 0, none⟩) 0 0] 31
  replace Xh := Lib.hid Xh
  have B_W9 := Lib.hid (B_W8.out.trans (hb.mono B_W8.out.size))
  have z_W9 := hb.size
  replace L2 := Lib.hid (own_below L2.out hb)
  replace O3 := Lib.hid (own_below O3.out hb)
  replace Q3 := Lib.hid (own_below Q3.out hb)
  replace Xr := Lib.hid (Xr.out.below hb)
  have l_h := Xh.out.lt
  have e_W9 : W9.heap.size = W8.heap.size + 1 := hs
  replace e_W9 := Lib.hid e_W9
  have HW_W9 := Lib.hid hw
  clear hb hs hw
  rw [hsx] at Xh l_h
  have hh := HW_W9.out
  rw [hwx] at hh
  clear HW_W9 hwx
  have HSX := Lib.hid hsx
  clear hsx
  go_wp2_with fail
  rw [← hh]
  clear hh Fr
  have hm3 : (m3 : Int) + 1 ≤ 401 := by omega
  have hwz : IntKind.i64.wrap ((m3 : Int) + 1) = (m3 : Int) + 1 := IntWalk.i64_in _ (by omega)
  obtain ⟨S, hSE, hSI⟩ : ∃ S : World → Prop, (∀ w1, S w1 → w1.cell? ⟨W1.heap.size, 2, none⟩ = some (.slice A3 m3 c3)) ∧ (∀ w1, Below W9.heap.size W9 w1 → S w1) := ⟨fun w1 => Below W9.heap.size W9 w1, fun w1 hb => (Xr.out.below hb).cell (i := 2) rfl, fun _ h => h⟩
  have HSE := Lib.hid hSE; have HSI := Lib.hid hSI
  clear hSE hSI
  refine wp_region_T2 (n := 12) S (fun _ => false) (by kernel_rfl) rfl ?_
  intro ops HOPS
  have hS := HSI.out _ (below_drewN' _ W9 1)
  have hbd := below_drewN' W9.heap.size W9 1
  refine wpAnyT_take 0 (.pointer (some ⟨W1.heap.size, 2, none⟩)) (by rw [HOPS.out]; rfl) (by rw [HOPS.out]; kernel_rfl) (by exact fun _ _ _ h => h) (by rfl) (fun w1 hS => by go_simp) hS ?_
  go_simp
  refine wpAnyT_take 1 (.slice A3 m3 c3) (by rw [HOPS.out]; rfl) (by rw [HOPS.out]; kernel_rfl) (by exact fun _ _ _ h => h) (by rfl) (fun w1 hS => by have s1 := HSE.out _ hS; go_simp) hS ?_
  go_simp
  refine wpAnyT_take 2 (.int .i64 (m3 : Int)) (by rw [HOPS.out]; rfl) (by rw [HOPS.out]; kernel_rfl) (by exact fun _ _ _ h => h) (by rfl) (fun w1 hS => by go_simp) hS ?_
  go_simp
  refine wpAnyT_take 3 (.slice a0 len0 cap0) (by rw [HOPS.out]; rfl) (by rw [HOPS.out]; kernel_rfl) (by exact fun _ _ _ h => h) (by rfl) (fun w1 hS => by go_simp) hS ?_
  go_simp
  refine wpAnyT_take 5 (.pointer (some ⟨W1.heap.size, 2, none⟩)) (by rw [HOPS.out]; rfl) (by rw [HOPS.out]; kernel_rfl) (by exact fun _ _ _ h => h) (by rfl) (fun w1 hS => by go_simp) hS ?_
  go_simp
  refine wpAnyT_take 6 (.slice A3 m3 c3) (by rw [HOPS.out]; rfl) (by rw [HOPS.out]; kernel_rfl) (by exact fun _ _ _ h => h) (by rfl) (fun w1 hS => by have s1 := HSE.out _ hS; go_simp) hS ?_
  go_simp
  refine wpAnyT_take 7 (.int .i64 (m3 : Int)) (by rw [HOPS.out]; rfl) (by rw [HOPS.out]; kernel_rfl) (by exact fun _ _ _ h => h) (by rfl) (fun w1 hS => by go_simp) hS ?_
  go_simp
  refine wpAnyT_take 8 (.int .i64 ((m3 : Int) + 1)) (by rw [HOPS.out]; rfl) (by rw [HOPS.out]; kernel_rfl) (by exact fun _ _ _ h => h) (by rfl) (fun w1 hS => by go_simp) hS ?_
  go_simp
  refine wpAnyT_one 4 (by rw [HOPS.out]; rfl) (by rw [HOPS.out]; kernel_rfl) ?_
  intro K' hK
  have HK := Lib.hid hK
  clear hK
  go_simp
  go_at_call 20
  refine (roll_any w a0 len0 cap0 code HCODE.out _ _ (B_W9.out.trans (hbd.mono B_W9.out.size))).mono ?_
  rintro e wr1 ⟨g, rfl, hd1, hg1, hb1⟩
  replace hb1 := hbd.trans (hb1.mono hbd.size)
  refine HK.out _ _ (.inr (HSI.out _ hb1)) ?_
  clear HK
  have hS := HSI.out _ hb1
  go_simp
  refine wpAnyT_one 9 (by rw [HOPS.out]; rfl) (by rw [HOPS.out]; kernel_rfl) ?_
  intro K' hK
  have HK := Lib.hid hK
  clear hK
  go_simp
  go_at_call 21
  refine (below_any w a0 len0 cap0 code HCODE.out g ((m3 : Int) + 1) (by omega) (by omega) _ hd1).mono ?_
  rintro e wr2 ⟨x, rfl, hx0, hx1, -, hc2⟩
  have hzd := hbd.size
  have hb2 := below_chg hb1 hc2 (by omega) hb1.size
  obtain ⟨kk, rfl⟩ := int_up x hx0
  refine HK.out _ _ (.inr (HSI.out _ hb2)) ?_
  clear HK
  have hS := HSI.out _ hb2
  go_simp
  refine wpAnyT_one 10 (by rw [HOPS.out]; rfl) (by rw [HOPS.out]; kernel_rfl) ?_
  intro K' hK
  have HK := Lib.hid hK
  clear hK
  go_simp
  go_at_call 19
  refine (w6Turned_any m3 kk (by omega) (by omega) _).mono ?_
  rintro e W10 ⟨AO, cO, rfl, oO, hb3⟩
  have hb := hb2.trans (hb3.mono hb2.size)
  refine HK.out _ _ (.inr (HSI.out _ hb)) ?_
  clear HK
  have hS := HSI.out _ hb
  go_simp
  refine wpAnyT_take 11 (.slice AO m3 cO) (by rw [HOPS.out]; rfl) (by rw [HOPS.out]; kernel_rfl) (by exact fun _ _ _ h => h) (by rfl) (fun w1 hS => by go_simp) hS ?_
  go_simp
  refine wpAnyT_done (by rw [HOPS.out]; kernel_rfl) ?_ _
  have hkk : kk ≤ m3 := by omega
  clear hS hbd hb1 hb2 hb3 hd1 hg1 hc2 hwz HSE HSI HOPS
  have B_W10 := Lib.hid (B_W9.out.trans (hb.mono B_W9.out.size))
  have z_W10 := hb.size
  replace L2 := Lib.hid (own_below L2.out hb)
  replace O3 := Lib.hid (own_below O3.out hb)
  replace Q3 := Lib.hid (own_below Q3.out hb)
  replace Xr := Lib.hid (Xr.out.below hb)
  replace Xh := Lib.hid (Xh.out.below hb)
  have HOO := Lib.hid oO
  clear hb oO
  have hoe := own_emptyE W10 W10.heap.size 50 7 (Nat.le_refl _)
  have hoi := Lib.hid (show ((m3 : Int) - 1) = ((m3 : Int) - 1) from rfl)
  have hwy : IntKind.i64.wrap ((m3 : Int) - 1) = (m3 : Int) - 1 := IntWalk.i64_in _ (by omega)
  have HOE := Lib.hid hoe
  clear hoe
  go_wp2_with fail
  go_loopw [11, 12] (fun l i wr => ∃ (j q c' : Nat) (A' : Option Addr) (zi : Int), q + j = m3 ∧ zi = (q : Int) - 1 ∧ i = .int .i64 zi ∧ l = .slice A' j c' ∧ Hid (wr.ownsRow W10.heap.size 50 7 (.slice A' j c') j (ents ((othE rl kk).take j))) ∧ Hid (Below W10.heap.size W10 wr)) (fun _ i _ => (intOf i + 1).toNat)
  case atStart => exact ⟨0, m3, 0, _, (m3 : Int) - 1, by omega, rfl, rfl, rfl, HOE, Lib.hid ((Below.refl _ _).alloc (Nat.le_refl _) _)⟩
  case round =>
    clear HOE
    obtain ⟨j, q, c', A', zi, hqj, hi, rfl, rfl, HOL, HBL⟩ := hrel
    obtain ⟨wo, hwo⟩ : ∃ wo : World, wo = wr := ⟨_, rfl⟩
    subst hwo
    have hsl := HBL.out.size
    cases q with
    | succ q =>
      have hi2 : zi = (q : Int) := by omega
      subst hi2
      clear hi
      have hge : decide ((q : Int) ≥ 0) = true := decide_eq_true (by omega)
      obtain ⟨gO, y, rfl, -, -, hy, hcO, -⟩ := own_int_at HOO.out (k := q) (by omega)
      rw [turnI_get (by omega)] at hy
      injection hy with hy
      subst hy
      have hlt : (q + kk) % m3 < m3 := Nat.mod_lt _ (by omega)
      obtain ⟨gE, x0, x1, x2, x3, x4, x5, x6, rfl, -, -, hx, -, d0, d1, d2, d3, d4, d5, d6, -⟩ := own_ent_at O3.out hlt
      have hnx : (othE rl kk)[j]? = some (x0, x1, x2, x3, x4, x5, x6) := by rw [oth_get (by rw [HLN.out]; exact hkk) (by rw [HLN.out]; omega), HLN.out]; exact hx
      have HNX := Lib.hid (take_snoc_get hnx)
      generalize (q + kk) % m3 = ix at *
      clear hnx hx
      have hqlt : q < m3 := by omega
      have HCO := Lib.hid hcO
      have HDD := Lib.hid (show _ ∧ _ ∧ _ ∧ _ ∧ _ ∧ _ ∧ _ from ⟨d0, d1, d2, d3, d4, d5, d6⟩)
      clear hcO d0 d1 d2 d3 d4 d5 d6
      obtain ⟨S, hSE, hSI⟩ : ∃ S : World → Prop, (∀ w1, S w1 → (w1.cell? ⟨W1.heap.size, 2, none⟩ = some (.slice (some ⟨gE, 0, none⟩) m3 c3) ∧ w1.cell? ⟨gO, q, none⟩ = some (.int .i64 (ix : Int)) ∧ w1.cell? ⟨gE, ix * 7, none⟩ = some (.int .i64 x0) ∧ w1.cell? ⟨gE, ix * 7 + 1, none⟩ = some (.int .i64 x1) ∧ w1.cell? ⟨gE, ix * 7 + 2, none⟩ = some (.int .i64 x2) ∧ w1.cell? ⟨gE, ix * 7 + 3, none⟩ = some (.int .i64 x3) ∧ w1.cell? ⟨gE, ix * 7 + 4, none⟩ = some (.int .i64 x4) ∧ w1.cell? ⟨gE, ix * 7 + 5, none⟩ = some (.int .i64 x5) ∧ w1.cell? ⟨gE, ix * 7 + 6, none⟩ = some (.int .i64 x6))) ∧ (∀ w1, Below W10.heap.size W10 w1 → S w1) := ⟨fun w1 => Below W10.heap.size W10 w1, fun w1 hb => ⟨(Xr.out.below hb).cell (i := 2) rfl, cell_bel HCO.out hb, cell_bel HDD.out.1 hb, cell_bel HDD.out.2.1 hb, cell_bel HDD.out.2.2.1 hb, cell_bel HDD.out.2.2.2.1 hb, cell_bel HDD.out.2.2.2.2.1 hb, cell_bel HDD.out.2.2.2.2.2.1 hb, cell_bel HDD.out.2.2.2.2.2.2 hb⟩, fun _ h => h⟩
      have HSE := Lib.hid hSE; have HSI := Lib.hid hSI
      clear hSE hSI
      go_wp2_with fail
      refine wp_region_T2 (n := 12) S (fun _ => false) (by kernel_rfl) rfl ?_
      intro ops HOPS
      have hS := HSI.out _ (HBL.out.trans ((below_drewN' _ wo 1).mono hsl))
      obtain ⟨wd, hwd, hbd⟩ : ∃ wd : World, wd = wo.drew ∧ Below wo.heap.size wo wd := ⟨_, rfl, below_drewN' _ wo 1⟩
      replace hS : S wo.drew := hS
      rw [← hwd] at hS ⊢
      clear hwd
      refine wpAnyT_take 0 (.slice A' j c') (by rw [HOPS.out]; rfl) (by rw [HOPS.out]; kernel_rfl) (by exact fun _ _ _ h => h) (by rfl) (fun w1 hS => by go_simp) hS ?_
      go_simp
      refine wpAnyT_take 1 (.pointer (some ⟨W1.heap.size, 2, none⟩)) (by rw [HOPS.out]; rfl) (by rw [HOPS.out]; kernel_rfl) (by exact fun _ _ _ h => h) (by rfl) (fun w1 hS => by go_simp) hS ?_
      go_simp
      refine wpAnyT_take 2 (.slice (some ⟨gE, 0, none⟩) m3 c3) (by rw [HOPS.out]; rfl) (by rw [HOPS.out]; kernel_rfl) (by exact fun _ _ _ h => h) (by rfl) (fun w1 hS => by obtain ⟨s0, s1, t0, t1, t2, t3, t4, t5, t6⟩ := HSE.out _ hS; go_simp) hS ?_
      go_simp
      refine wpAnyT_take 3 (.slice (some ⟨gO, 0, none⟩) m3 cO) (by rw [HOPS.out]; rfl) (by rw [HOPS.out]; kernel_rfl) (by exact fun _ _ _ h => h) (by rfl) (fun w1 hS => by go_simp) hS ?_
      go_simp
      refine wpAnyT_take 4 (.int .i64 (q : Int)) (by rw [HOPS.out]; rfl) (by rw [HOPS.out]; kernel_rfl) (by exact fun _ _ _ h => h) (by rfl) (fun w1 hS => by go_simp) hS ?_
      go_simp
      refine wpAnyT_take 5 (.pointer (some ⟨gO, q, none⟩)) (by rw [HOPS.out]; rfl) (by rw [HOPS.out]; kernel_rfl) (by exact fun _ _ _ h => h) (by rfl) (fun w1 hS => by go_simp) hS ?_
      go_simp
      refine wpAnyT_take 6 (.int .i64 (ix : Int)) (by rw [HOPS.out]; rfl) (by rw [HOPS.out]; kernel_rfl) (by exact fun _ _ _ h => h) (by rfl) (fun w1 hS => by obtain ⟨s0, s1, t0, t1, t2, t3, t4, t5, t6⟩ := HSE.out _ hS; go_simp) hS ?_
      go_simp
      refine wpAnyT_take 7 (.pointer (some ⟨gE, ix * 7, none⟩)) (by rw [HOPS.out]; rfl) (by rw [HOPS.out]; kernel_rfl) (by exact fun _ _ _ h => h) (by rfl) (fun w1 hS => by go_simp) hS ?_
      go_simp
      refine wpAnyT_take 8 (.agg #[.int .i64 x0, .int .i64 x1, .int .i64 x2, .int .i64 x3, .int .i64 x4, .int .i64 x5, .int .i64 x6]) (by rw [HOPS.out]; rfl) (by rw [HOPS.out]; kernel_rfl) (by exact fun _ _ _ h => h) (by rfl) (fun w1 hS => by obtain ⟨s0, s1, t0, t1, t2, t3, t4, t5, t6⟩ := HSE.out _ hS; go_simp) hS ?_
      go_simp
      refine wpAnyT_one 9 (by rw [HOPS.out]; rfl) (by rw [HOPS.out]; kernel_rfl) ?_
      intro K' hK
      have HK := Lib.hid hK
      clear hK
      go_simp
      refine HK.out _ _ (.inr (HSI.out _ (HBL.out.trans ((hbd.alloc hbd.size _).mono hsl)))) ?_
      clear HK
      obtain ⟨wa, hwa, XA, hba, hsa⟩ := one_box wd #[.int .i64 x0, .int .i64 x1, .int .i64 x2, .int .i64 x3, .int .i64 x4, .int .i64 x5, .int .i64 x6] 50
      rw [← hwa]
      clear hwa
      have hbA := hbd.trans (hba.mono hbd.size)
      have HXA := Lib.hid XA
      have HOA := Lib.hid (own_below HOL.out hbA)
      have hS := HSI.out _ (HBL.out.trans (hbA.mono hsl))
      clear XA
      go_simp
      refine wpAnyT_one 10 (by rw [HOPS.out]; rfl) (by rw [HOPS.out]; kernel_rfl) ?_
      intro K' hK
      have HK := Lib.hid hK
      clear hK
      refine step_ent (x0 := x0) (x1 := x1) (x2 := x2) (x3 := x3) (x4 := x4) (x5 := x5) (x6 := x6) _ (by rfl) _ _ (by rfl) (by rfl) HOA.out (by rfl) HXA.out (by omega) (by have := hbA.size; omega) ?_
      intro g9 c9 w9 hown9 hgr9 _ _
      have HO9 := Lib.hid hown9
      have hb9 := (HBL.out.trans (hbA.mono hsl)).grown hgr9 (by have := hbA.size; omega) (fun k hk => (HOL.out.lt k hk).1)
      refine HK.out _ _ (.inr (HSI.out _ hb9)) ?_
      clear HK
      have hS := HSI.out _ hb9
      go_simp
      refine wpAnyT_take 11 (.slice (some ⟨g9, 0, none⟩) (j + 1) c9) (by rw [HOPS.out]; rfl) (by rw [HOPS.out]; kernel_rfl) (by exact fun _ _ _ h => h) (by rfl) (fun w1 hS => by go_simp) hS ?_
      go_simp
      refine wpAnyT_done (by rw [HOPS.out]; kernel_rfl) ?_ _
      have HB9 := Lib.hid hb9
      clear hS hb9 hbA hown9 hgr9 hba hbd HSE HSI HOPS
      go_wp2_with fail
      go_roundw
      case rel => exact ⟨j + 1, q, _, _, (q : Int) - 1, by omega, rfl, rfl, rfl, Lib.hid (by rw [HNX.out]; exact HO9.out), HB9⟩
      case measure => simp [intOf] <;> omega
    | zero =>
      have hi2 : zi = -1 := by rw [hi]; rfl
      subst hi2
      clear hi
      obtain rfl : j = m3 := by omega
      have hge : decide ((-1 : Int) ≥ 0) = false := by decide
      obtain ⟨W11, hn⟩ : ∃ w : World, w = wo := ⟨_, rfl⟩
      rw [← hn] at HBL HOL ⊢
      have hb := HBL.out
      clear hn HBL hsl
      have B_W11 := Lib.hid (B_W10.out.trans (hb.mono B_W10.out.size))
      have z_W11 := hb.size
      replace L2 := Lib.hid (own_below L2.out hb)
      replace O3 := Lib.hid (own_below O3.out hb)
      replace Q3 := Lib.hid (own_below Q3.out hb)
      replace HOO := Lib.hid (own_below HOO.out hb)
      replace Xr := Lib.hid (Xr.out.below hb)
      replace Xh := Lib.hid (Xh.out.below hb)
      clear hb
      rw [List.take_of_length_le (by rw [oth_len, HLN.out]; exact Nat.le_refl _)] at HOL
      have Fh := Xh.out.f3
      obtain ⟨W12, hw⟩ : ∃ wz : World, wz = W11.setCell ⟨W7.heap.size + 1, 2, none⟩ (.slice A' j c') := ⟨_, rfl⟩
      have hc : Chg (W7.heap.size + 1) (W7.heap.size + 1 + 1) W11 W12 := by rw [hw]; refine chg_set ?_ (by omega) (by omega) _; exact Chg.refl _ _ _
      have YH : Box W12 (W7.heap.size + 1) #[.int .i64 rb, .int .i64 rs, .slice A' j c'] 31 := by rw [hw]; have := Xh.out.set 2 (.slice A' j c'); simpa using this
      
      clear HOO
      have B_W12 := Lib.hid (below_chg B_W11.out hc (by omega) (by omega))
      have z_W12 := hc.size
      replace L2 := Lib.hid (own_chg L2.out hc (fun b hb => .inl (by have := U_L2.out b hb; omega)))
      clear U_L2
      replace O3 := Lib.hid (own_chg O3.out hc (fun b hb => .inl (by have := U_O3.out b hb; omega)))
      clear U_O3
      replace Q3 := Lib.hid (own_chg Q3.out hc (fun b hb => .inl (by have := U_Q3.out b hb; omega)))
      clear U_Q3
      replace HOL := Lib.hid (own_chg HOL.out hc (fun b hb => .inr (by have := (HOL.out.lt b hb).1; omega)))
      replace Xr := Lib.hid (Xr.out.chg hc (.inl (by omega)))
      replace Xh := Lib.hid YH
      clear YH
      have HW := Lib.hid hw
      clear hw hc
      go_wp2_with fail
      rw [← HW.out]
      clear HW Fh
      have HI2 := Lib.hid (HOT.out kk)
      rw [HO2.out kk] at HI2
      clear HOT HO2
      have Fh := Xh.out.f3
      go_wp2_with fail
      clear Fh
      refine (HI2.out _ _ _ _ _ _ _ ⟨own_rd HOL.out, own_capE HOL.out⟩ (own_rd Q3.out)).mono ?_
      rintro e W13 ⟨A5, n5, c5, rfl, o5, sm5, hb⟩
      have B_W13 := Lib.hid (B_W12.out.trans (hb.mono B_W12.out.size))
      have z_W13 := hb.size
      replace L2 := Lib.hid (own_below L2.out hb)
      replace O3 := Lib.hid (own_below O3.out hb)
      replace Q3 := Lib.hid (own_below Q3.out hb)
      replace HOL := Lib.hid (own_below HOL.out hb)
      replace Xr := Lib.hid (Xr.out.below hb)
      replace Xh := Lib.hid (Xh.out.below hb)
      have L5 := Lib.hid o5
      clear hb
      try simp only
      clear Q3
      have Fr := Xr.out.f3
      go_wp2_with fail
      clear Fr
      refine (HT1.out _ _ _ _ ⟨own_rd O3.out, own_capE O3.out⟩).mono ?_
      rintro e W14 ⟨P6, n6, c6, vs6, C6, m6, d6, us6, rfl, o6, sum6, hb⟩
      have B_W14 := Lib.hid (B_W13.out.trans (hb.mono B_W13.out.size))
      have z_W14 := hb.size
      replace L2 := Lib.hid (own_below L2.out hb)
      replace O3 := Lib.hid (own_below O3.out hb)
      replace HOL := Lib.hid (own_below HOL.out hb)
      replace L5 := Lib.hid (own_below L5.out hb)
      replace Xr := Lib.hid (Xr.out.below hb)
      replace Xh := Lib.hid (Xh.out.below hb)
      have K6 := Lib.hid o6.rd
      clear hb
      try simp only
      obtain ⟨W15, hw, Xa, hb, hs⟩ := one_box W14 #[.int .i64 tt.boats, .slice P6 n6 c6, .slice C6 m6 d6] 53
      replace Xa := Lib.hid Xa
      have B_W15 := Lib.hid (B_W14.out.trans (hb.mono B_W14.out.size))
      have z_W15 := hb.size
      replace L2 := Lib.hid (own_below L2.out hb)
      replace O3 := Lib.hid (own_below O3.out hb)
      replace HOL := Lib.hid (own_below HOL.out hb)
      replace L5 := Lib.hid (own_below L5.out hb)
      replace K6 := Lib.hid (K6.out.below hb)
      replace Xr := Lib.hid (Xr.out.below hb)
      replace Xh := Lib.hid (Xh.out.below hb)
      have l_a := Xa.out.lt
      have e_W15 : W15.heap.size = W14.heap.size + 1 := hs
      replace e_W15 := Lib.hid e_W15
      have HW_W15 := Lib.hid hw
      clear hb hs hw
      have Fh := Xh.out.f3
      rw [HW_W15.out] at Fh
      go_wp2_with fail
      rw [← HW_W15.out]
      clear HW_W15
      clear Fh
      refine (HT2.out kk _ _ _ _ ⟨own_rd HOL.out, own_capE HOL.out⟩).mono ?_
      rintro e W16 ⟨P7, n7, c7, vs7, C7, m7, d7, us7, rfl, o7, sum7, hb⟩
      have B_W16 := Lib.hid (B_W15.out.trans (hb.mono B_W15.out.size))
      have z_W16 := hb.size
      replace L2 := Lib.hid (own_below L2.out hb)
      replace O3 := Lib.hid (own_below O3.out hb)
      replace HOL := Lib.hid (own_below HOL.out hb)
      replace L5 := Lib.hid (own_below L5.out hb)
      replace K6 := Lib.hid (K6.out.below hb)
      replace Xr := Lib.hid (Xr.out.below hb)
      replace Xh := Lib.hid (Xh.out.below hb)
      replace Xa := Lib.hid (Xa.out.below hb)
      have K7 := Lib.hid o7.rd
      clear hb
      try simp only
      clear HOL
      clear Xh
      obtain ⟨W17, hw, Xb, hb, hs⟩ := one_box W16 #[.int .i64 tt.boats, .slice P7 n7 c7, .slice C7 m7 d7] 53
      replace Xb := Lib.hid Xb
      have B_W17 := Lib.hid (B_W16.out.trans (hb.mono B_W16.out.size))
      have z_W17 := hb.size
      replace L2 := Lib.hid (own_below L2.out hb)
      replace O3 := Lib.hid (own_below O3.out hb)
      replace L5 := Lib.hid (own_below L5.out hb)
      replace K6 := Lib.hid (K6.out.below hb)
      replace K7 := Lib.hid (K7.out.below hb)
      replace Xr := Lib.hid (Xr.out.below hb)
      replace Xa := Lib.hid (Xa.out.below hb)
      have l_b := Xb.out.lt
      have e_W17 : W17.heap.size = W16.heap.size + 1 := hs
      replace e_W17 := Lib.hid e_W17
      have HW_W17 := Lib.hid hw
      clear hb hs hw
      have Fr := Xr.out.f3
      rw [HW_W17.out] at Fr
      go_wp2_with fail
      rw [← HW_W17.out]
      clear HW_W17
      clear Fr
      refine (HX1.out _ _ _ _ ⟨own_rd O3.out, own_capE O3.out⟩).mono ?_
      rintro e W18 ⟨A8, n8, c8, vs8, rfl, o8, sum8, hb⟩
      have B_W18 := Lib.hid (B_W17.out.trans (hb.mono B_W17.out.size))
      have z_W18 := hb.size
      replace L2 := Lib.hid (own_below L2.out hb)
      replace O3 := Lib.hid (own_below O3.out hb)
      replace L5 := Lib.hid (own_below L5.out hb)
      replace K6 := Lib.hid (K6.out.below hb)
      replace K7 := Lib.hid (K7.out.below hb)
      replace Xr := Lib.hid (Xr.out.below hb)
      replace Xa := Lib.hid (Xa.out.below hb)
      replace Xb := Lib.hid (Xb.out.below hb)
      have S8 := Lib.hid o8.rd
      clear hb
      try simp only
      obtain ⟨W19, hw, Xx, hb, hs⟩ := one_box W18 #[.int .i64 rb, .int .i64 rs, .slice A8 n8 c8] 58
      replace Xx := Lib.hid Xx
      have B_W19 := Lib.hid (B_W18.out.trans (hb.mono B_W18.out.size))
      have z_W19 := hb.size
      replace L2 := Lib.hid (own_below L2.out hb)
      replace O3 := Lib.hid (own_below O3.out hb)
      replace L5 := Lib.hid (own_below L5.out hb)
      replace K6 := Lib.hid (K6.out.below hb)
      replace K7 := Lib.hid (K7.out.below hb)
      replace S8 := Lib.hid (S8.out.below hb)
      replace Xr := Lib.hid (Xr.out.below hb)
      replace Xa := Lib.hid (Xa.out.below hb)
      replace Xb := Lib.hid (Xb.out.below hb)
      have l_x := Xx.out.lt
      have e_W19 : W19.heap.size = W18.heap.size + 1 := hs
      replace e_W19 := Lib.hid e_W19
      have HW_W19 := Lib.hid hw
      clear hb hs hw
      have Fr := Xr.out.f3
      rw [HW_W19.out] at Fr
      go_wp2_with fail
      rw [← HW_W19.out]
      clear HW_W19
      clear Fr
      refine (HX2.out _ _ _ _ ⟨own_rd O3.out, own_capE O3.out⟩).mono ?_
      rintro e W20 ⟨A9, n9, c9, vs9, rfl, o9, sum9, hb⟩
      have B_W20 := Lib.hid (B_W19.out.trans (hb.mono B_W19.out.size))
      have z_W20 := hb.size
      replace L2 := Lib.hid (own_below L2.out hb)
      replace O3 := Lib.hid (own_below O3.out hb)
      replace L5 := Lib.hid (own_below L5.out hb)
      replace K6 := Lib.hid (K6.out.below hb)
      replace K7 := Lib.hid (K7.out.below hb)
      replace S8 := Lib.hid (S8.out.below hb)
      replace Xr := Lib.hid (Xr.out.below hb)
      replace Xa := Lib.hid (Xa.out.below hb)
      replace Xb := Lib.hid (Xb.out.below hb)
      replace Xx := Lib.hid (Xx.out.below hb)
      have S9 := Lib.hid o9.rd
      clear hb
      try simp only
      clear O3
      clear Xr
      obtain ⟨W21, hw, Xy, hb, hs⟩ := one_box W20 #[.int .i64 rb, .int .i64 rs, .slice A9 n9 c9] 58
      replace Xy := Lib.hid Xy
      have B_W21 := Lib.hid (B_W20.out.trans (hb.mono B_W20.out.size))
      have z_W21 := hb.size
      replace L2 := Lib.hid (own_below L2.out hb)
      replace L5 := Lib.hid (own_below L5.out hb)
      replace K6 := Lib.hid (K6.out.below hb)
      replace K7 := Lib.hid (K7.out.below hb)
      replace S8 := Lib.hid (S8.out.below hb)
      replace S9 := Lib.hid (S9.out.below hb)
      replace Xa := Lib.hid (Xa.out.below hb)
      replace Xb := Lib.hid (Xb.out.below hb)
      replace Xx := Lib.hid (Xx.out.below hb)
      have l_y := Xy.out.lt
      have e_W21 : W21.heap.size = W20.heap.size + 1 := hs
      replace e_W21 := Lib.hid e_W21
      have HW_W21 := Lib.hid hw
      clear hb hs hw
      go_wp2_with fail
      rw [← HW_W21.out]
      clear HW_W21
      refine (likeInts_same _ _ _ _ _ _ L _ (own_rd L5.out) (own_rd L2.out)).mono ?_
      rintro e W22 ⟨rfl, hb⟩
      have B_W22 := Lib.hid (B_W21.out.trans (hb.mono B_W21.out.size))
      have z_W22 := hb.size
      replace L2 := Lib.hid (own_below L2.out hb)
      replace L5 := Lib.hid (own_below L5.out hb)
      replace K6 := Lib.hid (K6.out.below hb)
      replace K7 := Lib.hid (K7.out.below hb)
      replace S8 := Lib.hid (S8.out.below hb)
      replace S9 := Lib.hid (S9.out.below hb)
      replace Xa := Lib.hid (Xa.out.below hb)
      replace Xb := Lib.hid (Xb.out.below hb)
      replace Xx := Lib.hid (Xx.out.below hb)
      replace Xy := Lib.hid (Xy.out.below hb)
      clear hb
      try simp only
      clear L5
      clear L2
      have Fa := Xa.out.f3
      have Fb := Xb.out.f3
      go_wp2_with fail
      clear Fa Fb
      refine (w6Tables_same _ _ _ _ _ _ _ _ _ _ _ _ tt _ K6.out K7.out).mono ?_
      rintro e W23 ⟨rfl, hb⟩
      have B_W23 := Lib.hid (B_W22.out.trans (hb.mono B_W22.out.size))
      have z_W23 := hb.size
      replace K6 := Lib.hid (K6.out.below hb)
      replace K7 := Lib.hid (K7.out.below hb)
      replace S8 := Lib.hid (S8.out.below hb)
      replace S9 := Lib.hid (S9.out.below hb)
      replace Xa := Lib.hid (Xa.out.below hb)
      replace Xb := Lib.hid (Xb.out.below hb)
      replace Xx := Lib.hid (Xx.out.below hb)
      replace Xy := Lib.hid (Xy.out.below hb)
      clear hb
      try simp only
      clear K6
      clear K7
      clear Xa
      clear Xb
      have Fx := Xx.out.f3
      have Fy := Xy.out.f3
      go_wp2_with fail
      clear Fx Fy
      refine (w6Series_same _ _ _ _ _ _ _ _ rows _ S8.out S9.out).mono ?_
      rintro e W24 ⟨rfl, hb⟩
      have B_W24 := Lib.hid (B_W23.out.trans (hb.mono B_W23.out.size))
      have z_W24 := hb.size
      replace S8 := Lib.hid (S8.out.below hb)
      replace S9 := Lib.hid (S9.out.below hb)
      replace Xx := Lib.hid (Xx.out.below hb)
      replace Xy := Lib.hid (Xy.out.below hb)
      clear hb
      try simp only
      clear S8
      clear Xx
      have Fy := Xy.out.f3
      go_wp2_with fail
      clear Fy
      refine (HIS.out _ _ _ _ S9.out).mono ?_
      rintro e W25 ⟨rfl, hb⟩
      have B_W25 := Lib.hid (B_W24.out.trans (hb.mono B_W24.out.size))
      have z_W25 := hb.size
      replace S9 := Lib.hid (S9.out.below hb)
      replace Xy := Lib.hid (Xy.out.below hb)
      clear hb
      try simp only
      go_wp2_with fail
      go_ret
      exact ⟨rfl, B_W25.out⟩
end Go.Proofs.YtalgdeieejpelaaGreat

/- The walk of FnTop. -/
import Derived.Test.YtalgdeieejpelaaGreatZmn
import Derived.Test.YtalgdeieejpelaaGreatZv
import Derived.Test.YtalgdeieejpelaaGreatZmh
import Derived.IntWalk
import Derived.Lib.QuietBelow
namespace Go.Proofs.YtalgdeieejpelaaGreat
open Go.RowKit Go.Sort
set_option linter.unusedVariables false
set_option maxRecDepth 100000

set_option maxHeartbeats 16000000 in
theorem fnTop_walk (a0 : Option Addr) (len0 cap0 : Nat) (z0 : List Int) (w : World) (v0 : IsRow .u8 w a0 len0 cap0 z0) :
    Calls Tryz.prog 5 #[.slice a0 len0 cap0] w fun e w' => e = .returned (.bool true) ∧ Below w.heap.size w w' := by
  have hle := v0.lenle
  by_cases hbig : 4096 < len0
  · have hd : decide (4096 < len0) = true := by simpa using hbig
    have HB := Lib.hid (big_any a0 len0 cap0 hle w)
    rw [hd] at HB
    clear hd v0
    go_enter Tryz.func5, Tryz.ntmps5
    go_wp2_with fail
    refine HB.out.mono ?_
    rintro e w' ⟨rfl, rfl⟩
    go_wp2_with fail
    go_ret
    exact ⟨rfl, Below.refl _ _⟩
  have hd : decide (4096 < len0) = false := by simpa using hbig
  have HB := Lib.hid (big_any a0 len0 cap0 hle w)
  rw [hd] at HB
  clear hd
  have hcode := code0_of v0 (by omega)
  generalize z0.take len0 = code at hcode
  clear v0
  have hn4 := hcode.n4
  have HD := Lib.hid (fun W hb => drawRR_any w a0 len0 cap0 code hcode W hb)
  have HCODE := Lib.hid hcode
  clear hcode
  generalize rrD code = D at *
  obtain ⟨⟨rb, rs, rl⟩, ru⟩ := D
  obtain ⟨Z, hZ⟩ : ∃ Z, Z = standCF rb rs rl ru := ⟨_, rfl⟩
  have HI := Lib.hid (fun A n c A2 l cl W h h' => implRegStand_any rb rs A n c rl A2 l cl ru W h h')
  have HS := Lib.hid (fun A n c A2 l cl W h h' => specRegStand_any rb rs A n c rl A2 l cl ru W h h')
  rw [← hZ] at HI HS
  obtain ⟨L, C⟩ := Z
  have HZ := Lib.hid hZ.symm
  clear hZ
  go_enter Tryz.func5, Tryz.ntmps5
  go_wp2_with fail
  refine HB.out.mono ?_
  rintro e w' ⟨rfl, rfl⟩
  go_wp2_with fail
  refine (HD.out _ (Below.refl _ _)).mono ?_
  rintro e W1 ⟨A1, m1, c1, D1, l1, e1, rfl, o1, lm1, q1, hb⟩
  have B_W1 := Lib.hid (hb)
  have z_W1 := hb.size
  have O1 := Lib.hid o1
  have Q1 := Lib.hid q1
  clear hb
  try simp only
  obtain ⟨W2, hw, Xr, hb, hs⟩ := one_box W1 #[.int .i64 rb, .int .i64 rs, .slice A1 m1 c1] 31
  replace Xr := Lib.hid Xr
  have B_W2 := Lib.hid (B_W1.out.trans (hb.mono B_W1.out.size))
  have z_W2 := hb.size
  replace O1 := Lib.hid (own_below O1.out hb)
  replace Q1 := Lib.hid (own_below Q1.out hb)
  have l_r := Xr.out.lt
  have e_W2 : W2.heap.size = W1.heap.size + 1 := hs
  replace e_W2 := Lib.hid e_W2
  have HW_W2 := Lib.hid hw
  clear hb hs hw
  go_wp2_with fail
  rw [← HW_W2.out]
  clear HW_W2
  refine (HI.out _ _ _ _ _ _ _ ⟨own_rd O1.out, own_capE O1.out⟩ (own_rd Q1.out)).mono ?_
  rintro e W3 ⟨A2, n2, c2, rfl, o2, sm2, hb⟩
  have B_W3 := Lib.hid (B_W2.out.trans (hb.mono B_W2.out.size))
  have z_W3 := hb.size
  replace O1 := Lib.hid (own_below O1.out hb)
  replace Q1 := Lib.hid (own_below Q1.out hb)
  replace Xr := Lib.hid (Xr.out.below hb)
  have L2 := Lib.hid o2
  clear hb
  try simp only
  have Fr := Xr.out.f3
  go_wp2_with fail
  clear Fr
  refine (HS.out _ _ _ _ _ _ _ ⟨own_rd O1.out, own_capE O1.out⟩ (own_rd Q1.out)).mono ?_
  rintro e W4 ⟨A4, n4, c4, rfl, o4, sm4, hb⟩
  have B_W4 := Lib.hid (B_W3.out.trans (hb.mono B_W3.out.size))
  have z_W4 := hb.size
  replace O1 := Lib.hid (own_below O1.out hb)
  replace Q1 := Lib.hid (own_below Q1.out hb)
  replace L2 := Lib.hid (own_below L2.out hb)
  replace Xr := Lib.hid (Xr.out.below hb)
  have L4 := Lib.hid o4
  clear hb
  try simp only
  have hcc : (C != C) = false := by simp
  go_wp2_with fail
  refine (likeInts_same _ _ _ _ _ _ L _ (own_rd L2.out) (own_rd L4.out)).mono ?_
  rintro e W5 ⟨rfl, hb⟩
  have B_W5 := Lib.hid (B_W4.out.trans (hb.mono B_W4.out.size))
  have z_W5 := hb.size
  replace O1 := Lib.hid (own_below O1.out hb)
  replace Q1 := Lib.hid (own_below Q1.out hb)
  replace L2 := Lib.hid (own_below L2.out hb)
  replace L4 := Lib.hid (own_below L4.out hb)
  replace Xr := Lib.hid (Xr.out.below hb)
  clear hb
  try simp only
  clear hcc
  clear L2
  by_cases hC0 : C = 0
  rotate_left
  · have hCb : (C != 0) = true := by simp [hC0]
    clear hC0
    go_wp2_with fail
    go_ret
    exact ⟨rfl, B_W5.out⟩
  subst hC0
  obtain ⟨hreg, hrule, hL⟩ := stand_good HZ.out
  have HOK := Lib.hid (regB_ok hreg)
  have HRL := Lib.hid hrule
  have HLE := Lib.hid hL
  have HLN := Lib.hid (own_len_flat entC_len (by decide) O1.out)
  clear hreg hrule hL
  obtain ⟨tt, htt⟩ : ∃ tt, tt = tabR rb rs rl := ⟨_, rfl⟩
  have HTT := Lib.hid htt
  clear htt
  go_wp2_with fail
  have hm3 : (m1 : Int) ≤ 400 := by omega
  obtain ⟨S, hSE, hSI⟩ : ∃ S : World → Prop, (∀ x9, S x9 → (x9.cell? ⟨W1.heap.size, 2, none⟩ = some (.slice A1 m1 c1))) ∧ (∀ x9, (x9.cell? ⟨W1.heap.size, 2, none⟩ = some (.slice A1 m1 c1)) → S x9) := ⟨fun x9 => (x9.cell? ⟨W1.heap.size, 2, none⟩ = some (.slice A1 m1 c1)), fun _ h => h, fun _ h => h⟩
  have HSE := Lib.hid hSE; have HSI := Lib.hid hSI
  clear hSE hSI
  have HSB := Lib.hid (show ∀ x9, Below W5.heap.size W5 x9 → S x9 from fun x9 hb => HSI.out _ ((Xr.out.below hb).cell (i := 2) rfl))
  refine wp_region_T2 (n := 7) S (fun j => false) (by kernel_rfl) rfl ?_
  intro ops HOPS
  have hS := HSB.out _ (below_drewN' _ W5 1)
  obtain ⟨wd, hwd, hbd⟩ : ∃ wd : World, wd = W5.drew ∧ Below W5.heap.size W5 wd := ⟨_, rfl, below_drewN' _ W5 1⟩
  replace hS : S W5.drew := hS
  rw [← hwd] at hS ⊢
  clear hwd
  refine wpAnyT_take 0 (.slice a0 len0 cap0) (by rw [HOPS.out]; rfl) (by rw [HOPS.out]; kernel_rfl) (by exact fun _ _ _ h => h) (by rfl) (fun w1 hS => by go_simp) hS ?_
  go_simp
  refine wpAnyT_take 2 (.pointer (some ⟨W1.heap.size, 2, none⟩)) (by rw [HOPS.out]; rfl) (by rw [HOPS.out]; kernel_rfl) (by exact fun _ _ _ h => h) (by rfl) (fun w1 hS => by go_simp) hS ?_
  go_simp
  refine wpAnyT_take 3 (.slice A1 m1 c1) (by rw [HOPS.out]; rfl) (by rw [HOPS.out]; kernel_rfl) (by exact fun _ _ _ h => h) (by rfl) (fun w1 hS => by have s1 := HSE.out _ hS; go_simp) hS ?_
  go_simp
  refine wpAnyT_take 4 (.int .i64 (m1 : Int)) (by rw [HOPS.out]; rfl) (by rw [HOPS.out]; kernel_rfl) (by exact fun _ _ _ h => h) (by rfl) (fun w1 hS => by go_simp) hS ?_
  go_simp
  refine wpAnyT_one 1 (by rw [HOPS.out]; rfl) (by rw [HOPS.out]; kernel_rfl) ?_
  intro K' hK
  have HK := Lib.hid hK
  clear hK
  go_simp
  go_at_call 20
  refine (roll_any w a0 len0 cap0 code HCODE.out _ _ (B_W5.out.trans (hbd.mono B_W5.out.size))).mono ?_
  rintro e wr1 ⟨g, rfl, hd1, hg1, hb1⟩
  replace hb1 := hbd.trans (hb1.mono hbd.size)
  refine HK.out _ _ (.inr (HSB.out _ hb1)) ?_
  clear HK
  have hS := HSB.out _ hb1
  go_simp
  refine wpAnyT_one 5 (by rw [HOPS.out]; rfl) (by rw [HOPS.out]; kernel_rfl) ?_
  intro K' hK
  have HK := Lib.hid hK
  clear hK
  go_simp
  go_at_call 28
  refine (shuffled_any w a0 len0 cap0 code HCODE.out g m1 (by omega) _ hd1).mono ?_
  rintro e W6 ⟨AO, cO, p, rfl, hperm, oP, -, hc2⟩
  have hzd := hbd.size
  have hb := below_chg hb1 hc2 (by omega) hb1.size
  refine HK.out _ _ (.inr (HSB.out _ hb)) ?_
  clear HK
  have hS := HSB.out _ hb
  go_simp
  refine wpAnyT_take 6 (.slice AO m1 cO) (by rw [HOPS.out]; rfl) (by rw [HOPS.out]; kernel_rfl) (by exact fun _ _ _ h => h) (by rfl) (fun w1 hS => by go_simp) hS ?_
  go_simp
  refine wpAnyT_done (by rw [HOPS.out]; kernel_rfl) ?_ _
  clear hS hbd hb1 hd1 hg1 hc2 hzd HSE HSI HSB HOPS
  have B_W6 := Lib.hid (B_W5.out.trans (hb.mono B_W5.out.size))
  have z_W6 := hb.size
  replace O1 := Lib.hid (own_below O1.out hb)
  replace Q1 := Lib.hid (own_below Q1.out hb)
  replace L4 := Lib.hid (own_below L4.out hb)
  replace Xr := Lib.hid (Xr.out.below hb)
  have HPR := Lib.hid hperm
  clear hperm
  have OP := Lib.hid oP
  clear hb oP
  obtain ⟨ys, hys⟩ : ∃ ys, ys = pickE rl p := ⟨_, rfl⟩
  have HYP := Lib.hid (show ys.Perm rl from by rw [hys]; exact pickE_perm (by rw [HLN.out]; exact HPR.out))
  have HYR := Lib.hid (show RegOk rb rs ys from HOK.out.perm HYP.out.symm)
  have HYL := Lib.hid (show ys.length = m1 from by rw [HYP.out.length_eq, HLN.out])
  have HYG := Lib.hid (show ∀ (kk j : Nat) (x : EntryT), p[kk]? = some (j : Int) → rl[j]? = some x → ys[kk]? = some x from fun kk j x h1 h2 => by rw [hys]; exact pickE_get h1 h2)
  have HPB := Lib.hid (show ∀ (kk : Nat) (y : Int), p[kk]? = some y → 0 ≤ y ∧ y < (m1 : Int) from fun kk y h => idx_mem.1 (HPR.out.mem_iff.1 (List.mem_of_getElem? h)))
  have HSY := Lib.hid (show standCF rb rs ys ru = (L, 0) from by rw [stand_order HOK.out HYR.out.regB HOK.out.regB HYP.out.symm]; exact HZ.out)
  have HTY := Lib.hid (show tabR rb rs ys = tt from by rw [HTT.out]; exact tabR_order HOK.out HYP.out.symm)
  clear hys
  have U_O1 := Lib.hid (fun b (hb : (Value.slice _ _ _).ownBlock = some b) => (O1.out.lt b hb).2)
  have U_Q1 := Lib.hid (fun b (hb : (Value.slice _ _ _).ownBlock = some b) => (Q1.out.lt b hb).2)
  have U_L4 := Lib.hid (fun b (hb : (Value.slice _ _ _).ownBlock = some b) => (L4.out.lt b hb).2)
  have U_OP := Lib.hid (fun b (hb : (Value.slice _ _ _).ownBlock = some b) => (OP.out.lt b hb).2)
  have Fr := Xr.out.f3
  obtain ⟨wt, hwt, -, hbt, -⟩ := one_box W6 #[.int .i64 rb, .int .i64 rs, .slice none 0 0] 31
  have Fr2 := (Xr.out.below hbt).f3
  rw [hwt] at Fr2
  clear hwt hbt
  obtain ⟨W7, hw, Xx, Xg, hb, hs⟩ := two_boxes W6 #[.int .i64 rb, .int .i64 rs, .slice none 0 0] #[.int .i64 rb, .int .i64 rs, .slice none 0 0] 31 31
  replace Xx := Lib.hid Xx
  replace Xg := Lib.hid Xg
  have B_W7 := Lib.hid (B_W6.out.trans (hb.mono B_W6.out.size))
  have z_W7 := hb.size
  replace O1 := Lib.hid (own_below O1.out hb)
  replace Q1 := Lib.hid (own_below Q1.out hb)
  replace L4 := Lib.hid (own_below L4.out hb)
  replace OP := Lib.hid (own_below OP.out hb)
  replace Xr := Lib.hid (Xr.out.below hb)
  have l_x := Xx.out.lt
  have l_g := Xg.out.lt
  have e_W7 : W7.heap.size = W6.heap.size + 1 + 1 := hs
  replace e_W7 := Lib.hid e_W7
  have HW_W7 := Lib.hid hw
  clear hb hs hw
  go_wp2_with fail
  rw [← HW_W7.out]
  clear HW_W7 Fr Fr2
  have hzX : W6.heap.size + 2 = W7.heap.size := by have := e_W7.out; omega
  have K_O1 := Lib.hid (fun W' (h : Chg (W6.heap.size) (W6.heap.size + 2) W7 W') => own_chg O1.out h (fun b hb => .inl (U_O1.out b hb)))
  have V_O1 := U_O1
  clear U_O1
  have K_Q1 := Lib.hid (fun W' (h : Chg (W6.heap.size) (W6.heap.size + 2) W7 W') => own_chg Q1.out h (fun b hb => .inl (U_Q1.out b hb)))
  clear U_Q1
  have K_L4 := Lib.hid (fun W' (h : Chg (W6.heap.size) (W6.heap.size + 2) W7 W') => own_chg L4.out h (fun b hb => .inl (U_L4.out b hb)))
  clear U_L4
  have K_OP := Lib.hid (fun W' (h : Chg (W6.heap.size) (W6.heap.size + 2) W7 W') => own_chg OP.out h (fun b hb => .inl (U_OP.out b hb)))
  have V_OP := U_OP
  clear U_OP
  have K_r := Lib.hid (fun W' (h : Chg (W6.heap.size) (W6.heap.size + 2) W7 W') => Xr.out.chg h (.inl (by omega)))
  have K_B := Lib.hid (fun W' (h : Chg (W6.heap.size) (W6.heap.size + 2) W7 W') => below_chg B_W7.out h (by omega) B_W7.out.size)
  have hoo := fun (A : Option Addr) (h : A = none) => World.ownsRow_nil W7 W7.heap.size 50 7
  clear hoo
  go_loopw [12] (fun i wr => ∃ (j cx cg : Nat) (Ax Ag : Option Addr), j ≤ m1 ∧ i = .int .i64 (j : Int) ∧ Hid (Box wr (W6.heap.size) #[.int .i64 rb, .int .i64 rs, .slice Ax j cx] 31) ∧ Hid (Box wr (W6.heap.size + 1) #[.int .i64 rb, .int .i64 rs, .slice Ag j cg] 31) ∧ Hid (wr.ownsRow W7.heap.size 50 7 (.slice Ax j cx) j (ents (ys.take j))) ∧ Hid (wr.ownsRow W7.heap.size 50 7 (.slice Ag j cg) j (ents (ys.take j))) ∧ Hid (∀ b, (Value.slice Ax j cx).ownBlock = some b → (Value.slice Ag j cg).ownBlock ≠ some b) ∧ Hid (Chg (W6.heap.size) (W6.heap.size + 2) W7 wr)) (fun i _ => m1 - (intOf i).toNat)
  case atStart => exact ⟨0, 0, 0, none, none, by omega, rfl, Xx, Xg, Lib.hid (World.ownsRow_nil _ _ _ _), Lib.hid (World.ownsRow_nil _ _ _ _), Lib.hid (fun b h => by simp [Value.ownBlock] at h), Lib.hid (Chg.refl _ _ _)⟩
  case round =>
    clear Xx Xg
    obtain ⟨j, cx, cg, Ax, Ag, hj, rfl, Xx, Xg, OX, OG, HNE, HCH⟩ := hrel
    obtain ⟨wo, hwo⟩ : ∃ wo : World, wo = wr := ⟨_, rfl⟩
    subst hwo
    have hsl := HCH.out.size
    by_cases hlt : j < m1
    · have hli : decide ((j : Int) < (m1 : Int)) = true := decide_eq_true (by omega)
      have hKP := K_OP.out _ HCH.out
      obtain ⟨gO, y, rfl, -, hgO, hy, hcO, -⟩ := own_int_at hKP (k := j) hlt
      have hyb := HPB.out _ _ hy
      obtain ⟨ix, rfl⟩ := int_up y hyb.1
      have hix : ix < m1 := by omega
      have hKO := K_O1.out _ HCH.out
      obtain ⟨gE, x0, x1, x2, x3, x4, x5, x6, rfl, -, hgE, hx, -, d0, d1, d2, d3, d4, d5, d6, -⟩ := own_ent_at hKO hix
      have hyx := HYG.out _ _ _ hy hx
      have HNX := Lib.hid hyx
      have HPJ := Lib.hid hy
      have HXJ := Lib.hid hx
      have hgO2 : gO < W6.heap.size := V_OP.out gO rfl
      have hgE2 : gE < W6.heap.size := V_O1.out gE rfl
      have HCO := Lib.hid hcO
      have HDD := Lib.hid (show _ ∧ _ ∧ _ ∧ _ ∧ _ ∧ _ ∧ _ from ⟨d0, d1, d2, d3, d4, d5, d6⟩)
      clear hKP hKO hyb hy hx hyx hcO d0 d1 d2 d3 d4 d5 d6
      go_wp2_with fail
      obtain ⟨S, hSE, hSI⟩ : ∃ S : World → Prop, (∀ x9, S x9 → (x9.cell? ⟨W6.heap.size, 2, none⟩ = some (.slice Ax j cx) ∧ x9.cell? ⟨W1.heap.size, 2, none⟩ = some (.slice (some ⟨gE, 0, none⟩) m1 c1) ∧ x9.cell? ⟨gO, j, none⟩ = some (.int .i64 (ix : Int)) ∧ x9.cell? ⟨gE, ix * 7, none⟩ = some (.int .i64 x0) ∧ x9.cell? ⟨gE, ix * 7 + 1, none⟩ = some (.int .i64 x1) ∧ x9.cell? ⟨gE, ix * 7 + 2, none⟩ = some (.int .i64 x2) ∧ x9.cell? ⟨gE, ix * 7 + 3, none⟩ = some (.int .i64 x3) ∧ x9.cell? ⟨gE, ix * 7 + 4, none⟩ = some (.int .i64 x4) ∧ x9.cell? ⟨gE, ix * 7 + 5, none⟩ = some (.int .i64 x5) ∧ x9.cell? ⟨gE, ix * 7 + 6, none⟩ = some (.int .i64 x6))) ∧ (∀ x9, (x9.cell? ⟨W6.heap.size, 2, none⟩ = some (.slice Ax j cx) ∧ x9.cell? ⟨W1.heap.size, 2, none⟩ = some (.slice (some ⟨gE, 0, none⟩) m1 c1) ∧ x9.cell? ⟨gO, j, none⟩ = some (.int .i64 (ix : Int)) ∧ x9.cell? ⟨gE, ix * 7, none⟩ = some (.int .i64 x0) ∧ x9.cell? ⟨gE, ix * 7 + 1, none⟩ = some (.int .i64 x1) ∧ x9.cell? ⟨gE, ix * 7 + 2, none⟩ = some (.int .i64 x2) ∧ x9.cell? ⟨gE, ix * 7 + 3, none⟩ = some (.int .i64 x3) ∧ x9.cell? ⟨gE, ix * 7 + 4, none⟩ = some (.int .i64 x4) ∧ x9.cell? ⟨gE, ix * 7 + 5, none⟩ = some (.int .i64 x5) ∧ x9.cell? ⟨gE, ix * 7 + 6, none⟩ = some (.int .i64 x6)) → S x9) := ⟨fun x9 => (x9.cell? ⟨W6.heap.size, 2, none⟩ = some (.slice Ax j cx) ∧ x9.cell? ⟨W1.heap.size, 2, none⟩ = some (.slice (some ⟨gE, 0, none⟩) m1 c1) ∧ x9.cell? ⟨gO, j, none⟩ = some (.int .i64 (ix : Int)) ∧ x9.cell? ⟨gE, ix * 7, none⟩ = some (.int .i64 x0) ∧ x9.cell? ⟨gE, ix * 7 + 1, none⟩ = some (.int .i64 x1) ∧ x9.cell? ⟨gE, ix * 7 + 2, none⟩ = some (.int .i64 x2) ∧ x9.cell? ⟨gE, ix * 7 + 3, none⟩ = some (.int .i64 x3) ∧ x9.cell? ⟨gE, ix * 7 + 4, none⟩ = some (.int .i64 x4) ∧ x9.cell? ⟨gE, ix * 7 + 5, none⟩ = some (.int .i64 x5) ∧ x9.cell? ⟨gE, ix * 7 + 6, none⟩ = some (.int .i64 x6)), fun _ h => h, fun _ h => h⟩
      have HSE := Lib.hid hSE; have HSI := Lib.hid hSI
      clear hSE hSI
      have HSB := Lib.hid (show ∀ x9, Below wo.heap.size wo x9 → S x9 from fun x9 hb => HSI.out _ (⟨(Xx.out.below hb).cell (i := 2) rfl, ((K_r.out _ HCH.out).below hb).cell (i := 2) rfl, cell_bel HCO.out hb, cell_bel HDD.out.1 hb, cell_bel HDD.out.2.1 hb, cell_bel HDD.out.2.2.1 hb, cell_bel HDD.out.2.2.2.1 hb, cell_bel HDD.out.2.2.2.2.1 hb, cell_bel HDD.out.2.2.2.2.2.1 hb, cell_bel HDD.out.2.2.2.2.2.2 hb⟩))
      refine wp_region_T2 (n := 14) S (fun jj => decide (13 ≤ jj)) (by kernel_rfl) rfl ?_
      intro ops HOPS
      have hS := HSB.out _ (below_drewN' _ wo 1)
      obtain ⟨wd, hwd, hbd⟩ : ∃ wd : World, wd = wo.drew ∧ Below wo.heap.size wo wd := ⟨_, rfl, below_drewN' _ wo 1⟩
      replace hS : S wo.drew := hS
      rw [← hwd] at hS ⊢
      clear hwd
      refine wpAnyT_take 0 (.pointer (some ⟨W6.heap.size, 2, none⟩)) (by rw [HOPS.out]; rfl) (by rw [HOPS.out]; kernel_rfl) (by exact fun _ _ _ h => h) (by rfl) (fun w1 hS => by go_simp) hS ?_
      go_simp
      refine wpAnyT_take 1 (.slice Ax j cx) (by rw [HOPS.out]; rfl) (by rw [HOPS.out]; kernel_rfl) (by exact fun _ _ _ h => h) (by rfl) (fun w1 hS => by obtain ⟨s0, s1, s2, t0, t1, t2, t3, t4, t5, t6⟩ := HSE.out _ hS; go_simp) hS ?_
      go_simp
      refine wpAnyT_take 2 (.pointer (some ⟨W1.heap.size, 2, none⟩)) (by rw [HOPS.out]; rfl) (by rw [HOPS.out]; kernel_rfl) (by exact fun _ _ _ h => h) (by rfl) (fun w1 hS => by go_simp) hS ?_
      go_simp
      refine wpAnyT_take 3 (.slice (some ⟨gE, 0, none⟩) m1 c1) (by rw [HOPS.out]; rfl) (by rw [HOPS.out]; kernel_rfl) (by exact fun _ _ _ h => h) (by rfl) (fun w1 hS => by obtain ⟨s0, s1, s2, t0, t1, t2, t3, t4, t5, t6⟩ := HSE.out _ hS; go_simp) hS ?_
      go_simp
      refine wpAnyT_take 4 (.slice (some ⟨gO, 0, none⟩) m1 cO) (by rw [HOPS.out]; rfl) (by rw [HOPS.out]; kernel_rfl) (by exact fun _ _ _ h => h) (by rfl) (fun w1 hS => by go_simp) hS ?_
      go_simp
      refine wpAnyT_take 5 (.int .i64 (j : Int)) (by rw [HOPS.out]; rfl) (by rw [HOPS.out]; kernel_rfl) (by exact fun _ _ _ h => h) (by rfl) (fun w1 hS => by go_simp) hS ?_
      go_simp
      refine wpAnyT_take 6 (.pointer (some ⟨gO, j, none⟩)) (by rw [HOPS.out]; rfl) (by rw [HOPS.out]; kernel_rfl) (by exact fun _ _ _ h => h) (by rfl) (fun w1 hS => by go_simp) hS ?_
      go_simp
      refine wpAnyT_take 7 (.int .i64 (ix : Int)) (by rw [HOPS.out]; rfl) (by rw [HOPS.out]; kernel_rfl) (by exact fun _ _ _ h => h) (by rfl) (fun w1 hS => by obtain ⟨s0, s1, s2, t0, t1, t2, t3, t4, t5, t6⟩ := HSE.out _ hS; go_simp) hS ?_
      go_simp
      refine wpAnyT_take 8 (.pointer (some ⟨gE, ix * 7, none⟩)) (by rw [HOPS.out]; rfl) (by rw [HOPS.out]; kernel_rfl) (by exact fun _ _ _ h => h) (by rfl) (fun w1 hS => by go_simp) hS ?_
      go_simp
      refine wpAnyT_take 9 (.agg #[.int .i64 x0, .int .i64 x1, .int .i64 x2, .int .i64 x3, .int .i64 x4, .int .i64 x5, .int .i64 x6]) (by rw [HOPS.out]; rfl) (by rw [HOPS.out]; kernel_rfl) (by exact fun _ _ _ h => h) (by rfl) (fun w1 hS => by obtain ⟨s0, s1, s2, t0, t1, t2, t3, t4, t5, t6⟩ := HSE.out _ hS; go_simp) hS ?_
      go_simp
      refine wpAnyT_one 10 (by rw [HOPS.out]; rfl) (by rw [HOPS.out]; kernel_rfl) ?_
      intro K' hK
      have HK := Lib.hid hK
      clear hK
      go_simp
      refine HK.out _ _ (.inr (HSB.out _ (hbd.alloc hbd.size _))) ?_
      clear HK
      obtain ⟨wa, hwa, XA, hba, hsa⟩ := one_box wd #[.int .i64 x0, .int .i64 x1, .int .i64 x2, .int .i64 x3, .int .i64 x4, .int .i64 x5, .int .i64 x6] 50
      rw [← hwa]
      clear hwa
      have hbA := hbd.trans (hba.mono hbd.size)
      have HXA := Lib.hid XA
      have HOA := Lib.hid (own_below OX.out hbA)
      have HGA := Lib.hid (own_below OG.out hbA)
      have hS := HSB.out _ hbA
      have hzA := hbA.size
      clear XA
      go_simp
      refine wpAnyT_one 11 (by rw [HOPS.out]; rfl) (by rw [HOPS.out]; kernel_rfl) ?_
      intro K' hK
      have HK := Lib.hid hK
      clear hK
      refine step_ent (x0 := x0) (x1 := x1) (x2 := x2) (x3 := x3) (x4 := x4) (x5 := x5) (x6 := x6) _ (by rfl) _ _ (by rfl) (by rfl) HOA.out (by rfl) HXA.out (by omega) (by omega) ?_
      intro g9 c9 w9 hown9 hgr9 hwh9 hg9
      have hrow : ∀ q, (Value.slice Ax j cx).ownBlock = some q → W7.heap.size ≤ q := fun q e => (HOA.out.lt q e).1
      have hS9 : S w9 := by
        obtain ⟨s0, s1, s2, t0, t1, t2, t3, t4, t5, t6⟩ := HSE.out _ hS
        exact HSI.out _ ⟨cell_grown s0 hgr9 (fun e => by have := hrow _ e; omega), cell_grown s1 hgr9 (fun e => by have := hrow _ e; omega), cell_grown s2 hgr9 (fun e => by have := hrow _ e; omega), cell_grown t0 hgr9 (fun e => by have := hrow _ e; omega), cell_grown t1 hgr9 (fun e => by have := hrow _ e; omega), cell_grown t2 hgr9 (fun e => by have := hrow _ e; omega), cell_grown t3 hgr9 (fun e => by have := hrow _ e; omega), cell_grown t4 hgr9 (fun e => by have := hrow _ e; omega), cell_grown t5 hgr9 (fun e => by have := hrow _ e; omega), cell_grown t6 hgr9 (fun e => by have := hrow _ e; omega)⟩
      refine HK.out _ _ (.inr hS9) ?_
      clear HK
      have hS := hS9
      go_simp
      refine wpAnyT_take 12 (.pointer (some ⟨W6.heap.size, 2, none⟩)) (by rw [HOPS.out]; rfl) (by rw [HOPS.out]; kernel_rfl) (by exact fun _ _ _ h => h) (by rfl) (fun w1 hS => by go_simp) hS ?_
      go_simp
      have XX9 := (Xx.out.below hbA).grown hgr9 (fun e => by have := hrow _ e; omega)
      have XG9 := (Xg.out.below hbA).grown hgr9 (fun e => by have := hrow _ e; omega)
      have OG9 := own_apart HGA.out hgr9 HNE.out
      have CH9 : Chg (W6.heap.size) (W6.heap.size + 2) W7 w9 := chg_grown (HCH.out.trans (Chg.of_below hbA)) hgr9 (fun q e => hrow q e)
      have HNE9 : ∀ b, (Value.slice (some ⟨g9, 0, none⟩) (j + 1) c9).ownBlock = some b → (Value.slice Ag j cg).ownBlock ≠ some b := by
        intro b hb he
        have hb2 : g9 = b := by simpa [Value.ownBlock] using hb
        subst hb2
        rcases hwh9 with h | h
        · exact HNE.out _ h he
        · have := (OG.out.lt _ he).2; omega
      have FX9 := XX9.f3
      refine wpAnyT_one 13 (by rw [HOPS.out]; rfl) (by rw [HOPS.out]; kernel_rfl) ?_
      intro K' hK
      have HK := Lib.hid hK
      clear hK
      go_simp
      refine HK.out _ _ (.inl (by decide)) ?_
      clear HK
      go_simp
      refine wpAnyT_done (by rw [HOPS.out]; kernel_rfl) ?_ _
      clear FX9
      obtain ⟨wE, hwE⟩ : ∃ wE : World, wE = w9.setCell ⟨W6.heap.size, 2, none⟩ (.slice (some ⟨g9, 0, none⟩) (j + 1) c9) := ⟨_, rfl⟩
      have hcE : Chg (W6.heap.size) (W6.heap.size + 2) w9 wE := by rw [hwE]; exact chg_set (Chg.refl _ _ _) (by omega) (by omega) _
      have XXE : Box wE (W6.heap.size) #[.int .i64 rb, .int .i64 rs, .slice (some ⟨g9, 0, none⟩) (j + 1) c9] 31 := by rw [hwE]; have := XX9.set 2 (.slice (some ⟨g9, 0, none⟩) (j + 1) c9); simpa using this
      have XGE : Box wE (W6.heap.size + 1) #[.int .i64 rb, .int .i64 rs, .slice Ag j cg] 31 := by rw [hwE]; exact XG9.other (by omega) _
      have hz9 := CH9.size
      have HXE := Lib.hid XXE; have HGE := Lib.hid XGE
      have HCE := Lib.hid (CH9.trans hcE)
      have HOE := Lib.hid (own_chg hown9 hcE (fun b hb => .inr (by have := (hown9.lt b hb).1; omega)))
      have HPE := Lib.hid (own_chg OG9 hcE (fun b hb => .inr (by have := (OG9.lt b hb).1; omega)))
      have HNE2 := Lib.hid HNE9
      rw [← hwE]
      clear hwE hcE XXE XGE XX9 XG9 OG9 CH9 HNE9 hown9 hgr9 hwh9 hrow hbA hba hsa hbd hS hS9 HSE HSI HSB HOPS Xx Xg OX OG HNE HCH HXA HOA HGA hzA
      rw [← take_snoc_get HNX.out] at HOE
      obtain ⟨gO3, y3, hgO3, -, -, hy3, hc3, -⟩ := own_int_at (K_OP.out _ HCE.out) (k := j) hlt
      obtain rfl : gO = gO3 := by injection hgO3 with e; injection e
      obtain rfl : y3 = (ix : Int) := by have := HPJ.out; rw [hy3] at this; injection this
      obtain ⟨gE3, z0, z1, z2, z3, z4, z5, z6, hgE3, -, -, hx3, -, f0, f1, f2, f3, f4, f5, f6, -⟩ := own_ent_at (K_O1.out _ HCE.out) hix
      obtain rfl : gE = gE3 := by injection hgE3 with e; injection e
      rw [HXJ.out] at hx3
      injection hx3 with hx3
      simp only [Prod.mk.injEq] at hx3
      obtain ⟨rfl, rfl, rfl, rfl, rfl, rfl, rfl⟩ := hx3
      replace HCO := Lib.hid hc3
      replace HDD := Lib.hid (show _ ∧ _ ∧ _ ∧ _ ∧ _ ∧ _ ∧ _ from ⟨f0, f1, f2, f3, f4, f5, f6⟩)
      have XRE := Lib.hid (K_r.out _ HCE.out)
      have HADD := Lib.hid (fun W hb => add_grow HYR.out HNX.out Ag j cg W hb)
      have hzE := HCE.out.size
      clear hgO3 hy3 hc3 hgE3 f0 f1 f2 f3 f4 f5 f6
      go_wp2_with fail
      obtain ⟨S, hSE, hSI⟩ : ∃ S : World → Prop, (∀ x9, S x9 → (x9.cell? ⟨W6.heap.size + 1, 0, none⟩ = some (.int .i64 rb) ∧ x9.cell? ⟨W6.heap.size + 1, 1, none⟩ = some (.int .i64 rs) ∧ x9.cell? ⟨W6.heap.size + 1, 2, none⟩ = some (.slice Ag j cg) ∧ x9.cell? ⟨W1.heap.size, 2, none⟩ = some (.slice (some ⟨gE, 0, none⟩) m1 c1) ∧ x9.cell? ⟨gO, j, none⟩ = some (.int .i64 (ix : Int)) ∧ x9.cell? ⟨gE, ix * 7, none⟩ = some (.int .i64 x0) ∧ x9.cell? ⟨gE, ix * 7 + 1, none⟩ = some (.int .i64 x1) ∧ x9.cell? ⟨gE, ix * 7 + 2, none⟩ = some (.int .i64 x2) ∧ x9.cell? ⟨gE, ix * 7 + 3, none⟩ = some (.int .i64 x3) ∧ x9.cell? ⟨gE, ix * 7 + 4, none⟩ = some (.int .i64 x4) ∧ x9.cell? ⟨gE, ix * 7 + 5, none⟩ = some (.int .i64 x5) ∧ x9.cell? ⟨gE, ix * 7 + 6, none⟩ = some (.int .i64 x6))) ∧ (∀ x9, (x9.cell? ⟨W6.heap.size + 1, 0, none⟩ = some (.int .i64 rb) ∧ x9.cell? ⟨W6.heap.size + 1, 1, none⟩ = some (.int .i64 rs) ∧ x9.cell? ⟨W6.heap.size + 1, 2, none⟩ = some (.slice Ag j cg) ∧ x9.cell? ⟨W1.heap.size, 2, none⟩ = some (.slice (some ⟨gE, 0, none⟩) m1 c1) ∧ x9.cell? ⟨gO, j, none⟩ = some (.int .i64 (ix : Int)) ∧ x9.cell? ⟨gE, ix * 7, none⟩ = some (.int .i64 x0) ∧ x9.cell? ⟨gE, ix * 7 + 1, none⟩ = some (.int .i64 x1) ∧ x9.cell? ⟨gE, ix * 7 + 2, none⟩ = some (.int .i64 x2) ∧ x9.cell? ⟨gE, ix * 7 + 3, none⟩ = some (.int .i64 x3) ∧ x9.cell? ⟨gE, ix * 7 + 4, none⟩ = some (.int .i64 x4) ∧ x9.cell? ⟨gE, ix * 7 + 5, none⟩ = some (.int .i64 x5) ∧ x9.cell? ⟨gE, ix * 7 + 6, none⟩ = some (.int .i64 x6)) → S x9) := ⟨fun x9 => (x9.cell? ⟨W6.heap.size + 1, 0, none⟩ = some (.int .i64 rb) ∧ x9.cell? ⟨W6.heap.size + 1, 1, none⟩ = some (.int .i64 rs) ∧ x9.cell? ⟨W6.heap.size + 1, 2, none⟩ = some (.slice Ag j cg) ∧ x9.cell? ⟨W1.heap.size, 2, none⟩ = some (.slice (some ⟨gE, 0, none⟩) m1 c1) ∧ x9.cell? ⟨gO, j, none⟩ = some (.int .i64 (ix : Int)) ∧ x9.cell? ⟨gE, ix * 7, none⟩ = some (.int .i64 x0) ∧ x9.cell? ⟨gE, ix * 7 + 1, none⟩ = some (.int .i64 x1) ∧ x9.cell? ⟨gE, ix * 7 + 2, none⟩ = some (.int .i64 x2) ∧ x9.cell? ⟨gE, ix * 7 + 3, none⟩ = some (.int .i64 x3) ∧ x9.cell? ⟨gE, ix * 7 + 4, none⟩ = some (.int .i64 x4) ∧ x9.cell? ⟨gE, ix * 7 + 5, none⟩ = some (.int .i64 x5) ∧ x9.cell? ⟨gE, ix * 7 + 6, none⟩ = some (.int .i64 x6)), fun _ h => h, fun _ h => h⟩
      have HSE := Lib.hid hSE; have HSI := Lib.hid hSI
      clear hSE hSI
      have HSB := Lib.hid (show ∀ x9, Below wE.heap.size wE x9 → S x9 from fun x9 hb => HSI.out _ (⟨(HGE.out.below hb).cell (i := 0) rfl, (HGE.out.below hb).cell (i := 1) rfl, (HGE.out.below hb).cell (i := 2) rfl, (XRE.out.below hb).cell (i := 2) rfl, cell_bel HCO.out hb, cell_bel HDD.out.1 hb, cell_bel HDD.out.2.1 hb, cell_bel HDD.out.2.2.1 hb, cell_bel HDD.out.2.2.2.1 hb, cell_bel HDD.out.2.2.2.2.1 hb, cell_bel HDD.out.2.2.2.2.2.1 hb, cell_bel HDD.out.2.2.2.2.2.2 hb⟩))
      refine wp_region_T2 (n := 16) S (fun j => false) (by kernel_rfl) rfl ?_
      intro ops HOPS
      have hS := HSB.out _ (below_drewN' _ wE 1)
      obtain ⟨wd, hwd, hbd⟩ : ∃ wd : World, wd = wE.drew ∧ Below wE.heap.size wE wd := ⟨_, rfl, below_drewN' _ wE 1⟩
      replace hS : S wE.drew := hS
      rw [← hwd] at hS ⊢
      clear hwd
      refine wpAnyT_take 0 (.agg #[.int .i64 rb, .int .i64 rs, .slice Ag j cg]) (by rw [HOPS.out]; rfl) (by rw [HOPS.out]; kernel_rfl) (by exact fun _ _ _ h => h) (by rfl) (fun w1 hS => by obtain ⟨u0, u1, u2, s1, s2, t0, t1, t2, t3, t4, t5, t6⟩ := HSE.out _ hS; go_simp) hS ?_
      go_simp
      refine wpAnyT_take 1 (.pointer (some ⟨W1.heap.size, 2, none⟩)) (by rw [HOPS.out]; rfl) (by rw [HOPS.out]; kernel_rfl) (by exact fun _ _ _ h => h) (by rfl) (fun w1 hS => by go_simp) hS ?_
      go_simp
      refine wpAnyT_take 2 (.slice (some ⟨gE, 0, none⟩) m1 c1) (by rw [HOPS.out]; rfl) (by rw [HOPS.out]; kernel_rfl) (by exact fun _ _ _ h => h) (by rfl) (fun w1 hS => by obtain ⟨u0, u1, u2, s1, s2, t0, t1, t2, t3, t4, t5, t6⟩ := HSE.out _ hS; go_simp) hS ?_
      go_simp
      refine wpAnyT_take 3 (.slice (some ⟨gO, 0, none⟩) m1 cO) (by rw [HOPS.out]; rfl) (by rw [HOPS.out]; kernel_rfl) (by exact fun _ _ _ h => h) (by rfl) (fun w1 hS => by go_simp) hS ?_
      go_simp
      refine wpAnyT_take 4 (.int .i64 (j : Int)) (by rw [HOPS.out]; rfl) (by rw [HOPS.out]; kernel_rfl) (by exact fun _ _ _ h => h) (by rfl) (fun w1 hS => by go_simp) hS ?_
      go_simp
      refine wpAnyT_take 5 (.pointer (some ⟨gO, j, none⟩)) (by rw [HOPS.out]; rfl) (by rw [HOPS.out]; kernel_rfl) (by exact fun _ _ _ h => h) (by rfl) (fun w1 hS => by go_simp) hS ?_
      go_simp
      refine wpAnyT_take 6 (.int .i64 (ix : Int)) (by rw [HOPS.out]; rfl) (by rw [HOPS.out]; kernel_rfl) (by exact fun _ _ _ h => h) (by rfl) (fun w1 hS => by obtain ⟨u0, u1, u2, s1, s2, t0, t1, t2, t3, t4, t5, t6⟩ := HSE.out _ hS; go_simp) hS ?_
      go_simp
      refine wpAnyT_take 7 (.pointer (some ⟨gE, ix * 7, none⟩)) (by rw [HOPS.out]; rfl) (by rw [HOPS.out]; kernel_rfl) (by exact fun _ _ _ h => h) (by rfl) (fun w1 hS => by go_simp) hS ?_
      go_simp
      refine wpAnyT_take 8 (.agg #[.int .i64 x0, .int .i64 x1, .int .i64 x2, .int .i64 x3, .int .i64 x4, .int .i64 x5, .int .i64 x6]) (by rw [HOPS.out]; rfl) (by rw [HOPS.out]; kernel_rfl) (by exact fun _ _ _ h => h) (by rfl) (fun w1 hS => by obtain ⟨u0, u1, u2, s1, s2, t0, t1, t2, t3, t4, t5, t6⟩ := HSE.out _ hS; go_simp) hS ?_
      go_simp
      have HBD := Lib.hid hbd
      clear hbd
      refine wpAnyT_two 9 13 (by rw [HOPS.out]; rfl) (by rw [HOPS.out]; rfl) (by rw [HOPS.out]; kernel_rfl) ?_ ?_
      · skip
        intro K' hK
        have HK := Lib.hid hK
        clear hK
        go_simp
        go_at_call 29
        refine (HADD.out _ ⟨(own_rd HPE.out).below HBD.out, own_capE HPE.out⟩).mono ?_
        rintro e wq ⟨A5, c5, rfl, ho5, hb5⟩
        have HO5 := Lib.hid ho5
        have hbq := HBD.out.trans (hb5.mono HBD.out.size)
        clear ho5
        refine HK.out _ _ (.inr (HSB.out _ hbq)) ?_
        clear HK
        have hS := HSB.out _ hbq
        go_simp
        refine wpAnyT_take 10 (.tuple #[.agg #[.int .i64 rb, .int .i64 rs, .slice A5 (j + 1) c5], .int .i64 0]) (by rw [HOPS.out]; rfl) (by rw [HOPS.out]; kernel_rfl) (by exact fun _ _ _ h => h) (by rfl) (fun w1 hS => by go_simp) hS ?_
        go_simp
        refine wpAnyT_take 11 (.agg #[.int .i64 rb, .int .i64 rs, .slice A5 (j + 1) c5]) (by rw [HOPS.out]; rfl) (by rw [HOPS.out]; kernel_rfl) (by exact fun _ _ _ h => h) (by rfl) (fun w1 hS => by go_simp) hS ?_
        go_simp
        refine wpAnyT_take 12 (.int .i64 0) (by rw [HOPS.out]; rfl) (by rw [HOPS.out]; kernel_rfl) (by exact fun _ _ _ h => h) (by rfl) (fun w1 hS => by go_simp) hS ?_
        go_simp
        refine wpAnyT_one 13 (by rw [HOPS.out]; rfl) (by rw [HOPS.out]; kernel_rfl) ?_
        intro K' hK
        have HK := Lib.hid hK
        clear hK
        go_simp
        refine HK.out _ _ (.inr (HSB.out _ (hbq.alloc hbq.size _))) ?_
        clear HK
        obtain ⟨wa, hwa, XA, hba, hsa⟩ := one_box wq #[.int .i64 0, .int .i64 0, .slice none 0 0] 31
        rw [← hwa]
        clear hwa
        have hbq0 := hbq
        have hbA := hbq.trans (hba.mono hbq.size)
        have OA := own_below HO5.out hba
        have hS := HSB.out _ hbA
        go_simp
        have FZ := (XA).f3
        have hnb : wE.heap.size ≤ wq.heap.size := (hbq0.size)
        refine wpAnyT_one 14 (by rw [HOPS.out]; rfl) (by rw [HOPS.out]; kernel_rfl) ?_
        intro K' hK
        have HK := Lib.hid hK
        clear hK
        go_simp
        refine HK.out _ _ (.inr (HSB.out _ (((hbA.setCell (p := ⟨wq.heap.size, 0, none⟩) hnb _).setCell (p := ⟨wq.heap.size, 1, none⟩) hnb _).setCell (p := ⟨wq.heap.size, 2, none⟩) hnb _))) ?_
        clear HK
        have hS := HSB.out _ (((hbA.setCell (p := ⟨wq.heap.size, 0, none⟩) hnb (.int .i64 rb)).setCell (p := ⟨wq.heap.size, 1, none⟩) hnb (.int .i64 rs)).setCell (p := ⟨wq.heap.size, 2, none⟩) hnb (.slice A5 (j + 1) c5))
        go_simp
        refine wpAnyT_take 15 (.int .i64 0) (by rw [HOPS.out]; rfl) (by rw [HOPS.out]; kernel_rfl) (by exact fun _ _ _ h => h) (by rfl) (fun w1 hS => by go_simp) hS ?_
        go_simp
        refine wpAnyT_done (by rw [HOPS.out]; kernel_rfl) ?_ _
        obtain ⟨wF, hwF⟩ : ∃ wF : World, wF = (((wa.setCell ⟨wq.heap.size, 0, none⟩ (.int .i64 rb)).setCell ⟨wq.heap.size, 1, none⟩ (.int .i64 rs)).setCell ⟨wq.heap.size, 2, none⟩ (.slice A5 (j + 1) c5)) := ⟨_, rfl⟩
        have hbF : Below wE.heap.size wE wF := by rw [hwF]; exact (((hbA.setCell (p := ⟨wq.heap.size, 0, none⟩) hnb _).setCell (p := ⟨wq.heap.size, 1, none⟩) hnb _).setCell (p := ⟨wq.heap.size, 2, none⟩) hnb _)
        have XN : Box wF (wq.heap.size) #[.int .i64 rb, .int .i64 rs, .slice A5 (j + 1) c5] 31 := by rw [hwF]; have := (((XA).set 0 (.int .i64 rb)).set 1 (.int .i64 rs)).set 2 (.slice A5 (j + 1) c5); simpa using this
        have OF : wF.ownsRow wE.heap.size 50 7 (.slice A5 (j + 1) c5) (j + 1) (ents (ys.take (j + 1))) := by rw [hwF]; exact (own_chg (own_base (OA) (by have := HBD.out.size; omega)) (lo := wq.heap.size) (hi := wq.heap.size + 1) (show Chg (wq.heap.size) (wq.heap.size + 1) wa _ from by (repeat refine chg_set ?_ (Nat.le_refl _) (by omega) _); exact Chg.refl _ _ _) (fun b hb => .inl (by have := (HO5.out.lt b hb).2; omega)))
        rw [← hwF]
        clear hwF FZ
        have XX5 := HXE.out.below hbF
        have XG5 := HGE.out.below hbF
        have OX5 := own_below HOE.out hbF
        have hzF := hbF.size
        have Fn := XN.f3
        have Fg := XG5.f3
        obtain ⟨wH, hwH⟩ : ∃ wH : World, wH = (((wF.setCell ⟨W6.heap.size + 1, 0, none⟩ (.int .i64 rb)).setCell ⟨W6.heap.size + 1, 1, none⟩ (.int .i64 rs)).setCell ⟨W6.heap.size + 1, 2, none⟩ (.slice A5 (j + 1) c5)) := ⟨_, rfl⟩
        have hcH : Chg (W6.heap.size) (W6.heap.size + 2) wF wH := by rw [hwH]; (repeat refine chg_set ?_ (by omega) (by omega) _); exact Chg.refl _ _ _
        have XXH := Lib.hid (show Box wH (W6.heap.size) #[.int .i64 rb, .int .i64 rs, .slice (some ⟨g9, 0, none⟩) (j + 1) c9] 31 from by rw [hwH]; exact ((XX5.other (by omega) _).other (by omega) _).other (by omega) _)
        have XGH := Lib.hid (show Box wH (W6.heap.size + 1) #[.int .i64 rb, .int .i64 rs, .slice A5 (j + 1) c5] 31 from by rw [hwH]; have := ((XG5.set 0 (.int .i64 rb)).set 1 (.int .i64 rs)).set 2 (.slice A5 (j + 1) c5); simpa using this)
        have OXH := Lib.hid (own_chg OX5 hcH (fun b hb => .inr (by have := (OX5.lt b hb).1; omega)))
        have OGH := Lib.hid (own_base (own_chg OF hcH (fun b hb => .inr (by have := (OF.lt b hb).1; omega))) (show W7.heap.size ≤ wE.heap.size by omega))
        have CHH := Lib.hid ((HCE.out.trans (Chg.of_below hbF)).trans hcH)
        have HNH := Lib.hid (show ∀ b, (Value.slice (some ⟨g9, 0, none⟩) (j + 1) c9).ownBlock = some b → (Value.slice A5 (j + 1) c5).ownBlock ≠ some b from fun b hb he => by have h1 := (HOE.out.lt b hb).2; have h2 := (OF.lt b he).1; omega)
        have HWH := Lib.hid hwH
        clear hwH hcH XX5 XG5 OX5 OF XN hbF hS
        go_wp2_with fail
        rw [← HWH.out]
        clear HWH Fn Fg
        go_roundw
        case rel => exact ⟨j + 1, c9, c5, _, A5, by omega, by go_num, XXH, XGH, OXH, OGH, HNH, CHH⟩
        case measure => simp [intOf] <;> omega
      · skip
        intro K' hK
        have HK := Lib.hid hK
        clear hK
        go_simp
        refine HK.out _ _ (.inr (HSB.out _ (HBD.out.alloc HBD.out.size _))) ?_
        clear HK
        obtain ⟨wa, hwa, XA, hba, hsa⟩ := one_box wd #[.int .i64 0, .int .i64 0, .slice none 0 0] 31
        rw [← hwa]
        clear hwa
        have hbA := HBD.out.trans (hba.mono HBD.out.size)
        have HXA := Lib.hid XA
        have hS := HSB.out _ hbA
        clear XA
        go_simp
        refine wpAnyT_one 9 (by rw [HOPS.out]; rfl) (by rw [HOPS.out]; kernel_rfl) ?_
        intro K' hK
        have HK := Lib.hid hK
        clear hK
        go_simp
        go_at_call 29
        refine (HADD.out _ ⟨(own_rd HPE.out).below hbA, own_capE HPE.out⟩).mono ?_
        rintro e wq ⟨A5, c5, rfl, ho5, hb5⟩
        have HO5 := Lib.hid ho5
        have hbq := hbA.trans (hb5.mono hbA.size)
        clear ho5
        have XAq := HXA.out.below hb5
        refine HK.out _ _ (.inr (HSB.out _ hbq)) ?_
        clear HK
        have hS := HSB.out _ hbq
        go_simp
        refine wpAnyT_take 10 (.tuple #[.agg #[.int .i64 rb, .int .i64 rs, .slice A5 (j + 1) c5], .int .i64 0]) (by rw [HOPS.out]; rfl) (by rw [HOPS.out]; kernel_rfl) (by exact fun _ _ _ h => h) (by rfl) (fun w1 hS => by go_simp) hS ?_
        go_simp
        refine wpAnyT_take 11 (.agg #[.int .i64 rb, .int .i64 rs, .slice A5 (j + 1) c5]) (by rw [HOPS.out]; rfl) (by rw [HOPS.out]; kernel_rfl) (by exact fun _ _ _ h => h) (by rfl) (fun w1 hS => by go_simp) hS ?_
        go_simp
        refine wpAnyT_take 12 (.int .i64 0) (by rw [HOPS.out]; rfl) (by rw [HOPS.out]; kernel_rfl) (by exact fun _ _ _ h => h) (by rfl) (fun w1 hS => by go_simp) hS ?_
        go_simp
        have FZ := (XAq).f3
        have hnb : wE.heap.size ≤ wd.heap.size := by have := HBD.out.size; omega
        refine wpAnyT_one 14 (by rw [HOPS.out]; rfl) (by rw [HOPS.out]; kernel_rfl) ?_
        intro K' hK
        have HK := Lib.hid hK
        clear hK
        go_simp
        refine HK.out _ _ (.inr (HSB.out _ (((hbq.setCell (p := ⟨wd.heap.size, 0, none⟩) hnb _).setCell (p := ⟨wd.heap.size, 1, none⟩) hnb _).setCell (p := ⟨wd.heap.size, 2, none⟩) hnb _))) ?_
        clear HK
        have hS := HSB.out _ (((hbq.setCell (p := ⟨wd.heap.size, 0, none⟩) hnb (.int .i64 rb)).setCell (p := ⟨wd.heap.size, 1, none⟩) hnb (.int .i64 rs)).setCell (p := ⟨wd.heap.size, 2, none⟩) hnb (.slice A5 (j + 1) c5))
        go_simp
        refine wpAnyT_take 15 (.int .i64 0) (by rw [HOPS.out]; rfl) (by rw [HOPS.out]; kernel_rfl) (by exact fun _ _ _ h => h) (by rfl) (fun w1 hS => by go_simp) hS ?_
        go_simp
        refine wpAnyT_done (by rw [HOPS.out]; kernel_rfl) ?_ _
        obtain ⟨wF, hwF⟩ : ∃ wF : World, wF = (((wq.setCell ⟨wd.heap.size, 0, none⟩ (.int .i64 rb)).setCell ⟨wd.heap.size, 1, none⟩ (.int .i64 rs)).setCell ⟨wd.heap.size, 2, none⟩ (.slice A5 (j + 1) c5)) := ⟨_, rfl⟩
        have hbF : Below wE.heap.size wE wF := by rw [hwF]; exact (((hbq.setCell (p := ⟨wd.heap.size, 0, none⟩) hnb _).setCell (p := ⟨wd.heap.size, 1, none⟩) hnb _).setCell (p := ⟨wd.heap.size, 2, none⟩) hnb _)
        have XN : Box wF (wd.heap.size) #[.int .i64 rb, .int .i64 rs, .slice A5 (j + 1) c5] 31 := by rw [hwF]; have := (((XAq).set 0 (.int .i64 rb)).set 1 (.int .i64 rs)).set 2 (.slice A5 (j + 1) c5); simpa using this
        have OF : wF.ownsRow wE.heap.size 50 7 (.slice A5 (j + 1) c5) (j + 1) (ents (ys.take (j + 1))) := by rw [hwF]; exact (own_chg (own_base (HO5.out) (by have := HBD.out.size; omega)) (lo := wd.heap.size) (hi := wd.heap.size + 1) (show Chg (wd.heap.size) (wd.heap.size + 1) wq _ from by (repeat refine chg_set ?_ (Nat.le_refl _) (by omega) _); exact Chg.refl _ _ _) (fun b hb => .inr (by have := (HO5.out.lt b hb).1; omega)))
        rw [← hwF]
        clear hwF FZ
        have XX5 := HXE.out.below hbF
        have XG5 := HGE.out.below hbF
        have OX5 := own_below HOE.out hbF
        have hzF := hbF.size
        have Fn := XN.f3
        have Fg := XG5.f3
        obtain ⟨wH, hwH⟩ : ∃ wH : World, wH = (((wF.setCell ⟨W6.heap.size + 1, 0, none⟩ (.int .i64 rb)).setCell ⟨W6.heap.size + 1, 1, none⟩ (.int .i64 rs)).setCell ⟨W6.heap.size + 1, 2, none⟩ (.slice A5 (j + 1) c5)) := ⟨_, rfl⟩
        have hcH : Chg (W6.heap.size) (W6.heap.size + 2) wF wH := by rw [hwH]; (repeat refine chg_set ?_ (by omega) (by omega) _); exact Chg.refl _ _ _
        have XXH := Lib.hid (show Box wH (W6.heap.size) #[.int .i64 rb, .int .i64 rs, .slice (some ⟨g9, 0, none⟩) (j + 1) c9] 31 from by rw [hwH]; exact ((XX5.other (by omega) _).other (by omega) _).other (by omega) _)
        have XGH := Lib.hid (show Box wH (W6.heap.size + 1) #[.int .i64 rb, .int .i64 rs, .slice A5 (j + 1) c5] 31 from by rw [hwH]; have := ((XG5.set 0 (.int .i64 rb)).set 1 (.int .i64 rs)).set 2 (.slice A5 (j + 1) c5); simpa using this)
        have OXH := Lib.hid (own_chg OX5 hcH (fun b hb => .inr (by have := (OX5.lt b hb).1; omega)))
        have OGH := Lib.hid (own_base (own_chg OF hcH (fun b hb => .inr (by have := (OF.lt b hb).1; omega))) (show W7.heap.size ≤ wE.heap.size by omega))
        have CHH := Lib.hid ((HCE.out.trans (Chg.of_below hbF)).trans hcH)
        have HNH := Lib.hid (show ∀ b, (Value.slice (some ⟨g9, 0, none⟩) (j + 1) c9).ownBlock = some b → (Value.slice A5 (j + 1) c5).ownBlock ≠ some b from fun b hb he => by have h1 := (HOE.out.lt b hb).2; have h2 := (OF.lt b he).1; omega)
        have HWH := Lib.hid hwH
        clear hwH hcH XX5 XG5 OX5 OF XN hbF hS
        go_wp2_with fail
        rw [← HWH.out]
        clear HWH Fn Fg
        go_roundw
        case rel => exact ⟨j + 1, c9, c5, _, A5, by omega, by go_num, XXH, XGH, OXH, OGH, HNH, CHH⟩
        case measure => simp [intOf] <;> omega
    · obtain rfl : j = m1 := by omega
      have hli : decide ((j : Int) < (j : Int)) = false := by simp
      rw [List.take_of_length_le (by rw [HYL.out]; exact Nat.le_refl _)] at OX OG
      obtain ⟨W8, hn⟩ : ∃ w : World, w = wo := ⟨_, rfl⟩
      clear HNE
      rw [← hn] at Xx Xg OX OG HCH ⊢
      clear hn hsl
      have B_W8 := Lib.hid (K_B.out _ HCH.out)
      have z_W8 := HCH.out.size
      replace Xr := Lib.hid (K_r.out _ HCH.out)
      replace O1 := Lib.hid (K_O1.out _ HCH.out)
      clear K_O1
      replace Q1 := Lib.hid (K_Q1.out _ HCH.out)
      clear K_Q1
      replace L4 := Lib.hid (K_L4.out _ HCH.out)
      clear K_L4
      replace OP := Lib.hid (K_OP.out _ HCH.out)
      clear K_OP
      clear K_r K_B HCH
      clear OP
      have HI2 := Lib.hid (fun A n c A2 l cl W h h' => implRegStand_any rb rs A n c ys A2 l cl ru W h h')
      rw [HSY.out] at HI2
      have Fx := Xx.out.f3
      go_wp2_with fail
      clear Fx
      refine (HI2.out _ _ _ _ _ _ _ ⟨own_rd OX.out, own_capE OX.out⟩ (own_rd Q1.out)).mono ?_
      rintro e W9 ⟨A5, n5, c5, rfl, o5, sm5, hb⟩
      have B_W9 := Lib.hid (B_W8.out.trans (hb.mono B_W8.out.size))
      have z_W9 := hb.size
      replace O1 := Lib.hid (own_below O1.out hb)
      replace Q1 := Lib.hid (own_below Q1.out hb)
      replace L4 := Lib.hid (own_below L4.out hb)
      replace OX := Lib.hid (own_below OX.out hb)
      replace OG := Lib.hid (own_below OG.out hb)
      replace Xr := Lib.hid (Xr.out.below hb)
      replace Xx := Lib.hid (Xx.out.below hb)
      replace Xg := Lib.hid (Xg.out.below hb)
      have L5 := Lib.hid o5
      clear hb
      try simp only
      have Fg := Xg.out.f3
      go_wp2_with fail
      clear Fg
      refine (HI2.out _ _ _ _ _ _ _ ⟨own_rd OG.out, own_capE OG.out⟩ (own_rd Q1.out)).mono ?_
      rintro e W10 ⟨A6, n6, c6, rfl, o6, sm6, hb⟩
      have B_W10 := Lib.hid (B_W9.out.trans (hb.mono B_W9.out.size))
      have z_W10 := hb.size
      replace O1 := Lib.hid (own_below O1.out hb)
      replace Q1 := Lib.hid (own_below Q1.out hb)
      replace L4 := Lib.hid (own_below L4.out hb)
      replace OX := Lib.hid (own_below OX.out hb)
      replace OG := Lib.hid (own_below OG.out hb)
      replace L5 := Lib.hid (own_below L5.out hb)
      replace Xr := Lib.hid (Xr.out.below hb)
      replace Xx := Lib.hid (Xx.out.below hb)
      replace Xg := Lib.hid (Xg.out.below hb)
      have L6 := Lib.hid o6
      clear hb
      try simp only
      clear OG
      clear Xg
      go_wp2_with fail
      refine (likeInts_same _ _ _ _ _ _ L _ (own_rd L5.out) (own_rd L4.out)).mono ?_
      rintro e W11 ⟨rfl, hb⟩
      have B_W11 := Lib.hid (B_W10.out.trans (hb.mono B_W10.out.size))
      have z_W11 := hb.size
      replace O1 := Lib.hid (own_below O1.out hb)
      replace Q1 := Lib.hid (own_below Q1.out hb)
      replace L4 := Lib.hid (own_below L4.out hb)
      replace OX := Lib.hid (own_below OX.out hb)
      replace L5 := Lib.hid (own_below L5.out hb)
      replace L6 := Lib.hid (own_below L6.out hb)
      replace Xr := Lib.hid (Xr.out.below hb)
      replace Xx := Lib.hid (Xx.out.below hb)
      clear hb
      try simp only
      go_wp2_with fail
      refine (likeInts_same _ _ _ _ _ _ L _ (own_rd L6.out) (own_rd L4.out)).mono ?_
      rintro e W12 ⟨rfl, hb⟩
      have B_W12 := Lib.hid (B_W11.out.trans (hb.mono B_W11.out.size))
      have z_W12 := hb.size
      replace O1 := Lib.hid (own_below O1.out hb)
      replace Q1 := Lib.hid (own_below Q1.out hb)
      replace L4 := Lib.hid (own_below L4.out hb)
      replace OX := Lib.hid (own_below OX.out hb)
      replace L5 := Lib.hid (own_below L5.out hb)
      replace L6 := Lib.hid (own_below L6.out hb)
      replace Xr := Lib.hid (Xr.out.below hb)
      replace Xx := Lib.hid (Xx.out.below hb)
      clear hb
      try simp only
      clear L5
      clear L6
      have Fx := Xx.out.f3
      go_wp2_with fail
      clear Fx
      refine ((implRegTab_good HYR.out HTY.out _ _ _ _ ⟨own_rd OX.out, own_capE OX.out⟩)).mono ?_
      rintro e W13 ⟨P7, n7, c7, vs7, C7, m7, d7, us7, rfl, o7, sum7, hb⟩
      have B_W13 := Lib.hid (B_W12.out.trans (hb.mono B_W12.out.size))
      have z_W13 := hb.size
      replace O1 := Lib.hid (own_below O1.out hb)
      replace Q1 := Lib.hid (own_below Q1.out hb)
      replace L4 := Lib.hid (own_below L4.out hb)
      replace OX := Lib.hid (own_below OX.out hb)
      replace Xr := Lib.hid (Xr.out.below hb)
      replace Xx := Lib.hid (Xx.out.below hb)
      have K7 := Lib.hid o7.rd
      clear hb
      try simp only
      clear OX
      clear Xx
      obtain ⟨W14, hw, Xa, hb, hs⟩ := one_box W13 #[.int .i64 tt.boats, .slice P7 n7 c7, .slice C7 m7 d7] 53
      replace Xa := Lib.hid Xa
      have B_W14 := Lib.hid (B_W13.out.trans (hb.mono B_W13.out.size))
      have z_W14 := hb.size
      replace O1 := Lib.hid (own_below O1.out hb)
      replace Q1 := Lib.hid (own_below Q1.out hb)
      replace L4 := Lib.hid (own_below L4.out hb)
      replace K7 := Lib.hid (K7.out.below hb)
      replace Xr := Lib.hid (Xr.out.below hb)
      have l_a := Xa.out.lt
      have e_W14 : W14.heap.size = W13.heap.size + 1 := hs
      replace e_W14 := Lib.hid e_W14
      have HW_W14 := Lib.hid hw
      clear hb hs hw
      have Fr := Xr.out.f3
      rw [HW_W14.out] at Fr
      go_wp2_with fail
      rw [← HW_W14.out]
      clear HW_W14
      clear Fr
      refine ((specRegTab_good HOK.out HTT.out.symm _ _ _ _ ⟨own_rd O1.out, own_capE O1.out⟩)).mono ?_
      rintro e W15 ⟨P8, n8, c8, vs8, C8, m8, d8, us8, rfl, o8, sum8, hb⟩
      have B_W15 := Lib.hid (B_W14.out.trans (hb.mono B_W14.out.size))
      have z_W15 := hb.size
      replace O1 := Lib.hid (own_below O1.out hb)
      replace Q1 := Lib.hid (own_below Q1.out hb)
      replace L4 := Lib.hid (own_below L4.out hb)
      replace K7 := Lib.hid (K7.out.below hb)
      replace Xr := Lib.hid (Xr.out.below hb)
      replace Xa := Lib.hid (Xa.out.below hb)
      have K8 := Lib.hid o8.rd
      clear hb
      try simp only
      obtain ⟨W16, hw, Xb, hb, hs⟩ := one_box W15 #[.int .i64 tt.boats, .slice P8 n8 c8, .slice C8 m8 d8] 53
      replace Xb := Lib.hid Xb
      have B_W16 := Lib.hid (B_W15.out.trans (hb.mono B_W15.out.size))
      have z_W16 := hb.size
      replace O1 := Lib.hid (own_below O1.out hb)
      replace Q1 := Lib.hid (own_below Q1.out hb)
      replace L4 := Lib.hid (own_below L4.out hb)
      replace K7 := Lib.hid (K7.out.below hb)
      replace K8 := Lib.hid (K8.out.below hb)
      replace Xr := Lib.hid (Xr.out.below hb)
      replace Xa := Lib.hid (Xa.out.below hb)
      have l_b := Xb.out.lt
      have e_W16 : W16.heap.size = W15.heap.size + 1 := hs
      replace e_W16 := Lib.hid e_W16
      have HW_W16 := Lib.hid hw
      clear hb hs hw
      have hbn : (tt.boats != tt.boats) = false := by simp
      have Fa := Xa.out.f3
      have Fb := Xb.out.f3
      rw [HW_W16.out] at Fa Fb
      go_wp2_with fail
      rw [← HW_W16.out]
      clear HW_W16
      clear Fa Fb
      refine (likeRows_same _ _ _ _ _ _ tt.pts _ K7.out.pts K8.out.pts).mono ?_
      rintro e W17 ⟨rfl, hb⟩
      have B_W17 := Lib.hid (B_W16.out.trans (hb.mono B_W16.out.size))
      have z_W17 := hb.size
      replace O1 := Lib.hid (own_below O1.out hb)
      replace Q1 := Lib.hid (own_below Q1.out hb)
      replace L4 := Lib.hid (own_below L4.out hb)
      replace K7 := Lib.hid (K7.out.below hb)
      replace K8 := Lib.hid (K8.out.below hb)
      replace Xr := Lib.hid (Xr.out.below hb)
      replace Xa := Lib.hid (Xa.out.below hb)
      replace Xb := Lib.hid (Xb.out.below hb)
      clear hb
      try simp only
      have Fa := Xa.out.f3
      have Fb := Xb.out.f3
      go_wp2_with fail
      clear Fa Fb
      refine (likeRows_same _ _ _ _ _ _ tt.cds _ K7.out.cds K8.out.cds).mono ?_
      rintro e W18 ⟨rfl, hb⟩
      have B_W18 := Lib.hid (B_W17.out.trans (hb.mono B_W17.out.size))
      have z_W18 := hb.size
      replace O1 := Lib.hid (own_below O1.out hb)
      replace Q1 := Lib.hid (own_below Q1.out hb)
      replace L4 := Lib.hid (own_below L4.out hb)
      replace K7 := Lib.hid (K7.out.below hb)
      replace K8 := Lib.hid (K8.out.below hb)
      replace Xr := Lib.hid (Xr.out.below hb)
      replace Xa := Lib.hid (Xa.out.below hb)
      replace Xb := Lib.hid (Xb.out.below hb)
      clear hb
      try simp only
      clear K7
      clear Xa
      clear hbn
      have HOT := Lib.hid (show TabOk tt from by rw [HTT.out]; exact tabR_ok HOK.out)
      have HLB := Lib.hid (show ∀ (kk : Nat) (y : Int), L[kk]? = some y → 0 ≤ y ∧ y < tt.boats from fun kk y h => stand_boat (t := tt) (rule := ru) (by rw [HTT.out, ← HLE.out]; exact h))
      have HST := Lib.hid (show ∀ (kk : Nat) (x y : Int), L[kk]? = some x → L[kk + 1]? = some y → (cmpT tt ru x y).1 ≤ 0 ∧ ((cmpT tt ru x y).1 = 0 → x < y) from fun kk x y h1 h2 => stand_step HOT.out ru (by rw [HTT.out, ← HLE.out]; exact h1) (by rw [HTT.out, ← HLE.out]; exact h2))
      have HL2 := Lib.hid (fun W (hb : Below W18.heap.size W18 W) => own_below L4.out hb)
      have HQ2 := Lib.hid (fun W (hb : Below W18.heap.size W18 W) => (own_rd Q1.out).below hb)
      have HK2 := Lib.hid (fun W (hb : Below W18.heap.size W18 W) => K8.out.below hb)
      have HX2 := Lib.hid (fun W (hb : Below W18.heap.size W18 W) => Xb.out.below hb)
      have HBW := Lib.hid (Below.refl W18.heap.size W18)
      have hlb := Xb.out.lt
      go_wp2_with fail
      go_loopw [23] (fun i wr => ∃ (q : Nat), i = .int .i64 ((q + 1 : Nat) : Int) ∧ q ≤ n4 ∧ Hid (Below W18.heap.size W18 wr)) (fun i _ => n4 - (intOf i).toNat)
      case atStart => exact ⟨0, rfl, by omega, HBW⟩
      case round =>
        clear HBW
        obtain ⟨q, rfl, hq, HBW⟩ := hrel
        obtain ⟨wo, hwo⟩ : ∃ wo : World, wo = wr := ⟨_, rfl⟩
        subst hwo
        have hsl := HBW.out.size
        by_cases hlt : q + 1 < n4
        · have hli : decide (((q + 1 : Nat) : Int) < (n4 : Int)) = true := decide_eq_true (by omega)
          have hli2 : decide ((q : Int) + 1 < (n4 : Int)) = true := decide_eq_true (by omega)
          obtain ⟨gL, x, hgL, -, -, hx, hcx, -⟩ := own_int_at (HL2.out _ HBW.out) (k := q) (by omega)
          subst hgL
          obtain ⟨gL2, y, hgL, -, -, hy, hcy, -⟩ := own_int_at (HL2.out _ HBW.out) (k := q + 1) hlt
          obtain rfl : gL = gL2 := by injection hgL with e; injection e
          have hxb := HLB.out _ _ hx
          have hyb := HLB.out _ _ hy
          obtain ⟨xa, rfl⟩ := int_up x hxb.1
          obtain ⟨yb, rfl⟩ := int_up y hyb.1
          have hst := HST.out _ _ _ hx hy
          have hsz := cmp_step tt ru (xa : Int) (yb : Int)
          have hca := code_stand HOT.out HRL.out hxb.1 hxb.2
          have hcb := code_stand HOT.out HRL.out hyb.1 hyb.2
          have HCMP := Lib.hid (fun d os => implCompare_ok P8 n8 c8 C8 m8 d8 tt HOT.out D1 l1 e1 ru (ruleB_len HRL.out) xa yb hca hcb hxb.2 hyb.2 (grow (redrawn wo d) os) ((HK2.out _ HBW.out).below (below_regrown _ _ _)) ((HQ2.out _ HBW.out).below (below_regrown _ _ _)))
          have XBo := HX2.out _ HBW.out
          generalize cmpT tt ru (xa : Int) (yb : Int) = v at *
          obtain ⟨v1, v2, v3⟩ := v
          simp only at hst hsz HCMP
          have hsub : IntKind.i64.wrap (((q + 1 : Nat) : Int) - 1) = (q : Int) := by rw [IntWalk.i64_in _ (by omega)]; omega
          clear hgL hx hy hca hcb hxb hyb
          go_wp2_with fail
          have kq0 := cell_regrown (XBo.cell (i := 0) rfl)
          have kq1 := cell_regrown (XBo.cell (i := 1) rfl)
          have kq2 := cell_regrown (XBo.cell (i := 2) rfl)
          have kq3 := cell_regrown (hcx)
          have kq4 := cell_regrown (hcy)
          refine wp_region_quiet_below (by kernel_rfl) (by kernel_rfl) ?_
          repeat (first | go_big_quiet_step ((first | (go_at_call 32; (with_reducible exact Calls.regrown_of (HCMP.out _ _))))) | quiet_step ((first | (go_at_call 32; (with_reducible exact Calls.regrown_of (HCMP.out _ _))))))
          refine wpQuiet_nil ?_
          intro _ hw'
          obtain ⟨⟨dq, osq⟩, hw''⟩ := hw'
          subst hw''
          obtain ⟨w2, hq0, hb2⟩ : ∃ wnew, wnew = grow (redrawn wo dq) osq ∧ Below wo.heap.size wo wnew := ⟨_, rfl, below_regrown _ _ _⟩
          rw [← hq0]
          clear hq0 kq0 kq1 kq2 kq3 kq4
          have XB2 := XBo.below hb2
          have hcx2 := cell_bel hcx hb2
          have hcy2 := cell_bel hcy hb2
          have HB2 := Lib.hid (HBW.out.trans (hb2.mono hsl))
          clear hcx hcy XBo HBW HCMP
          obtain ⟨hst1, hst2⟩ := hst
          by_cases hv : v1 = 0
          · have hv2 : v2 = 0 := hsz.1 hv
            subst hv hv2
            have hxy := hst2 rfl
            have hge : decide ((xa : Int) ≥ (yb : Int)) = false := decide_eq_false (by omega)
            have hge2 : decide (yb ≤ xa) = false := decide_eq_false (by omega)
            clear hst1 hst2 hsz
            go_wp2_with fail
            have kq0 := cell_regrown (hcx2)
            have kq1 := cell_regrown (hcy2)
            refine wp_region_quiet_below (by kernel_rfl) (by kernel_rfl) ?_
            repeat (first | go_big_quiet_step ((fail)) | quiet_step ((fail)))
            refine wpQuiet_nil ?_
            intro _ hw'
            obtain ⟨⟨dq, osq⟩, hw''⟩ := hw'
            subst hw''
            obtain ⟨w3, hq0, hb3⟩ : ∃ wnew, wnew = grow (redrawn w2 dq) osq ∧ Below w2.heap.size w2 wnew := ⟨_, rfl, below_regrown _ _ _⟩
            rw [← hq0]
            clear hq0 kq0 kq1
            have HB3 := Lib.hid (HB2.out.trans (hb3.mono (by have := HB2.out.size; omega)))
            clear hcx2 hcy2 XB2 HB2
            go_wp2_with fail
            go_roundw
            case rel => exact ⟨q + 1, by go_num, by omega, HB3⟩
            case measure => simp [intOf] <;> omega
          · have hv2 : v2 ≠ 0 := fun e => hv (hsz.2 e)
            have hgt : decide (v1 > 0) = false := decide_eq_false (by omega)
            have hgt2 : decide (0 < v1) = false := decide_eq_false (by omega)
            have he1 : (v1 == 0) = false := by simp [hv]
            have he2 : (v2 == 0) = false := by simp [hv2]
            clear hst1 hst2 hsz hv hv2
            go_wp2_with fail
            have kq0 := cell_regrown (hcx2)
            have kq1 := cell_regrown (hcy2)
            refine wp_region_quiet_below (by kernel_rfl) (by kernel_rfl) ?_
            repeat (first | go_big_quiet_step ((fail)) | quiet_step ((fail)))
            refine wpQuiet_nil ?_
            intro _ hw'
            obtain ⟨⟨dq, osq⟩, hw''⟩ := hw'
            subst hw''
            obtain ⟨w3, hq0, hb3⟩ : ∃ wnew, wnew = grow (redrawn w2 dq) osq ∧ Below w2.heap.size w2 wnew := ⟨_, rfl, below_regrown _ _ _⟩
            rw [← hq0]
            clear hq0 kq0 kq1
            have HB3 := Lib.hid (HB2.out.trans (hb3.mono (by have := HB2.out.size; omega)))
            clear hcx2 hcy2 XB2 HB2
            go_wp2_with fail
            go_roundw
            case rel => exact ⟨q + 1, by go_num, by omega, HB3⟩
            case measure => simp [intOf] <;> omega
        · have hli : decide (((q + 1 : Nat) : Int) < (n4 : Int)) = false := decide_eq_false (by omega)
          have hli2 : decide ((q : Int) + 1 < (n4 : Int)) = false := decide_eq_false (by omega)
          clear HL2 HQ2 HX2 HK2
          obtain ⟨W19, hn⟩ : ∃ w : World, w = wo := ⟨_, rfl⟩
          rw [← hn] at HBW ⊢
          have hb := HBW.out
          clear hn hsl HBW
          have B_W19 := Lib.hid (B_W18.out.trans (hb.mono B_W18.out.size))
          have z_W19 := hb.size
          replace O1 := Lib.hid (own_below O1.out hb)
          replace Q1 := Lib.hid (own_below Q1.out hb)
          replace L4 := Lib.hid (own_below L4.out hb)
          replace K8 := Lib.hid (K8.out.below hb)
          replace Xr := Lib.hid (Xr.out.below hb)
          replace Xb := Lib.hid (Xb.out.below hb)
          clear hb
          clear L4
          clear Q1
          obtain ⟨t0, ht0⟩ : ∃ t0, t0 = tab0 rb rs rl := ⟨_, rfl⟩
          have HTOF := Lib.hid (fun A n c W h => implTableOfC_ok rb rs A n c (serF rb rl) HOK.out.b1 HOK.out.b2 (by have := HOK.out.s0; have := HOK.out.s1; omega) (serF_good rb rl) (serF_race HOK.out) W h)
          rw [show tabS rb rs (serF rb rl) = t0 from ht0.symm] at HTOF
          have HTC := Lib.hid (fun (i k : Nat) (p0 pw qw : List Int) (x0 x y : Int) h1 h2 h3 h4 h5 h6 hy => top_cell (i := i) (k := k) (p0 := p0) (pw := pw) (qw := qw) (x0 := x0) (x := x) (y := y) HOK.out h1 h2 h3 h4 h5 h6 hy)
          rw [← ht0, ← HTT.out] at HTC
          have HOT0 := Lib.hid (show TabOk t0 from by rw [ht0]; exact tab0_ok HOK.out)
          have HCD := Lib.hid (show t0.cds = tt.cds from by rw [ht0, HTT.out]; rfl)
          have HTB := Lib.hid (show t0.boats = tt.boats from by rw [ht0, HTT.out]; rfl)
          clear ht0
          have Fr := Xr.out.f3
          go_wp2_with fail
          clear Fr
          refine ((implRegSer_ok HOK.out rfl _ _ _ _ ⟨own_rd O1.out, own_capE O1.out⟩)).mono ?_
          rintro e W20 ⟨A9, n9, c9, vs9, rfl, o9, sum9, hb⟩
          have B_W20 := Lib.hid (B_W19.out.trans (hb.mono B_W19.out.size))
          have z_W20 := hb.size
          replace O1 := Lib.hid (own_below O1.out hb)
          replace K8 := Lib.hid (K8.out.below hb)
          replace Xr := Lib.hid (Xr.out.below hb)
          replace Xb := Lib.hid (Xb.out.below hb)
          have S9 := Lib.hid o9.rd
          clear hb
          try simp only
          clear O1
          clear Xr
          obtain ⟨W21, hw, Xy, hb, hs⟩ := one_box W20 #[.int .i64 rb, .int .i64 rs, .slice A9 n9 c9] 58
          replace Xy := Lib.hid Xy
          have B_W21 := Lib.hid (B_W20.out.trans (hb.mono B_W20.out.size))
          have z_W21 := hb.size
          replace K8 := Lib.hid (K8.out.below hb)
          replace S9 := Lib.hid (S9.out.below hb)
          replace Xb := Lib.hid (Xb.out.below hb)
          have l_y := Xy.out.lt
          have e_W21 : W21.heap.size = W20.heap.size + 1 := hs
          replace e_W21 := Lib.hid e_W21
          have HW_W21 := Lib.hid hw
          clear hb hs hw
          go_wp2_with fail
          rw [← HW_W21.out]
          clear HW_W21
          refine (HTOF.out _ _ _ _ S9.out).mono ?_
          rintro e W22 ⟨P9, n10, c10, vs10, C9, m10, d10, us10, rfl, o10, sum10, hb⟩
          have B_W22 := Lib.hid (B_W21.out.trans (hb.mono B_W21.out.size))
          have z_W22 := hb.size
          replace K8 := Lib.hid (K8.out.below hb)
          replace S9 := Lib.hid (S9.out.below hb)
          replace Xb := Lib.hid (Xb.out.below hb)
          replace Xy := Lib.hid (Xy.out.below hb)
          have K9 := Lib.hid o10.rd
          clear hb
          try simp only
          clear S9
          clear Xy
          obtain ⟨W23, hw, Xz, hb, hs⟩ := one_box W22 #[.int .i64 t0.boats, .slice P9 n10 c10, .slice C9 m10 d10] 53
          replace Xz := Lib.hid Xz
          have B_W23 := Lib.hid (B_W22.out.trans (hb.mono B_W22.out.size))
          have z_W23 := hb.size
          replace K8 := Lib.hid (K8.out.below hb)
          replace K9 := Lib.hid (K9.out.below hb)
          replace Xb := Lib.hid (Xb.out.below hb)
          have l_z := Xz.out.lt
          have e_W23 : W23.heap.size = W22.heap.size + 1 := hs
          replace e_W23 := Lib.hid e_W23
          have HW_W23 := Lib.hid hw
          clear hb hs hw
          have e8 := K8.out.pts.len
          have e9 := K8.out.cds.len
          have f8 := K9.out.pts.len
          have f9 := K9.out.cds.len
          try simp only at e8
          try simp only at e9
          try simp only at f8
          try simp only at f9
          have g8 := HOT.out.same
          have g9 := HOT0.out.same
          rw [HCD.out] at f9 g9
          obtain rfl : n10 = n8 := by omega
          obtain rfl : m10 = m8 := by omega
          obtain rfl : m10 = n10 := by omega
          have h12 := HOT.out.many
          have hn12 : m10 ≤ 12 := by omega
          clear e8 e9 f8 f9 g8 g9 h12
          have hmm : ((m10 : Int) != (m10 : Int)) = false := by simp
          have Fz := Xz.out.f3
          have Fb := Xb.out.f3
          rw [HW_W23.out] at Fz Fb
          go_wp2_with fail
          rw [← HW_W23.out]
          clear HW_W23
          clear Fz Fb
          clear hmm
          have HK8 := Lib.hid (fun W (hb : Below W23.heap.size W23 W) => K8.out.below hb)
          have HK9 := Lib.hid (fun W (hb : Below W23.heap.size W23 W) => K9.out.below hb)
          have HXB := Lib.hid (fun W (hb : Below W23.heap.size W23 W) => Xb.out.below hb)
          have HXZ := Lib.hid (fun W (hb : Below W23.heap.size W23 W) => Xz.out.below hb)
          have HBW := Lib.hid (Below.refl W23.heap.size W23)
          clear Xb Xz K8 K9
          go_loopw [31] (fun i wr => ∃ (kk : Nat), i = .int .i64 (kk : Int) ∧ kk ≤ m10 ∧ Hid (Below W23.heap.size W23 wr)) (fun i _ => m10 - (intOf i).toNat)
          case atStart => exact ⟨0, rfl, by omega, HBW⟩
          case round =>
            clear HBW
            obtain ⟨kk, rfl, hkk, HBW⟩ := hrel
            obtain ⟨wp, hwp⟩ : ∃ wp : World, wp = wr := ⟨_, rfl⟩
            subst hwp
            have hsl := HBW.out.size
            have FB := (HXB.out _ HBW.out).f3
            by_cases hlt : kk < m10
            · have hli : decide ((kk : Int) < (m10 : Int)) = true := decide_eq_true (by omega)
              obtain ⟨bp, op, Ap, cp, pw, hPe, hpw, -, hcp, hrp⟩ := (HK8.out _ HBW.out).pts.row hlt
              obtain ⟨bq, oq, Aq, cq, qw, hCe, hqw, -, hcq, hrq⟩ := (HK8.out _ HBW.out).cds.row hlt
              obtain ⟨bs, os, As, cs, p0, hPe2, hp0, -, hcs, hrs⟩ := (HK9.out _ HBW.out).pts.row hlt
              obtain ⟨bu, ou, Au, cu, q0, hCe2, hq0, -, hcu, hru⟩ := (HK9.out _ HBW.out).cds.row hlt
              subst hPe hCe hPe2 hCe2
              rw [HCD.out, hqw] at hq0
              obtain rfl : qw = q0 := by injection hq0
              have r1 := (HOT.out.row kk pw qw hpw hqw).1.1
              have r2 := (HOT.out.row kk pw qw hpw hqw).2.1
              have r3 := (HOT0.out.row kk p0 qw hp0 (by rw [HCD.out]; exact hqw)).1.1
              rw [HTB.out] at r3
              have r16 := HOT.out.b2
              have hl1 : p0.length = pw.length := by omega
              have hl2 : qw.length = pw.length := by omega
              have hl16 : pw.length ≤ 16 := by omega
              rw [hl1] at hcs hrs
              rw [hl2] at hcq hrq hcu hru
              have HTC2 := Lib.hid (fun (k : Nat) (x0 x y : Int) h4 h5 h6 hy => HTC.out kk k p0 pw qw x0 x y hp0 hpw hqw h4 h5 h6 hy)
              have HLK := Lib.hid (fun d os2 => likeInts_same Au Aq pw.length cu pw.length cq qw (grow (redrawn wp d) os2) (hru.below (below_regrown _ _ _)) (hrq.below (below_regrown _ _ _)))
              have XBo := HXB.out _ HBW.out
              have XZo := HXZ.out _ HBW.out
              have hnn : ((pw.length : Int) != (pw.length : Int)) = false := by simp
              clear r1 r2 r3 r16 hpw hqw hp0 hq0 hl1 hl2
              go_wp2_with fail
              have kq0 := cell_regrown (XBo.cell (i := 1) rfl)
              have kq1 := cell_regrown (XBo.cell (i := 2) rfl)
              have kq2 := cell_regrown (XZo.cell (i := 1) rfl)
              have kq3 := cell_regrown (XZo.cell (i := 2) rfl)
              have kq4 := cell_regrown (hcp)
              have kq5 := cell_regrown (hcq)
              have kq6 := cell_regrown (hcs)
              have kq7 := cell_regrown (hcu)
              refine wp_region_quiet_below (by kernel_rfl) (by kernel_rfl) ?_
              repeat (first | go_big_quiet_step ((first | (go_at_call 18; (with_reducible exact Calls.regrown_of (HLK.out _ _))))) | quiet_step ((first | (go_at_call 18; (with_reducible exact Calls.regrown_of (HLK.out _ _))))))
              refine wpQuiet_nil ?_
              intro _ hw'
              obtain ⟨⟨dq, osq⟩, hw''⟩ := hw'
              subst hw''
              obtain ⟨w2, hq0, hb2⟩ : ∃ wnew, wnew = grow (redrawn wp dq) osq ∧ Below wp.heap.size wp wnew := ⟨_, rfl, below_regrown _ _ _⟩
              rw [← hq0]
              clear hq0 kq0 kq1 kq2 kq3 kq4 kq5 kq6 kq7
              have HB2 := Lib.hid (HBW.out.trans (hb2.mono hsl))
              have hRP := Lib.hid (fun W (hb : Below w2.heap.size w2 W) => (hrp.below hb2).below hb)
              have hRQ := Lib.hid (fun W (hb : Below w2.heap.size w2 W) => (hrq.below hb2).below hb)
              have hRS := Lib.hid (fun W (hb : Below w2.heap.size w2 W) => (hrs.below hb2).below hb)
              have hCP := Lib.hid (fun W (hb : Below w2.heap.size w2 W) => cell_bel (cell_bel hcp hb2) hb)
              have hCQ := Lib.hid (fun W (hb : Below w2.heap.size w2 W) => cell_bel (cell_bel hcq hb2) hb)
              have hCS := Lib.hid (fun W (hb : Below w2.heap.size w2 W) => cell_bel (cell_bel hcs hb2) hb)
              have HXb2 := Lib.hid (fun W (hb : Below w2.heap.size w2 W) => (XBo.below hb2).below hb)
              have HXz2 := Lib.hid (fun W (hb : Below w2.heap.size w2 W) => (XZo.below hb2).below hb)
              have HBI := Lib.hid (Below.refl w2.heap.size w2)
              have hz2 := hb2.size
              clear hcp hcq hcs hcu hrp hrq hrs hru XBo XZo HLK FB hb2
              go_wp2_with fail
              go_loopw [32] (fun i wr => ∃ (bt : Nat), i = .int .i64 (bt : Int) ∧ bt ≤ pw.length ∧ Hid (Below w2.heap.size w2 wr)) (fun i _ => pw.length - (intOf i).toNat)
              case atStart => exact ⟨0, rfl, by omega, HBI⟩
              case round =>
                clear HBI
                obtain ⟨bt, rfl, hbt, HBI⟩ := hrel
                obtain ⟨wq, hwq⟩ : ∃ wq : World, wq = wr := ⟨_, rfl⟩
                subst hwq
                have FB := (HXb2.out _ HBI.out).f3
                have hcp := hCP.out _ HBI.out
                have hsi := HBI.out.size
                by_cases hlb : bt < pw.length
                · have hli : decide ((bt : Int) < (pw.length : Int)) = true := decide_eq_true (by omega)
                  obtain ⟨bx, ox, x, rfl, hx, -, hcx⟩ := (hRP.out _ HBI.out).int hlb
                  obtain ⟨by_, oy, y, rfl, hy, -, hcy⟩ := (hRQ.out _ HBI.out).int hlb
                  obtain ⟨bz, oz, x0, rfl, hx0, -, hcz⟩ := (hRS.out _ HBI.out).int hlb
                  have htc := HTC2.out bt x0 x y hx0 hx hy
                  have hcq := hCQ.out _ HBI.out
                  have hcs := hCS.out _ HBI.out
                  have XBo := HXb2.out _ HBI.out
                  have XZo := HXz2.out _ HBI.out
                  clear hx hy hx0
                  by_cases h9 : y = 9
                  · have h9b : (y != 9) = false := by simp [h9]
                    clear htc h9
                    go_wp2_with fail
                    clear FB
                    have kq0 := cell_regrown (XBo.cell (i := 1) rfl)
                    have kq1 := cell_regrown (XBo.cell (i := 2) rfl)
                    have kq2 := cell_regrown (XZo.cell (i := 1) rfl)
                    have kq3 := cell_regrown (hcp)
                    have kq4 := cell_regrown (hcq)
                    have kq5 := cell_regrown (hcs)
                    have kq6 := cell_regrown (hcx)
                    have kq7 := cell_regrown (hcy)
                    have kq8 := cell_regrown (hcz)
                    refine wp_region_quiet_below (by kernel_rfl) (by kernel_rfl) ?_
                    repeat (first | go_big_quiet_step ((fail)) | quiet_step ((fail)))
                    refine wpQuiet_nil ?_
                    intro _ hw'
                    obtain ⟨⟨dq, osq⟩, hw''⟩ := hw'
                    subst hw''
                    obtain ⟨w3, hq0, hb3⟩ : ∃ wnew, wnew = grow (redrawn wq dq) osq ∧ Below wq.heap.size wq wnew := ⟨_, rfl, below_regrown _ _ _⟩
                    rw [← hq0]
                    clear hq0 kq0 kq1 kq2 kq3 kq4 kq5 kq6 kq7 kq8
                    have HB3 := Lib.hid (HBI.out.trans (hb3.mono hsi))
                    clear hcp hcq hcs hcx hcy hcz XBo XZo
                    go_wp2_with fail
                    go_roundw
                    case rel => exact ⟨bt + 1, by go_num, by omega, HB3⟩
                    case measure => simp [intOf] <;> omega
                  · have h9b : (y != 9) = true := by simp [h9]
                    obtain rfl := htc h9
                    have hxx : (x0 != x0) = false := by simp
                    clear htc h9
                    go_wp2_with fail
                    clear FB
                    have kq0 := cell_regrown (XBo.cell (i := 1) rfl)
                    have kq1 := cell_regrown (XBo.cell (i := 2) rfl)
                    have kq2 := cell_regrown (XZo.cell (i := 1) rfl)
                    have kq3 := cell_regrown (hcp)
                    have kq4 := cell_regrown (hcq)
                    have kq5 := cell_regrown (hcs)
                    have kq6 := cell_regrown (hcx)
                    have kq7 := cell_regrown (hcy)
                    have kq8 := cell_regrown (hcz)
                    refine wp_region_quiet_below (by kernel_rfl) (by kernel_rfl) ?_
                    repeat (first | go_big_quiet_step ((fail)) | quiet_step ((fail)))
                    refine wpQuiet_nil ?_
                    intro _ hw'
                    obtain ⟨⟨dq, osq⟩, hw''⟩ := hw'
                    subst hw''
                    obtain ⟨w3, hq0, hb3⟩ : ∃ wnew, wnew = grow (redrawn wq dq) osq ∧ Below wq.heap.size wq wnew := ⟨_, rfl, below_regrown _ _ _⟩
                    rw [← hq0]
                    clear hq0 kq0 kq1 kq2 kq3 kq4 kq5 kq6 kq7 kq8
                    have HB3 := Lib.hid (HBI.out.trans (hb3.mono hsi))
                    clear hcp hcq hcs hcx hcy hcz XBo XZo
                    go_wp2_with fail
                    go_roundw
                    case rel => exact ⟨bt + 1, by go_num, by omega, HB3⟩
                    case measure => simp [intOf] <;> omega
                · obtain rfl : bt = pw.length := by omega
                  have hli : decide ((pw.length : Int) < (pw.length : Int)) = false := by simp
                  have HB4 := Lib.hid (HB2.out.trans (HBI.out.mono (by omega)))
                  clear hRP hRQ hRS hCP hCQ hCS HXb2 HXz2
                  go_wp2_with fail
                  go_roundw
                  case rel => exact ⟨kk + 1, by go_num, by omega, HB4⟩
                  case measure => simp [intOf] <;> omega
            · obtain rfl : kk = m10 := by omega
              have hli : decide ((kk : Int) < (kk : Int)) = false := by simp
              go_wp2_with fail
              go_ret
              exact ⟨rfl, B_W23.out.trans (HBW.out.mono B_W23.out.size)⟩
end Go.Proofs.YtalgdeieejpelaaGreat

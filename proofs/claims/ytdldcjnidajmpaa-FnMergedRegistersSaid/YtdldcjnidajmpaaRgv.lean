/- Walks: two registers are drawn. -/
import Derived.Test.YtdldcjnidajmpaaRx
import Derived.Test.YtdldcjnidajmpaaMgv
import Derived.Test.YtdldcjnidajmpaaZma
import Derived.IntWalk
import Derived.Deep.RegionWith
namespace Go.Proofs.Ytdldcjnidajmpaa
open Go.RowKit Go.Sort
set_option linter.unusedVariables false
set_option maxRecDepth 100000

/-- Two registers are drawn. -/
def RetMD (w : World) (r : RegT × RegT) (e : Ending) (w' : World) : Prop :=
  ∃ A1 m1 c1 A2 m2 c2, e = .returned (.tuple #[.agg #[.int .i64 r.1.1, .int .i64 r.1.2.1, .slice A1 m1 c1], .agg #[.int .i64 r.2.1, .int .i64 r.2.2.1, .slice A2 m2 c2]]) ∧ w'.ownsRow w.heap.size 66 7 (.slice A1 m1 c1) m1 (ents r.1.2.2) ∧ m1 ≤ 400 ∧ w'.ownsRow w.heap.size 66 7 (.slice A2 m2 c2) m2 (ents r.2.2.2) ∧ m2 ≤ 400 ∧ Below w.heap.size w w'
theorem retMD_of {w W W' : World} {base base2 m c m2 c2 : Nat} {A1 A2 : Option Addr} {b s b2 s2 : Int} {l l2 : List EntryT} (ho : W.ownsRow base 66 7 (.slice A1 m c) m (ents l)) (hbase : w.heap.size + 2 ≤ base) (ho2 : W.ownsRow base2 66 7 (.slice A2 m2 c2) m2 (ents l2)) (hbase2 : w.heap.size + 2 ≤ base2) (hB : Below w.heap.size w W)
    (hc : Chg w.heap.size (w.heap.size + 2) W W') (hm : m ≤ 400) (hm2 : m2 ≤ 400) : RetMD w ((b, s, l), (b2, s2, l2)) (.returned (.tuple #[.agg #[.int .i64 b, .int .i64 s, .slice A1 m c], .agg #[.int .i64 b2, .int .i64 s2, .slice A2 m2 c2]])) W' :=
  ⟨A1, m, c, A2, m2, c2, rfl, own_base (own_chg ho hc (fun b hb => .inr (by have := (ho.lt b hb).1; omega))) (by omega), hm, own_base (own_chg ho2 hc (fun b hb => .inr (by have := (ho2.lt b hb).1; omega))) (by omega), hm2, below_chg hB hc (Nat.le_refl _) hB.size⟩
/-- What stands while the second register's entries are drawn: w lies behind the first register. -/
structure MS (w0 w W : World) (A : Option Addr) (n cap : Nat) (code : List Int) (g : Nat) (A' : Option Addr) (m c : Nat) (s : St) (out : List EntryT) : Prop where
  d : DS w0 w W A n cap code g s
  ow : W.ownsRow w.heap.size 66 7 (.slice A' m c) m (ents out)
section
variable {w0 w W W' : World} {A A' : Option Addr} {n cap g m c : Nat} {code : List Int} {s s' : St} {out : List EntryT}
theorem MS.turn (h : MS w0 w W A n cap code g A' m c s out) (hs : Src w0 W' A n cap code g s') (hc : Chg g (g + 1) W W') : MS w0 w W' A n cap code g A' m c s' out :=
  ⟨h.d.turn hs hc, own_ne_chg h.ow hc (by have := h.d.gl; omega)⟩
theorem MS.below (h : MS w0 w W A n cap code g A' m c s out) (k : Below W.heap.size W W') : MS w0 w W' A n cap code g A' m c s out := ⟨h.d.below k, own_below h.ow k⟩
theorem MS.put (h : MS w0 w W A n cap code g A' m c s out) {b : Nat} (hb : w.heap.size ≤ b) (hlt : b < W.heap.size) (hne : ∀ k, (Value.slice A' m c).ownBlock = some k → k ≠ b) (i : Nat) (v : Value) : MS w0 w (W.setCell ⟨b, i, none⟩ v) A n cap code g A' m c s out :=
  ⟨h.d.put hb i v, own_chg h.ow (put_chg (g := b) [v] i (Chg.refl b (b + 1) W) (Nat.le_refl _) (by omega)) (fun k hk => by have := hne k hk; omega)⟩
theorem MS.app {A1 : Option Addr} {m1 c1 : Nat} {out1 : List EntryT} (h : MS w0 w W A n cap code g A' m c s out) (hg : W.grownBy W' (Value.slice A' m c).ownBlock) (ho : W'.ownsRow w.heap.size 66 7 (.slice A1 m1 c1) m1 (ents out1)) : MS w0 w W' A n cap code g A1 m1 c1 s out1 :=
  ⟨h.d.grown h.ow (Nat.le_refl _) hg, ho⟩
end
theorem entX_rev (code : List Int) (b : Int) (s : St) : 1 ≤ E.rev (entX code b s).1 ∧ E.rev (entX code b s).1 ≤ 3 := by
  have h := nextF_bd code (nextF code (nextF code s 4).2 (max 1 b)).2 3 (by omega)
  have e : E.rev (entX code b s).1 = 1 + (nextF code (nextF code (nextF code s 4).2 (max 1 b)).2 3).1 := by
    unfold entX
    split
    · rfl
    · split
      · split <;> rfl
      · rfl
  rw [e]; omega
theorem regD_sch (code : List Int) (s : St) : 0 ≤ (regD code s).1.2.1 ∧ (regD code s).1.2.1 ≤ 1 := by
  rw [regD_eq]
  have h := nextF_bd code (boatsD code s).2 2 (by omega)
  simp only
  omega
theorem moreD_succ (code : List Int) (b : Int) (rl : List EntryT) (m : Nat) (out : List EntryT) (s : St) : moreD code b rl (m + 1) out s =
    if hasB out (upR (nextF code (entX code b s).2 2).1 (entX code b s).1) = true then moreD code b rl m out (nextF code (entX code b s).2 2).2
    else if hasB rl (upR (nextF code (entX code b s).2 2).1 (entX code b s).1) = true then
      moreD code b rl m (if (nextF code (nextF code (entX code b s).2 2).2 12).1 = 0 then out ++ [upR (nextF code (entX code b s).2 2).1 (entX code b s).1] else out) (nextF code (nextF code (entX code b s).2 2).2 12).2
    else moreD code b rl m (out ++ [upR (nextF code (entX code b s).2 2).1 (entX code b s).1]) (nextF code (entX code b s).2 2).2 := rfl
theorem mgD_parts (code : List Int) : ∃ N M1 M2 N3, N = nextF code (regD code (fromF code)).2 12 ∧ (0 ≤ N.1 ∧ N.1 ≤ 11) ∧ moreD code (regD code (fromF code)).1.1 (regD code (fromF code)).1.2.2 N.1.toNat [] N.2 = M1 ∧ moreO code (regD code (fromF code)).1.2.2 M1.1 M1.2 = M2 ∧ M1.1.length ≤ 11 ∧ N3 = nextF code M2.2 24 ∧
    mgD code = ((regD code (fromF code)).1, ((regD code (fromF code)).1.1, (if N3.1 = 0 then 1 - (regD code (fromF code)).1.2.1 else (regD code (fromF code)).1.2.1), M2.1)) := by
  have h := nextF_bd code (regD code (fromF code)).2 12 (by omega)
  refine ⟨_, _, _, _, rfl, by omega, rfl, rfl, ?_, rfl, rfl⟩
  have := moreD_len code (regD code (fromF code)).1.1 (regD code (fromF code)).1.2.2 (nextF code (regD code (fromF code)).2 12).1.toNat [] (nextF code (regD code (fromF code)).2 12).2
  simp only [List.length_nil] at this
  omega
set_option maxHeartbeats 8000000 in
theorem drawMerge_any (w0 : World) (A : Option Addr) (n cap : Nat) (code : List Int) (hcode : Code0 w0 A n code) (w : World) (hb : Below w0.heap.size w0 w) :
    Calls Try.prog 60 #[.slice A n cap] w (RetMD w (mgD code)) := by
  have HFR := Lib.hid (fun w' h => from_any w0 A n cap code hcode w' h)
  have HRD := Lib.hid (fun g w' h => regD_any w0 A n cap code hcode g (fromF code) w' h)
  have HNX := Lib.hid (fun g s k hk w' h => next_any w0 A n cap code hcode g s k hk w' h)
  have HEN := Lib.hid (fun g s b hb w' h => entX_any w0 A n cap code hcode g s b hb w' h)
  have hlen := regD_len code (fromF code)
  have hb16 : (regD code (fromF code)).1.1 ≤ 16 := by rw [regD_eq]; exact (boatsD_bd code (fromF code)).2
  have hsch := regD_sch code (fromF code)
  obtain ⟨N, M1, M2, N3, eN, qN, hM1, hM2, hml1, eN3, ex⟩ := mgD_parts code
  generalize mgD code = D at *
  generalize regD code (fromF code) = R at *
  obtain ⟨⟨rb, rs, rl⟩, s1⟩ := R
  simp only at hlen ex hb16 hsch eN hM1 hM2
  have H2 := Lib.hid (fun g => HNX.out g s1 12 (by omega))
  rw [← eN] at H2
  have H9 := Lib.hid (fun g => HNX.out g M2.2 24 (by omega))
  rw [← eN3] at H9
  clear eN eN3
  obtain ⟨v2, s2⟩ := N
  obtain ⟨v9, s9⟩ := N3
  simp only at qN hM1 ex
  obtain ⟨K, rfl⟩ := int_up v2 qN.1
  rw [Int.toNat_natCast] at hM1
  have hK : K ≤ 11 := by omega
  have HM1 := Lib.hid hM1
  have HM2 := Lib.hid hM2
  have HEX := Lib.hid ex
  obtain ⟨wa, hwa, XR, XX, hba, hsa⟩ := two_boxes w #[.int .i64 0, .int .i64 0, .slice none 0 0] #[.int .i64 0, .int .i64 0, .slice none 0 0] 51 51
  have HB := Lib.hid (hb.trans (hba.mono hb.size))
  have HX0 := Lib.hid XR; have HX1 := Lib.hid XX
  have HBA := Lib.hid hba
  clear hb XR XX hba ex hM1 hM2
  go_enter Try.func60, Try.ntmps60
  go_wp2_with fail
  rw [← hwa]
  clear hwa
  go_wp2_with fail
  refine (HFR.out _ HB.out).mono ?_
  rintro e w1 ⟨g, rfl, hs1, hge, hb1⟩
  have hgl := hs1.lt
  have HD1 := Lib.hid (show DS w0 w1 w1 A n cap code g (fromF code) from ⟨hs1, Chg.refl _ _ _, hgl⟩)
  have HY0 := Lib.hid (HX0.out.below hb1); have HY1 := Lib.hid (HX1.out.below hb1)
  have HB1 := Lib.hid (HBA.out.trans (hb1.mono HBA.out.size))
  have hz1 := hb1.size
  clear hs1 hb1 HFR HX0 HX1 HB HBA
  go_wp2_with fail
  refine (HRD.out _ _ HD1.out.src).mono ?_
  rintro e w2 ⟨A', m, c, rfl, ho, hs, hc⟩
  have hml := own_len_flat entC_len (by decide) ho
  simp only at hml ho
  have HV := Lib.hid (fun b hb => (ho.lt b hb).2)
  have HD2 := Lib.hid (HD1.out.turn hs hc)
  obtain ⟨wb, hwb, XB, hbb, hsb⟩ := one_box w2 #[.int .i64 rb, .int .i64 rs, .slice A' m c] 51
  have HDb := Lib.hid (HD2.out.below hbb)
  have HO2 := Lib.hid (own_below ho hbb)
  have HRb := Lib.hid XB
  have hz2 := HD2.out.ch.size
  have hm20 : m ≤ 20 := by omega
  clear ho hs hc hbb XB HD1 HD2 HRD
  simp only
  have FR := HRb.out.f3
  have hwbs : wb.heap.size = w2.heap.size + 1 := hsb
  go_wp2_with fail
  rw [← hwb]
  clear hwb
  go_wp2_with fail
  clear FR
  have HZ0 := Lib.hid (HY0.out.chg HDb.out.ch (.inl (by omega))); have HZ1 := Lib.hid (HY1.out.chg HDb.out.ch (.inl (by omega)))
  have HBb := Lib.hid (below_chg HB1.out HDb.out.ch (by omega) HB1.out.size)
  have HS2 := Lib.hid (show MS w0 wb (wb.alloc (.cells #[] 66)) A n cap code g (some ⟨wb.heap.size, 0, none⟩) 0 0 s1 [] from ⟨(show DS w0 wb wb A n cap code g s1 from ⟨HDb.out.src, Chg.refl _ _ _, by omega⟩).below ((Below.refl _ _).alloc (Nat.le_refl _) _), own_emptyE wb wb.heap.size 66 7 (Nat.le_refl _)⟩)
  clear HDb HY0 HY1 HB1
  generalize wb.alloc (.cells #[] 66) = w2a at *
  refine (H2.out _ _ HS2.out.d.src).mono ?_
  rintro e w3 ⟨rfl, hs, hc⟩
  have HS3 := Lib.hid (HS2.out.turn hs hc)
  clear hs hc H2 HS2
  simp only
  go_wp2_with fail
  go_loopw [6, 7] (fun v u wr => ∃ (k m' c' : Nat) (A'' : Option Addr) (out : List EntryT) (s' : St), k ≤ K ∧ m' + k ≤ K ∧ u = .int .i64 k ∧ v = .slice A'' m' c' ∧ Hid (moreD code rb rl k out s' = M1) ∧ Hid (MS w0 wb wr A n cap code g A'' m' c' s' out)) (fun _ u _ => (intOf u).toNat)
  case atStart => exact ⟨K, 0, _, _, [], s2, Nat.le_refl _, by omega, rfl, rfl, HM1, Lib.hid (by have h := HS3.out; rw [hwbs] at h; exact h)⟩
  case round =>
    clear HM1 HS3
    obtain ⟨k, m', c', A'', out, s', hk, hmk, rfl, rfl, HR, HS⟩ := hrel
    obtain ⟨wo, hwo⟩ : ∃ wo : World, wo = wr := ⟨_, rfl⟩
    subst hwo
    rcases k with _ | k
    rotate_left
    · have hki : decide (((k + 1 : Nat) : Int) > 0) = true := by first | (simp; done) | (simp; omega)
      have hr := HR.out
      rw [moreD_succ] at hr
      have hrev := entX_rev code rb s'
      have H5 := Lib.hid (HEN.out g s' rb (by omega))
      generalize entX code rb s' = r5 at *
      obtain ⟨⟨x0, x1, x2, x3, x4, x5, x6⟩, s5⟩ := r5
      simp only [E.rev] at hr hrev
      have H6 := Lib.hid (HNX.out g s5 2 (by omega))
      have q6 := nextF_bd code s5 2 (by omega)
      generalize nextF code s5 2 = r6 at *
      obtain ⟨v6, s6⟩ := r6
      simp only at hr q6
      have H7 := Lib.hid (HNX.out g s6 12 (by omega))
      generalize nextF code s6 12 = r7 at *
      obtain ⟨v7, s7⟩ := r7
      simp only at hr
      obtain ⟨y2, hy2⟩ : ∃ y, y = x2 + 3 * v6 := ⟨_, rfl⟩
      rw [show upR v6 (x0, x1, x2, x3, x4, x5, x6) = (x0, x1, y2, x3, x4, x5, x6) from by rw [hy2]; rfl] at hr
      have HR2 := Lib.hid hr
      have HY2 := Lib.hid hy2
      have hyb : 1 ≤ y2 ∧ y2 ≤ 6 := by omega
      clear hr HR hy2
      have FR := (HRb.out.chg HS.out.d.ch (.inr (by omega))).f3
      go_wp2_with fail
      refine (H5.out _ HS.out.d.src).mono ?_
      rintro e w5 ⟨rfl, hs, hc⟩
      have HS5 := Lib.hid (HS.out.turn hs hc)
      have hz5 := HS5.out.d.ch.size
      clear hs hc H5 HS FR
      simp only [E.race, E.boat, E.rev, E.code, E.time, E.kind, E.points]
      obtain ⟨wx, hwx, XB, hbb, hsx⟩ := one_box w5 #[.int .i64 x0, .int .i64 x1, .int .i64 x2, .int .i64 x3, .int .i64 x4, .int .i64 x5, .int .i64 x6] 66
      have HXB := Lib.hid XB
      have HSB := Lib.hid (HS5.out.below hbb)
      have HVX := Lib.hid (fun b hb => by have := (HS5.out.ow.lt b hb).2; exact (show b ≠ w5.heap.size by omega))
      clear XB hbb HS5
      have FX := HXB.out.f7
      have FZ := HXB.out.z7
      go_wp2_with fail
      rw [← hwx]
      clear hwx
      have HQ := Lib.hid (show ∀ Z, Chg g (g + 1) wx.drew Z → Src w0 Z A n cap code g s6 → MS w0 wb Z A n cap code g A'' m' c' s6 out ∧ Box Z w5.heap.size #[.int .i64 x0, .int .i64 x1, .int .i64 x2, .int .i64 x3, .int .i64 x4, .int .i64 x5, .int .i64 x6] 66 ∧ Z.cell? ⟨w5.heap.size, 2, none⟩ = some (.int .i64 x2) ∧ Z.frozen? ⟨w5.heap.size, 2, none⟩ = false from fun Z hc hs => by
        have h0 := HSB.out.below (below_drewN' _ wx 1)
        have h1 := h0.turn hs hc
        have h2 := (HXB.out.below (below_drewN' _ wx 1)).chg hc (.inr (by omega))
        exact ⟨h1, h2, h2.cell (i := 2) rfl, h2.fz⟩)
      have HSD := Lib.hid (HSB.out.below (below_drewN' _ wx 1)).d.src
      have HWR := Lib.hid (show IntKind.i64.wrap (x2 + IntKind.i64.wrap (3 * v6)) = y2 from by rw [IntWalk.i64_in (3 * v6) (by omega), IntWalk.i64_in _ (by omega)]; exact HY2.out.symm)
      clear FX FZ
      go_wp2_with fail
      obtain ⟨S, hSE, hSI⟩ : ∃ S : World → Prop, (∀ w1, S w1 → w1.cell? ⟨w5.heap.size, 2, none⟩ = some (.int .i64 x2)) ∧ (∀ w1, Box w1 w5.heap.size #[.int .i64 x0, .int .i64 x1, .int .i64 x2, .int .i64 x3, .int .i64 x4, .int .i64 x5, .int .i64 x6] 66 → S w1) := ⟨fun w1 => Box w1 w5.heap.size #[.int .i64 x0, .int .i64 x1, .int .i64 x2, .int .i64 x3, .int .i64 x4, .int .i64 x5, .int .i64 x6] 66, fun _ h => h.cell (i := 2) rfl, fun _ h => h⟩
      have HSE := Lib.hid hSE; have HSI := Lib.hid hSI
      have hS := hSI _ (HXB.out.below (below_drewN' _ wx 1))
      clear hSE hSI
      refine wp_region_T2 (n := 8) S (fun j => decide (7 ≤ j)) (by kernel_rfl) rfl ?_
      intro ops HOPS
      refine wpAnyT_take 0 (.pointer (some ⟨w5.heap.size, 2, none⟩)) (by rw [HOPS.out]; rfl) (by rw [HOPS.out]; kernel_rfl) (by exact fun _ _ _ h => h) (by rfl) (fun w1 hS => by go_simp) hS ?_
      go_simp
      refine wpAnyT_take 1 (.int .i64 x2) (by rw [HOPS.out]; rfl) (by rw [HOPS.out]; kernel_rfl) (by exact fun _ _ _ h => h) (by rfl) (fun w1 hS => by have k0 := HSE.out _ hS; go_simp) hS ?_
      go_simp
      refine wpAnyT_take 2 (.pointer (some ⟨g, 0, none⟩)) (by rw [HOPS.out]; rfl) (by rw [HOPS.out]; kernel_rfl) (by exact fun _ _ _ h => h) (by rfl) (fun w1 hS => by go_simp) hS ?_
      go_simp
      refine wpAnyT_one 3 (by rw [HOPS.out]; rfl) (by rw [HOPS.out]; kernel_rfl) ?_
      intro K' hK
      have HK := Lib.hid hK
      clear hK
      go_simp
      go_at_call 81
      refine (H6.out _ HSD.out).mono ?_
      rintro e wq ⟨rfl, hsq, hcq⟩
      obtain ⟨hstq, hxq, cq, fq⟩ := HQ.out _ hcq hsq
      refine HK.out _ _ (.inr (HSI.out _ hxq)) ?_
      clear HK
      go_simp
      refine wpAnyT_take 4 (.int .i64 (IntKind.i64.wrap (3 * v6))) (by rw [HOPS.out]; rfl) (by rw [HOPS.out]; kernel_rfl) (by exact fun _ _ _ h => h) (by rfl) (fun w1 hS => by go_simp) (HSI.out _ hxq) ?_
      go_simp
      refine wpAnyT_take 5 (.int .i64 y2) (by rw [HOPS.out]; rfl) (by rw [HOPS.out]; kernel_rfl) (by exact fun _ _ _ h => h) (by rfl) (fun w1 hS => by go_simp; rw [HWR.out]) (HSI.out _ hxq) ?_
      go_simp
      refine wpAnyT_take 6 (.pointer (some ⟨w5.heap.size, 2, none⟩)) (by rw [HOPS.out]; rfl) (by rw [HOPS.out]; kernel_rfl) (by exact fun _ _ _ h => h) (by rfl) (fun w1 hS => by go_simp) (HSI.out _ hxq) ?_
      go_simp
      have hfz := hxq.fz (i := 2)
      refine wpAnyT_one 7 (by rw [HOPS.out]; rfl) (by rw [HOPS.out]; kernel_rfl) ?_
      intro K' hK
      have HK := Lib.hid hK
      clear hK
      go_simp
      refine HK.out _ _ (.inl (by decide)) ?_
      clear HK
      go_simp
      refine wpAnyT_done (by rw [HOPS.out]; kernel_rfl) ?_ _
      have HS8 := Lib.hid (hstq.put (b := w5.heap.size) (by omega) hxq.lt HVX.out 2 (.int .i64 y2))
      have HX8 := Lib.hid (show Box (wq.setCell ⟨w5.heap.size, 2, none⟩ (.int .i64 y2)) w5.heap.size #[.int .i64 x0, .int .i64 x1, .int .i64 y2, .int .i64 x3, .int .i64 x4, .int .i64 x5, .int .i64 x6] 66 from by have := hxq.set 2 (.int .i64 y2); simpa using this)
      clear hstq hxq cq fq hsq hcq HQ HSD HWR H6 HSE HSI HSB HXB HOPS hfz
      generalize wq.setCell ⟨w5.heap.size, 2, none⟩ (.int .i64 y2) = w8 at *
      have HHas := Lib.hid (l33Has_any A'' m' c' out x0 x1 y2 x3 x4 x5 x6 w8 (own_rd HS8.out.ow))
      have FX := HX8.out.f7
      cases hh : hasB out (x0, x1, y2, x3, x4, x5, x6) with
      | true =>
        rw [hh] at HHas
        have HR3 := Lib.hid (show moreD code rb rl k out s6 = M1 from by have := HR2.out; rw [hh, if_pos rfl] at this; exact this)
        clear HR2 hh
        go_wp2_with fail
        refine HHas.out.mono ?_
        rintro e w10 ⟨rfl, hb6⟩
        have HS10 := Lib.hid (HS8.out.below hb6)
        clear hb6 HHas HS8 HX8 FX
        go_wp2_with fail
        go_roundw
        case rel => exact ⟨k, m', c', A'', out, s6, by omega, by omega, by go_num, rfl, HR3, HS10⟩
        case measure => simp [intOf] <;> omega
      | false =>
        rw [hh] at HHas
        have hr := HR2.out
        rw [hh, if_neg (by decide)] at hr
        have HR3 := Lib.hid hr
        clear HR2 hr hh
        go_wp2_with fail
        refine HHas.out.mono ?_
        rintro e w10 ⟨rfl, hb6⟩
        have HS10 := Lib.hid (HS8.out.below hb6)
        have HX10 := Lib.hid (HX8.out.below hb6)
        clear hb6 HHas HS8 HX8 FX
        have HHr := Lib.hid (l33Has_any A' m c rl x0 x1 y2 x3 x4 x5 x6 w10 (own_rd (own_ne_chg HO2.out HS10.out.d.ch (by omega))))
        have FX := HX10.out.f7
        have FR := (HRb.out.chg HS10.out.d.ch (.inr (by omega))).f3
        cases hh : hasB rl (x0, x1, y2, x3, x4, x5, x6) with
        | false =>
          rw [hh] at HHr
          have hr := HR3.out
          rw [hh, if_neg (by decide)] at hr
          have HR4 := Lib.hid hr
          clear HR3 hr hh
          go_wp2_with fail
          refine HHr.out.mono ?_
          rintro e w11 ⟨rfl, hb6⟩
          have HS11 := Lib.hid (HS10.out.below hb6)
          have FX := (HX10.out.below hb6).f7
          clear hb6 HHr HS10 HX10 FR
          go_wp2_with (at_builtin; refine app_ent (x0 := x0) (x1 := x1) (x2 := y2) (x3 := x3) (x4 := x4) (x5 := x5) (x6 := x6) _ rfl _ _ rfl rfl (own_below HS11.out.ow ((Below.refl _ _).alloc (Nat.le_refl _) _)) rfl (heap_alloc_new _ _) (by omega) ?cBa ?_; rotate_left; intro g9 c9 w9 hown9 hgr9 _ _)
          · have HS9 := Lib.hid ((HS11.out.below ((Below.refl _ _).alloc (Nat.le_refl _) _)).app hgr9 hown9)
            clear hown9 hgr9
            go_roundw
            case rel => exact ⟨k, m' + 1, _, _, _, s6, by omega, by omega, by go_num, rfl, HR4, HS9⟩
            case measure => simp [intOf] <;> omega
          · first | omega | (simp; omega)
        | true =>
          rw [hh] at HHr
          have hr := HR3.out
          rw [hh, if_pos rfl] at hr
          have HR4 := Lib.hid hr
          clear HR3 hr hh
          go_wp2_with fail
          refine HHr.out.mono ?_
          rintro e w11 ⟨rfl, hb6⟩
          have HS11 := Lib.hid (HS10.out.below hb6)
          have HX11 := Lib.hid (HX10.out.below hb6)
          clear hb6 HHr HS10 HX10 FR FX
          by_cases hv7 : v7 = 0
          · subst hv7
            have hr := HR4.out
            rw [if_pos rfl] at hr
            have HR5 := Lib.hid hr
            clear HR4 hr
            go_wp2_with fail
            refine (H7.out _ HS11.out.d.src).mono ?_
            rintro e w12 ⟨rfl, hs, hc⟩
            have HS12 := Lib.hid (HS11.out.turn hs hc)
            have FX := (HX11.out.chg hc (.inr (by omega))).f7
            clear hs hc HS11 HX11 H7
            simp only
            go_wp2_with (at_builtin; refine app_ent (x0 := x0) (x1 := x1) (x2 := y2) (x3 := x3) (x4 := x4) (x5 := x5) (x6 := x6) _ rfl _ _ rfl rfl (own_below HS12.out.ow ((Below.refl _ _).alloc (Nat.le_refl _) _)) rfl (heap_alloc_new _ _) (by omega) ?cBb ?_; rotate_left; intro g9 c9 w9 hown9 hgr9 _ _)
            · have HS9 := Lib.hid ((HS12.out.below ((Below.refl _ _).alloc (Nat.le_refl _) _)).app hgr9 hown9)
              clear hown9 hgr9
              go_roundw
              case rel => exact ⟨k, m' + 1, _, _, _, s7, by omega, by omega, by go_num, rfl, HR5, HS9⟩
              case measure => simp [intOf] <;> omega
            · first | omega | (simp; omega)
          · have hv7b : (v7 == 0) = false := by simp [hv7]
            have hr := HR4.out
            rw [if_neg hv7] at hr
            have HR5 := Lib.hid hr
            clear HR4 hr hv7
            go_wp2_with fail
            refine (H7.out _ HS11.out.d.src).mono ?_
            rintro e w12 ⟨rfl, hs, hc⟩
            have HS12 := Lib.hid (HS11.out.turn hs hc)
            clear hs hc HS11 HX11 H7
            simp only
            go_wp2_with fail
            go_roundw
            case rel => exact ⟨k, m', c', A'', out, s7, by omega, by omega, by go_num, rfl, HR5, HS12⟩
            case measure => simp [intOf] <;> omega
    · have hki : decide (((0 : Nat) : Int) > 0) = false := by simp
      have hr := HR.out
      rw [show moreD code rb rl 0 out s' = (out, s') from rfl] at hr
      subst hr
      clear HR
      have HM2' := Lib.hid (show moreO code (rl.drop 0) out s' = M2 from HM2.out)
      clear HM2
      have hmK : m' ≤ 11 := by omega
      go_wp2_with fail
      go_loopw [6, 9] (fun v u wr => ∃ (i m2 c2 : Nat) (A2 : Option Addr) (out : List EntryT) (s' : St), i ≤ m ∧ m2 ≤ 11 + i ∧ u = .int .i64 i ∧ v = .slice A2 m2 c2 ∧ Hid (moreO code (rl.drop i) out s' = M2) ∧ Hid (MS w0 wb wr A n cap code g A2 m2 c2 s' out)) (fun _ u _ => m - (intOf u).toNat)
      case atStart => exact ⟨0, m', _, _, out, s', by omega, by omega, rfl, rfl, HM2', HS⟩
      case round =>
        clear HM2' HS hki
        obtain ⟨i, m2, c2, A2, out, s', hi, hm2, rfl, rfl, HR, HS⟩ := hrel
        obtain ⟨wp, hwp⟩ : ∃ wp : World, wp = wr := ⟨_, rfl⟩
        subst hwp
        have FR := (HRb.out.chg HS.out.d.ch (.inr (by omega))).f3
        by_cases hlt : i < m
        · obtain ⟨⟨x0, x1, x2, x3, x4, x5, x6⟩, hx, hdr⟩ := drop_cons (xs := rl) (k := i) (by rw [hml]; exact hlt)
          have hr := HR.out
          rw [hdr] at hr
          unfold moreO at hr
          have H5 := Lib.hid (HNX.out g s' 3 (by omega))
          generalize nextF code s' 3 = r5 at *
          obtain ⟨v5, s5⟩ := r5
          simp only at hr
          have HR2 := Lib.hid hr
          have HX := Lib.hid hx
          clear hr HR hdr hx
          by_cases hv5 : v5 = 0
          rotate_left
          · have hv5b : (v5 == 0) = false := by simp [hv5]
            have hr := HR2.out
            rw [if_neg hv5] at hr
            have HR3 := Lib.hid hr
            clear HR2 hr hv5 HX
            go_wp2_with fail
            refine (H5.out _ HS.out.d.src).mono ?_
            rintro e w6 ⟨rfl, hs, hc⟩
            have HS6 := Lib.hid (HS.out.turn hs hc)
            clear hs hc HS H5 FR
            simp only
            go_wp2_with fail
            go_roundw
            case rel => exact ⟨i + 1, m2, c2, A2, out, s5, by omega, by omega, by go_num, rfl, HR3, HS6⟩
            case measure => simp [intOf] <;> omega
          subst hv5
          have hr := HR2.out
          rw [if_pos rfl] at hr
          have HR3 := Lib.hid hr
          clear HR2 hr
          go_wp2_with fail
          refine (H5.out _ HS.out.d.src).mono ?_
          rintro e w6 ⟨rfl, hs, hc⟩
          have HS6 := Lib.hid (HS.out.turn hs hc)
          clear hs hc HS H5 FR
          simp only
          have FR := (HRb.out.chg HS6.out.d.ch (.inr (by omega))).f3
          obtain ⟨g6, z0, z1, z2, z3, z4, z5, z6, rfl, hg6, hg6l, hz, _, c0, c1, c2_, c3, c4, c5, c6, _⟩ := own_ent_at (own_ne_chg HO2.out HS6.out.d.ch (by omega)) hlt
          rw [HX.out] at hz
          injection hz with hz
          simp only [Prod.mk.injEq] at hz
          obtain ⟨rfl, rfl, rfl, rfl, rfl, rfl, rfl⟩ := hz
          have HHas := Lib.hid (l33Has_any A2 m2 c2 out x0 x1 x2 x3 x4 x5 x6 w6 (own_rd HS6.out.ow))
          cases hh : hasB out (x0, x1, x2, x3, x4, x5, x6) with
          | true =>
            rw [hh] at HHas
            have hr := HR3.out
            rw [hh, if_pos rfl] at hr
            have HR4 := Lib.hid hr
            clear HR3 hr hh
            go_wp2_with fail
            refine HHas.out.mono ?_
            rintro e w7 ⟨rfl, hb6⟩
            have HS7 := Lib.hid (HS6.out.below hb6)
            clear hb6 HHas HS6 FR c0 c1 c2_ c3 c4 c5 c6 HX
            go_wp2_with fail
            go_roundw
            case rel => exact ⟨i + 1, m2, c2, A2, out, s5, by omega, by omega, by go_num, rfl, HR4, HS7⟩
            case measure => simp [intOf] <;> omega
          | false =>
            rw [hh] at HHas
            have hr := HR3.out
            rw [hh, if_neg (by decide)] at hr
            have HR4 := Lib.hid hr
            clear HR3 hr hh
            go_wp2_with fail
            refine HHas.out.mono ?_
            rintro e w7 ⟨rfl, hb6⟩
            have HS7 := Lib.hid (HS6.out.below hb6)
            clear hb6 HHas HS6 FR c0 c1 c2_ c3 c4 c5 c6
            have FR := (HRb.out.chg HS7.out.d.ch (.inr (by omega))).f3
            obtain ⟨g7, z0, z1, z2, z3, z4, z5, z6, hg7, _, hg7l, hz, _, c0, c1, c2_, c3, c4, c5, c6, _⟩ := own_ent_at (own_ne_chg HO2.out HS7.out.d.ch (by omega)) hlt
            rw [HX.out] at hz
            injection hz with hz
            simp only [Prod.mk.injEq] at hz
            obtain ⟨rfl, rfl, rfl, rfl, rfl, rfl, rfl⟩ := hz
            obtain rfl : g6 = g7 := by injection hg7 with e; injection e
            clear hg7 HX
            go_wp2_with (at_builtin; refine app_ent (x0 := x0) (x1 := x1) (x2 := x2) (x3 := x3) (x4 := x4) (x5 := x5) (x6 := x6) _ rfl _ _ rfl rfl (own_below HS7.out.ow ((Below.refl _ _).alloc (Nat.le_refl _) _)) rfl (heap_alloc_new _ _) (by omega) ?cBc ?_; rotate_left; intro g9 c9 w9 hown9 hgr9 _ _)
            · have HS9 := Lib.hid ((HS7.out.below ((Below.refl _ _).alloc (Nat.le_refl _) _)).app hgr9 hown9)
              clear hown9 hgr9
              go_roundw
              case rel => exact ⟨i + 1, m2 + 1, _, _, _, s5, by omega, by omega, by go_num, rfl, HR4, HS9⟩
              case measure => simp [intOf] <;> omega
            · first | omega | (simp; omega)
        · obtain rfl : m = i := by omega
          have hr := HR.out
          rw [List.drop_of_length_le (by omega), show moreO code [] out s' = (out, s') from rfl] at hr
          subst hr
          clear HR
          simp only at HEX H9
          go_wp2_with fail
          refine (H9.out _ _ HS.out.d.src).mono ?_
          rintro e w6 ⟨rfl, hs, hc⟩
          have HS6 := Lib.hid (HS.out.turn hs hc)
          clear hs hc HS H9 FR
          simp only
          have HRE := Lib.hid (HRb.out.chg HS6.out.d.ch (.inr (by omega)))
          have HO6 := Lib.hid (own_ne_chg HO2.out HS6.out.d.ch (by omega))
          have HZE0 := Lib.hid (HZ0.out.chg HS6.out.d.ch (.inl (by omega))); have HZE1 := Lib.hid (HZ1.out.chg HS6.out.d.ch (.inl (by omega)))
          have HB_w6 := Lib.hid (below_chg HBb.out HS6.out.d.ch (by omega) HBb.out.size)
          have hz6 := HS6.out.d.ch.size
          have HOL := Lib.hid HS6.out.ow
          clear HS6 HRb HO2 HZ0 HZ1 HBb
          by_cases hv9 : v9 = 0
          · subst hv9
            have hex := HEX.out
            clear HEX
            rw [if_pos rfl] at hex
            have HEX := Lib.hid hex
            clear hex
            obtain ⟨sc, hsc⟩ : ∃ z, z = 1 - rs := ⟨_, rfl⟩
            have HWR := show IntKind.i64.wrap (1 - rs) = sc from by rw [IntWalk.i64_in _ (by omega)]; exact hsc.symm
            rw [← hsc] at HEX
            clear hsc
            go_wp2_with fail
            try rw [HWR]
            clear HWR
            obtain ⟨S, hSE, hSI⟩ : ∃ S : World → Prop, (∀ W9, S W9 → (W9.cell? ⟨w2.heap.size, 0, none⟩ = some (.int .i64 rb) ∧ W9.cell? ⟨w2.heap.size, 1, none⟩ = some (.int .i64 rs) ∧ W9.cell? ⟨w2.heap.size, 2, none⟩ = some (.slice A' m c))) ∧ (∀ W9, Below w6.heap.size w6 W9 → S W9) ∧ (∀ W9 b i v, S W9 → b < w.heap.size + 2 → S (W9.setCell ⟨b, i, none⟩ v)) :=
              ⟨fun W9 => Box W9 w2.heap.size #[.int .i64 rb, .int .i64 rs, .slice A' m c] 51, fun _ h9 => ⟨h9.cell rfl, h9.cell rfl, h9.cell rfl⟩, fun W9 hb => HRE.out.below hb, fun W9 b i v h9 hb => h9.other (by omega) _⟩
            have HSE := Lib.hid hSE; have HSI := Lib.hid hSI.1; have HSP := Lib.hid hSI.2
            clear hSE hSI
            refine wp_region_T2 (n := 8) S (fun _ => false) (by kernel_rfl) rfl ?_
            intro ops HOPS
            have hS := HSI.out _ (below_drewN' _ w6 1)
            refine wpAnyT_take 0 (.agg #[.int .i64 rb, .int .i64 rs, .slice A' m c]) (by rw [HOPS.out]; rfl) (by rw [HOPS.out]; kernel_rfl) (by exact fun _ _ _ h => h) (by rfl) (fun w1 hS => by obtain ⟨k0, k1, k2⟩ := HSE.out _ hS; go_simp) hS ?_
            go_simp
            refine wpAnyT_take 1 (.pointer (some ⟨w2.heap.size, 0, none⟩)) (by rw [HOPS.out]; rfl) (by rw [HOPS.out]; kernel_rfl) (by exact fun _ _ _ h => h) (by rfl) (fun w1 hS => by obtain ⟨k0, k1, k2⟩ := HSE.out _ hS; go_simp) hS ?_
            go_simp
            refine wpAnyT_take 2 (.int .i64 rb) (by rw [HOPS.out]; rfl) (by rw [HOPS.out]; kernel_rfl) (by exact fun _ _ _ h => h) (by rfl) (fun w1 hS => by obtain ⟨k0, k1, k2⟩ := HSE.out _ hS; go_simp) hS ?_
            go_simp
            refine wpAnyT_take 3 (.int .i64 sc) (by rw [HOPS.out]; rfl) (by rw [HOPS.out]; kernel_rfl) (by exact fun _ _ _ h => h) (by rfl) (fun w1 hS => by obtain ⟨k0, k1, k2⟩ := HSE.out _ hS; go_simp) hS ?_
            go_simp
            refine wpAnyT_take 4 (.slice A2 m2 c2) (by rw [HOPS.out]; rfl) (by rw [HOPS.out]; kernel_rfl) (by exact fun _ _ _ h => h) (by rfl) (fun w1 hS => by obtain ⟨k0, k1, k2⟩ := HSE.out _ hS; go_simp) hS ?_
            go_simp
            refine wpAnyT_take 5 (.agg #[.int .i64 rb, .int .i64 sc, .slice A2 m2 c2]) (by rw [HOPS.out]; rfl) (by rw [HOPS.out]; kernel_rfl) (by exact fun _ _ _ h => h) (by rfl) (fun w1 hS => by obtain ⟨k0, k1, k2⟩ := HSE.out _ hS; go_simp) hS ?_
            go_simp
            replace hS : S w6.drew := hS
            obtain ⟨wd, hwd⟩ : ∃ wd : World, wd = w6.drew := ⟨_, rfl⟩
            have hbd : Below w6.heap.size w6 wd := by rw [hwd]; exact below_drewN' _ _ 1
            rw [← hwd] at hS ⊢
            clear hwd
            have FZ0 := (HZE0.out.below hbd).f3
            have FZ1 := (HZE1.out.below hbd).f3
            have HBd := Lib.hid (HB_w6.out.trans (hbd.mono HB_w6.out.size))
            have HOd := Lib.hid (own_below HO6.out hbd)
            have HLd := Lib.hid (own_below HOL.out hbd)
            clear hbd
            refine wpAnyT_one 6 (by rw [HOPS.out]; rfl) (by rw [HOPS.out]; kernel_rfl) ?_
            intro K' hK
            have HK := Lib.hid hK
            clear hK
            go_simp
            refine HK.out _ _ (.inr (HSP.out _ _ _ _ (HSP.out _ _ _ _ (HSP.out _ _ _ _ hS (by omega)) (by omega)) (by omega))) ?_
            clear HK
            go_simp
            refine wpAnyT_one 7 (by rw [HOPS.out]; rfl) (by rw [HOPS.out]; kernel_rfl) ?_
            intro K' hK
            have HK := Lib.hid hK
            clear hK
            go_simp
            refine HK.out _ _ (.inr (HSP.out _ _ _ _ (HSP.out _ _ _ _ (HSP.out _ _ _ _ (HSP.out _ _ _ _ (HSP.out _ _ _ _ (HSP.out _ _ _ _ hS (by omega)) (by omega)) (by omega)) (by omega)) (by omega)) (by omega))) ?_
            clear HK
            go_simp
            refine wpAnyT_done (by rw [HOPS.out]; kernel_rfl) ?_ _
            go_wp2_with fail
            refine bodyPost_ret (v := .tuple #[.agg #[.int .i64 rb, .int .i64 rs, .slice A' m c], .agg #[.int .i64 rb, .int .i64 sc, .slice A2 m2 c2]]) (by simp [results, Try.results60, go_sem, FZ0, FZ1]) rfl ?_
            rw [HEX.out]
            exact retMD_of HOd.out (by omega) HLd.out (by omega) HBd.out (by (repeat refine chg_set ?_ (by omega) (by omega) _); exact Chg.refl _ _ _) (by omega) (by omega)
          · have hv9b : (v9 == 0) = false := by simp [hv9]
            have hex := HEX.out
            clear HEX
            rw [if_neg hv9] at hex
            have HEX := Lib.hid hex
            clear hex hv9
            go_wp2_with fail
            obtain ⟨S, hSE, hSI⟩ : ∃ S : World → Prop, (∀ W9, S W9 → (W9.cell? ⟨w2.heap.size, 0, none⟩ = some (.int .i64 rb) ∧ W9.cell? ⟨w2.heap.size, 1, none⟩ = some (.int .i64 rs) ∧ W9.cell? ⟨w2.heap.size, 2, none⟩ = some (.slice A' m c))) ∧ (∀ W9, Below w6.heap.size w6 W9 → S W9) ∧ (∀ W9 b i v, S W9 → b < w.heap.size + 2 → S (W9.setCell ⟨b, i, none⟩ v)) :=
              ⟨fun W9 => Box W9 w2.heap.size #[.int .i64 rb, .int .i64 rs, .slice A' m c] 51, fun _ h9 => ⟨h9.cell rfl, h9.cell rfl, h9.cell rfl⟩, fun W9 hb => HRE.out.below hb, fun W9 b i v h9 hb => h9.other (by omega) _⟩
            have HSE := Lib.hid hSE; have HSI := Lib.hid hSI.1; have HSP := Lib.hid hSI.2
            clear hSE hSI
            refine wp_region_T2 (n := 8) S (fun _ => false) (by kernel_rfl) rfl ?_
            intro ops HOPS
            have hS := HSI.out _ (below_drewN' _ w6 1)
            refine wpAnyT_take 0 (.agg #[.int .i64 rb, .int .i64 rs, .slice A' m c]) (by rw [HOPS.out]; rfl) (by rw [HOPS.out]; kernel_rfl) (by exact fun _ _ _ h => h) (by rfl) (fun w1 hS => by obtain ⟨k0, k1, k2⟩ := HSE.out _ hS; go_simp) hS ?_
            go_simp
            refine wpAnyT_take 1 (.pointer (some ⟨w2.heap.size, 0, none⟩)) (by rw [HOPS.out]; rfl) (by rw [HOPS.out]; kernel_rfl) (by exact fun _ _ _ h => h) (by rfl) (fun w1 hS => by obtain ⟨k0, k1, k2⟩ := HSE.out _ hS; go_simp) hS ?_
            go_simp
            refine wpAnyT_take 2 (.int .i64 rb) (by rw [HOPS.out]; rfl) (by rw [HOPS.out]; kernel_rfl) (by exact fun _ _ _ h => h) (by rfl) (fun w1 hS => by obtain ⟨k0, k1, k2⟩ := HSE.out _ hS; go_simp) hS ?_
            go_simp
            refine wpAnyT_take 3 (.int .i64 rs) (by rw [HOPS.out]; rfl) (by rw [HOPS.out]; kernel_rfl) (by exact fun _ _ _ h => h) (by rfl) (fun w1 hS => by obtain ⟨k0, k1, k2⟩ := HSE.out _ hS; go_simp) hS ?_
            go_simp
            refine wpAnyT_take 4 (.slice A2 m2 c2) (by rw [HOPS.out]; rfl) (by rw [HOPS.out]; kernel_rfl) (by exact fun _ _ _ h => h) (by rfl) (fun w1 hS => by obtain ⟨k0, k1, k2⟩ := HSE.out _ hS; go_simp) hS ?_
            go_simp
            refine wpAnyT_take 5 (.agg #[.int .i64 rb, .int .i64 rs, .slice A2 m2 c2]) (by rw [HOPS.out]; rfl) (by rw [HOPS.out]; kernel_rfl) (by exact fun _ _ _ h => h) (by rfl) (fun w1 hS => by obtain ⟨k0, k1, k2⟩ := HSE.out _ hS; go_simp) hS ?_
            go_simp
            replace hS : S w6.drew := hS
            obtain ⟨wd, hwd⟩ : ∃ wd : World, wd = w6.drew := ⟨_, rfl⟩
            have hbd : Below w6.heap.size w6 wd := by rw [hwd]; exact below_drewN' _ _ 1
            rw [← hwd] at hS ⊢
            clear hwd
            have FZ0 := (HZE0.out.below hbd).f3
            have FZ1 := (HZE1.out.below hbd).f3
            have HBd := Lib.hid (HB_w6.out.trans (hbd.mono HB_w6.out.size))
            have HOd := Lib.hid (own_below HO6.out hbd)
            have HLd := Lib.hid (own_below HOL.out hbd)
            clear hbd
            refine wpAnyT_one 6 (by rw [HOPS.out]; rfl) (by rw [HOPS.out]; kernel_rfl) ?_
            intro K' hK
            have HK := Lib.hid hK
            clear hK
            go_simp
            refine HK.out _ _ (.inr (HSP.out _ _ _ _ (HSP.out _ _ _ _ (HSP.out _ _ _ _ hS (by omega)) (by omega)) (by omega))) ?_
            clear HK
            go_simp
            refine wpAnyT_one 7 (by rw [HOPS.out]; rfl) (by rw [HOPS.out]; kernel_rfl) ?_
            intro K' hK
            have HK := Lib.hid hK
            clear hK
            go_simp
            refine HK.out _ _ (.inr (HSP.out _ _ _ _ (HSP.out _ _ _ _ (HSP.out _ _ _ _ (HSP.out _ _ _ _ (HSP.out _ _ _ _ (HSP.out _ _ _ _ hS (by omega)) (by omega)) (by omega)) (by omega)) (by omega)) (by omega))) ?_
            clear HK
            go_simp
            refine wpAnyT_done (by rw [HOPS.out]; kernel_rfl) ?_ _
            go_wp2_with fail
            refine bodyPost_ret (v := .tuple #[.agg #[.int .i64 rb, .int .i64 rs, .slice A' m c], .agg #[.int .i64 rb, .int .i64 rs, .slice A2 m2 c2]]) (by simp [results, Try.results60, go_sem, FZ0, FZ1]) rfl ?_
            rw [HEX.out]
            exact retMD_of HOd.out (by omega) HLd.out (by omega) HBd.out (by (repeat refine chg_set ?_ (by omega) (by omega) _); exact Chg.refl _ _ _) (by omega) (by omega)
end Go.Proofs.Ytdldcjnidajmpaa

/- Walks: an entry that is added is drawn. -/
import Derived.Test.YtdldcjnidajmpaaRu
import Derived.Test.YtdldcjnidajmpaaZmb
import Derived.Test.YtdldcjnidajmpaaZma
namespace Go.Proofs.Ytdldcjnidajmpaa
open Go.RowKit Go.Sort
set_option linter.unusedVariables false
set_option maxRecDepth 100000

/-- A register and an entry are drawn. -/
def RetAD (w : World) (r : RegT × EntryT) (e : Ending) (w' : World) : Prop :=
  ∃ A' m c, e = .returned (.tuple #[.agg #[.int .i64 r.1.1, .int .i64 r.1.2.1, .slice A' m c], .agg #[.int .i64 (E.race r.2), .int .i64 (E.boat r.2), .int .i64 (E.rev r.2), .int .i64 (E.code r.2), .int .i64 (E.time r.2), .int .i64 (E.kind r.2), .int .i64 (E.points r.2)]]) ∧ w'.ownsRow w.heap.size 66 7 (.slice A' m c) m (ents r.1.2.2) ∧ m ≤ 400 ∧ Below w.heap.size w w'
theorem retAD_of {w W W' : World} {base m c : Nat} {A' : Option Addr} {b s : Int} {l : List EntryT} {x0 x1 x2 x3 x4 x5 x6 : Int} (ho : W.ownsRow base 66 7 (.slice A' m c) m (ents l)) (hbase : w.heap.size + 2 ≤ base) (hB : Below w.heap.size w W)
    (hc : Chg w.heap.size (w.heap.size + 2) W W') (hm : m ≤ 400) : RetAD w ((b, s, l), (x0, x1, x2, x3, x4, x5, x6)) (.returned (.tuple #[.agg #[.int .i64 b, .int .i64 s, .slice A' m c], .agg #[.int .i64 x0, .int .i64 x1, .int .i64 x2, .int .i64 x3, .int .i64 x4, .int .i64 x5, .int .i64 x6]])) W' :=
  ⟨A', m, c, rfl, own_base (own_chg ho hc (fun b hb => .inr (by have := (ho.lt b hb).1; omega))) (by omega), hm, below_chg hB hc (Nat.le_refl _) hB.size⟩
set_option maxHeartbeats 4000000 in
theorem drawAdd_any (w0 : World) (A : Option Addr) (n cap : Nat) (code : List Int) (hcode : Code0 w0 A n code) (w : World) (hb : Below w0.heap.size w0 w) :
    Calls Try.prog 55 #[.slice A n cap] w (RetAD w (addD code)) := by
  have HFR := Lib.hid (fun w' h => from_any w0 A n cap code hcode w' h)
  have HRD := Lib.hid (fun g w' h => regD_any w0 A n cap code hcode g (fromF code) w' h)
  have HNX := Lib.hid (fun g s k hk w' h => next_any w0 A n cap code hcode g s k hk w' h)
  have HEN := Lib.hid (fun g s b hb w' h => entX_any w0 A n cap code hcode g s b hb w' h)
  have hlen := regD_len code (fromF code)
  have hb16 : (regD code (fromF code)).1.1 ≤ 16 := by rw [regD_eq]; exact (boatsD_bd code (fromF code)).2
  have ex := addD_eq code
  generalize addD code = D at *
  generalize regD code (fromF code) = R at *
  obtain ⟨⟨rb, rs, rl⟩, s1⟩ := R
  simp only at hlen ex hb16
  have H2 := Lib.hid (fun g => HEN.out g s1 rb (by omega))
  generalize entX code rb s1 = r2 at *
  obtain ⟨⟨x0, x1, x2, x3, x4, x5, x6⟩, s2⟩ := r2
  simp only at ex
  have H3 := Lib.hid (fun g => HNX.out g s2 16 (by omega))
  generalize nextF code s2 16 = r3 at *
  obtain ⟨v3, s3⟩ := r3
  simp only at ex
  have H4 := Lib.hid (fun g => HNX.out g s3 40 (by omega))
  generalize nextF code s3 40 = r4 at *
  obtain ⟨v4, s4⟩ := r4
  simp only at ex
  have HEX := Lib.hid ex
  obtain ⟨wa, hwa, XR, XX, hba, hsa⟩ := two_boxes w #[.int .i64 0, .int .i64 0, .slice none 0 0] #[.int .i64 0, .int .i64 0, .int .i64 0, .int .i64 0, .int .i64 0, .int .i64 0, .int .i64 0] 51 66
  have HB := Lib.hid (hb.trans (hba.mono hb.size))
  have HX0 := Lib.hid XR; have HX1 := Lib.hid XX
  have HBA := Lib.hid hba
  clear hb XR XX hba ex HEN HNX
  go_enter Try.func55, Try.ntmps55
  go_wp2_with fail
  rw [← hwa]
  clear hwa
  go_wp2_with fail
  refine (HFR.out _ HB.out).mono ?_
  rintro e w1 ⟨g, rfl, hs1, hge, hb1⟩
  have hgl := hs1.lt
  have HD1 := Lib.hid (show DS w0 w1 w1 A n cap code g (fromF code) from ⟨hs1, Chg.refl _ _ _, hgl⟩)
  have HY0 := Lib.hid (HX0.out.below hb1); have HY1 := Lib.hid (HX1.out.below hb1)
  have HB1 := Lib.hid (HBA.out.trans (hb1.mono HBA.out.size))
  have hz1 := HB1.out.size
  clear hs1 hb1 HFR HX0 HX1 HB HBA
  go_wp2_with fail
  refine (HRD.out _ _ HD1.out.src).mono ?_
  rintro e w2 ⟨A', m, c, rfl, ho, hs, hc⟩
  have hml := own_len_flat entC_len (by decide) ho
  simp only at hml ho
  have HV := Lib.hid (fun b hb => (ho.lt b hb).2)
  have HD2 := Lib.hid (HD1.out.turn hs hc)
  obtain ⟨wb, hwb, XB, hbb, hsb⟩ := one_box w2 #[.int .i64 rb, .int .i64 rs, .slice A' m c] 51
  have HDb := Lib.hid (HD2.out.below hbb)
  have HO2 := Lib.hid (own_below ho hbb)
  have HRb := Lib.hid XB
  have hz2 := HD2.out.ch.size
  clear ho hs hc hbb XB HD1 HD2 HRD
  simp only
  have FR := HRb.out.f3
  go_wp2_with fail
  rw [← hwb]
  clear hwb
  go_wp2_with fail
  refine (H2.out _ _ HDb.out.src).mono ?_
  rintro e w3 ⟨rfl, hs, hc⟩
  simp only [E.race, E.boat, E.rev, E.code, E.time, E.kind, E.points]
  have HD3 := Lib.hid (HDb.out.turn hs hc)
  have HR3 := Lib.hid (HRb.out.chg hc (.inr (by omega)))
  have HO3 := Lib.hid (own_ne_chg HO2.out hc (by omega))
  have hz3 := HD3.out.ch.size
  have hz3' := hc.size
  obtain ⟨wc, hwc, XC, hbc, hsc⟩ := one_box w3 #[.int .i64 x0, .int .i64 x1, .int .i64 x2, .int .i64 x3, .int .i64 x4, .int .i64 x5, .int .i64 x6] 66
  have HDc := Lib.hid (HD3.out.below hbc)
  have HRc := Lib.hid (HR3.out.below hbc)
  have HOc := Lib.hid (own_below HO3.out hbc)
  have HXc := Lib.hid XC
  clear hs hc hbc XC HDb HD3 HR3 HRb HO3 HO2 H2 FR
  go_wp2_with fail
  rw [← hwc]
  clear hwc
  refine (H3.out _ _ HDc.out.src).mono ?_
  rintro e w4 ⟨rfl, hs, hc⟩
  have HD4 := Lib.hid (HDc.out.turn hs hc)
  have HR4 := Lib.hid (HRc.out.chg hc (.inr (by omega)))
  have HX4 := Lib.hid (HXc.out.chg hc (.inr (by omega)))
  have HO4 := Lib.hid (own_ne_chg HOc.out hc (by omega))
  have hz4 := hc.size
  clear hs hc HDc HRc HXc HOc H3
  simp only
  have HY0' := Lib.hid (HY0.out.chg HD4.out.ch (.inl (by omega))); have HY1' := Lib.hid (HY1.out.chg HD4.out.ch (.inl (by omega)))
  have HZ0 := Lib.hid (HY0.out.chg HD4.out.ch (.inl (by omega))); have HZ1 := Lib.hid (HY1.out.chg HD4.out.ch (.inl (by omega)))
  clear HY0 HY1
  by_cases t3 : v3 = 0
  · subst t3
    have hex : D = (if v4 = 0 then (3, 0, bigL 400) else (rb, rs, rl), (12, x1, x2, x3, x4, x5, x6)) := HEX.out
    have HEX := Lib.hid hex
    clear hex
    have F4 := HX4.out.f7
    have FZ4 := HX4.out.z7
    go_wp2_with fail
    have HD5 := Lib.hid (HD4.out.put (b := w3.heap.size) (by omega) 0 (.int .i64 12))
    have HR5 := Lib.hid (HR4.out.other (c := w3.heap.size) (i := 0) (by omega) (.int .i64 12))
    have HZ50 := Lib.hid (HZ0.out.other (c := w3.heap.size) (i := 0) (by omega) (.int .i64 12))
    have HZ51 := Lib.hid (HZ1.out.other (c := w3.heap.size) (i := 0) (by omega) (.int .i64 12))
    have HX5 := Lib.hid (show Box (w4.setCell ⟨w3.heap.size, 0, none⟩ (.int .i64 12)) w3.heap.size #[.int .i64 12, .int .i64 x1, .int .i64 x2, .int .i64 x3, .int .i64 x4, .int .i64 x5, .int .i64 x6] 66 from by have := HX4.out.set 0 (.int .i64 12); simpa using this)
    have HO5 := Lib.hid (show (w4.setCell ⟨w3.heap.size, 0, none⟩ (.int .i64 12)).ownsRow w1.heap.size 66 7 (.slice A' m c) m (ents rl) from own_chg HO4.out (put_chg (g := w3.heap.size) [.int .i64 12] 0 (Chg.refl w3.heap.size (w3.heap.size + 1) w4) (by omega) (by omega)) (fun b hb => by have := HV.out b hb; omega))
    clear HD4 HR4 HZ0 HZ1 HX4 HO4 F4 FZ4
    generalize w4.setCell ⟨w3.heap.size, 0, none⟩ (.int .i64 12) = w5 at *
    refine (H4.out _ _ HD5.out.src).mono ?_
    rintro e w6 ⟨rfl, hs, hc⟩
    have HD6 := Lib.hid (HD5.out.turn hs hc)
    have HR6 := Lib.hid (HR5.out.chg hc (.inr (by omega)))
    have HX6 := Lib.hid (HX5.out.chg hc (.inr (by omega)))
    have HO6 := Lib.hid (own_ne_chg HO5.out hc (by omega))
    have HZ60 := Lib.hid (HZ50.out.chg hc (.inl (by omega)))
    have HZ61 := Lib.hid (HZ51.out.chg hc (.inl (by omega)))
    have HB_w6 := Lib.hid (below_chg HB1.out HD6.out.ch (by omega) HB1.out.size)
    have hz6 := HD6.out.ch.size
    clear hs hc HD5 HR5 HX5 HO5 HZ50 HZ51 H4
    simp only
    by_cases t4 : v4 = 0
    · subst t4
      have hex := HEX.out
      rw [if_pos rfl] at hex
      have HEX := Lib.hid hex
      clear hex
      have hoe := own_emptyE w6 w6.heap.size 66 7 (Nat.le_refl _)
      go_wp2_with fail
      go_loopw [7, 8] (fun l i wr => ∃ (k c' : Nat) (A' : Option Addr), k ≤ 400 ∧ i = .int .i64 k ∧ l = .slice A' k c' ∧ Hid (wr.ownsRow w6.heap.size 66 7 (.slice A' k c') k (ents (bigL k))) ∧ Hid (Below w6.heap.size w6 wr)) (fun _ i _ => 400 - (intOf i).toNat)
      case atStart => exact ⟨0, 0, _, by omega, rfl, rfl, Lib.hid hoe, Lib.hid ((Below.refl _ _).alloc (Nat.le_refl _) _)⟩
      case round =>
        clear hoe
        obtain ⟨k, c', A'', hk, rfl, rfl, HOL, HBL⟩ := hrel
        have hsl := HBL.out.size
        by_cases hlt : k < 400
        · have hli : decide ((k : Int) < 400) = true := by simp; omega
          go_wp2_with (at_builtin; refine app_ent (x0 := 0) (x1 := 0) (x2 := (k : Int) + 1) (x3 := 4) (x4 := 0) (x5 := 0) (x6 := 0) _ rfl _ _ rfl rfl (own_below HOL.out ((Below.refl _ _).alloc (Nat.le_refl _) _)) rfl (heap_alloc_new _ _) (by omega) ?cB ?_; rotate_left; intro g9 c9 w9 hown9 hgr9 _ _)
          · have HO9 := Lib.hid hown9
            have HB9 := Lib.hid ((HBL.out.alloc hsl _).grown hgr9 (by simp; omega) (fun k hk => (HOL.out.lt k hk).1))
            clear hown9 hgr9
            go_roundw
            case rel => exact ⟨k + 1, _, _, by omega, by go_num, rfl, Lib.hid (by rw [bigL_snoc]; exact HO9.out), HB9⟩
            case measure => simp [intOf] <;> omega
          · first | omega | (simp; omega)
        · obtain rfl : k = 400 := by omega
          have hli : decide (((400 : Nat) : Int) < 400) = false := by simp
          have HB_wr := Lib.hid (HB_w6.out.trans (HBL.out.mono HB_w6.out.size))
          have HXE := Lib.hid (HX6.out.below HBL.out); have HZE0 := Lib.hid (HZ60.out.below HBL.out); have HZE1 := Lib.hid (HZ61.out.below HBL.out)
          have hwz : w.heap.size + 2 ≤ w6.heap.size := by omega
          clear HR6 HX6 HZ60 HZ61
          go_wp2_with fail
          obtain ⟨S, hSE, hSI⟩ : ∃ S : World → Prop, (∀ W9, S W9 → (W9.cell? ⟨w3.heap.size, 0, none⟩ = some (.int .i64 12) ∧ W9.cell? ⟨w3.heap.size, 1, none⟩ = some (.int .i64 x1) ∧ W9.cell? ⟨w3.heap.size, 2, none⟩ = some (.int .i64 x2) ∧ W9.cell? ⟨w3.heap.size, 3, none⟩ = some (.int .i64 x3) ∧ W9.cell? ⟨w3.heap.size, 4, none⟩ = some (.int .i64 x4) ∧ W9.cell? ⟨w3.heap.size, 5, none⟩ = some (.int .i64 x5) ∧ W9.cell? ⟨w3.heap.size, 6, none⟩ = some (.int .i64 x6))) ∧ (∀ W9, Below wr.heap.size wr W9 → S W9) ∧ (∀ W9 b i v, S W9 → b < w.heap.size + 2 → S (W9.setCell ⟨b, i, none⟩ v)) :=
            ⟨fun W9 => Box W9 (w3.heap.size) #[.int .i64 12, .int .i64 x1, .int .i64 x2, .int .i64 x3, .int .i64 x4, .int .i64 x5, .int .i64 x6] 66, fun _ h9 => ⟨h9.cell rfl, h9.cell rfl, h9.cell rfl, h9.cell rfl, h9.cell rfl, h9.cell rfl, h9.cell rfl⟩, fun W9 hb => HXE.out.below hb, fun W9 b i v h9 hb => h9.other (by omega) _⟩
          have HSE := Lib.hid hSE; have HSI := Lib.hid hSI.1; have HSP := Lib.hid hSI.2
          clear hSE hSI
          refine wp_region_T2 (n := 5) S (fun _ => false) (by kernel_rfl) rfl ?_
          intro ops HOPS
          have hS := HSI.out _ (below_drewN' _ wr 1)
          refine wpAnyT_take 0 (.slice A'' 400 c') (by rw [HOPS.out]; rfl) (by rw [HOPS.out]; kernel_rfl) (by exact fun _ _ _ h => h) (by rfl) (fun w1 hS => by obtain ⟨k0, k1, k2, k3, k4, k5, k6⟩ := HSE.out _ hS; go_simp) hS ?_
          go_simp
          refine wpAnyT_take 1 (.agg #[.int .i64 3, .int .i64 0, .slice A'' 400 c']) (by rw [HOPS.out]; rfl) (by rw [HOPS.out]; kernel_rfl) (by exact fun _ _ _ h => h) (by rfl) (fun w1 hS => by obtain ⟨k0, k1, k2, k3, k4, k5, k6⟩ := HSE.out _ hS; go_simp) hS ?_
          go_simp
          refine wpAnyT_take 2 (.agg #[.int .i64 12, .int .i64 x1, .int .i64 x2, .int .i64 x3, .int .i64 x4, .int .i64 x5, .int .i64 x6]) (by rw [HOPS.out]; rfl) (by rw [HOPS.out]; kernel_rfl) (by exact fun _ _ _ h => h) (by rfl) (fun w1 hS => by obtain ⟨k0, k1, k2, k3, k4, k5, k6⟩ := HSE.out _ hS; go_simp) hS ?_
          go_simp
          replace hS : S wr.drew := hS
          obtain ⟨wd, hwd⟩ : ∃ wd : World, wd = wr.drew := ⟨_, rfl⟩
          have hbd : Below wr.heap.size wr wd := by rw [hwd]; exact below_drewN' _ _ 1
          rw [← hwd] at hS ⊢
          clear hwd
          have FZ0 := (HZE0.out.below hbd).f3
          have FZ1 := (HZE1.out.below hbd).f7
          have FZ2 := (HZE1.out.below hbd).z7
          have HBd := Lib.hid (HB_wr.out.trans (hbd.mono HB_wr.out.size))
          have HOd := Lib.hid (own_below HOL.out hbd)
          clear hbd
          refine wpAnyT_one 3 (by rw [HOPS.out]; rfl) (by rw [HOPS.out]; kernel_rfl) ?_
          intro K' hK
          have HK := Lib.hid hK
          clear hK
          go_simp
          refine HK.out _ _ (.inr (HSP.out _ _ _ _ (HSP.out _ _ _ _ (HSP.out _ _ _ _ hS (by omega)) (by omega)) (by omega))) ?_
          clear HK
          go_simp
          refine wpAnyT_one 4 (by rw [HOPS.out]; rfl) (by rw [HOPS.out]; kernel_rfl) ?_
          intro K' hK
          have HK := Lib.hid hK
          clear hK
          go_simp
          refine HK.out _ _ (.inr (HSP.out _ _ _ _ (HSP.out _ _ _ _ (HSP.out _ _ _ _ (HSP.out _ _ _ _ (HSP.out _ _ _ _ (HSP.out _ _ _ _ (HSP.out _ _ _ _ (HSP.out _ _ _ _ (HSP.out _ _ _ _ (HSP.out _ _ _ _ hS (by omega)) (by omega)) (by omega)) (by omega)) (by omega)) (by omega)) (by omega)) (by omega)) (by omega)) (by omega))) ?_
          clear HK
          go_simp
          refine wpAnyT_done (by rw [HOPS.out]; kernel_rfl) ?_ _
          go_wp2_with fail
          refine bodyPost_ret (v := .tuple #[.agg #[.int .i64 3, .int .i64 0, .slice A'' 400 c'], .agg #[.int .i64 12, .int .i64 x1, .int .i64 x2, .int .i64 x3, .int .i64 x4, .int .i64 x5, .int .i64 x6]]) (by simp [results, Try.results55, go_sem, FZ0, FZ1]) rfl ?_
          rw [HEX.out]
          exact retAD_of HOd.out (by omega) HBd.out (by (repeat refine chg_set ?_ (by omega) (by omega) _); exact Chg.refl _ _ _) (by omega)
    · have t4b : (v4 == 0) = false := by simp [t4]
      have hex := HEX.out
      rw [if_neg t4] at hex
      have HEX := Lib.hid hex
      clear hex t4
      have HXE := HX6; have HZE0 := HZ60; have HZE1 := HZ61; have HRE := HR6
      clear HX6 HZ60 HZ61 HR6
      go_wp2_with fail
      obtain ⟨S, hSE, hSI⟩ : ∃ S : World → Prop, (∀ W9, S W9 → (W9.cell? ⟨w2.heap.size, 0, none⟩ = some (.int .i64 rb) ∧ W9.cell? ⟨w2.heap.size, 1, none⟩ = some (.int .i64 rs) ∧ W9.cell? ⟨w2.heap.size, 2, none⟩ = some (.slice A' m c) ∧ W9.cell? ⟨w3.heap.size, 0, none⟩ = some (.int .i64 12) ∧ W9.cell? ⟨w3.heap.size, 1, none⟩ = some (.int .i64 x1) ∧ W9.cell? ⟨w3.heap.size, 2, none⟩ = some (.int .i64 x2) ∧ W9.cell? ⟨w3.heap.size, 3, none⟩ = some (.int .i64 x3) ∧ W9.cell? ⟨w3.heap.size, 4, none⟩ = some (.int .i64 x4) ∧ W9.cell? ⟨w3.heap.size, 5, none⟩ = some (.int .i64 x5) ∧ W9.cell? ⟨w3.heap.size, 6, none⟩ = some (.int .i64 x6))) ∧ (∀ W9, Below w6.heap.size w6 W9 → S W9) ∧ (∀ W9 b i v, S W9 → b < w.heap.size + 2 → S (W9.setCell ⟨b, i, none⟩ v)) :=
        ⟨fun W9 => Box W9 (w3.heap.size) #[.int .i64 12, .int .i64 x1, .int .i64 x2, .int .i64 x3, .int .i64 x4, .int .i64 x5, .int .i64 x6] 66 ∧ Box W9 (w2.heap.size) #[.int .i64 rb, .int .i64 rs, .slice A' m c] 51, fun _ h9 => ⟨h9.2.cell rfl, h9.2.cell rfl, h9.2.cell rfl, h9.1.cell rfl, h9.1.cell rfl, h9.1.cell rfl, h9.1.cell rfl, h9.1.cell rfl, h9.1.cell rfl, h9.1.cell rfl⟩, fun W9 hb => ⟨HXE.out.below hb, HRE.out.below hb⟩, fun W9 b i v h9 hb => ⟨h9.1.other (by omega) _, h9.2.other (by omega) _⟩⟩
      have HSE := Lib.hid hSE; have HSI := Lib.hid hSI.1; have HSP := Lib.hid hSI.2
      clear hSE hSI
      refine wp_region_T2 (n := 4) S (fun _ => false) (by kernel_rfl) rfl ?_
      intro ops HOPS
      have hS := HSI.out _ (below_drewN' _ w6 1)
      refine wpAnyT_take 0 (.agg #[.int .i64 rb, .int .i64 rs, .slice A' m c]) (by rw [HOPS.out]; rfl) (by rw [HOPS.out]; kernel_rfl) (by exact fun _ _ _ h => h) (by rfl) (fun w1 hS => by obtain ⟨k0, k1, k2, k3, k4, k5, k6, k7, k8, k9⟩ := HSE.out _ hS; go_simp) hS ?_
      go_simp
      refine wpAnyT_take 1 (.agg #[.int .i64 12, .int .i64 x1, .int .i64 x2, .int .i64 x3, .int .i64 x4, .int .i64 x5, .int .i64 x6]) (by rw [HOPS.out]; rfl) (by rw [HOPS.out]; kernel_rfl) (by exact fun _ _ _ h => h) (by rfl) (fun w1 hS => by obtain ⟨k0, k1, k2, k3, k4, k5, k6, k7, k8, k9⟩ := HSE.out _ hS; go_simp) hS ?_
      go_simp
      replace hS : S w6.drew := hS
      obtain ⟨wd, hwd⟩ : ∃ wd : World, wd = w6.drew := ⟨_, rfl⟩
      have hbd : Below w6.heap.size w6 wd := by rw [hwd]; exact below_drewN' _ _ 1
      rw [← hwd] at hS ⊢
      clear hwd
      have FZ0 := (HZE0.out.below hbd).f3
      have FZ1 := (HZE1.out.below hbd).f7
      have FZ2 := (HZE1.out.below hbd).z7
      have HBd := Lib.hid (HB_w6.out.trans (hbd.mono HB_w6.out.size))
      have HOd := Lib.hid (own_below HO6.out hbd)
      clear hbd
      refine wpAnyT_one 2 (by rw [HOPS.out]; rfl) (by rw [HOPS.out]; kernel_rfl) ?_
      intro K' hK
      have HK := Lib.hid hK
      clear hK
      go_simp
      refine HK.out _ _ (.inr (HSP.out _ _ _ _ (HSP.out _ _ _ _ (HSP.out _ _ _ _ hS (by omega)) (by omega)) (by omega))) ?_
      clear HK
      go_simp
      refine wpAnyT_one 3 (by rw [HOPS.out]; rfl) (by rw [HOPS.out]; kernel_rfl) ?_
      intro K' hK
      have HK := Lib.hid hK
      clear hK
      go_simp
      refine HK.out _ _ (.inr (HSP.out _ _ _ _ (HSP.out _ _ _ _ (HSP.out _ _ _ _ (HSP.out _ _ _ _ (HSP.out _ _ _ _ (HSP.out _ _ _ _ (HSP.out _ _ _ _ (HSP.out _ _ _ _ (HSP.out _ _ _ _ (HSP.out _ _ _ _ hS (by omega)) (by omega)) (by omega)) (by omega)) (by omega)) (by omega)) (by omega)) (by omega)) (by omega)) (by omega))) ?_
      clear HK
      go_simp
      refine wpAnyT_done (by rw [HOPS.out]; kernel_rfl) ?_ _
      go_wp2_with fail
      refine bodyPost_ret (v := .tuple #[.agg #[.int .i64 rb, .int .i64 rs, .slice A' m c], .agg #[.int .i64 12, .int .i64 x1, .int .i64 x2, .int .i64 x3, .int .i64 x4, .int .i64 x5, .int .i64 x6]]) (by simp [results, Try.results55, go_sem, FZ0, FZ1]) rfl ?_
      rw [HEX.out]
      exact retAD_of HOd.out (by omega) HBd.out (by (repeat refine chg_set ?_ (by omega) (by omega) _); exact Chg.refl _ _ _) (by omega)
  have t3b : (v3 == 0) = false := by simp [t3]
  have hex : D = (if v4 = 0 then (3, 0, bigL 400) else (rb, rs, rl), (x0, x1, x2, x3, x4, x5, x6)) := by rw [HEX.out]; unfold race12; rw [if_neg t3]
  have HEX := Lib.hid hex
  clear hex t3
  go_wp2_with fail
  have HD5 := HD4; have HR5 := HR4; have HZ50 := HZ0; have HZ51 := HZ1; have HX5 := HX4; have HO5 := HO4
  obtain ⟨w5, hw5⟩ : ∃ w5 : World, w5 = w4 := ⟨_, rfl⟩
  rw [← hw5] at HD5 HR5 HZ50 HZ51 HX5 HO5 ⊢
  clear HD4 HR4 HZ0 HZ1 HX4 HO4 hw5
  refine (H4.out _ _ HD5.out.src).mono ?_
  rintro e w6 ⟨rfl, hs, hc⟩
  have HD6 := Lib.hid (HD5.out.turn hs hc)
  have HR6 := Lib.hid (HR5.out.chg hc (.inr (by omega)))
  have HX6 := Lib.hid (HX5.out.chg hc (.inr (by omega)))
  have HO6 := Lib.hid (own_ne_chg HO5.out hc (by omega))
  have HZ60 := Lib.hid (HZ50.out.chg hc (.inl (by omega)))
  have HZ61 := Lib.hid (HZ51.out.chg hc (.inl (by omega)))
  have HB_w6 := Lib.hid (below_chg HB1.out HD6.out.ch (by omega) HB1.out.size)
  have hz6 := HD6.out.ch.size
  clear hs hc HD5 HR5 HX5 HO5 HZ50 HZ51 H4
  simp only
  by_cases t4 : v4 = 0
  · subst t4
    have hex := HEX.out
    rw [if_pos rfl] at hex
    have HEX := Lib.hid hex
    clear hex
    have hoe := own_emptyE w6 w6.heap.size 66 7 (Nat.le_refl _)
    go_wp2_with fail
    go_loopw [7, 8] (fun l i wr => ∃ (k c' : Nat) (A' : Option Addr), k ≤ 400 ∧ i = .int .i64 k ∧ l = .slice A' k c' ∧ Hid (wr.ownsRow w6.heap.size 66 7 (.slice A' k c') k (ents (bigL k))) ∧ Hid (Below w6.heap.size w6 wr)) (fun _ i _ => 400 - (intOf i).toNat)
    case atStart => exact ⟨0, 0, _, by omega, rfl, rfl, Lib.hid hoe, Lib.hid ((Below.refl _ _).alloc (Nat.le_refl _) _)⟩
    case round =>
      clear hoe
      obtain ⟨k, c', A'', hk, rfl, rfl, HOL, HBL⟩ := hrel
      have hsl := HBL.out.size
      by_cases hlt : k < 400
      · have hli : decide ((k : Int) < 400) = true := by simp; omega
        go_wp2_with (at_builtin; refine app_ent (x0 := 0) (x1 := 0) (x2 := (k : Int) + 1) (x3 := 4) (x4 := 0) (x5 := 0) (x6 := 0) _ rfl _ _ rfl rfl (own_below HOL.out ((Below.refl _ _).alloc (Nat.le_refl _) _)) rfl (heap_alloc_new _ _) (by omega) ?cBb ?_; rotate_left; intro g9 c9 w9 hown9 hgr9 _ _)
        · have HO9 := Lib.hid hown9
          have HB9 := Lib.hid ((HBL.out.alloc hsl _).grown hgr9 (by simp; omega) (fun k hk => (HOL.out.lt k hk).1))
          clear hown9 hgr9
          go_roundw
          case rel => exact ⟨k + 1, _, _, by omega, by go_num, rfl, Lib.hid (by rw [bigL_snoc]; exact HO9.out), HB9⟩
          case measure => simp [intOf] <;> omega
        · first | omega | (simp; omega)
      · obtain rfl : k = 400 := by omega
        have hli : decide (((400 : Nat) : Int) < 400) = false := by simp
        have HB_wr := Lib.hid (HB_w6.out.trans (HBL.out.mono HB_w6.out.size))
        have HXE := Lib.hid (HX6.out.below HBL.out); have HZE0 := Lib.hid (HZ60.out.below HBL.out); have HZE1 := Lib.hid (HZ61.out.below HBL.out)
        have hwz : w.heap.size + 2 ≤ w6.heap.size := by omega
        clear HR6 HX6 HZ60 HZ61
        go_wp2_with fail
        obtain ⟨S, hSE, hSI⟩ : ∃ S : World → Prop, (∀ W9, S W9 → (W9.cell? ⟨w3.heap.size, 0, none⟩ = some (.int .i64 x0) ∧ W9.cell? ⟨w3.heap.size, 1, none⟩ = some (.int .i64 x1) ∧ W9.cell? ⟨w3.heap.size, 2, none⟩ = some (.int .i64 x2) ∧ W9.cell? ⟨w3.heap.size, 3, none⟩ = some (.int .i64 x3) ∧ W9.cell? ⟨w3.heap.size, 4, none⟩ = some (.int .i64 x4) ∧ W9.cell? ⟨w3.heap.size, 5, none⟩ = some (.int .i64 x5) ∧ W9.cell? ⟨w3.heap.size, 6, none⟩ = some (.int .i64 x6))) ∧ (∀ W9, Below wr.heap.size wr W9 → S W9) ∧ (∀ W9 b i v, S W9 → b < w.heap.size + 2 → S (W9.setCell ⟨b, i, none⟩ v)) :=
          ⟨fun W9 => Box W9 (w3.heap.size) #[.int .i64 x0, .int .i64 x1, .int .i64 x2, .int .i64 x3, .int .i64 x4, .int .i64 x5, .int .i64 x6] 66, fun _ h9 => ⟨h9.cell rfl, h9.cell rfl, h9.cell rfl, h9.cell rfl, h9.cell rfl, h9.cell rfl, h9.cell rfl⟩, fun W9 hb => HXE.out.below hb, fun W9 b i v h9 hb => h9.other (by omega) _⟩
        have HSE := Lib.hid hSE; have HSI := Lib.hid hSI.1; have HSP := Lib.hid hSI.2
        clear hSE hSI
        refine wp_region_T2 (n := 5) S (fun _ => false) (by kernel_rfl) rfl ?_
        intro ops HOPS
        have hS := HSI.out _ (below_drewN' _ wr 1)
        refine wpAnyT_take 0 (.slice A'' 400 c') (by rw [HOPS.out]; rfl) (by rw [HOPS.out]; kernel_rfl) (by exact fun _ _ _ h => h) (by rfl) (fun w1 hS => by obtain ⟨k0, k1, k2, k3, k4, k5, k6⟩ := HSE.out _ hS; go_simp) hS ?_
        go_simp
        refine wpAnyT_take 1 (.agg #[.int .i64 3, .int .i64 0, .slice A'' 400 c']) (by rw [HOPS.out]; rfl) (by rw [HOPS.out]; kernel_rfl) (by exact fun _ _ _ h => h) (by rfl) (fun w1 hS => by obtain ⟨k0, k1, k2, k3, k4, k5, k6⟩ := HSE.out _ hS; go_simp) hS ?_
        go_simp
        refine wpAnyT_take 2 (.agg #[.int .i64 x0, .int .i64 x1, .int .i64 x2, .int .i64 x3, .int .i64 x4, .int .i64 x5, .int .i64 x6]) (by rw [HOPS.out]; rfl) (by rw [HOPS.out]; kernel_rfl) (by exact fun _ _ _ h => h) (by rfl) (fun w1 hS => by obtain ⟨k0, k1, k2, k3, k4, k5, k6⟩ := HSE.out _ hS; go_simp) hS ?_
        go_simp
        replace hS : S wr.drew := hS
        obtain ⟨wd, hwd⟩ : ∃ wd : World, wd = wr.drew := ⟨_, rfl⟩
        have hbd : Below wr.heap.size wr wd := by rw [hwd]; exact below_drewN' _ _ 1
        rw [← hwd] at hS ⊢
        clear hwd
        have FZ0 := (HZE0.out.below hbd).f3
        have FZ1 := (HZE1.out.below hbd).f7
        have FZ2 := (HZE1.out.below hbd).z7
        have HBd := Lib.hid (HB_wr.out.trans (hbd.mono HB_wr.out.size))
        have HOd := Lib.hid (own_below HOL.out hbd)
        clear hbd
        refine wpAnyT_one 3 (by rw [HOPS.out]; rfl) (by rw [HOPS.out]; kernel_rfl) ?_
        intro K' hK
        have HK := Lib.hid hK
        clear hK
        go_simp
        refine HK.out _ _ (.inr (HSP.out _ _ _ _ (HSP.out _ _ _ _ (HSP.out _ _ _ _ hS (by omega)) (by omega)) (by omega))) ?_
        clear HK
        go_simp
        refine wpAnyT_one 4 (by rw [HOPS.out]; rfl) (by rw [HOPS.out]; kernel_rfl) ?_
        intro K' hK
        have HK := Lib.hid hK
        clear hK
        go_simp
        refine HK.out _ _ (.inr (HSP.out _ _ _ _ (HSP.out _ _ _ _ (HSP.out _ _ _ _ (HSP.out _ _ _ _ (HSP.out _ _ _ _ (HSP.out _ _ _ _ (HSP.out _ _ _ _ (HSP.out _ _ _ _ (HSP.out _ _ _ _ (HSP.out _ _ _ _ hS (by omega)) (by omega)) (by omega)) (by omega)) (by omega)) (by omega)) (by omega)) (by omega)) (by omega)) (by omega))) ?_
        clear HK
        go_simp
        refine wpAnyT_done (by rw [HOPS.out]; kernel_rfl) ?_ _
        go_wp2_with fail
        refine bodyPost_ret (v := .tuple #[.agg #[.int .i64 3, .int .i64 0, .slice A'' 400 c'], .agg #[.int .i64 x0, .int .i64 x1, .int .i64 x2, .int .i64 x3, .int .i64 x4, .int .i64 x5, .int .i64 x6]]) (by simp [results, Try.results55, go_sem, FZ0, FZ1]) rfl ?_
        rw [HEX.out]
        exact retAD_of HOd.out (by omega) HBd.out (by (repeat refine chg_set ?_ (by omega) (by omega) _); exact Chg.refl _ _ _) (by omega)
  · have t4b : (v4 == 0) = false := by simp [t4]
    have hex := HEX.out
    rw [if_neg t4] at hex
    have HEX := Lib.hid hex
    clear hex t4
    have HXE := HX6; have HZE0 := HZ60; have HZE1 := HZ61; have HRE := HR6
    clear HX6 HZ60 HZ61 HR6
    go_wp2_with fail
    obtain ⟨S, hSE, hSI⟩ : ∃ S : World → Prop, (∀ W9, S W9 → (W9.cell? ⟨w2.heap.size, 0, none⟩ = some (.int .i64 rb) ∧ W9.cell? ⟨w2.heap.size, 1, none⟩ = some (.int .i64 rs) ∧ W9.cell? ⟨w2.heap.size, 2, none⟩ = some (.slice A' m c) ∧ W9.cell? ⟨w3.heap.size, 0, none⟩ = some (.int .i64 x0) ∧ W9.cell? ⟨w3.heap.size, 1, none⟩ = some (.int .i64 x1) ∧ W9.cell? ⟨w3.heap.size, 2, none⟩ = some (.int .i64 x2) ∧ W9.cell? ⟨w3.heap.size, 3, none⟩ = some (.int .i64 x3) ∧ W9.cell? ⟨w3.heap.size, 4, none⟩ = some (.int .i64 x4) ∧ W9.cell? ⟨w3.heap.size, 5, none⟩ = some (.int .i64 x5) ∧ W9.cell? ⟨w3.heap.size, 6, none⟩ = some (.int .i64 x6))) ∧ (∀ W9, Below w6.heap.size w6 W9 → S W9) ∧ (∀ W9 b i v, S W9 → b < w.heap.size + 2 → S (W9.setCell ⟨b, i, none⟩ v)) :=
      ⟨fun W9 => Box W9 (w3.heap.size) #[.int .i64 x0, .int .i64 x1, .int .i64 x2, .int .i64 x3, .int .i64 x4, .int .i64 x5, .int .i64 x6] 66 ∧ Box W9 (w2.heap.size) #[.int .i64 rb, .int .i64 rs, .slice A' m c] 51, fun _ h9 => ⟨h9.2.cell rfl, h9.2.cell rfl, h9.2.cell rfl, h9.1.cell rfl, h9.1.cell rfl, h9.1.cell rfl, h9.1.cell rfl, h9.1.cell rfl, h9.1.cell rfl, h9.1.cell rfl⟩, fun W9 hb => ⟨HXE.out.below hb, HRE.out.below hb⟩, fun W9 b i v h9 hb => ⟨h9.1.other (by omega) _, h9.2.other (by omega) _⟩⟩
    have HSE := Lib.hid hSE; have HSI := Lib.hid hSI.1; have HSP := Lib.hid hSI.2
    clear hSE hSI
    refine wp_region_T2 (n := 4) S (fun _ => false) (by kernel_rfl) rfl ?_
    intro ops HOPS
    have hS := HSI.out _ (below_drewN' _ w6 1)
    refine wpAnyT_take 0 (.agg #[.int .i64 rb, .int .i64 rs, .slice A' m c]) (by rw [HOPS.out]; rfl) (by rw [HOPS.out]; kernel_rfl) (by exact fun _ _ _ h => h) (by rfl) (fun w1 hS => by obtain ⟨k0, k1, k2, k3, k4, k5, k6, k7, k8, k9⟩ := HSE.out _ hS; go_simp) hS ?_
    go_simp
    refine wpAnyT_take 1 (.agg #[.int .i64 x0, .int .i64 x1, .int .i64 x2, .int .i64 x3, .int .i64 x4, .int .i64 x5, .int .i64 x6]) (by rw [HOPS.out]; rfl) (by rw [HOPS.out]; kernel_rfl) (by exact fun _ _ _ h => h) (by rfl) (fun w1 hS => by obtain ⟨k0, k1, k2, k3, k4, k5, k6, k7, k8, k9⟩ := HSE.out _ hS; go_simp) hS ?_
    go_simp
    replace hS : S w6.drew := hS
    obtain ⟨wd, hwd⟩ : ∃ wd : World, wd = w6.drew := ⟨_, rfl⟩
    have hbd : Below w6.heap.size w6 wd := by rw [hwd]; exact below_drewN' _ _ 1
    rw [← hwd] at hS ⊢
    clear hwd
    have FZ0 := (HZE0.out.below hbd).f3
    have FZ1 := (HZE1.out.below hbd).f7
    have FZ2 := (HZE1.out.below hbd).z7
    have HBd := Lib.hid (HB_w6.out.trans (hbd.mono HB_w6.out.size))
    have HOd := Lib.hid (own_below HO6.out hbd)
    clear hbd
    refine wpAnyT_one 2 (by rw [HOPS.out]; rfl) (by rw [HOPS.out]; kernel_rfl) ?_
    intro K' hK
    have HK := Lib.hid hK
    clear hK
    go_simp
    refine HK.out _ _ (.inr (HSP.out _ _ _ _ (HSP.out _ _ _ _ (HSP.out _ _ _ _ hS (by omega)) (by omega)) (by omega))) ?_
    clear HK
    go_simp
    refine wpAnyT_one 3 (by rw [HOPS.out]; rfl) (by rw [HOPS.out]; kernel_rfl) ?_
    intro K' hK
    have HK := Lib.hid hK
    clear hK
    go_simp
    refine HK.out _ _ (.inr (HSP.out _ _ _ _ (HSP.out _ _ _ _ (HSP.out _ _ _ _ (HSP.out _ _ _ _ (HSP.out _ _ _ _ (HSP.out _ _ _ _ (HSP.out _ _ _ _ (HSP.out _ _ _ _ (HSP.out _ _ _ _ (HSP.out _ _ _ _ hS (by omega)) (by omega)) (by omega)) (by omega)) (by omega)) (by omega)) (by omega)) (by omega)) (by omega)) (by omega))) ?_
    clear HK
    go_simp
    refine wpAnyT_done (by rw [HOPS.out]; kernel_rfl) ?_ _
    go_wp2_with fail
    refine bodyPost_ret (v := .tuple #[.agg #[.int .i64 rb, .int .i64 rs, .slice A' m c], .agg #[.int .i64 x0, .int .i64 x1, .int .i64 x2, .int .i64 x3, .int .i64 x4, .int .i64 x5, .int .i64 x6]]) (by simp [results, Try.results55, go_sem, FZ0, FZ1]) rfl ?_
    rw [HEX.out]
    exact retAD_of HOd.out (by omega) HBd.out (by (repeat refine chg_set ?_ (by omega) (by omega) _); exact Chg.refl _ _ _) (by omega)
end Go.Proofs.Ytdldcjnidajmpaa

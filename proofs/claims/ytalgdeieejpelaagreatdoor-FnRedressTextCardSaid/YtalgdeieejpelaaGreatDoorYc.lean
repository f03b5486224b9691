/- Walks: tables of series, both sides. -/
import Derived.Test.YtalgdeieejpelaaGreatDoorYb
import Derived.Test.YtalgdeieejpelaaGreatDoorZmf
import Derived.Test.YtalgdeieejpelaaGreatDoorTm
import Derived.StillTailTactics
namespace Go.Proofs.YtalgdeieejpelaaGreatDoor
open Go.RowKit Go.Sort
set_option linter.unusedVariables false
set_option maxRecDepth 100000

theorem raceB_two {b : Int} {fs : List FinishT} (h : raceB b fs = true) : (((fs.length : Int) == b) && finsGo 0 fs) = true := by
  unfold raceB at h
  rw [Bool.and_eq_true, Bool.and_eq_true] at h
  rw [Bool.and_eq_true]
  exact ⟨h.1.2, h.2⟩
theorem specIsSeries_ok (b s : Int) (A : Option Addr) (n c : Nat) (rows : List (List FinishT)) (hb1 : 1 ≤ b) (hb2 : b ≤ 16) (hs0 : 0 ≤ s) (hs1 : s ≤ 1) (hn : n ≤ 12) (hr : ∀ r ∈ rows, raceB b r = true) (w : World) (h : RdRaces w A n rows) :
    Calls Tryz.prog 100 #[.agg #[.int .i64 b, .int .i64 s, .slice A n c]] w fun e w' => e = .returned (.bool true) ∧ Below w.heap.size w w' := by
  obtain ⟨w1, hw1, X0, hb1', hs1'⟩ := one_box w #[.int .i64 b, .int .i64 s, .slice A n c] 103
  have H := Lib.hid (fun w' (hb : Below w1.heap.size w1 w') => (h.below hb1').below hb)
  have HX0 := Lib.hid X0; have HB1 := Lib.hid hb1'
  have HI1 := Lib.hid (fun w => l01In_lit (withinB_iff.2 ⟨hb1, hb2⟩) w)
  have HI2 := Lib.hid (fun w => l01In_lit (withinB_iff.2 ⟨hs0, hs1⟩) w)
  clear h hb1'
  have F0 := X0.f3
  clear X0
  go_enter Tryz.func100, Tryz.ntmps100
  go_wp2_with fail
  rw [← hw1]
  clear hw1
  refine (HI1.out _).mono ?_
  rintro e w' ⟨rfl, rfl⟩
  go_wp2_with fail
  refine (HI2.out _).mono ?_
  rintro e w' ⟨rfl, rfl⟩
  have hn1 : decide ((n : Int) > 12) = false := by simp; omega
  go_wp2_with fail
  clear F0
  go_loopw [3] (fun i wr => ∃ k : Nat, k ≤ n ∧ i = .int .i64 k ∧ Hid (Below w1.heap.size w1 wr)) (fun i _ => n - (intOf i).toNat)
  case atStart => exact ⟨0, Nat.zero_le _, rfl, Lib.hid (Below.refl _ _)⟩
  case round =>
    obtain ⟨k, hk, rfl, HB⟩ := hrel
    have F0 := (HX0.out.below HB.out).f3
    by_cases hlt : k < n
    · obtain ⟨b1, o1, B, cB, x, rfl, hx, _, hc, hrd⟩ := (H.out _ HB.out).row hlt
      have hx2 := raceB_two (hr x (List.mem_of_getElem? hx))
      have HQ := Lib.hid (fun w' (hb : Below wr.heap.size wr w') => l26Race_any b B x.length cB x w' (hrd.below hb))
      rw [hx2] at HQ
      have hsz := HB.out.size
      clear hx hrd hx2
      go_wp2_with fail
      go_still_tail 7, (by kernel_rfl)
      go_wp2_with fail
      refine (HQ.out _ (below_drewN' _ wr 1)).mono ?_
      rintro e w2 ⟨rfl, hb2⟩
      have HB2 := Lib.hid ((HB.out.trans ((below_drewN' w1.heap.size wr 1).mono (Nat.le_refl _))).trans (hb2.mono hsz))
      clear hb2 HB hc F0
      go_wp2_with fail
      go_roundw
      case rel => exact ⟨k + 1, by omega, by go_num, HB2⟩
      case measure => simp [intOf] <;> omega
    · obtain rfl : k = n := by omega
      go_wp2_with fail
      go_ret
      exact ⟨rfl, HB1.out.trans (HB.out.mono HB1.out.size)⟩
theorem cell_newz (w : World) (v : Value) (e : TypeId) {z : Nat} (h : z = w.heap.size) : (w.alloc (.cells #[v] e)).cell? ⟨z, 0, none⟩ = some v := by subst h; exact cell_new1 w v e
theorem cell_grown {w w' : World} {r : Option Nat} {b i : Nat} {v : Value} (h : w.cell? ⟨b, i, none⟩ = some v) (hg : w.grownBy w' r) (hr : r ≠ some b) : w'.cell? ⟨b, i, none⟩ = some v := by
  have hb := hg.block b (cell_lt h) (fun e => hr e.symm)
  unfold World.cell? at h ⊢
  simp only at h ⊢
  rw [hb]
  exact h
theorem rowP_len (s : Int) (fs : List FinishT) : (rowP s fs).length = fs.length := by simp [rowP]
theorem rowK_len (fs : List FinishT) : (rowK fs).length = fs.length := by simp [rowK]
set_option maxHeartbeats 8000000 in
theorem specTableOf_any (b s : Int) (A : Option Addr) (n c : Nat) (rows : List (List FinishT)) (hb1 : 1 ≤ b) (hb2 : b ≤ 16) (hs : s = 0 ∨ s = 1) (hg : GoodR b.toNat rows) (hr : ∀ r ∈ rows, raceB b r = true) (w : World) (h : RdRaces w A n rows) :
    Calls Tryz.prog 79 #[.agg #[.int .i64 b, .int .i64 s, .slice A n c]] w (RetTC w (tabS b s rows, 0)) := by
  have hn12 : n ≤ 12 := by have := hg.1; have := h.len; omega
  have HG := Lib.hid hg.2
  have HLN := Lib.hid h.len
  have HT := Lib.hid (fun w' (hb : Below w.heap.size w w') => h.below hb)
  have HSUM := Lib.hid (show sumLen (tabS b s rows).pts ≤ 1099511627776 ∧ sumLen (tabS b s rows).cds ≤ 1099511627776 from by
    have h1 := sumLen_le (m := 16) (rows := (tabS b s rows).pts) (fun y hy => by
      obtain ⟨r, hr, rfl⟩ := List.mem_map.1 hy
      rw [rowP_len, hg.2 r hr]; omega)
    have h2 := sumLen_le (m := 16) (rows := (tabS b s rows).cds) (fun y hy => by
      obtain ⟨r, hr, rfl⟩ := List.mem_map.1 hy
      rw [rowK_len, hg.2 r hr]; omega)
    have h3 : (tabS b s rows).pts.length ≤ 12 := by simp [tabS]; exact hg.1
    have h4 : (tabS b s rows).cds.length ≤ 12 := by simp [tabS]; exact hg.1
    omega)
  have HIS := Lib.hid (fun w' (hb : Below w.heap.size w w') => specIsSeries_ok b s A n c rows hb1 hb2 (by rcases hs with rfl | rfl <;> omega) (by rcases hs with rfl | rfl <;> omega) hn12 hr w' (h.below hb))
  clear h hg hr
  obtain ⟨w2, hw2, X0, X1, hb2', hs2⟩ := two_boxes w #[.int .i64 b, .int .i64 s, .slice A n c] #[.int .i64 0, .slice none 0 0, .slice none 0 0] 103 33
  have HB2 := Lib.hid hb2'
  have HX0 := Lib.hid X0; have HX1 := Lib.hid X1
  have F0 := X0.f3
  have hsz2 : w.heap.size + 1 < w2.heap.size := by omega
  clear hb2' X0 X1 hs2
  go_enter Tryz.func79, Tryz.ntmps79
  go_wp2_with fail
  rw [← hw2]
  clear hw2
  refine (HIS.out _ HB2.out).mono ?_
  rintro e wg ⟨rfl, hbg⟩
  have HBG := Lib.hid (HB2.out.trans (hbg.mono HB2.out.size))
  have X0 := HX0.out.below hbg; have X1 := HX1.out.below hbg
  have hsg := hbg.size
  clear hbg HIS F0 HX0 HX1 HB2
  have F0 := X0.f3
  obtain ⟨we, hwe, hbe, hse⟩ := alloc_new wg #[] 35
  obtain ⟨wf, hwf, hbf, hsf⟩ := alloc_new we #[] 35
  obtain ⟨w3, hw3, X2, hb3, hs3⟩ := one_box wf #[.int .i64 b, .slice (some ⟨wg.heap.size, 0, none⟩) 0 0, .slice (some ⟨wg.heap.size + 1, 0, none⟩) 0 0] 33
  have O1 : OwnRows we wg.heap.size 35 2 (some ⟨wg.heap.size, 0, none⟩) 0 0 [] [] := by rw [hwe]; exact OwnRows.empty wg wg.heap.size _ _ (Nat.le_refl _)
  have O2 : OwnRows wf wg.heap.size 35 2 (some ⟨wg.heap.size + 1, 0, none⟩) 0 0 [] [] := by
    have h1 : ∀ x, x = we.heap.size → OwnRows wf wg.heap.size 35 2 (some ⟨x, 0, none⟩) 0 0 [] [] := by
      rintro _ rfl; rw [hwf]; exact OwnRows.empty we wg.heap.size _ _ (by omega)
    exact h1 _ hse.symm
  obtain ⟨bo, hbo⟩ : ∃ bo, bo = wg.heap.size + 1 + 1 := ⟨_, rfl⟩
  rw [show wf.heap.size = bo from by omega] at X2
  have hbo2 : wg.heap.size ≤ bo := by omega
  have HOI := Lib.hid (show OwnT w3 wg.heap.size (some ⟨wg.heap.size, 0, none⟩) 0 0 [] (some ⟨wg.heap.size + 1, 0, none⟩) 0 0 [] ⟨b, (rows.map (rowP s)).take 0, (rows.map rowK).take 0⟩ from ⟨((O1.below hbf).below hb3), (O2.below hb3), fun g hg hg' => by simp [Value.ownBlock] at hg hg'; omega, fun v hv => by cases hv⟩)
  have HX2 := Lib.hid X2
  have HB23 := Lib.hid ((hbe.trans (hbf.mono (by omega))).trans (hb3.mono (by omega)))
  clear O1 O2 hbe hbf hb3 hse hsf hs3 X2
  go_wp2_with fail
  rw [← hwe, ← hwf]
  (try rw [← hbo])
  (try rw [← hw3])
  clear hwe hwf hw3 hbo F0
  have F0 := (X0.below HB23.out).f3
  go_loopw [5] (fun i wr => ∃ (k : Nat) (A' : Option Addr) (c' : Nat) (vs : List Value) (A2 : Option Addr) (c2 : Nat) (us : List Value), k ≤ n ∧ i = .int .i64 k ∧ Hid (OwnT wr wg.heap.size A' k c' vs A2 k c2 us ⟨b, (rows.map (rowP s)).take k, (rows.map rowK).take k⟩) ∧ Hid (Box wr bo #[.int .i64 b, .slice A' k c', .slice A2 k c2] 33) ∧ Hid (Below wg.heap.size wg wr)) (fun i _ => n - (intOf i).toNat)
  case atStart => exact ⟨0, _, _, _, _, _, _, Nat.zero_le _, rfl, HOI, HX2, HB23⟩
  case round =>
    clear F0 HOI HX2 HB23
    obtain ⟨k, A', c', vs, A2, c2, us, hk, rfl, HOW, X2', HBW⟩ := hrel
    obtain ⟨wi, hwi⟩ : ∃ wi : World, wi = wr := ⟨_, rfl⟩
    subst hwi
    have HBW0 := Lib.hid (HBG.out.trans (HBW.out.mono (by have := HBG.out.size; omega)))
    have hsr := HBW.out.size
    have hk12 : k ≤ 12 := by omega
    have F0 := (X0.kept HBW.out (by omega)).f3
    by_cases hlt : k < n
    · obtain ⟨rb, ro, B, cB, x, rfl, hx, _, hcr, hrd⟩ := (HT.out _ HBW0.out).row hlt
      have HRBG := Lib.hid (show rb < wg.heap.size from by
        obtain ⟨rb2, ro2, B2, cB2, x2, e2, _, _, hcr2, _⟩ := (HT.out wg HBG.out).row hlt
        have h9 : rb2 < wg.heap.size := cell_lt hcr2
        injection e2 with e2; injection e2 with e3; omega)
      have hxl := HG.out x (List.mem_of_getElem? hx)
      have hx1 : 0 < x.length := by omega
      have hx16 : x.length ≤ 16 := by omega
      have HSP := Lib.hid (show (rows.map (rowP s)).take (k + 1) = (rows.map (rowP s)).take k ++ [rowP s x] from take_snoc_get (by rw [List.getElem?_map, hx]; rfl))
      have HSK := Lib.hid (show (rows.map rowK).take (k + 1) = (rows.map rowK).take k ++ [rowK x] from take_snoc_get (by rw [List.getElem?_map, hx]; rfl))
      have HRX := Lib.hid (fun w' (hb : Below wi.heap.size wi w') => hrd.below hb)
      have HCL := Lib.hid (fun w' (hb : Below wi.heap.size wi w') => l26Points_any B x.length cB x s hx16 hx1 w' (hrd.below hb))
      have HLP := Lib.hid (rowP_len s x)
      have HLK := Lib.hid (rowK_len x)
      have HCR := Lib.hid hcr
      clear hx hrd hxl
      go_wp2_with fail
      go_loopw [6, 7] (fun v i wr => ∃ (j : Nat) (A5 : Option Addr) (c5 : Nat), j ≤ x.length ∧ i = .int .i64 j ∧ v = .slice A5 j c5 ∧ Hid (wr.ownsRow wi.heap.size 2 1 (.slice A5 j c5) j (ints ((rowK x).take j))) ∧ Hid (Below wi.heap.size wi wr)) (fun _ i _ => x.length - (intOf i).toNat)
      case atStart => exact ⟨0, _, _, Nat.zero_le _, rfl, rfl, Lib.hid (own_empty wi wi.heap.size _ (Nat.le_refl _)), Lib.hid ((Below.refl _ _).alloc (Nat.le_refl _) _)⟩
      case round =>
        clear F0 hcr
        obtain ⟨j, A5, c5, hj, rfl, rfl, HO, HB⟩ := hrel
        obtain ⟨wj, hwj⟩ : ∃ wj : World, wj = wr := ⟨_, rfl⟩
        subst hwj
        have hsj := HB.out.size
        have HWJ := HB
        have F0 := (X0.kept (HBW.out.trans (HB.out.mono (by omega))) (by omega)).f3
        have hcr := cell_bel HCR.out HB.out
        by_cases hjl : j < x.length
        · obtain ⟨b5, o5, x0, x1, x2, rfl, hx5, _, hc0, hc1, hc2⟩ := (HRX.out _ HWJ.out).fin hjl
          have HSN := Lib.hid (show (rowK x).take (j + 1) = (rowK x).take j ++ [x1] from take_snoc_get (by unfold rowK; rw [List.getElem?_map, hx5]; rfl))
          clear hx5
          go_wp2_with (at_builtin; refine app_i64 _ rfl _ _ rfl rfl (HO.out.alloc (.cells #[.int .i64 x1] 2)) rfl (cell_new1 _ _ _) (by omega) ?cB1 ?_; rotate_left; intro A6 c6 w6 hown6 hgr6)
          · have HON := Lib.hid hown6
            have HBN := Lib.hid (below_app HB.out hsj (Nat.le_refl _) HO.out hgr6)
            clear hown6 hgr6
            go_roundw
            case rel => exact ⟨j + 1, _, _, by omega, by go_num, rfl, Lib.hid (by rw [HSN.out]; exact HON.out), HBN⟩
            case measure => simp [intOf] <;> omega
          · have := HB.out.size; simp; omega
        · obtain rfl : j = x.length := by omega
          have ho := HO.out
          rw [List.take_of_length_le (by rw [HLK.out]; exact Nat.le_refl _)] at ho
          obtain ⟨gc, _, rfl, hgc0, _, _, _, _⟩ := own_int_at ho hx1
          have HSZ := HWJ.out.size
          have hsb1 : wg.heap.size ≤ wi.heap.size := by omega
          have HGC := Lib.hid (show wi.heap.size ≤ gc from by omega)
          have HGL := Lib.hid (ho.lt _ rfl).2
          have FI := (X0.kept HBW.out (by omega)).f3
          have hrbg : rb < wg.heap.size := HRBG.out
          have HSR := Lib.hid (show ∀ w1, Below wg.heap.size wi w1 → Box w1 bo #[.int .i64 b, .slice A' k c', .slice A2 k c2] 33 → (w1.cell? ⟨w.heap.size, 0, none⟩ = some (.int .i64 b) ∧ w1.cell? ⟨w.heap.size, 1, none⟩ = some (.int .i64 s) ∧ w1.cell? ⟨w.heap.size, 2, none⟩ = some (.slice (some ⟨rb, ro, none⟩) n c) ∧ w1.cell? ⟨bo, 1, none⟩ = some (.slice A' k c') ∧ w1.cell? ⟨bo, 2, none⟩ = some (.slice A2 k c2) ∧ w1.cell? ⟨rb, ro + k, none⟩ = some (.slice B x.length cB)) from fun w1 hb hx => ⟨(hb.cell (p := ⟨w.heap.size, 0, none⟩) (show w.heap.size < _ by omega)).trans FI.1, (hb.cell (p := ⟨w.heap.size, 1, none⟩) (show w.heap.size < _ by omega)).trans FI.2.1, (hb.cell (p := ⟨w.heap.size, 2, none⟩) (show w.heap.size < _ by omega)).trans FI.2.2.1, hx.cell rfl, hx.cell rfl, (hb.cell (p := ⟨rb, ro + k, none⟩) hrbg).trans HCR.out⟩)
          obtain ⟨p, hp⟩ : ∃ p, p = rowP s x := ⟨_, rfl⟩
          obtain ⟨q, hq⟩ : ∃ q, q = rowK x := ⟨_, rfl⟩
          rw [← hp] at HSP HCL HLP
          rw [← hq] at HSK ho HLK
          have hql : x.length = q.length := HLK.out.symm
          rw [show Value.slice (some ⟨gc, 0, none⟩) x.length c5 = Value.slice (some ⟨gc, 0, none⟩) q.length c5 from by rw [← hql]] at ho
          have HOC := Lib.hid (show wj.ownsRow wi.heap.size 2 1 (.slice (some ⟨gc, 0, none⟩) q.length c5) q.length (ints q) from by rw [hql] at ho; exact ho)
          have HQL := Lib.hid hql
          clear hp hq ho HO hql hgc0
          have F2 := (X2'.out.below HWJ.out).f3
          go_wp2_with fail
          clear F0 F2 FI hcr
          rw [show Value.slice (some ⟨gc, 0, none⟩) x.length c5 = Value.slice (some ⟨gc, 0, none⟩) q.length c5 from by rw [← HQL.out]]
          obtain ⟨S, hSE, hSI⟩ : ∃ S : World → Prop, (∀ w1, S w1 → w1.cell? ⟨w.heap.size, 0, none⟩ = some (.int .i64 b) ∧ w1.cell? ⟨w.heap.size, 1, none⟩ = some (.int .i64 s) ∧ w1.cell? ⟨w.heap.size, 2, none⟩ = some (.slice (some ⟨rb, ro, none⟩) n c) ∧ w1.cell? ⟨bo, 1, none⟩ = some (.slice A' k c') ∧ w1.cell? ⟨bo, 2, none⟩ = some (.slice A2 k c2) ∧ w1.cell? ⟨rb, ro + k, none⟩ = some (.slice B x.length cB)) ∧ (∀ w1, Below wg.heap.size wi w1 → Box w1 bo #[.int .i64 b, .slice A' k c', .slice A2 k c2] 33 → S w1) := ⟨fun w1 => w1.cell? ⟨w.heap.size, 0, none⟩ = some (.int .i64 b) ∧ w1.cell? ⟨w.heap.size, 1, none⟩ = some (.int .i64 s) ∧ w1.cell? ⟨w.heap.size, 2, none⟩ = some (.slice (some ⟨rb, ro, none⟩) n c) ∧ w1.cell? ⟨bo, 1, none⟩ = some (.slice A' k c') ∧ w1.cell? ⟨bo, 2, none⟩ = some (.slice A2 k c2) ∧ w1.cell? ⟨rb, ro + k, none⟩ = some (.slice B x.length cB), fun _ h => h, HSR.out⟩
          have HSE := Lib.hid hSE; have HSI := Lib.hid hSI
          clear hSE hSI HSR
          refine wp_region_T2 (n := 21) S (fun j => decide (20 ≤ j)) (by kernel_rfl) rfl ?_
          intro ops HOPS
          have M0 : Mid wi wi wg.heap.size bo #[.int .i64 b, .slice A' k c', .slice A2 k c2] 33 wj.drew := ⟨HWJ.out.trans ((below_drewN' _ wj 1).mono HWJ.out.size), (HWJ.out.trans ((below_drewN' _ wj 1).mono HWJ.out.size)).mono hsr, (X2'.out.below HWJ.out).below (below_drewN' _ wj 1), hsr⟩
          have OC0 : wj.drew.ownsRow wi.heap.size 2 1 (.slice (some ⟨gc, 0, none⟩) q.length c5) q.length (ints q) := own_drewN HOC.out 1
          have hgl0 := HOC.out.lt _ rfl
          obtain ⟨wd, hwd⟩ : ∃ wd : World, wd = wj.drew := ⟨_, rfl⟩
          have hgl1 : gc < wd.heap.size := by rw [hwd]; exact hgl0.2
          rw [← hwd] at M0 OC0 ⊢
          have M := M0; have OC := own_base OC0 hsb1
          have hS := HSI.out _ M.all M.box
          clear hwd M0 OC0 hgl0
          refine wpAnyT_take 0 (.pointer (some ⟨w.heap.size, 0, none⟩)) (by rw [HOPS.out]; rfl) (by rw [HOPS.out]; kernel_rfl) (by exact fun _ _ _ h => h) (by rfl) (fun w1 hS => by go_simp) hS ?_
          go_simp
          refine wpAnyT_take 1 (.int .i64 b) (by rw [HOPS.out]; rfl) (by rw [HOPS.out]; kernel_rfl) (by exact fun _ _ _ h => h) (by rfl) (fun w1 hS => by obtain ⟨s0, s1, s2, s3, s4, s5⟩ := HSE.out _ hS; go_simp) hS ?_
          go_simp
          refine wpAnyT_take 2 (.pointer (some ⟨bo, 1, none⟩)) (by rw [HOPS.out]; rfl) (by rw [HOPS.out]; kernel_rfl) (by exact fun _ _ _ h => h) (by rfl) (fun w1 hS => by go_simp) hS ?_
          go_simp
          refine wpAnyT_take 3 (.slice A' k c') (by rw [HOPS.out]; rfl) (by rw [HOPS.out]; kernel_rfl) (by exact fun _ _ _ h => h) (by rfl) (fun w1 hS => by obtain ⟨s0, s1, s2, s3, s4, s5⟩ := HSE.out _ hS; go_simp) hS ?_
          go_simp
          refine wpAnyT_take 4 (.pointer (some ⟨w.heap.size, 2, none⟩)) (by rw [HOPS.out]; rfl) (by rw [HOPS.out]; kernel_rfl) (by exact fun _ _ _ h => h) (by rfl) (fun w1 hS => by go_simp) hS ?_
          go_simp
          refine wpAnyT_take 5 (.slice (some ⟨rb, ro, none⟩) n c) (by rw [HOPS.out]; rfl) (by rw [HOPS.out]; kernel_rfl) (by exact fun _ _ _ h => h) (by rfl) (fun w1 hS => by obtain ⟨s0, s1, s2, s3, s4, s5⟩ := HSE.out _ hS; go_simp) hS ?_
          go_simp
          refine wpAnyT_take 6 (.int .i64 (k : Int)) (by rw [HOPS.out]; rfl) (by rw [HOPS.out]; kernel_rfl) (by exact fun _ _ _ h => h) (by rfl) (fun w1 hS => by go_simp) hS ?_
          go_simp
          refine wpAnyT_take 7 (.pointer (some ⟨rb, ro + k, none⟩)) (by rw [HOPS.out]; rfl) (by rw [HOPS.out]; kernel_rfl) (by exact fun _ _ _ h => h) (by rfl) (fun w1 hS => by go_simp) hS ?_
          go_simp
          refine wpAnyT_take 8 (.agg #[.slice B x.length cB]) (by rw [HOPS.out]; rfl) (by rw [HOPS.out]; kernel_rfl) (by exact fun _ _ _ h => h) (by rfl) (fun w1 hS => by obtain ⟨s0, s1, s2, s3, s4, s5⟩ := HSE.out _ hS; go_simp) hS ?_
          go_simp
          refine wpAnyT_take 9 (.pointer (some ⟨w.heap.size, 1, none⟩)) (by rw [HOPS.out]; rfl) (by rw [HOPS.out]; kernel_rfl) (by exact fun _ _ _ h => h) (by rfl) (fun w1 hS => by go_simp) hS ?_
          go_simp
          refine wpAnyT_take 10 (.int .i64 s) (by rw [HOPS.out]; rfl) (by rw [HOPS.out]; kernel_rfl) (by exact fun _ _ _ h => h) (by rfl) (fun w1 hS => by obtain ⟨s0, s1, s2, s3, s4, s5⟩ := HSE.out _ hS; go_simp) hS ?_
          go_simp
          refine wpAnyT_take 14 (.pointer (some ⟨bo, 2, none⟩)) (by rw [HOPS.out]; rfl) (by rw [HOPS.out]; kernel_rfl) (by exact fun _ _ _ h => h) (by rfl) (fun w1 hS => by go_simp) hS ?_
          go_simp
          refine wpAnyT_take 15 (.slice A2 k c2) (by rw [HOPS.out]; rfl) (by rw [HOPS.out]; kernel_rfl) (by exact fun _ _ _ h => h) (by rfl) (fun w1 hS => by obtain ⟨s0, s1, s2, s3, s4, s5⟩ := HSE.out _ hS; go_simp) hS ?_
          go_simp
          refine wpAnyT_take 16 (.slice (some ⟨gc, 0, none⟩) q.length c5) (by rw [HOPS.out]; rfl) (by rw [HOPS.out]; kernel_rfl) (by exact fun _ _ _ h => h) (by rfl) (fun w1 hS => by go_simp) hS ?_
          go_simp
          clear hS
          refine wpAnyT_two 11 17 (by rw [HOPS.out]; rfl) (by rw [HOPS.out]; rfl) (by rw [HOPS.out]; kernel_rfl) ?_ ?_
          · skip
            intro K' hK
            have HK := Lib.hid hK
            clear hK
            go_simp
            go_at_call 101
            have MB := M.bel.size
            have hgq : gc < wd.heap.size := (OC.lt _ rfl).2
            refine (HCL.out _ M.bel).mono ?_
            rintro e z1 ⟨gp, cgp, rfl, og, hgp, hb⟩
            replace M := M.below hb
            replace OC := own_below OC hb
            have O := own_base og (show wi.heap.size ≤ wd.heap.size from MB)
            have HGP := Lib.hid (show gp ≠ gc from by omega)
            clear og hgp hb MB hgq
            refine HK.out _ _ (.inr (HSI.out _ M.all M.box)) ?_
            clear HK
            go_simp
            refine wpAnyT_two 12 17 (by rw [HOPS.out]; rfl) (by rw [HOPS.out]; rfl) (by rw [HOPS.out]; kernel_rfl) ?_ ?_
            · skip
              intro K' hK
              have HK := Lib.hid hK
              clear hK
              go_simp
              obtain ⟨z2, h0, hb, hs0⟩ := alloc_new z1 #[.slice (some ⟨gp, 0, none⟩) p.length cgp] 35
              rw [← h0]
              replace M := M.below hb
              replace OC := own_below OC hb
              replace O := own_below O hb
              have CW : z2.cell? ⟨z1.heap.size, 0, none⟩ = some (.slice (some ⟨gp, 0, none⟩) p.length cgp) := by rw [h0]; exact cell_top _ _ _ rfl rfl
              clear h0 hs0 hb
              refine HK.out _ _ (.inr (HSI.out _ M.all M.box)) ?_
              clear HK
              go_simp
              refine wpAnyT_two 13 17 (by rw [HOPS.out]; rfl) (by rw [HOPS.out]; rfl) (by rw [HOPS.out]; kernel_rfl) ?_ ?_
              · skip
                intro K' hK
                have HK := Lib.hid hK
                clear hK
                refine step_row (A := A') (n := k) (c := c') (vs := vs) (base := wg.heap.size) _ rfl _ _ rfl rfl (own_below HOW.out.pts.outer M.bel) rfl CW (by omega) (Nat.le_trans hsr M.bel.size) ?_
                intro ga ca w5 hoa hga hla hlta
                have hP1 := push_row0 HOW.out.pts hsr M.bel O (O.lt _ rfl).1 hsr hga hoa hla
                have M5 : Mid wi w5 wg.heap.size bo #[.int .i64 b, .slice A' k c', .slice A2 k c2] 33 w5 := ⟨Below.refl _ _, hP1.below HOW.out.pts hsr, M.box.grown hga (own_box_ne (own_below HOW.out.pts.outer M.bel) M.box (by decide)), Nat.le_trans hsr hP1.size⟩
                have OC5 : w5.ownsRow wg.heap.size 2 1 (.slice (some ⟨gc, 0, none⟩) q.length c5) q.length (ints q) := OC.kept hga (.inr (fun e => own_type_ne (own_below HOW.out.pts.outer M.bel) OC (by decide) gc e.symm rfl))
                have h5i : wi.heap.size ≤ w5.heap.size := hP1.size
                have hgpc : gp ≠ gc := HGP.out
                have HP1 := Lib.hid hP1
                clear hP1 hga hla hoa hlta M O CW OC
                have M := M5; have OC := OC5
                clear M5 OC5
                refine HK.out _ _ (.inr (HSI.out _ M.all M.box)) ?_
                clear HK
                go_simp
                have HA5 := Lib.hid M.all
                refine wpAnyT_one 17 (by rw [HOPS.out]; rfl) (by rw [HOPS.out]; kernel_rfl) ?_
                intro K' hK
                have HK := Lib.hid hK
                clear hK
                have hxb : wi.heap.size ≤ w5.heap.size := Nat.le_trans h5i M.bel.size
                go_simp
                obtain ⟨z4, h0, hb, hs0⟩ := alloc_new w5 #[.slice (some ⟨gc, 0, none⟩) q.length c5] 35
                rw [← h0]
                replace M := M.below hb
                replace OC := own_below OC hb
                have CX : z4.cell? ⟨w5.heap.size, 0, none⟩ = some (.slice (some ⟨gc, 0, none⟩) q.length c5) := by rw [h0]; exact cell_top _ _ _ rfl rfl
                clear h0 hs0 hb
                refine HK.out _ _ (.inr (HSI.out _ M.all M.box)) ?_
                clear HK
                go_simp
                refine wpAnyT_one 18 (by rw [HOPS.out]; rfl) (by rw [HOPS.out]; kernel_rfl) ?_
                intro K' hK
                have HK := Lib.hid hK
                clear hK
                have MC := cds5 HOW.out HP1.out
                refine step_row (A := A2) (n := k) (c := c2) (vs := us) (base := wg.heap.size) _ rfl _ _ rfl rfl (own_below MC.outer M.bel) rfl CX (by omega) (Nat.le_trans M.le M.bel.size) ?_
                intro gb cb w9 hob hgb hlb hltb
                have hP2 := push_row1 MC M.le M.bel OC (fun u hu b hb e => by have := (HOW.out.cds.in_.2 u hu b hb).2; have := HGC.out; omega) (Nat.le_refl _) hgb hob hlb
                have M9 : Mid wi w9 wg.heap.size bo #[.int .i64 b, .slice A' k c', .slice A2 k c2] 33 w9 := ⟨Below.refl _ _, (show Below wg.heap.size wi w5 from HA5.out).trans (hP2.below MC M.le), M.box.grown hgb (own_box_ne (own_below MC.outer M.bel) M.box (by decide)), Nat.le_trans M.le hP2.size⟩
                have HP2 := Lib.hid hP2
                clear hP2 hgb hlb hob hltb M OC CX MC
                have M := M9
                clear M9
                refine HK.out _ _ (.inr (HSI.out _ M.all M.box)) ?_
                clear HK
                go_simp
                refine wpAnyT_take 19 (.agg #[.int .i64 b, .slice (some ⟨ga, 0, none⟩) (k + 1) ca, .slice (some ⟨gb, 0, none⟩) (k + 1) cb]) (by rw [HOPS.out]; rfl) (by rw [HOPS.out]; kernel_rfl) (by exact fun _ _ _ h => h) (by rfl) (fun w1 hS => by go_simp) (HSI.out _ M.all M.box) ?_
                go_simp
                have hfb : w9.frozen? ⟨bo, 0, none⟩ = false ∧ w9.frozen? ⟨bo, 1, none⟩ = false ∧ w9.frozen? ⟨bo, 2, none⟩ = false := ⟨M.box.fz, M.box.fz, M.box.fz⟩
                have hcb : w9.cell? ⟨bo, 0, none⟩ = some (.int .i64 b) ∧ w9.cell? ⟨bo, 1, none⟩ = some (.slice A' k c') ∧ w9.cell? ⟨bo, 2, none⟩ = some (.slice A2 k c2) := ⟨M.box.cell rfl, M.box.cell rfl, M.box.cell rfl⟩
                refine wpAnyT_one 20 (by rw [HOPS.out]; rfl) (by rw [HOPS.out]; kernel_rfl) ?_
                intro K' hK
                have HK := Lib.hid hK
                clear hK
                go_simp
                refine HK.out _ _ (.inl (by decide)) ?_
                clear HK
                go_simp
                refine wpAnyT_done (by rw [HOPS.out]; kernel_rfl) ?_ _
                go_wp2_with fail
                have HO9 := Lib.hid ((((push_pair HOW.out hsr HP1.out (fun _ => HP2.out) HGC.out HGP.out).boxSet (i := 0) M.box (by decide) (by decide) (.int .i64 b)).boxSet (i := 1) (M.box.set 0 _) (by decide) (by decide) (.slice (some ⟨ga, 0, none⟩) (k + 1) ca)).boxSet (i := 2) ((M.box.set 0 _).set 1 _) (by decide) (by decide) (.slice (some ⟨gb, 0, none⟩) (k + 1) cb))
                have HX9 := Lib.hid (((M.box.set 0 (.int .i64 b)).set 1 (.slice (some ⟨ga, 0, none⟩) (k + 1) ca)).set 2 (.slice (some ⟨gb, 0, none⟩) (k + 1) cb))
                have HS9 := Lib.hid ((((HBW.out.trans M.all).setCell (p := ⟨bo, 0, none⟩) hbo2 (.int .i64 b)).setCell (p := ⟨bo, 1, none⟩) hbo2 (.slice (some ⟨ga, 0, none⟩) (k + 1) ca)).setCell (p := ⟨bo, 2, none⟩) hbo2 (.slice (some ⟨gb, 0, none⟩) (k + 1) cb))
                go_roundw
                case rel => exact ⟨k + 1, _, _, _, _, _, _, by omega, by go_num, Lib.hid (by rw [HSP.out, HSK.out]; exact HO9.out), HX9, HS9⟩
                case measure => simp [intOf] <;> omega
              · skip
                intro K' hK
                have HK := Lib.hid hK
                clear hK
                have hxb : wi.heap.size ≤ z2.heap.size := M.bel.size
                go_simp
                obtain ⟨z3, h0, hb, hs0⟩ := alloc_new z2 #[.slice (some ⟨gc, 0, none⟩) q.length c5] 35
                rw [← h0]
                replace M := M.below hb
                replace OC := own_below OC hb
                replace O := own_below O hb
                replace CW := cell_bel CW hb
                have CX : z3.cell? ⟨z2.heap.size, 0, none⟩ = some (.slice (some ⟨gc, 0, none⟩) q.length c5) := by rw [h0]; exact cell_top _ _ _ rfl rfl
                clear h0 hs0 hb
                refine HK.out _ _ (.inr (HSI.out _ M.all M.box)) ?_
                clear HK
                go_simp
                refine wpAnyT_one 13 (by rw [HOPS.out]; rfl) (by rw [HOPS.out]; kernel_rfl) ?_
                intro K' hK
                have HK := Lib.hid hK
                clear hK
                refine step_row (A := A') (n := k) (c := c') (vs := vs) (base := wg.heap.size) _ rfl _ _ rfl rfl (own_below HOW.out.pts.outer M.bel) rfl CW (by omega) (Nat.le_trans hsr M.bel.size) ?_
                intro ga ca w5 hoa hga hla hlta
                have hP1 := push_row0 HOW.out.pts hsr M.bel O (O.lt _ rfl).1 hsr hga hoa hla
                have M5 : Mid wi w5 wg.heap.size bo #[.int .i64 b, .slice A' k c', .slice A2 k c2] 33 w5 := ⟨Below.refl _ _, hP1.below HOW.out.pts hsr, M.box.grown hga (own_box_ne (own_below HOW.out.pts.outer M.bel) M.box (by decide)), Nat.le_trans hsr hP1.size⟩
                have OC5 : w5.ownsRow wg.heap.size 2 1 (.slice (some ⟨gc, 0, none⟩) q.length c5) q.length (ints q) := OC.kept hga (.inr (fun e => own_type_ne (own_below HOW.out.pts.outer M.bel) OC (by decide) gc e.symm rfl))
                have h5i : wi.heap.size ≤ w5.heap.size := hP1.size
                have hgpc : gp ≠ gc := HGP.out
                have CX5 := cell_grown CX hga (fun e => by have := (HOW.out.pts.in_.1 _ e).2; omega)
                have HP1 := Lib.hid hP1
                clear hP1 hga hla hoa hlta M O CW OC CX
                have M := M5; have OC := OC5; have CX := CX5
                clear M5 OC5 CX5
                refine HK.out _ _ (.inr (HSI.out _ M.all M.box)) ?_
                clear HK
                go_simp
                have HA5 := Lib.hid M.all
                refine wpAnyT_one 18 (by rw [HOPS.out]; rfl) (by rw [HOPS.out]; kernel_rfl) ?_
                intro K' hK
                have HK := Lib.hid hK
                clear hK
                have MC := cds5 HOW.out HP1.out
                refine step_row (A := A2) (n := k) (c := c2) (vs := us) (base := wg.heap.size) _ rfl _ _ rfl rfl (own_below MC.outer M.bel) rfl CX (by omega) (Nat.le_trans M.le M.bel.size) ?_
                intro gb cb w9 hob hgb hlb hltb
                have hP2 := push_row1 MC M.le M.bel OC (fun u hu b hb e => by have := (HOW.out.cds.in_.2 u hu b hb).2; have := HGC.out; omega) (Nat.le_refl _) hgb hob hlb
                have M9 : Mid wi w9 wg.heap.size bo #[.int .i64 b, .slice A' k c', .slice A2 k c2] 33 w9 := ⟨Below.refl _ _, (show Below wg.heap.size wi w5 from HA5.out).trans (hP2.below MC M.le), M.box.grown hgb (own_box_ne (own_below MC.outer M.bel) M.box (by decide)), Nat.le_trans M.le hP2.size⟩
                have HP2 := Lib.hid hP2
                clear hP2 hgb hlb hob hltb M OC CX MC
                have M := M9
                clear M9
                refine HK.out _ _ (.inr (HSI.out _ M.all M.box)) ?_
                clear HK
                go_simp
                refine wpAnyT_take 19 (.agg #[.int .i64 b, .slice (some ⟨ga, 0, none⟩) (k + 1) ca, .slice (some ⟨gb, 0, none⟩) (k + 1) cb]) (by rw [HOPS.out]; rfl) (by rw [HOPS.out]; kernel_rfl) (by exact fun _ _ _ h => h) (by rfl) (fun w1 hS => by go_simp) (HSI.out _ M.all M.box) ?_
                go_simp
                have hfb : w9.frozen? ⟨bo, 0, none⟩ = false ∧ w9.frozen? ⟨bo, 1, none⟩ = false ∧ w9.frozen? ⟨bo, 2, none⟩ = false := ⟨M.box.fz, M.box.fz, M.box.fz⟩
                have hcb : w9.cell? ⟨bo, 0, none⟩ = some (.int .i64 b) ∧ w9.cell? ⟨bo, 1, none⟩ = some (.slice A' k c') ∧ w9.cell? ⟨bo, 2, none⟩ = some (.slice A2 k c2) := ⟨M.box.cell rfl, M.box.cell rfl, M.box.cell rfl⟩
                refine wpAnyT_one 20 (by rw [HOPS.out]; rfl) (by rw [HOPS.out]; kernel_rfl) ?_
                intro K' hK
                have HK := Lib.hid hK
                clear hK
                go_simp
                refine HK.out _ _ (.inl (by decide)) ?_
                clear HK
                go_simp
                refine wpAnyT_done (by rw [HOPS.out]; kernel_rfl) ?_ _
                go_wp2_with fail
                have HO9 := Lib.hid ((((push_pair HOW.out hsr HP1.out (fun _ => HP2.out) HGC.out HGP.out).boxSet (i := 0) M.box (by decide) (by decide) (.int .i64 b)).boxSet (i := 1) (M.box.set 0 _) (by decide) (by decide) (.slice (some ⟨ga, 0, none⟩) (k + 1) ca)).boxSet (i := 2) ((M.box.set 0 _).set 1 _) (by decide) (by decide) (.slice (some ⟨gb, 0, none⟩) (k + 1) cb))
                have HX9 := Lib.hid (((M.box.set 0 (.int .i64 b)).set 1 (.slice (some ⟨ga, 0, none⟩) (k + 1) ca)).set 2 (.slice (some ⟨gb, 0, none⟩) (k + 1) cb))
                have HS9 := Lib.hid ((((HBW.out.trans M.all).setCell (p := ⟨bo, 0, none⟩) hbo2 (.int .i64 b)).setCell (p := ⟨bo, 1, none⟩) hbo2 (.slice (some ⟨ga, 0, none⟩) (k + 1) ca)).setCell (p := ⟨bo, 2, none⟩) hbo2 (.slice (some ⟨gb, 0, none⟩) (k + 1) cb))
                go_roundw
                case rel => exact ⟨k + 1, _, _, _, _, _, _, by omega, by go_num, Lib.hid (by rw [HSP.out, HSK.out]; exact HO9.out), HX9, HS9⟩
                case measure => simp [intOf] <;> omega
            · skip
              intro K' hK
              have HK := Lib.hid hK
              clear hK
              have hxb : wi.heap.size ≤ z1.heap.size := M.bel.size
              go_simp
              obtain ⟨z2, h0, hb, hs0⟩ := alloc_new z1 #[.slice (some ⟨gc, 0, none⟩) q.length c5] 35
              rw [← h0]
              replace M := M.below hb
              replace OC := own_below OC hb
              replace O := own_below O hb
              have CX : z2.cell? ⟨z1.heap.size, 0, none⟩ = some (.slice (some ⟨gc, 0, none⟩) q.length c5) := by rw [h0]; exact cell_top _ _ _ rfl rfl
              clear h0 hs0 hb
              refine HK.out _ _ (.inr (HSI.out _ M.all M.box)) ?_
              clear HK
              go_simp
              refine wpAnyT_one 12 (by rw [HOPS.out]; rfl) (by rw [HOPS.out]; kernel_rfl) ?_
              intro K' hK
              have HK := Lib.hid hK
              clear hK
              go_simp
              obtain ⟨z3, h0, hb, hs0⟩ := alloc_new z2 #[.slice (some ⟨gp, 0, none⟩) p.length cgp] 35
              rw [← h0]
              replace M := M.below hb
              replace OC := own_below OC hb
              replace O := own_below O hb
              replace CX := cell_bel CX hb
              have CW : z3.cell? ⟨z2.heap.size, 0, none⟩ = some (.slice (some ⟨gp, 0, none⟩) p.length cgp) := by rw [h0]; exact cell_top _ _ _ rfl rfl
              clear h0 hs0 hb
              refine HK.out _ _ (.inr (HSI.out _ M.all M.box)) ?_
              clear HK
              go_simp
              refine wpAnyT_one 13 (by rw [HOPS.out]; rfl) (by rw [HOPS.out]; kernel_rfl) ?_
              intro K' hK
              have HK := Lib.hid hK
              clear hK
              refine step_row (A := A') (n := k) (c := c') (vs := vs) (base := wg.heap.size) _ rfl _ _ rfl rfl (own_below HOW.out.pts.outer M.bel) rfl CW (by omega) (Nat.le_trans hsr M.bel.size) ?_
              intro ga ca w5 hoa hga hla hlta
              have hP1 := push_row0 HOW.out.pts hsr M.bel O (O.lt _ rfl).1 hsr hga hoa hla
              have M5 : Mid wi w5 wg.heap.size bo #[.int .i64 b, .slice A' k c', .slice A2 k c2] 33 w5 := ⟨Below.refl _ _, hP1.below HOW.out.pts hsr, M.box.grown hga (own_box_ne (own_below HOW.out.pts.outer M.bel) M.box (by decide)), Nat.le_trans hsr hP1.size⟩
              have OC5 : w5.ownsRow wg.heap.size 2 1 (.slice (some ⟨gc, 0, none⟩) q.length c5) q.length (ints q) := OC.kept hga (.inr (fun e => own_type_ne (own_below HOW.out.pts.outer M.bel) OC (by decide) gc e.symm rfl))
              have h5i : wi.heap.size ≤ w5.heap.size := hP1.size
              have hgpc : gp ≠ gc := HGP.out
              have CX5 := cell_grown CX hga (fun e => by have := (HOW.out.pts.in_.1 _ e).2; omega)
              have HP1 := Lib.hid hP1
              clear hP1 hga hla hoa hlta M O CW OC CX
              have M := M5; have OC := OC5; have CX := CX5
              clear M5 OC5 CX5
              refine HK.out _ _ (.inr (HSI.out _ M.all M.box)) ?_
              clear HK
              go_simp
              have HA5 := Lib.hid M.all
              refine wpAnyT_one 18 (by rw [HOPS.out]; rfl) (by rw [HOPS.out]; kernel_rfl) ?_
              intro K' hK
              have HK := Lib.hid hK
              clear hK
              have MC := cds5 HOW.out HP1.out
              refine step_row (A := A2) (n := k) (c := c2) (vs := us) (base := wg.heap.size) _ rfl _ _ rfl rfl (own_below MC.outer M.bel) rfl CX (by omega) (Nat.le_trans M.le M.bel.size) ?_
              intro gb cb w9 hob hgb hlb hltb
              have hP2 := push_row1 MC M.le M.bel OC (fun u hu b hb e => by have := (HOW.out.cds.in_.2 u hu b hb).2; have := HGC.out; omega) (Nat.le_refl _) hgb hob hlb
              have M9 : Mid wi w9 wg.heap.size bo #[.int .i64 b, .slice A' k c', .slice A2 k c2] 33 w9 := ⟨Below.refl _ _, (show Below wg.heap.size wi w5 from HA5.out).trans (hP2.below MC M.le), M.box.grown hgb (own_box_ne (own_below MC.outer M.bel) M.box (by decide)), Nat.le_trans M.le hP2.size⟩
              have HP2 := Lib.hid hP2
              clear hP2 hgb hlb hob hltb M OC CX MC
              have M := M9
              clear M9
              refine HK.out _ _ (.inr (HSI.out _ M.all M.box)) ?_
              clear HK
              go_simp
              refine wpAnyT_take 19 (.agg #[.int .i64 b, .slice (some ⟨ga, 0, none⟩) (k + 1) ca, .slice (some ⟨gb, 0, none⟩) (k + 1) cb]) (by rw [HOPS.out]; rfl) (by rw [HOPS.out]; kernel_rfl) (by exact fun _ _ _ h => h) (by rfl) (fun w1 hS => by go_simp) (HSI.out _ M.all M.box) ?_
              go_simp
              have hfb : w9.frozen? ⟨bo, 0, none⟩ = false ∧ w9.frozen? ⟨bo, 1, none⟩ = false ∧ w9.frozen? ⟨bo, 2, none⟩ = false := ⟨M.box.fz, M.box.fz, M.box.fz⟩
              have hcb : w9.cell? ⟨bo, 0, none⟩ = some (.int .i64 b) ∧ w9.cell? ⟨bo, 1, none⟩ = some (.slice A' k c') ∧ w9.cell? ⟨bo, 2, none⟩ = some (.slice A2 k c2) := ⟨M.box.cell rfl, M.box.cell rfl, M.box.cell rfl⟩
              refine wpAnyT_one 20 (by rw [HOPS.out]; rfl) (by rw [HOPS.out]; kernel_rfl) ?_
              intro K' hK
              have HK := Lib.hid hK
              clear hK
              go_simp
              refine HK.out _ _ (.inl (by decide)) ?_
              clear HK
              go_simp
              refine wpAnyT_done (by rw [HOPS.out]; kernel_rfl) ?_ _
              go_wp2_with fail
              have HO9 := Lib.hid ((((push_pair HOW.out hsr HP1.out (fun _ => HP2.out) HGC.out HGP.out).boxSet (i := 0) M.box (by decide) (by decide) (.int .i64 b)).boxSet (i := 1) (M.box.set 0 _) (by decide) (by decide) (.slice (some ⟨ga, 0, none⟩) (k + 1) ca)).boxSet (i := 2) ((M.box.set 0 _).set 1 _) (by decide) (by decide) (.slice (some ⟨gb, 0, none⟩) (k + 1) cb))
              have HX9 := Lib.hid (((M.box.set 0 (.int .i64 b)).set 1 (.slice (some ⟨ga, 0, none⟩) (k + 1) ca)).set 2 (.slice (some ⟨gb, 0, none⟩) (k + 1) cb))
              have HS9 := Lib.hid ((((HBW.out.trans M.all).setCell (p := ⟨bo, 0, none⟩) hbo2 (.int .i64 b)).setCell (p := ⟨bo, 1, none⟩) hbo2 (.slice (some ⟨ga, 0, none⟩) (k + 1) ca)).setCell (p := ⟨bo, 2, none⟩) hbo2 (.slice (some ⟨gb, 0, none⟩) (k + 1) cb))
              go_roundw
              case rel => exact ⟨k + 1, _, _, _, _, _, _, by omega, by go_num, Lib.hid (by rw [HSP.out, HSK.out]; exact HO9.out), HX9, HS9⟩
              case measure => simp [intOf] <;> omega
          · skip
            intro K' hK
            have HK := Lib.hid hK
            clear hK
            have hxb : wi.heap.size ≤ wd.heap.size := M.bel.size
            go_simp
            obtain ⟨z1, h0, hb, hs0⟩ := alloc_new wd #[.slice (some ⟨gc, 0, none⟩) q.length c5] 35
            rw [← h0]
            replace M := M.below hb
            replace OC := own_below OC hb
            have CX : z1.cell? ⟨wd.heap.size, 0, none⟩ = some (.slice (some ⟨gc, 0, none⟩) q.length c5) := by rw [h0]; exact cell_top _ _ _ rfl rfl
            clear h0 hs0 hb
            refine HK.out _ _ (.inr (HSI.out _ M.all M.box)) ?_
            clear HK
            go_simp
            refine wpAnyT_one 11 (by rw [HOPS.out]; rfl) (by rw [HOPS.out]; kernel_rfl) ?_
            intro K' hK
            have HK := Lib.hid hK
            clear hK
            go_simp
            go_at_call 101
            have MB := M.bel.size
            have hgq : gc < z1.heap.size := (OC.lt _ rfl).2
            refine (HCL.out _ M.bel).mono ?_
            rintro e z2 ⟨gp, cgp, rfl, og, hgp, hb⟩
            replace M := M.below hb
            replace OC := own_below OC hb
            replace CX := cell_bel CX hb
            have O := own_base og (show wi.heap.size ≤ z1.heap.size from MB)
            have HGP := Lib.hid (show gp ≠ gc from by omega)
            clear og hgp hb MB hgq
            refine HK.out _ _ (.inr (HSI.out _ M.all M.box)) ?_
            clear HK
            go_simp
            refine wpAnyT_one 12 (by rw [HOPS.out]; rfl) (by rw [HOPS.out]; kernel_rfl) ?_
            intro K' hK
            have HK := Lib.hid hK
            clear hK
            go_simp
            obtain ⟨z3, h0, hb, hs0⟩ := alloc_new z2 #[.slice (some ⟨gp, 0, none⟩) p.length cgp] 35
            rw [← h0]
            replace M := M.below hb
            replace OC := own_below OC hb
            replace O := own_below O hb
            replace CX := cell_bel CX hb
            have CW : z3.cell? ⟨z2.heap.size, 0, none⟩ = some (.slice (some ⟨gp, 0, none⟩) p.length cgp) := by rw [h0]; exact cell_top _ _ _ rfl rfl
            clear h0 hs0 hb
            refine HK.out _ _ (.inr (HSI.out _ M.all M.box)) ?_
            clear HK
            go_simp
            refine wpAnyT_one 13 (by rw [HOPS.out]; rfl) (by rw [HOPS.out]; kernel_rfl) ?_
            intro K' hK
            have HK := Lib.hid hK
            clear hK
            refine step_row (A := A') (n := k) (c := c') (vs := vs) (base := wg.heap.size) _ rfl _ _ rfl rfl (own_below HOW.out.pts.outer M.bel) rfl CW (by omega) (Nat.le_trans hsr M.bel.size) ?_
            intro ga ca w5 hoa hga hla hlta
            have hP1 := push_row0 HOW.out.pts hsr M.bel O (O.lt _ rfl).1 hsr hga hoa hla
            have M5 : Mid wi w5 wg.heap.size bo #[.int .i64 b, .slice A' k c', .slice A2 k c2] 33 w5 := ⟨Below.refl _ _, hP1.below HOW.out.pts hsr, M.box.grown hga (own_box_ne (own_below HOW.out.pts.outer M.bel) M.box (by decide)), Nat.le_trans hsr hP1.size⟩
            have OC5 : w5.ownsRow wg.heap.size 2 1 (.slice (some ⟨gc, 0, none⟩) q.length c5) q.length (ints q) := OC.kept hga (.inr (fun e => own_type_ne (own_below HOW.out.pts.outer M.bel) OC (by decide) gc e.symm rfl))
            have h5i : wi.heap.size ≤ w5.heap.size := hP1.size
            have hgpc : gp ≠ gc := HGP.out
            have CX5 := cell_grown CX hga (fun e => by have := (HOW.out.pts.in_.1 _ e).2; omega)
            have HP1 := Lib.hid hP1
            clear hP1 hga hla hoa hlta M O CW OC CX
            have M := M5; have OC := OC5; have CX := CX5
            clear M5 OC5 CX5
            refine HK.out _ _ (.inr (HSI.out _ M.all M.box)) ?_
            clear HK
            go_simp
            have HA5 := Lib.hid M.all
            refine wpAnyT_one 18 (by rw [HOPS.out]; rfl) (by rw [HOPS.out]; kernel_rfl) ?_
            intro K' hK
            have HK := Lib.hid hK
            clear hK
            have MC := cds5 HOW.out HP1.out
            refine step_row (A := A2) (n := k) (c := c2) (vs := us) (base := wg.heap.size) _ rfl _ _ rfl rfl (own_below MC.outer M.bel) rfl CX (by omega) (Nat.le_trans M.le M.bel.size) ?_
            intro gb cb w9 hob hgb hlb hltb
            have hP2 := push_row1 MC M.le M.bel OC (fun u hu b hb e => by have := (HOW.out.cds.in_.2 u hu b hb).2; have := HGC.out; omega) (Nat.le_refl _) hgb hob hlb
            have M9 : Mid wi w9 wg.heap.size bo #[.int .i64 b, .slice A' k c', .slice A2 k c2] 33 w9 := ⟨Below.refl _ _, (show Below wg.heap.size wi w5 from HA5.out).trans (hP2.below MC M.le), M.box.grown hgb (own_box_ne (own_below MC.outer M.bel) M.box (by decide)), Nat.le_trans M.le hP2.size⟩
            have HP2 := Lib.hid hP2
            clear hP2 hgb hlb hob hltb M OC CX MC
            have M := M9
            clear M9
            refine HK.out _ _ (.inr (HSI.out _ M.all M.box)) ?_
            clear HK
            go_simp
            refine wpAnyT_take 19 (.agg #[.int .i64 b, .slice (some ⟨ga, 0, none⟩) (k + 1) ca, .slice (some ⟨gb, 0, none⟩) (k + 1) cb]) (by rw [HOPS.out]; rfl) (by rw [HOPS.out]; kernel_rfl) (by exact fun _ _ _ h => h) (by rfl) (fun w1 hS => by go_simp) (HSI.out _ M.all M.box) ?_
            go_simp
            have hfb : w9.frozen? ⟨bo, 0, none⟩ = false ∧ w9.frozen? ⟨bo, 1, none⟩ = false ∧ w9.frozen? ⟨bo, 2, none⟩ = false := ⟨M.box.fz, M.box.fz, M.box.fz⟩
            have hcb : w9.cell? ⟨bo, 0, none⟩ = some (.int .i64 b) ∧ w9.cell? ⟨bo, 1, none⟩ = some (.slice A' k c') ∧ w9.cell? ⟨bo, 2, none⟩ = some (.slice A2 k c2) := ⟨M.box.cell rfl, M.box.cell rfl, M.box.cell rfl⟩
            refine wpAnyT_one 20 (by rw [HOPS.out]; rfl) (by rw [HOPS.out]; kernel_rfl) ?_
            intro K' hK
            have HK := Lib.hid hK
            clear hK
            go_simp
            refine HK.out _ _ (.inl (by decide)) ?_
            clear HK
            go_simp
            refine wpAnyT_done (by rw [HOPS.out]; kernel_rfl) ?_ _
            go_wp2_with fail
            have HO9 := Lib.hid ((((push_pair HOW.out hsr HP1.out (fun _ => HP2.out) HGC.out HGP.out).boxSet (i := 0) M.box (by decide) (by decide) (.int .i64 b)).boxSet (i := 1) (M.box.set 0 _) (by decide) (by decide) (.slice (some ⟨ga, 0, none⟩) (k + 1) ca)).boxSet (i := 2) ((M.box.set 0 _).set 1 _) (by decide) (by decide) (.slice (some ⟨gb, 0, none⟩) (k + 1) cb))
            have HX9 := Lib.hid (((M.box.set 0 (.int .i64 b)).set 1 (.slice (some ⟨ga, 0, none⟩) (k + 1) ca)).set 2 (.slice (some ⟨gb, 0, none⟩) (k + 1) cb))
            have HS9 := Lib.hid ((((HBW.out.trans M.all).setCell (p := ⟨bo, 0, none⟩) hbo2 (.int .i64 b)).setCell (p := ⟨bo, 1, none⟩) hbo2 (.slice (some ⟨ga, 0, none⟩) (k + 1) ca)).setCell (p := ⟨bo, 2, none⟩) hbo2 (.slice (some ⟨gb, 0, none⟩) (k + 1) cb))
            go_roundw
            case rel => exact ⟨k + 1, _, _, _, _, _, _, by omega, by go_num, Lib.hid (by rw [HSP.out, HSK.out]; exact HO9.out), HX9, HS9⟩
            case measure => simp [intOf] <;> omega
    · obtain rfl : k = n := by omega
      have F1 := (X1.kept HBW.out (by omega)).f3
      have F2 := X2'.out.f3
      have hbo9 := X2'.out.lt
      go_wp2_with fail
      refine bodyPost_ret (v := .tuple #[.agg #[.int .i64 b, .slice A' k c', .slice A2 k c2], .int .i64 0]) (by simp [results, Tryz.results79, go_sem, F1]) rfl ?_
      have hch := put_chg (g := w.heap.size + 1) [.int .i64 b, .slice A' k c', .slice A2 k c2] 0 (Chg.refl (w.heap.size + 1) (w.heap.size + 1 + 1) wi) (by omega) (by omega)
      have hso := (HOW.out.chg hch HOW.out.in_ (.inr (by omega))).base' (show w.heap.size ≤ wg.heap.size by omega)
      rw [List.take_of_length_le (by rw [List.length_map, HLN.out]; exact Nat.le_refl _), List.take_of_length_le (by rw [List.length_map, HLN.out]; exact Nat.le_refl _)] at hso
      exact ⟨A', k, c', vs, A2, k, c2, us, rfl, hso, HSUM.out, below_chg HBW0.out hch (by omega) (by have := HBW0.out.size; omega)⟩
end Go.Proofs.YtalgdeieejpelaaGreatDoor

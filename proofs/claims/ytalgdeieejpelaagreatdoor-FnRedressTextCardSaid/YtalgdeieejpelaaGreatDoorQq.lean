/- Walks: redress read from a text, the reference's side. -/
import Derived.Test.YtalgdeieejpelaaGreatDoorQp
namespace Go.Proofs.YtalgdeieejpelaaGreatDoor
open Go.RowKit Go.Sort
set_option linter.unusedVariables false
set_option maxRecDepth 100000

theorem str_before : str kBefore = ⟨#[98, 101, 102, 111, 114, 101]⟩ := rfl
set_option maxHeartbeats 8000000 in
theorem specRead_any (s : ByteArray) (hs : s.size ≤ 2097152) (w : World) :
    Calls Tryz.prog 9 #[.string s] w (RetRd w (specR s.data.toList)) := by
  obtain ⟨wa, hwa, XR, hba, hsa⟩ := one_box w #[.int .i64 0, .int .i64 0, .int .i64 0, .int .i64 0] 25
  have HWA := Lib.hid hwa
  have HX := Lib.hid XR
  have HBA := Lib.hid hba
  have HWO := Lib.hid (split26_any s hs wa)
  have HSH := Lib.hid (show ∀ x ∈ wordsL s.data.toList, x.length ≤ 2097152 from word_short hs)
  have HL1 := Lib.hid (show s.data.toList = [] → (wordsL s.data.toList).length = 1 from fun e => by rw [e]; rfl)
  have hL : specR s.data.toList = specR s.data.toList := rfl
  conv at hL => rhs; unfold specR
  have hst := str_data s
  have hle : s.toList.isEmpty = s.data.toList.isEmpty := by rw [ByteArray.toList_eq]
  have hle2 : (s.toList = []) = (s.data.toList = []) := by rw [ByteArray.toList_eq]
  generalize s.data.toList = L at *
  generalize wordsL L = ws at *
  generalize specR L = R at *
  have HEQ := Lib.hid hL
  have HST := Lib.hid hst
  clear XR hba hsa hwa hL hst
  by_cases hnil : L = []
  · have h1 := HL1.out hnil
    have heq := HEQ.out
    rw [if_pos (.inl (by omega))] at heq
    have HE2 := Lib.hid heq
    clear heq hle hle2 hnil
    go_enter Tryz.func9, Tryz.ntmps9
    go_wp2_with fail
    rw [← HWA.out]
    clear HWA
    refine HWO.out.mono ?_
    rintro e w1 ⟨A, n, c, rfl, hrd, hb⟩
    have hln := hrd.len_str
    have HB1 := Lib.hid (HBA.out.trans (hb.mono HBA.out.size))
    have FX := (HX.out.below hb).f4
    have h3b : decide ((n : Int) < 3) = true := by simp; omega
    clear hb HWO HX HBA hrd hln h1
    go_wp2_with fail
    refine bodyPost_ret (v := .tuple #[.agg #[.int .i64 0, .int .i64 0, .int .i64 0, .int .i64 0], .bool false]) (by simp [results, Tryz.results9, go_sem, FX]) rfl ?_
    rw [HE2.out]
    have hput := put_chg (g := w.heap.size) [.int .i64 0, .int .i64 0, .int .i64 0, .int .i64 0] 0 (Chg.refl w.heap.size (w.heap.size + 1) w1) (Nat.le_refl _) (by omega)
    exact ⟨rfl, below_chg HB1.out hput (Nat.le_refl _) HB1.out.size⟩
  have hem : s.toList.isEmpty = false := by rw [hle]; simp [hnil]
  have hem2 : (s.toList = []) = False := by rw [hle2]; simp [hnil]
  have HNIL := Lib.hid hnil
  clear hle hle2 hnil
  go_enter Tryz.func9, Tryz.ntmps9
  go_wp2_with fail
  rw [← HWA.out]
  clear HWA
  refine HWO.out.mono ?_
  rintro e w1 ⟨A, n, c, rfl, hrd, hb⟩
  have hln := hrd.len_str
  have HB1 := Lib.hid (HBA.out.trans (hb.mono HBA.out.size))
  have HX1 := Lib.hid (HX.out.below hb)
  have HRD := Lib.hid hrd
  have HLEN := Lib.hid hln
  clear hb HWO HX HBA hrd
  by_cases h34 : n < 3 ∨ 4 < n
  · have heq := HEQ.out
    rw [if_pos (by rw [hln]; exact h34)] at heq
    have HE2 := Lib.hid heq
    have FX := HX1.out.f4
    clear heq HEQ hln
    by_cases h3 : n < 3
    · have h3b : decide ((n : Int) < 3) = true := by simp; omega
      go_wp2_with fail
      refine bodyPost_ret (v := .tuple #[.agg #[.int .i64 0, .int .i64 0, .int .i64 0, .int .i64 0], .bool false]) (by simp [results, Tryz.results9, go_sem, FX]) rfl ?_
      rw [HE2.out]
      have hput := put_chg (g := w.heap.size) [.int .i64 0, .int .i64 0, .int .i64 0, .int .i64 0] 0 (Chg.refl w.heap.size (w.heap.size + 1) w1) (Nat.le_refl _) (by omega)
      exact ⟨rfl, below_chg HB1.out hput (Nat.le_refl _) HB1.out.size⟩
    · have h3b : decide ((n : Int) < 3) = false := by simp; omega
      have h4b : decide ((4 : Int) < (n : Int)) = true := by simp; omega
      go_wp2_with fail
      refine bodyPost_ret (v := .tuple #[.agg #[.int .i64 0, .int .i64 0, .int .i64 0, .int .i64 0], .bool false]) (by simp [results, Tryz.results9, go_sem, FX]) rfl ?_
      rw [HE2.out]
      have hput := put_chg (g := w.heap.size) [.int .i64 0, .int .i64 0, .int .i64 0, .int .i64 0] 0 (Chg.refl w.heap.size (w.heap.size + 1) w1) (Nat.le_refl _) (by omega)
      exact ⟨rfl, below_chg HB1.out hput (Nat.le_refl _) HB1.out.size⟩
  have heq := HEQ.out
  rw [if_neg (by rw [hln]; exact h34)] at heq
  have HEQ2 := Lib.hid heq
  have h3b : decide ((n : Int) < 3) = false := by simp; omega
  have h4b : decide ((4 : Int) < (n : Int)) = false := by simp; omega
  have hn : n = 3 ∨ n = 4 := by omega
  clear heq HEQ hln h34
  obtain ⟨b, of, x0, rfl, g0, _, c0⟩ := HRD.out.str (k := 0) (by omega)
  obtain ⟨b', of', x1, e1, g1, _, c1⟩ := HRD.out.str (k := 1) (by omega)
  injection e1 with e1
  injection e1 with e1 e2
  subst e1; subst e2
  obtain ⟨b', of', x2, e1, g2, _, c2⟩ := HRD.out.str (k := 2) (by omega)
  injection e1 with e1
  injection e1 with e1 e2
  subst e1; subst e2
  rw [Nat.add_zero] at c0
  have HG0 := Lib.hid (show ws.getD 0 [] = x0 from by simp [List.getD, g0])
  have HG1 := Lib.hid (show ws.getD 1 [] = x1 from by simp [List.getD, g1])
  have HG2 := Lib.hid (show ws.getD 2 [] = x2 from by simp [List.getD, g2])
  have HR0 := Lib.hid (fun w' => read26_any (str x0) (by rw [str_size]; exact HSH.out x0 (List.mem_of_getElem? g0)) w')
  have HR1 := Lib.hid (fun w' => read26_any (str x1) (by rw [str_size]; exact HSH.out x1 (List.mem_of_getElem? g1)) w')
  rw [str_list] at HR0 HR1
  obtain ⟨S, hSE, hSI⟩ : ∃ S : World → Prop, (∀ w9, S w9 → w9.cell? ⟨b, of, none⟩ = some (.string (str x0)) ∧ w9.cell? ⟨b, of + 1, none⟩ = some (.string (str x1))) ∧ (∀ w9, Below w1.heap.size w1 w9 → S w9) := ⟨fun w9 => w9.cell? ⟨b, of, none⟩ = some (.string (str x0)) ∧ w9.cell? ⟨b, of + 1, none⟩ = some (.string (str x1)), fun _ h => h, fun _ h => ⟨(h.cell (p := ⟨b, of, none⟩) (cell_lt c0)).trans c0, (h.cell (p := ⟨b, of + 1, none⟩) (cell_lt c1)).trans c1⟩⟩
  have HSE := Lib.hid hSE; have HSI := Lib.hid hSI
  have HBw1 := Lib.hid (below_drewN' w1.heap.size w1 1)
  have hn0 : 0 < n := by omega
  have hn1 : 1 < n := by omega
  obtain ⟨r0, hr0⟩ : ∃ r0, r0 = rdF x0 := ⟨_, rfl⟩
  obtain ⟨b0, hb0⟩ : ∃ b0, b0 = rdF x1 := ⟨_, rfl⟩
  rw [← hr0] at HR0
  rw [← hb0] at HR1
  have HSX := Lib.hid (show specX ws = (r0, b0, if n = 4 then 3 else if x2 = kBefore then 2 else 1, if n = 4 then rdF (ws.getD 3 []) else 0) from by unfold specX; rw [HG0.out, HG1.out, HG2.out, HLEN.out, hr0, hb0])
  clear hSE hSI c0 c1 g0 g1 hr0 hb0
  go_wp2_with fail
  refine wp_region_T2 (n := 11) S (fun _ => false) (by kernel_rfl) rfl ?_
  intro ops HOPS
  refine wpAnyT_take 0 (.slice (some ⟨b, of, none⟩) n c) (by rw [HOPS.out]; rfl) (by rw [HOPS.out]; kernel_rfl) (by exact fun _ _ _ h => h) (by rfl) (fun w1 hS => by obtain ⟨k0, k1⟩ := HSE.out _ hS; go_simp <;> (intro h9; omega)) (HSI.out _ HBw1.out) ?_
  go_simp
  refine wpAnyT_take 1 (.pointer (some ⟨b, of, none⟩)) (by rw [HOPS.out]; rfl) (by rw [HOPS.out]; kernel_rfl) (by exact fun _ _ _ h => h) (by rfl) (fun w1 hS => by obtain ⟨k0, k1⟩ := HSE.out _ hS; go_simp <;> (intro h9; omega)) (HSI.out _ HBw1.out) ?_
  go_simp
  refine wpAnyT_take 2 (.string (str x0)) (by rw [HOPS.out]; rfl) (by rw [HOPS.out]; kernel_rfl) (by exact fun _ _ _ h => h) (by rfl) (fun w1 hS => by obtain ⟨k0, k1⟩ := HSE.out _ hS; go_simp <;> (intro h9; omega)) (HSI.out _ HBw1.out) ?_
  go_simp
  refine wpAnyT_take 4 (.slice (some ⟨b, of, none⟩) n c) (by rw [HOPS.out]; rfl) (by rw [HOPS.out]; kernel_rfl) (by exact fun _ _ _ h => h) (by rfl) (fun w1 hS => by obtain ⟨k0, k1⟩ := HSE.out _ hS; go_simp <;> (intro h9; omega)) (HSI.out _ HBw1.out) ?_
  go_simp
  refine wpAnyT_take 5 (.pointer (some ⟨b, of + 1, none⟩)) (by rw [HOPS.out]; rfl) (by rw [HOPS.out]; kernel_rfl) (by exact fun _ _ _ h => h) (by rfl) (fun w1 hS => by obtain ⟨k0, k1⟩ := HSE.out _ hS; go_simp <;> (intro h9; omega)) (HSI.out _ HBw1.out) ?_
  go_simp
  refine wpAnyT_take 6 (.string (str x1)) (by rw [HOPS.out]; rfl) (by rw [HOPS.out]; kernel_rfl) (by exact fun _ _ _ h => h) (by rfl) (fun w1 hS => by obtain ⟨k0, k1⟩ := HSE.out _ hS; go_simp <;> (intro h9; omega)) (HSI.out _ HBw1.out) ?_
  go_simp
  refine wpAnyT_two 3 9 (by rw [HOPS.out]; rfl) (by rw [HOPS.out]; rfl) (by rw [HOPS.out]; kernel_rfl) ?_ ?_
  · intro K' hK
    have HK := Lib.hid hK
    clear hK
    go_simp
    go_at_call 24
    refine (HR0.out _).mono ?_
    rintro e v1 ⟨rfl, hb⟩
    have HBv1 := Lib.hid (HBw1.out.trans (hb.mono HBw1.out.size))
    clear hb
    refine HK.out _ _ (.inr (HSI.out _ HBv1.out)) ?_
    clear HK
    go_simp
    refine wpAnyT_two 7 9 (by rw [HOPS.out]; rfl) (by rw [HOPS.out]; rfl) (by rw [HOPS.out]; kernel_rfl) ?_ ?_
    · intro K' hK
      have HK := Lib.hid hK
      clear hK
      go_simp
      go_at_call 24
      refine (HR1.out _).mono ?_
      rintro e v2 ⟨rfl, hb⟩
      have HBv2 := Lib.hid (HBv1.out.trans (hb.mono HBv1.out.size))
      clear hb
      refine HK.out _ _ (.inr (HSI.out _ HBv2.out)) ?_
      clear HK
      go_simp
      refine wpAnyT_take 8 (.agg #[.int .i64 r0, .int .i64 b0, .int .i64 1, .int .i64 0]) (by rw [HOPS.out]; rfl) (by rw [HOPS.out]; kernel_rfl) (by exact fun _ _ _ h => h) (by rfl) (fun w1 hS => by obtain ⟨k0, k1⟩ := HSE.out _ hS; go_simp <;> (intro h9; omega)) (HSI.out _ HBv2.out) ?_
      go_simp
      refine wpAnyT_one 9 (by rw [HOPS.out]; rfl) (by rw [HOPS.out]; kernel_rfl) ?_
      intro K' hK
      have HK := Lib.hid hK
      clear hK
      go_simp
      refine HK.out _ _ (.inr (HSI.out _ (HBv2.out.trans (((Below.refl _ _).alloc (Nat.le_refl _) _).mono HBv2.out.size)))) ?_
      clear HK
      go_simp
      refine gen_world (p := fun wz => wpAnyT _ _ _ _ _ _ _ _ _ wz) (fun wz => Box wz v2.heap.size #[.int .i64 0, .int .i64 0, .int .i64 0, .int .i64 0] 25 ∧ Below v2.heap.size v2 wz) ⟨Box.new v2 #[.int .i64 0, .int .i64 0, .int .i64 0, .int .i64 0] 25, (Below.refl _ _).alloc (Nat.le_refl _) _⟩ ?_
      rintro v3 ⟨hbx, hbz⟩
      have HBv3 := Lib.hid (HBv2.out.trans (hbz.mono HBv2.out.size))
      have hwb : w.heap.size < w1.heap.size := HX1.out.lt
      have hcb : w1.heap.size ≤ v2.heap.size := HBv2.out.size
      have HZv3 := Lib.hid hbx
      obtain ⟨nb, hnb⟩ : ∃ nb, nb = v2.heap.size := ⟨_, rfl⟩
      rw [← hnb] at HZv3 ⊢
      have hnw : w1.heap.size ≤ nb := by omega
      clear hbx hbz hnb hcb
      have HP := Lib.hid (show Below w1.heap.size w1 ((((v3.setCell ⟨nb, 0, none⟩ (.int .i64 r0)).setCell ⟨nb, 1, none⟩ (.int .i64 b0)).setCell ⟨nb, 2, none⟩ (.int .i64 1)).setCell ⟨nb, 3, none⟩ (.int .i64 0)) from by (repeat refine Below.setCell ?_ (by simp; omega) _); exact HBv3.out)
      have HQ := Lib.hid (show Box ((((v3.setCell ⟨nb, 0, none⟩ (.int .i64 r0)).setCell ⟨nb, 1, none⟩ (.int .i64 b0)).setCell ⟨nb, 2, none⟩ (.int .i64 1)).setCell ⟨nb, 3, none⟩ (.int .i64 0)) nb #[.int .i64 r0, .int .i64 b0, .int .i64 1, .int .i64 0] 25 from by have := (((HZv3.out.set 0 (.int .i64 r0)).set 1 (.int .i64 b0)).set 2 (.int .i64 1)).set 3 (.int .i64 0); simpa using this)
      obtain ⟨w4, hw4⟩ : ∃ w4 : World, w4 = ((((v3.setCell ⟨nb, 0, none⟩ (.int .i64 r0)).setCell ⟨nb, 1, none⟩ (.int .i64 b0)).setCell ⟨nb, 2, none⟩ (.int .i64 1)).setCell ⟨nb, 3, none⟩ (.int .i64 0)) := ⟨_, rfl⟩
      rw [← hw4] at HP HQ
      have HW4 := Lib.hid hw4
      clear hw4
      refine wpAnyT_one 10 (by rw [HOPS.out]; rfl) (by rw [HOPS.out]; kernel_rfl) ?_
      intro K' hK
      have HK := Lib.hid hK
      clear hK
      have FZ := HZv3.out.f4
      go_simp
      refine HK.out _ _ (.inr (HSI.out _ (by rw [← HW4.out]; exact HP.out))) ?_
      clear HK
      go_simp
      rw [← HW4.out]
      clear HW4 FZ
      refine wpAnyT_done (by rw [HOPS.out]; kernel_rfl) ?_ _
      have HBQ := Lib.hid (HB1.out.trans (HP.out.mono HB1.out.size))
      have HXQ := Lib.hid (HX1.out.below HP.out)
      have HRQ := Lib.hid (HRD.out.below HP.out)
      have k2 := (HP.out.cell (p := ⟨b, of + 2, none⟩) (cell_lt c2)).trans c2
      have hn2 : 2 < n := by omega
      clear c2
      have FQ := HQ.out.f4
      have hnlt := HQ.out.lt
      rcases hn with rfl | rfl
      · by_cases hbf : x2 = kBefore
        · subst hbf
          rw [str_before] at k2
          have HSY := Lib.hid (show specX ws = (r0, b0, 2, 0) from by rw [HSX.out, if_neg (by decide), if_pos rfl, if_neg (by decide)])
          have HB7 := Lib.hid (show Below w.heap.size w (w4.setCell ⟨nb, 2, none⟩ (.int .i64 2)) from (Below.setCell HBQ.out (by simp; omega) _))
          have HX7 := Lib.hid (show Box (w4.setCell ⟨nb, 2, none⟩ (.int .i64 2)) w.heap.size #[.int .i64 0, .int .i64 0, .int .i64 0, .int .i64 0] 25 from (HXQ.out.other (c := nb) (i := 2) (by omega) (.int .i64 2)))
          have HQ7 := Lib.hid (show Box (w4.setCell ⟨nb, 2, none⟩ (.int .i64 2)) nb #[.int .i64 r0, .int .i64 b0, .int .i64 2, .int .i64 0] 25 from by have := (HQ.out.set 2 (.int .i64 2)); simpa using this)
          have HB8 := HB7
          have HX8 := HX7
          have HQ8 := HQ7
          have HT := Lib.hid (fun w' => specRedText_any r0 b0 2 0 w')
          have heq := HEQ2.out
          rw [HSY.out] at heq
          by_cases hE : redS (r0, b0, 2, 0) = L
          · rw [if_neg (by rintro (h | h); exact HNIL.out h; exact h hE)] at heq
            have HE3 := Lib.hid heq
            have hZ : str (redS (r0, b0, 2, 0)) = s := by rw [hE, HST.out]
            rw [hZ] at HT
            clear heq hE hZ
            go_wp2_with fail
            refine (HT.out _).mono ?_
            rintro e w9 ⟨rfl, hb⟩
            have HB9 := Lib.hid (HB8.out.trans (hb.mono HB8.out.size))
            have FR := (HX8.out.below hb).f4
            have FZ := (HQ8.out.below hb).f4
            clear hb FQ
            go_wp2_with fail
            refine bodyPost_ret (v := .tuple #[.agg #[.int .i64 r0, .int .i64 b0, .int .i64 2, .int .i64 0], .bool true]) (by simp [results, Tryz.results9, go_sem, FR]) rfl ?_
            rw [HE3.out]
            have hput := put_chg (g := w.heap.size) [.int .i64 r0, .int .i64 b0, .int .i64 2, .int .i64 0] 0 (Chg.refl w.heap.size (w.heap.size + 1) w9) (Nat.le_refl _) (by omega)
            exact ⟨rfl, below_chg HB9.out hput (Nat.le_refl _) HB9.out.size⟩
          · rw [if_pos (.inr hE)] at heq
            have HE3 := Lib.hid heq
            have hZ : ((str (redS (r0, b0, 2, 0))).toList == s.toList) = false := ne_list (fun e => hE (by rw [← str_list (redS (r0, b0, 2, 0)), e, ← HST.out, str_list]))
            generalize str (redS (r0, b0, 2, 0)) = Z at *
            clear heq hE
            go_wp2_with fail
            refine (HT.out _).mono ?_
            rintro e w9 ⟨rfl, hb⟩
            have HB9 := Lib.hid (HB8.out.trans (hb.mono HB8.out.size))
            have FR := (HX8.out.below hb).f4
            clear hb FQ
            go_wp2_with fail
            refine bodyPost_ret (v := .tuple #[.agg #[.int .i64 0, .int .i64 0, .int .i64 0, .int .i64 0], .bool false]) (by simp [results, Tryz.results9, go_sem, FR]) rfl ?_
            rw [HE3.out]
            have hput := put_chg (g := w.heap.size) [.int .i64 0, .int .i64 0, .int .i64 0, .int .i64 0] 0 (Chg.refl w.heap.size (w.heap.size + 1) w9) (Nat.le_refl _) (by omega)
            exact ⟨rfl, below_chg HB9.out hput (Nat.le_refl _) HB9.out.size⟩
        · have hbn : ((str x2).toList == [98, 101, 102, 111, 114, 101]) = false := by rw [ByteArray.toList_eq, str_list]; exact beq_eq_false_iff_ne.2 hbf
          have HBF := Lib.hid hbf
          have HSY := Lib.hid (show specX ws = (r0, b0, 1, 0) from by rw [HSX.out, if_neg (by decide), if_neg hbf, if_neg (by decide)])
          clear hbf
          have HB7 := HBQ
          have HX7 := HXQ
          have HQ7 := HQ
          have HB8 := HB7
          have HX8 := HX7
          have HQ8 := HQ7
          have HT := Lib.hid (fun w' => specRedText_any r0 b0 1 0 w')
          have heq := HEQ2.out
          rw [HSY.out] at heq
          by_cases hE : redS (r0, b0, 1, 0) = L
          · rw [if_neg (by rintro (h | h); exact HNIL.out h; exact h hE)] at heq
            have HE3 := Lib.hid heq
            have hZ : str (redS (r0, b0, 1, 0)) = s := by rw [hE, HST.out]
            rw [hZ] at HT
            clear heq hE hZ
            go_wp2_with fail
            refine (HT.out _).mono ?_
            rintro e w9 ⟨rfl, hb⟩
            have HB9 := Lib.hid (HB8.out.trans (hb.mono HB8.out.size))
            have FR := (HX8.out.below hb).f4
            have FZ := (HQ8.out.below hb).f4
            clear hb FQ
            go_wp2_with fail
            refine bodyPost_ret (v := .tuple #[.agg #[.int .i64 r0, .int .i64 b0, .int .i64 1, .int .i64 0], .bool true]) (by simp [results, Tryz.results9, go_sem, FR]) rfl ?_
            rw [HE3.out]
            have hput := put_chg (g := w.heap.size) [.int .i64 r0, .int .i64 b0, .int .i64 1, .int .i64 0] 0 (Chg.refl w.heap.size (w.heap.size + 1) w9) (Nat.le_refl _) (by omega)
            exact ⟨rfl, below_chg HB9.out hput (Nat.le_refl _) HB9.out.size⟩
          · rw [if_pos (.inr hE)] at heq
            have HE3 := Lib.hid heq
            have hZ : ((str (redS (r0, b0, 1, 0))).toList == s.toList) = false := ne_list (fun e => hE (by rw [← str_list (redS (r0, b0, 1, 0)), e, ← HST.out, str_list]))
            generalize str (redS (r0, b0, 1, 0)) = Z at *
            clear heq hE
            go_wp2_with fail
            refine (HT.out _).mono ?_
            rintro e w9 ⟨rfl, hb⟩
            have HB9 := Lib.hid (HB8.out.trans (hb.mono HB8.out.size))
            have FR := (HX8.out.below hb).f4
            clear hb FQ
            go_wp2_with fail
            refine bodyPost_ret (v := .tuple #[.agg #[.int .i64 0, .int .i64 0, .int .i64 0, .int .i64 0], .bool false]) (by simp [results, Tryz.results9, go_sem, FR]) rfl ?_
            rw [HE3.out]
            have hput := put_chg (g := w.heap.size) [.int .i64 0, .int .i64 0, .int .i64 0, .int .i64 0] 0 (Chg.refl w.heap.size (w.heap.size + 1) w9) (Nat.le_refl _) (by omega)
            exact ⟨rfl, below_chg HB9.out hput (Nat.le_refl _) HB9.out.size⟩
      · obtain ⟨b', of', x3, e1, g3, _, c3⟩ := HRQ.out.str (k := 3) (by omega)
        injection e1 with e1
        injection e1 with e1 e2
        subst e1; subst e2
        have HR3 := Lib.hid (fun w' => read26_any (str x3) (by rw [str_size]; exact HSH.out x3 (List.mem_of_getElem? g3)) w')
        rw [str_list] at HR3
        have hg3 : ws.getD 3 [] = x3 := by simp [List.getD, g3]
        have HSY := Lib.hid (show specX ws = (r0, b0, 3, rdF x3) from by rw [HSX.out, if_pos rfl, if_pos rfl, hg3])
        generalize rdF x3 = p3 at *
        clear g3 hg3
        by_cases hbf : x2 = kBefore
        · subst hbf
          rw [str_before] at k2
          have HB7 := Lib.hid (show Below w.heap.size w ((w4.setCell ⟨nb, 2, none⟩ (.int .i64 2)).setCell ⟨nb, 2, none⟩ (.int .i64 3)) from (Below.setCell (Below.setCell HBQ.out (by simp; omega) _) (by simp; omega) _))
          have HX7 := Lib.hid (show Box ((w4.setCell ⟨nb, 2, none⟩ (.int .i64 2)).setCell ⟨nb, 2, none⟩ (.int .i64 3)) w.heap.size #[.int .i64 0, .int .i64 0, .int .i64 0, .int .i64 0] 25 from ((HXQ.out.other (c := nb) (i := 2) (by omega) (.int .i64 2)).other (c := nb) (i := 2) (by omega) (.int .i64 3)))
          have HQ7 := Lib.hid (show Box ((w4.setCell ⟨nb, 2, none⟩ (.int .i64 2)).setCell ⟨nb, 2, none⟩ (.int .i64 3)) nb #[.int .i64 r0, .int .i64 b0, .int .i64 3, .int .i64 0] 25 from by have := ((HQ.out.set 2 (.int .i64 2)).set 2 (.int .i64 3)); simpa using this)
          go_wp2_with fail
          refine (HR3.out _).mono ?_
          rintro e w8 ⟨rfl, hb⟩
          have HB8 := Lib.hid (show Below w.heap.size w (w8.setCell ⟨nb, 3, none⟩ (.int .i64 p3)) from (HB7.out.trans (hb.mono HB7.out.size)).setCell (by simp; omega) _)
          have HQ70 := Lib.hid (HQ7.out.below hb)
          have HX8 := Lib.hid ((HX7.out.below hb).other (c := nb) (i := 3) (by omega) (.int .i64 p3))
          have HQ8 := Lib.hid (show Box (w8.setCell ⟨nb, 3, none⟩ (.int .i64 p3)) nb #[.int .i64 r0, .int .i64 b0, .int .i64 3, .int .i64 p3] 25 from by have := HQ70.out.set 3 (.int .i64 p3); simpa using this)
          clear hb FQ HX7 HB7 HQ7
          have FQ := HQ70.out.f4
          have HT := Lib.hid (fun w' => specRedText_any r0 b0 3 p3 w')
          have heq := HEQ2.out
          rw [HSY.out] at heq
          by_cases hE : redS (r0, b0, 3, p3) = L
          · rw [if_neg (by rintro (h | h); exact HNIL.out h; exact h hE)] at heq
            have HE3 := Lib.hid heq
            have hZ : str (redS (r0, b0, 3, p3)) = s := by rw [hE, HST.out]
            rw [hZ] at HT
            clear heq hE hZ
            go_wp2_with fail
            refine (HT.out _).mono ?_
            rintro e w9 ⟨rfl, hb⟩
            have HB9 := Lib.hid (HB8.out.trans (hb.mono HB8.out.size))
            have FR := (HX8.out.below hb).f4
            have FZ := (HQ8.out.below hb).f4
            clear hb FQ
            go_wp2_with fail
            refine bodyPost_ret (v := .tuple #[.agg #[.int .i64 r0, .int .i64 b0, .int .i64 3, .int .i64 p3], .bool true]) (by simp [results, Tryz.results9, go_sem, FR]) rfl ?_
            rw [HE3.out]
            have hput := put_chg (g := w.heap.size) [.int .i64 r0, .int .i64 b0, .int .i64 3, .int .i64 p3] 0 (Chg.refl w.heap.size (w.heap.size + 1) w9) (Nat.le_refl _) (by omega)
            exact ⟨rfl, below_chg HB9.out hput (Nat.le_refl _) HB9.out.size⟩
          · rw [if_pos (.inr hE)] at heq
            have HE3 := Lib.hid heq
            have hZ : ((str (redS (r0, b0, 3, p3))).toList == s.toList) = false := ne_list (fun e => hE (by rw [← str_list (redS (r0, b0, 3, p3)), e, ← HST.out, str_list]))
            generalize str (redS (r0, b0, 3, p3)) = Z at *
            clear heq hE
            go_wp2_with fail
            refine (HT.out _).mono ?_
            rintro e w9 ⟨rfl, hb⟩
            have HB9 := Lib.hid (HB8.out.trans (hb.mono HB8.out.size))
            have FR := (HX8.out.below hb).f4
            clear hb FQ
            go_wp2_with fail
            refine bodyPost_ret (v := .tuple #[.agg #[.int .i64 0, .int .i64 0, .int .i64 0, .int .i64 0], .bool false]) (by simp [results, Tryz.results9, go_sem, FR]) rfl ?_
            rw [HE3.out]
            have hput := put_chg (g := w.heap.size) [.int .i64 0, .int .i64 0, .int .i64 0, .int .i64 0] 0 (Chg.refl w.heap.size (w.heap.size + 1) w9) (Nat.le_refl _) (by omega)
            exact ⟨rfl, below_chg HB9.out hput (Nat.le_refl _) HB9.out.size⟩
        · have hbn : ((str x2).toList == [98, 101, 102, 111, 114, 101]) = false := by rw [ByteArray.toList_eq, str_list]; exact beq_eq_false_iff_ne.2 hbf
          have HBF := Lib.hid hbf
          clear hbf
          have HB7 := Lib.hid (show Below w.heap.size w (w4.setCell ⟨nb, 2, none⟩ (.int .i64 3)) from (Below.setCell HBQ.out (by simp; omega) _))
          have HX7 := Lib.hid (show Box (w4.setCell ⟨nb, 2, none⟩ (.int .i64 3)) w.heap.size #[.int .i64 0, .int .i64 0, .int .i64 0, .int .i64 0] 25 from (HXQ.out.other (c := nb) (i := 2) (by omega) (.int .i64 3)))
          have HQ7 := Lib.hid (show Box (w4.setCell ⟨nb, 2, none⟩ (.int .i64 3)) nb #[.int .i64 r0, .int .i64 b0, .int .i64 3, .int .i64 0] 25 from by have := (HQ.out.set 2 (.int .i64 3)); simpa using this)
          go_wp2_with fail
          refine (HR3.out _).mono ?_
          rintro e w8 ⟨rfl, hb⟩
          have HB8 := Lib.hid (show Below w.heap.size w (w8.setCell ⟨nb, 3, none⟩ (.int .i64 p3)) from (HB7.out.trans (hb.mono HB7.out.size)).setCell (by simp; omega) _)
          have HQ70 := Lib.hid (HQ7.out.below hb)
          have HX8 := Lib.hid ((HX7.out.below hb).other (c := nb) (i := 3) (by omega) (.int .i64 p3))
          have HQ8 := Lib.hid (show Box (w8.setCell ⟨nb, 3, none⟩ (.int .i64 p3)) nb #[.int .i64 r0, .int .i64 b0, .int .i64 3, .int .i64 p3] 25 from by have := HQ70.out.set 3 (.int .i64 p3); simpa using this)
          clear hb FQ HX7 HB7 HQ7
          have FQ := HQ70.out.f4
          have HT := Lib.hid (fun w' => specRedText_any r0 b0 3 p3 w')
          have heq := HEQ2.out
          rw [HSY.out] at heq
          by_cases hE : redS (r0, b0, 3, p3) = L
          · rw [if_neg (by rintro (h | h); exact HNIL.out h; exact h hE)] at heq
            have HE3 := Lib.hid heq
            have hZ : str (redS (r0, b0, 3, p3)) = s := by rw [hE, HST.out]
            rw [hZ] at HT
            clear heq hE hZ
            go_wp2_with fail
            refine (HT.out _).mono ?_
            rintro e w9 ⟨rfl, hb⟩
            have HB9 := Lib.hid (HB8.out.trans (hb.mono HB8.out.size))
            have FR := (HX8.out.below hb).f4
            have FZ := (HQ8.out.below hb).f4
            clear hb FQ
            go_wp2_with fail
            refine bodyPost_ret (v := .tuple #[.agg #[.int .i64 r0, .int .i64 b0, .int .i64 3, .int .i64 p3], .bool true]) (by simp [results, Tryz.results9, go_sem, FR]) rfl ?_
            rw [HE3.out]
            have hput := put_chg (g := w.heap.size) [.int .i64 r0, .int .i64 b0, .int .i64 3, .int .i64 p3] 0 (Chg.refl w.heap.size (w.heap.size + 1) w9) (Nat.le_refl _) (by omega)
            exact ⟨rfl, below_chg HB9.out hput (Nat.le_refl _) HB9.out.size⟩
          · rw [if_pos (.inr hE)] at heq
            have HE3 := Lib.hid heq
            have hZ : ((str (redS (r0, b0, 3, p3))).toList == s.toList) = false := ne_list (fun e => hE (by rw [← str_list (redS (r0, b0, 3, p3)), e, ← HST.out, str_list]))
            generalize str (redS (r0, b0, 3, p3)) = Z at *
            clear heq hE
            go_wp2_with fail
            refine (HT.out _).mono ?_
            rintro e w9 ⟨rfl, hb⟩
            have HB9 := Lib.hid (HB8.out.trans (hb.mono HB8.out.size))
            have FR := (HX8.out.below hb).f4
            clear hb FQ
            go_wp2_with fail
            refine bodyPost_ret (v := .tuple #[.agg #[.int .i64 0, .int .i64 0, .int .i64 0, .int .i64 0], .bool false]) (by simp [results, Tryz.results9, go_sem, FR]) rfl ?_
            rw [HE3.out]
            have hput := put_chg (g := w.heap.size) [.int .i64 0, .int .i64 0, .int .i64 0, .int .i64 0] 0 (Chg.refl w.heap.size (w.heap.size + 1) w9) (Nat.le_refl _) (by omega)
            exact ⟨rfl, below_chg HB9.out hput (Nat.le_refl _) HB9.out.size⟩
    · intro K' hK
      have HK := Lib.hid hK
      clear hK
      go_simp
      refine HK.out _ _ (.inr (HSI.out _ (HBv1.out.trans (((Below.refl _ _).alloc (Nat.le_refl _) _).mono HBv1.out.size)))) ?_
      clear HK
      go_simp
      refine gen_world (p := fun wz => wpAnyT _ _ _ _ _ _ _ _ _ wz) (fun wz => Box wz v1.heap.size #[.int .i64 0, .int .i64 0, .int .i64 0, .int .i64 0] 25 ∧ Below v1.heap.size v1 wz) ⟨Box.new v1 #[.int .i64 0, .int .i64 0, .int .i64 0, .int .i64 0] 25, (Below.refl _ _).alloc (Nat.le_refl _) _⟩ ?_
      rintro v4 ⟨hbx, hbz⟩
      have HBv4 := Lib.hid (HBv1.out.trans (hbz.mono HBv1.out.size))
      have hwb : w.heap.size < w1.heap.size := HX1.out.lt
      have hcb : w1.heap.size ≤ v1.heap.size := HBv1.out.size
      have HZv4 := Lib.hid hbx
      obtain ⟨nb, hnb⟩ : ∃ nb, nb = v1.heap.size := ⟨_, rfl⟩
      rw [← hnb] at HZv4 ⊢
      have hnw : w1.heap.size ≤ nb := by omega
      clear hbx hbz hnb hcb
      refine wpAnyT_one 7 (by rw [HOPS.out]; rfl) (by rw [HOPS.out]; kernel_rfl) ?_
      intro K' hK
      have HK := Lib.hid hK
      clear hK
      go_simp
      go_at_call 24
      refine (HR1.out _).mono ?_
      rintro e v5 ⟨rfl, hb⟩
      have HBv5 := Lib.hid (HBv4.out.trans (hb.mono HBv4.out.size))
      have HZv5 := Lib.hid (HZv4.out.below hb)
      clear hb
      refine HK.out _ _ (.inr (HSI.out _ HBv5.out)) ?_
      clear HK
      go_simp
      refine wpAnyT_take 8 (.agg #[.int .i64 r0, .int .i64 b0, .int .i64 1, .int .i64 0]) (by rw [HOPS.out]; rfl) (by rw [HOPS.out]; kernel_rfl) (by exact fun _ _ _ h => h) (by rfl) (fun w1 hS => by obtain ⟨k0, k1⟩ := HSE.out _ hS; go_simp <;> (intro h9; omega)) (HSI.out _ HBv5.out) ?_
      go_simp
      have HP := Lib.hid (show Below w1.heap.size w1 ((((v5.setCell ⟨nb, 0, none⟩ (.int .i64 r0)).setCell ⟨nb, 1, none⟩ (.int .i64 b0)).setCell ⟨nb, 2, none⟩ (.int .i64 1)).setCell ⟨nb, 3, none⟩ (.int .i64 0)) from by (repeat refine Below.setCell ?_ (by simp; omega) _); exact HBv5.out)
      have HQ := Lib.hid (show Box ((((v5.setCell ⟨nb, 0, none⟩ (.int .i64 r0)).setCell ⟨nb, 1, none⟩ (.int .i64 b0)).setCell ⟨nb, 2, none⟩ (.int .i64 1)).setCell ⟨nb, 3, none⟩ (.int .i64 0)) nb #[.int .i64 r0, .int .i64 b0, .int .i64 1, .int .i64 0] 25 from by have := (((HZv5.out.set 0 (.int .i64 r0)).set 1 (.int .i64 b0)).set 2 (.int .i64 1)).set 3 (.int .i64 0); simpa using this)
      obtain ⟨w4, hw4⟩ : ∃ w4 : World, w4 = ((((v5.setCell ⟨nb, 0, none⟩ (.int .i64 r0)).setCell ⟨nb, 1, none⟩ (.int .i64 b0)).setCell ⟨nb, 2, none⟩ (.int .i64 1)).setCell ⟨nb, 3, none⟩ (.int .i64 0)) := ⟨_, rfl⟩
      rw [← hw4] at HP HQ
      have HW4 := Lib.hid hw4
      clear hw4
      refine wpAnyT_one 10 (by rw [HOPS.out]; rfl) (by rw [HOPS.out]; kernel_rfl) ?_
      intro K' hK
      have HK := Lib.hid hK
      clear hK
      have FZ := HZv5.out.f4
      go_simp
      refine HK.out _ _ (.inr (HSI.out _ (by rw [← HW4.out]; exact HP.out))) ?_
      clear HK
      go_simp
      rw [← HW4.out]
      clear HW4 FZ
      refine wpAnyT_done (by rw [HOPS.out]; kernel_rfl) ?_ _
      have HBQ := Lib.hid (HB1.out.trans (HP.out.mono HB1.out.size))
      have HXQ := Lib.hid (HX1.out.below HP.out)
      have HRQ := Lib.hid (HRD.out.below HP.out)
      have k2 := (HP.out.cell (p := ⟨b, of + 2, none⟩) (cell_lt c2)).trans c2
      have hn2 : 2 < n := by omega
      clear c2
      have FQ := HQ.out.f4
      have hnlt := HQ.out.lt
      rcases hn with rfl | rfl
      · by_cases hbf : x2 = kBefore
        · subst hbf
          rw [str_before] at k2
          have HSY := Lib.hid (show specX ws = (r0, b0, 2, 0) from by rw [HSX.out, if_neg (by decide), if_pos rfl, if_neg (by decide)])
          have HB7 := Lib.hid (show Below w.heap.size w (w4.setCell ⟨nb, 2, none⟩ (.int .i64 2)) from (Below.setCell HBQ.out (by simp; omega) _))
          have HX7 := Lib.hid (show Box (w4.setCell ⟨nb, 2, none⟩ (.int .i64 2)) w.heap.size #[.int .i64 0, .int .i64 0, .int .i64 0, .int .i64 0] 25 from (HXQ.out.other (c := nb) (i := 2) (by omega) (.int .i64 2)))
          have HQ7 := Lib.hid (show Box (w4.setCell ⟨nb, 2, none⟩ (.int .i64 2)) nb #[.int .i64 r0, .int .i64 b0, .int .i64 2, .int .i64 0] 25 from by have := (HQ.out.set 2 (.int .i64 2)); simpa using this)
          have HB8 := HB7
          have HX8 := HX7
          have HQ8 := HQ7
          have HT := Lib.hid (fun w' => specRedText_any r0 b0 2 0 w')
          have heq := HEQ2.out
          rw [HSY.out] at heq
          by_cases hE : redS (r0, b0, 2, 0) = L
          · rw [if_neg (by rintro (h | h); exact HNIL.out h; exact h hE)] at heq
            have HE3 := Lib.hid heq
            have hZ : str (redS (r0, b0, 2, 0)) = s := by rw [hE, HST.out]
            rw [hZ] at HT
            clear heq hE hZ
            go_wp2_with fail
            refine (HT.out _).mono ?_
            rintro e w9 ⟨rfl, hb⟩
            have HB9 := Lib.hid (HB8.out.trans (hb.mono HB8.out.size))
            have FR := (HX8.out.below hb).f4
            have FZ := (HQ8.out.below hb).f4
            clear hb FQ
            go_wp2_with fail
            refine bodyPost_ret (v := .tuple #[.agg #[.int .i64 r0, .int .i64 b0, .int .i64 2, .int .i64 0], .bool true]) (by simp [results, Tryz.results9, go_sem, FR]) rfl ?_
            rw [HE3.out]
            have hput := put_chg (g := w.heap.size) [.int .i64 r0, .int .i64 b0, .int .i64 2, .int .i64 0] 0 (Chg.refl w.heap.size (w.heap.size + 1) w9) (Nat.le_refl _) (by omega)
            exact ⟨rfl, below_chg HB9.out hput (Nat.le_refl _) HB9.out.size⟩
          · rw [if_pos (.inr hE)] at heq
            have HE3 := Lib.hid heq
            have hZ : ((str (redS (r0, b0, 2, 0))).toList == s.toList) = false := ne_list (fun e => hE (by rw [← str_list (redS (r0, b0, 2, 0)), e, ← HST.out, str_list]))
            generalize str (redS (r0, b0, 2, 0)) = Z at *
            clear heq hE
            go_wp2_with fail
            refine (HT.out _).mono ?_
            rintro e w9 ⟨rfl, hb⟩
            have HB9 := Lib.hid (HB8.out.trans (hb.mono HB8.out.size))
            have FR := (HX8.out.below hb).f4
            clear hb FQ
            go_wp2_with fail
            refine bodyPost_ret (v := .tuple #[.agg #[.int .i64 0, .int .i64 0, .int .i64 0, .int .i64 0], .bool false]) (by simp [results, Tryz.results9, go_sem, FR]) rfl ?_
            rw [HE3.out]
            have hput := put_chg (g := w.heap.size) [.int .i64 0, .int .i64 0, .int .i64 0, .int .i64 0] 0 (Chg.refl w.heap.size (w.heap.size + 1) w9) (Nat.le_refl _) (by omega)
            exact ⟨rfl, below_chg HB9.out hput (Nat.le_refl _) HB9.out.size⟩
        · have hbn : ((str x2).toList == [98, 101, 102, 111, 114, 101]) = false := by rw [ByteArray.toList_eq, str_list]; exact beq_eq_false_iff_ne.2 hbf
          have HBF := Lib.hid hbf
          have HSY := Lib.hid (show specX ws = (r0, b0, 1, 0) from by rw [HSX.out, if_neg (by decide), if_neg hbf, if_neg (by decide)])
          clear hbf
          have HB7 := HBQ
          have HX7 := HXQ
          have HQ7 := HQ
          have HB8 := HB7
          have HX8 := HX7
          have HQ8 := HQ7
          have HT := Lib.hid (fun w' => specRedText_any r0 b0 1 0 w')
          have heq := HEQ2.out
          rw [HSY.out] at heq
          by_cases hE : redS (r0, b0, 1, 0) = L
          · rw [if_neg (by rintro (h | h); exact HNIL.out h; exact h hE)] at heq
            have HE3 := Lib.hid heq
            have hZ : str (redS (r0, b0, 1, 0)) = s := by rw [hE, HST.out]
            rw [hZ] at HT
            clear heq hE hZ
            go_wp2_with fail
            refine (HT.out _).mono ?_
            rintro e w9 ⟨rfl, hb⟩
            have HB9 := Lib.hid (HB8.out.trans (hb.mono HB8.out.size))
            have FR := (HX8.out.below hb).f4
            have FZ := (HQ8.out.below hb).f4
            clear hb FQ
            go_wp2_with fail
            refine bodyPost_ret (v := .tuple #[.agg #[.int .i64 r0, .int .i64 b0, .int .i64 1, .int .i64 0], .bool true]) (by simp [results, Tryz.results9, go_sem, FR]) rfl ?_
            rw [HE3.out]
            have hput := put_chg (g := w.heap.size) [.int .i64 r0, .int .i64 b0, .int .i64 1, .int .i64 0] 0 (Chg.refl w.heap.size (w.heap.size + 1) w9) (Nat.le_refl _) (by omega)
            exact ⟨rfl, below_chg HB9.out hput (Nat.le_refl _) HB9.out.size⟩
          · rw [if_pos (.inr hE)] at heq
            have HE3 := Lib.hid heq
            have hZ : ((str (redS (r0, b0, 1, 0))).toList == s.toList) = false := ne_list (fun e => hE (by rw [← str_list (redS (r0, b0, 1, 0)), e, ← HST.out, str_list]))
            generalize str (redS (r0, b0, 1, 0)) = Z at *
            clear heq hE
            go_wp2_with fail
            refine (HT.out _).mono ?_
            rintro e w9 ⟨rfl, hb⟩
            have HB9 := Lib.hid (HB8.out.trans (hb.mono HB8.out.size))
            have FR := (HX8.out.below hb).f4
            clear hb FQ
            go_wp2_with fail
            refine bodyPost_ret (v := .tuple #[.agg #[.int .i64 0, .int .i64 0, .int .i64 0, .int .i64 0], .bool false]) (by simp [results, Tryz.results9, go_sem, FR]) rfl ?_
            rw [HE3.out]
            have hput := put_chg (g := w.heap.size) [.int .i64 0, .int .i64 0, .int .i64 0, .int .i64 0] 0 (Chg.refl w.heap.size (w.heap.size + 1) w9) (Nat.le_refl _) (by omega)
            exact ⟨rfl, below_chg HB9.out hput (Nat.le_refl _) HB9.out.size⟩
      · obtain ⟨b', of', x3, e1, g3, _, c3⟩ := HRQ.out.str (k := 3) (by omega)
        injection e1 with e1
        injection e1 with e1 e2
        subst e1; subst e2
        have HR3 := Lib.hid (fun w' => read26_any (str x3) (by rw [str_size]; exact HSH.out x3 (List.mem_of_getElem? g3)) w')
        rw [str_list] at HR3
        have hg3 : ws.getD 3 [] = x3 := by simp [List.getD, g3]
        have HSY := Lib.hid (show specX ws = (r0, b0, 3, rdF x3) from by rw [HSX.out, if_pos rfl, if_pos rfl, hg3])
        generalize rdF x3 = p3 at *
        clear g3 hg3
        by_cases hbf : x2 = kBefore
        · subst hbf
          rw [str_before] at k2
          have HB7 := Lib.hid (show Below w.heap.size w ((w4.setCell ⟨nb, 2, none⟩ (.int .i64 2)).setCell ⟨nb, 2, none⟩ (.int .i64 3)) from (Below.setCell (Below.setCell HBQ.out (by simp; omega) _) (by simp; omega) _))
          have HX7 := Lib.hid (show Box ((w4.setCell ⟨nb, 2, none⟩ (.int .i64 2)).setCell ⟨nb, 2, none⟩ (.int .i64 3)) w.heap.size #[.int .i64 0, .int .i64 0, .int .i64 0, .int .i64 0] 25 from ((HXQ.out.other (c := nb) (i := 2) (by omega) (.int .i64 2)).other (c := nb) (i := 2) (by omega) (.int .i64 3)))
          have HQ7 := Lib.hid (show Box ((w4.setCell ⟨nb, 2, none⟩ (.int .i64 2)).setCell ⟨nb, 2, none⟩ (.int .i64 3)) nb #[.int .i64 r0, .int .i64 b0, .int .i64 3, .int .i64 0] 25 from by have := ((HQ.out.set 2 (.int .i64 2)).set 2 (.int .i64 3)); simpa using this)
          go_wp2_with fail
          refine (HR3.out _).mono ?_
          rintro e w8 ⟨rfl, hb⟩
          have HB8 := Lib.hid (show Below w.heap.size w (w8.setCell ⟨nb, 3, none⟩ (.int .i64 p3)) from (HB7.out.trans (hb.mono HB7.out.size)).setCell (by simp; omega) _)
          have HQ70 := Lib.hid (HQ7.out.below hb)
          have HX8 := Lib.hid ((HX7.out.below hb).other (c := nb) (i := 3) (by omega) (.int .i64 p3))
          have HQ8 := Lib.hid (show Box (w8.setCell ⟨nb, 3, none⟩ (.int .i64 p3)) nb #[.int .i64 r0, .int .i64 b0, .int .i64 3, .int .i64 p3] 25 from by have := HQ70.out.set 3 (.int .i64 p3); simpa using this)
          clear hb FQ HX7 HB7 HQ7
          have FQ := HQ70.out.f4
          have HT := Lib.hid (fun w' => specRedText_any r0 b0 3 p3 w')
          have heq := HEQ2.out
          rw [HSY.out] at heq
          by_cases hE : redS (r0, b0, 3, p3) = L
          · rw [if_neg (by rintro (h | h); exact HNIL.out h; exact h hE)] at heq
            have HE3 := Lib.hid heq
            have hZ : str (redS (r0, b0, 3, p3)) = s := by rw [hE, HST.out]
            rw [hZ] at HT
            clear heq hE hZ
            go_wp2_with fail
            refine (HT.out _).mono ?_
            rintro e w9 ⟨rfl, hb⟩
            have HB9 := Lib.hid (HB8.out.trans (hb.mono HB8.out.size))
            have FR := (HX8.out.below hb).f4
            have FZ := (HQ8.out.below hb).f4
            clear hb FQ
            go_wp2_with fail
            refine bodyPost_ret (v := .tuple #[.agg #[.int .i64 r0, .int .i64 b0, .int .i64 3, .int .i64 p3], .bool true]) (by simp [results, Tryz.results9, go_sem, FR]) rfl ?_
            rw [HE3.out]
            have hput := put_chg (g := w.heap.size) [.int .i64 r0, .int .i64 b0, .int .i64 3, .int .i64 p3] 0 (Chg.refl w.heap.size (w.heap.size + 1) w9) (Nat.le_refl _) (by omega)
            exact ⟨rfl, below_chg HB9.out hput (Nat.le_refl _) HB9.out.size⟩
          · rw [if_pos (.inr hE)] at heq
            have HE3 := Lib.hid heq
            have hZ : ((str (redS (r0, b0, 3, p3))).toList == s.toList) = false := ne_list (fun e => hE (by rw [← str_list (redS (r0, b0, 3, p3)), e, ← HST.out, str_list]))
            generalize str (redS (r0, b0, 3, p3)) = Z at *
            clear heq hE
            go_wp2_with fail
            refine (HT.out _).mono ?_
            rintro e w9 ⟨rfl, hb⟩
            have HB9 := Lib.hid (HB8.out.trans (hb.mono HB8.out.size))
            have FR := (HX8.out.below hb).f4
            clear hb FQ
            go_wp2_with fail
            refine bodyPost_ret (v := .tuple #[.agg #[.int .i64 0, .int .i64 0, .int .i64 0, .int .i64 0], .bool false]) (by simp [results, Tryz.results9, go_sem, FR]) rfl ?_
            rw [HE3.out]
            have hput := put_chg (g := w.heap.size) [.int .i64 0, .int .i64 0, .int .i64 0, .int .i64 0] 0 (Chg.refl w.heap.size (w.heap.size + 1) w9) (Nat.le_refl _) (by omega)
            exact ⟨rfl, below_chg HB9.out hput (Nat.le_refl _) HB9.out.size⟩
        · have hbn : ((str x2).toList == [98, 101, 102, 111, 114, 101]) = false := by rw [ByteArray.toList_eq, str_list]; exact beq_eq_false_iff_ne.2 hbf
          have HBF := Lib.hid hbf
          clear hbf
          have HB7 := Lib.hid (show Below w.heap.size w (w4.setCell ⟨nb, 2, none⟩ (.int .i64 3)) from (Below.setCell HBQ.out (by simp; omega) _))
          have HX7 := Lib.hid (show Box (w4.setCell ⟨nb, 2, none⟩ (.int .i64 3)) w.heap.size #[.int .i64 0, .int .i64 0, .int .i64 0, .int .i64 0] 25 from (HXQ.out.other (c := nb) (i := 2) (by omega) (.int .i64 3)))
          have HQ7 := Lib.hid (show Box (w4.setCell ⟨nb, 2, none⟩ (.int .i64 3)) nb #[.int .i64 r0, .int .i64 b0, .int .i64 3, .int .i64 0] 25 from by have := (HQ.out.set 2 (.int .i64 3)); simpa using this)
          go_wp2_with fail
          refine (HR3.out _).mono ?_
          rintro e w8 ⟨rfl, hb⟩
          have HB8 := Lib.hid (show Below w.heap.size w (w8.setCell ⟨nb, 3, none⟩ (.int .i64 p3)) from (HB7.out.trans (hb.mono HB7.out.size)).setCell (by simp; omega) _)
          have HQ70 := Lib.hid (HQ7.out.below hb)
          have HX8 := Lib.hid ((HX7.out.below hb).other (c := nb) (i := 3) (by omega) (.int .i64 p3))
          have HQ8 := Lib.hid (show Box (w8.setCell ⟨nb, 3, none⟩ (.int .i64 p3)) nb #[.int .i64 r0, .int .i64 b0, .int .i64 3, .int .i64 p3] 25 from by have := HQ70.out.set 3 (.int .i64 p3); simpa using this)
          clear hb FQ HX7 HB7 HQ7
          have FQ := HQ70.out.f4
          have HT := Lib.hid (fun w' => specRedText_any r0 b0 3 p3 w')
          have heq := HEQ2.out
          rw [HSY.out] at heq
          by_cases hE : redS (r0, b0, 3, p3) = L
          · rw [if_neg (by rintro (h | h); exact HNIL.out h; exact h hE)] at heq
            have HE3 := Lib.hid heq
            have hZ : str (redS (r0, b0, 3, p3)) = s := by rw [hE, HST.out]
            rw [hZ] at HT
            clear heq hE hZ
            go_wp2_with fail
            refine (HT.out _).mono ?_
            rintro e w9 ⟨rfl, hb⟩
            have HB9 := Lib.hid (HB8.out.trans (hb.mono HB8.out.size))
            have FR := (HX8.out.below hb).f4
            have FZ := (HQ8.out.below hb).f4
            clear hb FQ
            go_wp2_with fail
            refine bodyPost_ret (v := .tuple #[.agg #[.int .i64 r0, .int .i64 b0, .int .i64 3, .int .i64 p3], .bool true]) (by simp [results, Tryz.results9, go_sem, FR]) rfl ?_
            rw [HE3.out]
            have hput := put_chg (g := w.heap.size) [.int .i64 r0, .int .i64 b0, .int .i64 3, .int .i64 p3] 0 (Chg.refl w.heap.size (w.heap.size + 1) w9) (Nat.le_refl _) (by omega)
            exact ⟨rfl, below_chg HB9.out hput (Nat.le_refl _) HB9.out.size⟩
          · rw [if_pos (.inr hE)] at heq
            have HE3 := Lib.hid heq
            have hZ : ((str (redS (r0, b0, 3, p3))).toList == s.toList) = false := ne_list (fun e => hE (by rw [← str_list (redS (r0, b0, 3, p3)), e, ← HST.out, str_list]))
            generalize str (redS (r0, b0, 3, p3)) = Z at *
            clear heq hE
            go_wp2_with fail
            refine (HT.out _).mono ?_
            rintro e w9 ⟨rfl, hb⟩
            have HB9 := Lib.hid (HB8.out.trans (hb.mono HB8.out.size))
            have FR := (HX8.out.below hb).f4
            clear hb FQ
            go_wp2_with fail
            refine bodyPost_ret (v := .tuple #[.agg #[.int .i64 0, .int .i64 0, .int .i64 0, .int .i64 0], .bool false]) (by simp [results, Tryz.results9, go_sem, FR]) rfl ?_
            rw [HE3.out]
            have hput := put_chg (g := w.heap.size) [.int .i64 0, .int .i64 0, .int .i64 0, .int .i64 0] 0 (Chg.refl w.heap.size (w.heap.size + 1) w9) (Nat.le_refl _) (by omega)
            exact ⟨rfl, below_chg HB9.out hput (Nat.le_refl _) HB9.out.size⟩
  · intro K' hK
    have HK := Lib.hid hK
    clear hK
    go_simp
    refine HK.out _ _ (.inr (HSI.out _ (below_drewN ((Below.refl _ _).alloc (Nat.le_refl _) _) 1))) ?_
    clear HK
    go_simp
    refine gen_world (p := fun wz => wpAnyT _ _ _ _ _ _ _ _ _ wz) (fun wz => Box wz w1.heap.size #[.int .i64 0, .int .i64 0, .int .i64 0, .int .i64 0] 25 ∧ Below w1.heap.size w1 wz) ⟨Box.new w1 #[.int .i64 0, .int .i64 0, .int .i64 0, .int .i64 0] 25, below_drewN ((Below.refl _ _).alloc (Nat.le_refl _) _) 1⟩ ?_
    rintro v6 ⟨hbx, hbz⟩
    have HBv6 := Lib.hid (hbz)
    have hwb : w.heap.size < w1.heap.size := HX1.out.lt
    have hcb : w1.heap.size ≤ w1.heap.size := Nat.le_refl _
    have HZv6 := Lib.hid hbx
    obtain ⟨nb, hnb⟩ : ∃ nb, nb = w1.heap.size := ⟨_, rfl⟩
    rw [← hnb] at HZv6 ⊢
    have hnw : w1.heap.size ≤ nb := by omega
    clear hbx hbz hnb hcb
    refine wpAnyT_one 3 (by rw [HOPS.out]; rfl) (by rw [HOPS.out]; kernel_rfl) ?_
    intro K' hK
    have HK := Lib.hid hK
    clear hK
    go_simp
    go_at_call 24
    refine (HR0.out _).mono ?_
    rintro e v7 ⟨rfl, hb⟩
    have HBv7 := Lib.hid (HBv6.out.trans (hb.mono HBv6.out.size))
    have HZv7 := Lib.hid (HZv6.out.below hb)
    clear hb
    refine HK.out _ _ (.inr (HSI.out _ HBv7.out)) ?_
    clear HK
    go_simp
    refine wpAnyT_one 7 (by rw [HOPS.out]; rfl) (by rw [HOPS.out]; kernel_rfl) ?_
    intro K' hK
    have HK := Lib.hid hK
    clear hK
    go_simp
    go_at_call 24
    refine (HR1.out _).mono ?_
    rintro e v8 ⟨rfl, hb⟩
    have HBv8 := Lib.hid (HBv7.out.trans (hb.mono HBv7.out.size))
    have HZv8 := Lib.hid (HZv7.out.below hb)
    clear hb
    refine HK.out _ _ (.inr (HSI.out _ HBv8.out)) ?_
    clear HK
    go_simp
    refine wpAnyT_take 8 (.agg #[.int .i64 r0, .int .i64 b0, .int .i64 1, .int .i64 0]) (by rw [HOPS.out]; rfl) (by rw [HOPS.out]; kernel_rfl) (by exact fun _ _ _ h => h) (by rfl) (fun w1 hS => by obtain ⟨k0, k1⟩ := HSE.out _ hS; go_simp <;> (intro h9; omega)) (HSI.out _ HBv8.out) ?_
    go_simp
    have HP := Lib.hid (show Below w1.heap.size w1 ((((v8.setCell ⟨nb, 0, none⟩ (.int .i64 r0)).setCell ⟨nb, 1, none⟩ (.int .i64 b0)).setCell ⟨nb, 2, none⟩ (.int .i64 1)).setCell ⟨nb, 3, none⟩ (.int .i64 0)) from by (repeat refine Below.setCell ?_ (by simp; omega) _); exact HBv8.out)
    have HQ := Lib.hid (show Box ((((v8.setCell ⟨nb, 0, none⟩ (.int .i64 r0)).setCell ⟨nb, 1, none⟩ (.int .i64 b0)).setCell ⟨nb, 2, none⟩ (.int .i64 1)).setCell ⟨nb, 3, none⟩ (.int .i64 0)) nb #[.int .i64 r0, .int .i64 b0, .int .i64 1, .int .i64 0] 25 from by have := (((HZv8.out.set 0 (.int .i64 r0)).set 1 (.int .i64 b0)).set 2 (.int .i64 1)).set 3 (.int .i64 0); simpa using this)
    obtain ⟨w4, hw4⟩ : ∃ w4 : World, w4 = ((((v8.setCell ⟨nb, 0, none⟩ (.int .i64 r0)).setCell ⟨nb, 1, none⟩ (.int .i64 b0)).setCell ⟨nb, 2, none⟩ (.int .i64 1)).setCell ⟨nb, 3, none⟩ (.int .i64 0)) := ⟨_, rfl⟩
    rw [← hw4] at HP HQ
    have HW4 := Lib.hid hw4
    clear hw4
    refine wpAnyT_one 10 (by rw [HOPS.out]; rfl) (by rw [HOPS.out]; kernel_rfl) ?_
    intro K' hK
    have HK := Lib.hid hK
    clear hK
    have FZ := HZv8.out.f4
    go_simp
    refine HK.out _ _ (.inr (HSI.out _ (by rw [← HW4.out]; exact HP.out))) ?_
    clear HK
    go_simp
    rw [← HW4.out]
    clear HW4 FZ
    refine wpAnyT_done (by rw [HOPS.out]; kernel_rfl) ?_ _
    have HBQ := Lib.hid (HB1.out.trans (HP.out.mono HB1.out.size))
    have HXQ := Lib.hid (HX1.out.below HP.out)
    have HRQ := Lib.hid (HRD.out.below HP.out)
    have k2 := (HP.out.cell (p := ⟨b, of + 2, none⟩) (cell_lt c2)).trans c2
    have hn2 : 2 < n := by omega
    clear c2
    have FQ := HQ.out.f4
    have hnlt := HQ.out.lt
    rcases hn with rfl | rfl
    · by_cases hbf : x2 = kBefore
      · subst hbf
        rw [str_before] at k2
        have HSY := Lib.hid (show specX ws = (r0, b0, 2, 0) from by rw [HSX.out, if_neg (by decide), if_pos rfl, if_neg (by decide)])
        have HB7 := Lib.hid (show Below w.heap.size w (w4.setCell ⟨nb, 2, none⟩ (.int .i64 2)) from (Below.setCell HBQ.out (by simp; omega) _))
        have HX7 := Lib.hid (show Box (w4.setCell ⟨nb, 2, none⟩ (.int .i64 2)) w.heap.size #[.int .i64 0, .int .i64 0, .int .i64 0, .int .i64 0] 25 from (HXQ.out.other (c := nb) (i := 2) (by omega) (.int .i64 2)))
        have HQ7 := Lib.hid (show Box (w4.setCell ⟨nb, 2, none⟩ (.int .i64 2)) nb #[.int .i64 r0, .int .i64 b0, .int .i64 2, .int .i64 0] 25 from by have := (HQ.out.set 2 (.int .i64 2)); simpa using this)
        have HB8 := HB7
        have HX8 := HX7
        have HQ8 := HQ7
        have HT := Lib.hid (fun w' => specRedText_any r0 b0 2 0 w')
        have heq := HEQ2.out
        rw [HSY.out] at heq
        by_cases hE : redS (r0, b0, 2, 0) = L
        · rw [if_neg (by rintro (h | h); exact HNIL.out h; exact h hE)] at heq
          have HE3 := Lib.hid heq
          have hZ : str (redS (r0, b0, 2, 0)) = s := by rw [hE, HST.out]
          rw [hZ] at HT
          clear heq hE hZ
          go_wp2_with fail
          refine (HT.out _).mono ?_
          rintro e w9 ⟨rfl, hb⟩
          have HB9 := Lib.hid (HB8.out.trans (hb.mono HB8.out.size))
          have FR := (HX8.out.below hb).f4
          have FZ := (HQ8.out.below hb).f4
          clear hb FQ
          go_wp2_with fail
          refine bodyPost_ret (v := .tuple #[.agg #[.int .i64 r0, .int .i64 b0, .int .i64 2, .int .i64 0], .bool true]) (by simp [results, Tryz.results9, go_sem, FR]) rfl ?_
          rw [HE3.out]
          have hput := put_chg (g := w.heap.size) [.int .i64 r0, .int .i64 b0, .int .i64 2, .int .i64 0] 0 (Chg.refl w.heap.size (w.heap.size + 1) w9) (Nat.le_refl _) (by omega)
          exact ⟨rfl, below_chg HB9.out hput (Nat.le_refl _) HB9.out.size⟩
        · rw [if_pos (.inr hE)] at heq
          have HE3 := Lib.hid heq
          have hZ : ((str (redS (r0, b0, 2, 0))).toList == s.toList) = false := ne_list (fun e => hE (by rw [← str_list (redS (r0, b0, 2, 0)), e, ← HST.out, str_list]))
          generalize str (redS (r0, b0, 2, 0)) = Z at *
          clear heq hE
          go_wp2_with fail
          refine (HT.out _).mono ?_
          rintro e w9 ⟨rfl, hb⟩
          have HB9 := Lib.hid (HB8.out.trans (hb.mono HB8.out.size))
          have FR := (HX8.out.below hb).f4
          clear hb FQ
          go_wp2_with fail
          refine bodyPost_ret (v := .tuple #[.agg #[.int .i64 0, .int .i64 0, .int .i64 0, .int .i64 0], .bool false]) (by simp [results, Tryz.results9, go_sem, FR]) rfl ?_
          rw [HE3.out]
          have hput := put_chg (g := w.heap.size) [.int .i64 0, .int .i64 0, .int .i64 0, .int .i64 0] 0 (Chg.refl w.heap.size (w.heap.size + 1) w9) (Nat.le_refl _) (by omega)
          exact ⟨rfl, below_chg HB9.out hput (Nat.le_refl _) HB9.out.size⟩
      · have hbn : ((str x2).toList == [98, 101, 102, 111, 114, 101]) = false := by rw [ByteArray.toList_eq, str_list]; exact beq_eq_false_iff_ne.2 hbf
        have HBF := Lib.hid hbf
        have HSY := Lib.hid (show specX ws = (r0, b0, 1, 0) from by rw [HSX.out, if_neg (by decide), if_neg hbf, if_neg (by decide)])
        clear hbf
        have HB7 := HBQ
        have HX7 := HXQ
        have HQ7 := HQ
        have HB8 := HB7
        have HX8 := HX7
        have HQ8 := HQ7
        have HT := Lib.hid (fun w' => specRedText_any r0 b0 1 0 w')
        have heq := HEQ2.out
        rw [HSY.out] at heq
        by_cases hE : redS (r0, b0, 1, 0) = L
        · rw [if_neg (by rintro (h | h); exact HNIL.out h; exact h hE)] at heq
          have HE3 := Lib.hid heq
          have hZ : str (redS (r0, b0, 1, 0)) = s := by rw [hE, HST.out]
          rw [hZ] at HT
          clear heq hE hZ
          go_wp2_with fail
          refine (HT.out _).mono ?_
          rintro e w9 ⟨rfl, hb⟩
          have HB9 := Lib.hid (HB8.out.trans (hb.mono HB8.out.size))
          have FR := (HX8.out.below hb).f4
          have FZ := (HQ8.out.below hb).f4
          clear hb FQ
          go_wp2_with fail
          refine bodyPost_ret (v := .tuple #[.agg #[.int .i64 r0, .int .i64 b0, .int .i64 1, .int .i64 0], .bool true]) (by simp [results, Tryz.results9, go_sem, FR]) rfl ?_
          rw [HE3.out]
          have hput := put_chg (g := w.heap.size) [.int .i64 r0, .int .i64 b0, .int .i64 1, .int .i64 0] 0 (Chg.refl w.heap.size (w.heap.size + 1) w9) (Nat.le_refl _) (by omega)
          exact ⟨rfl, below_chg HB9.out hput (Nat.le_refl _) HB9.out.size⟩
        · rw [if_pos (.inr hE)] at heq
          have HE3 := Lib.hid heq
          have hZ : ((str (redS (r0, b0, 1, 0))).toList == s.toList) = false := ne_list (fun e => hE (by rw [← str_list (redS (r0, b0, 1, 0)), e, ← HST.out, str_list]))
          generalize str (redS (r0, b0, 1, 0)) = Z at *
          clear heq hE
          go_wp2_with fail
          refine (HT.out _).mono ?_
          rintro e w9 ⟨rfl, hb⟩
          have HB9 := Lib.hid (HB8.out.trans (hb.mono HB8.out.size))
          have FR := (HX8.out.below hb).f4
          clear hb FQ
          go_wp2_with fail
          refine bodyPost_ret (v := .tuple #[.agg #[.int .i64 0, .int .i64 0, .int .i64 0, .int .i64 0], .bool false]) (by simp [results, Tryz.results9, go_sem, FR]) rfl ?_
          rw [HE3.out]
          have hput := put_chg (g := w.heap.size) [.int .i64 0, .int .i64 0, .int .i64 0, .int .i64 0] 0 (Chg.refl w.heap.size (w.heap.size + 1) w9) (Nat.le_refl _) (by omega)
          exact ⟨rfl, below_chg HB9.out hput (Nat.le_refl _) HB9.out.size⟩
    · obtain ⟨b', of', x3, e1, g3, _, c3⟩ := HRQ.out.str (k := 3) (by omega)
      injection e1 with e1
      injection e1 with e1 e2
      subst e1; subst e2
      have HR3 := Lib.hid (fun w' => read26_any (str x3) (by rw [str_size]; exact HSH.out x3 (List.mem_of_getElem? g3)) w')
      rw [str_list] at HR3
      have hg3 : ws.getD 3 [] = x3 := by simp [List.getD, g3]
      have HSY := Lib.hid (show specX ws = (r0, b0, 3, rdF x3) from by rw [HSX.out, if_pos rfl, if_pos rfl, hg3])
      generalize rdF x3 = p3 at *
      clear g3 hg3
      by_cases hbf : x2 = kBefore
      · subst hbf
        rw [str_before] at k2
        have HB7 := Lib.hid (show Below w.heap.size w ((w4.setCell ⟨nb, 2, none⟩ (.int .i64 2)).setCell ⟨nb, 2, none⟩ (.int .i64 3)) from (Below.setCell (Below.setCell HBQ.out (by simp; omega) _) (by simp; omega) _))
        have HX7 := Lib.hid (show Box ((w4.setCell ⟨nb, 2, none⟩ (.int .i64 2)).setCell ⟨nb, 2, none⟩ (.int .i64 3)) w.heap.size #[.int .i64 0, .int .i64 0, .int .i64 0, .int .i64 0] 25 from ((HXQ.out.other (c := nb) (i := 2) (by omega) (.int .i64 2)).other (c := nb) (i := 2) (by omega) (.int .i64 3)))
        have HQ7 := Lib.hid (show Box ((w4.setCell ⟨nb, 2, none⟩ (.int .i64 2)).setCell ⟨nb, 2, none⟩ (.int .i64 3)) nb #[.int .i64 r0, .int .i64 b0, .int .i64 3, .int .i64 0] 25 from by have := ((HQ.out.set 2 (.int .i64 2)).set 2 (.int .i64 3)); simpa using this)
        go_wp2_with fail
        refine (HR3.out _).mono ?_
        rintro e w8 ⟨rfl, hb⟩
        have HB8 := Lib.hid (show Below w.heap.size w (w8.setCell ⟨nb, 3, none⟩ (.int .i64 p3)) from (HB7.out.trans (hb.mono HB7.out.size)).setCell (by simp; omega) _)
        have HQ70 := Lib.hid (HQ7.out.below hb)
        have HX8 := Lib.hid ((HX7.out.below hb).other (c := nb) (i := 3) (by omega) (.int .i64 p3))
        have HQ8 := Lib.hid (show Box (w8.setCell ⟨nb, 3, none⟩ (.int .i64 p3)) nb #[.int .i64 r0, .int .i64 b0, .int .i64 3, .int .i64 p3] 25 from by have := HQ70.out.set 3 (.int .i64 p3); simpa using this)
        clear hb FQ HX7 HB7 HQ7
        have FQ := HQ70.out.f4
        have HT := Lib.hid (fun w' => specRedText_any r0 b0 3 p3 w')
        have heq := HEQ2.out
        rw [HSY.out] at heq
        by_cases hE : redS (r0, b0, 3, p3) = L
        · rw [if_neg (by rintro (h | h); exact HNIL.out h; exact h hE)] at heq
          have HE3 := Lib.hid heq
          have hZ : str (redS (r0, b0, 3, p3)) = s := by rw [hE, HST.out]
          rw [hZ] at HT
          clear heq hE hZ
          go_wp2_with fail
          refine (HT.out _).mono ?_
          rintro e w9 ⟨rfl, hb⟩
          have HB9 := Lib.hid (HB8.out.trans (hb.mono HB8.out.size))
          have FR := (HX8.out.below hb).f4
          have FZ := (HQ8.out.below hb).f4
          clear hb FQ
          go_wp2_with fail
          refine bodyPost_ret (v := .tuple #[.agg #[.int .i64 r0, .int .i64 b0, .int .i64 3, .int .i64 p3], .bool true]) (by simp [results, Tryz.results9, go_sem, FR]) rfl ?_
          rw [HE3.out]
          have hput := put_chg (g := w.heap.size) [.int .i64 r0, .int .i64 b0, .int .i64 3, .int .i64 p3] 0 (Chg.refl w.heap.size (w.heap.size + 1) w9) (Nat.le_refl _) (by omega)
          exact ⟨rfl, below_chg HB9.out hput (Nat.le_refl _) HB9.out.size⟩
        · rw [if_pos (.inr hE)] at heq
          have HE3 := Lib.hid heq
          have hZ : ((str (redS (r0, b0, 3, p3))).toList == s.toList) = false := ne_list (fun e => hE (by rw [← str_list (redS (r0, b0, 3, p3)), e, ← HST.out, str_list]))
          generalize str (redS (r0, b0, 3, p3)) = Z at *
          clear heq hE
          go_wp2_with fail
          refine (HT.out _).mono ?_
          rintro e w9 ⟨rfl, hb⟩
          have HB9 := Lib.hid (HB8.out.trans (hb.mono HB8.out.size))
          have FR := (HX8.out.below hb).f4
          clear hb FQ
          go_wp2_with fail
          refine bodyPost_ret (v := .tuple #[.agg #[.int .i64 0, .int .i64 0, .int .i64 0, .int .i64 0], .bool false]) (by simp [results, Tryz.results9, go_sem, FR]) rfl ?_
          rw [HE3.out]
          have hput := put_chg (g := w.heap.size) [.int .i64 0, .int .i64 0, .int .i64 0, .int .i64 0] 0 (Chg.refl w.heap.size (w.heap.size + 1) w9) (Nat.le_refl _) (by omega)
          exact ⟨rfl, below_chg HB9.out hput (Nat.le_refl _) HB9.out.size⟩
      · have hbn : ((str x2).toList == [98, 101, 102, 111, 114, 101]) = false := by rw [ByteArray.toList_eq, str_list]; exact beq_eq_false_iff_ne.2 hbf
        have HBF := Lib.hid hbf
        clear hbf
        have HB7 := Lib.hid (show Below w.heap.size w (w4.setCell ⟨nb, 2, none⟩ (.int .i64 3)) from (Below.setCell HBQ.out (by simp; omega) _))
        have HX7 := Lib.hid (show Box (w4.setCell ⟨nb, 2, none⟩ (.int .i64 3)) w.heap.size #[.int .i64 0, .int .i64 0, .int .i64 0, .int .i64 0] 25 from (HXQ.out.other (c := nb) (i := 2) (by omega) (.int .i64 3)))
        have HQ7 := Lib.hid (show Box (w4.setCell ⟨nb, 2, none⟩ (.int .i64 3)) nb #[.int .i64 r0, .int .i64 b0, .int .i64 3, .int .i64 0] 25 from by have := (HQ.out.set 2 (.int .i64 3)); simpa using this)
        go_wp2_with fail
        refine (HR3.out _).mono ?_
        rintro e w8 ⟨rfl, hb⟩
        have HB8 := Lib.hid (show Below w.heap.size w (w8.setCell ⟨nb, 3, none⟩ (.int .i64 p3)) from (HB7.out.trans (hb.mono HB7.out.size)).setCell (by simp; omega) _)
        have HQ70 := Lib.hid (HQ7.out.below hb)
        have HX8 := Lib.hid ((HX7.out.below hb).other (c := nb) (i := 3) (by omega) (.int .i64 p3))
        have HQ8 := Lib.hid (show Box (w8.setCell ⟨nb, 3, none⟩ (.int .i64 p3)) nb #[.int .i64 r0, .int .i64 b0, .int .i64 3, .int .i64 p3] 25 from by have := HQ70.out.set 3 (.int .i64 p3); simpa using this)
        clear hb FQ HX7 HB7 HQ7
        have FQ := HQ70.out.f4
        have HT := Lib.hid (fun w' => specRedText_any r0 b0 3 p3 w')
        have heq := HEQ2.out
        rw [HSY.out] at heq
        by_cases hE : redS (r0, b0, 3, p3) = L
        · rw [if_neg (by rintro (h | h); exact HNIL.out h; exact h hE)] at heq
          have HE3 := Lib.hid heq
          have hZ : str (redS (r0, b0, 3, p3)) = s := by rw [hE, HST.out]
          rw [hZ] at HT
          clear heq hE hZ
          go_wp2_with fail
          refine (HT.out _).mono ?_
          rintro e w9 ⟨rfl, hb⟩
          have HB9 := Lib.hid (HB8.out.trans (hb.mono HB8.out.size))
          have FR := (HX8.out.below hb).f4
          have FZ := (HQ8.out.below hb).f4
          clear hb FQ
          go_wp2_with fail
          refine bodyPost_ret (v := .tuple #[.agg #[.int .i64 r0, .int .i64 b0, .int .i64 3, .int .i64 p3], .bool true]) (by simp [results, Tryz.results9, go_sem, FR]) rfl ?_
          rw [HE3.out]
          have hput := put_chg (g := w.heap.size) [.int .i64 r0, .int .i64 b0, .int .i64 3, .int .i64 p3] 0 (Chg.refl w.heap.size (w.heap.size + 1) w9) (Nat.le_refl _) (by omega)
          exact ⟨rfl, below_chg HB9.out hput (Nat.le_refl _) HB9.out.size⟩
        · rw [if_pos (.inr hE)] at heq
          have HE3 := Lib.hid heq
          have hZ : ((str (redS (r0, b0, 3, p3))).toList == s.toList) = false := ne_list (fun e => hE (by rw [← str_list (redS (r0, b0, 3, p3)), e, ← HST.out, str_list]))
          generalize str (redS (r0, b0, 3, p3)) = Z at *
          clear heq hE
          go_wp2_with fail
          refine (HT.out _).mono ?_
          rintro e w9 ⟨rfl, hb⟩
          have HB9 := Lib.hid (HB8.out.trans (hb.mono HB8.out.size))
          have FR := (HX8.out.below hb).f4
          clear hb FQ
          go_wp2_with fail
          refine bodyPost_ret (v := .tuple #[.agg #[.int .i64 0, .int .i64 0, .int .i64 0, .int .i64 0], .bool false]) (by simp [results, Tryz.results9, go_sem, FR]) rfl ?_
          rw [HE3.out]
          have hput := put_chg (g := w.heap.size) [.int .i64 0, .int .i64 0, .int .i64 0, .int .i64 0] 0 (Chg.refl w.heap.size (w.heap.size + 1) w9) (Nat.le_refl _) (by omega)
          exact ⟨rfl, below_chg HB9.out hput (Nat.le_refl _) HB9.out.size⟩
end Go.Proofs.YtalgdeieejpelaaGreatDoor

/- Walks: an entry read by the reference out of the words of a line. -/
import Derived.Test.YtnpldahkhaacnaaGreatDoorQz
namespace Go.Proofs.YtnpldahkhaacnaaGreatDoor
open Go.RowKit Go.Sort
set_option linter.unusedVariables false
set_option maxRecDepth 100000

/-- What is said of an entry that was read out of a line's words. -/
def XW (ws : List (List UInt8)) (r b c t : Int) (ok : Bool) : Prop := (ok = true → ws.getD 0 [] = enterWord ∧ EntOk (ws.drop 1) r b c t) ∧ (ok = false → ws.getD 0 [] = enterWord → ∀ r b c t, ¬ EntOk (ws.drop 1) r b c t)
theorem xw_no {ws : List (List UInt8)} (r b c t : Int) (h : ws.getD 0 [] = enterWord → ∀ r b c t, ¬ EntOk (ws.drop 1) r b c t) : XW ws r b c t false := ⟨(fun h => by cases h), fun _ => h⟩
theorem xw_yes {ws : List (List UInt8)} {r b c t : Int} (h0 : ws.getD 0 [] = enterWord) (h : EntOk (ws.drop 1) r b c t) : XW ws r b c t true := ⟨fun _ => ⟨h0, h⟩, (fun h => by cases h)⟩
theorem xw_noT {ws tl : List (List UInt8)} (htl : tl = ws.drop 1) (r b c t : Int) (h : ws.getD 0 [] = enterWord → ∀ r b c t, ¬ EntOk tl r b c t) : XW ws r b c t false := by subst htl; exact xw_no r b c t h
theorem xw_yesT {ws tl : List (List UInt8)} (htl : tl = ws.drop 1) {r b c t : Int} (h0 : ws.getD 0 [] = enterWord) (h : EntOk tl r b c t) : XW ws r b c t true := by subst htl; exact xw_yes h0 h
theorem drop1_getD (ws : List (List UInt8)) (k : Nat) : (ws.drop 1).getD k [] = ws.getD (k + 1) [] := by
  rw [List.getD_eq_getElem?_getD, List.getElem?_drop, ← List.getD_eq_getElem?_getD, Nat.add_comm]
def RetXW (w : World) (ws : List (List UInt8)) (e : Ending) (w' : World) : Prop :=
  ∃ r b c t ok, e = .returned (.tuple #[.agg #[.int .i64 r, .int .i64 b, .int .i64 0, .int .i64 c, .int .i64 t, .int .i64 0, .int .i64 0], .bool ok]) ∧ XW ws r b c t ok ∧ Below w.heap.size w w'
theorem enter_lit (x : List UInt8) : ((str x).toList == [101, 110, 116, 101, 114]) = decide (x = enterWord) := by
  rw [ByteArray.toList_eq, str_list]
  by_cases h : x = enterWord
  · subst h; rfl
  · rw [decide_eq_false h]
    exact beq_eq_false_iff_ne.2 h
set_option maxHeartbeats 8000000 in
theorem specEnterW_any (A : Option Addr) (n cp : Nat) (ws : List (List UInt8)) (w : World) (h : Rd w 1 A n (strs ws)) (hn : n ≤ 4194304) (hcp : n ≤ cp) (hsh : ∀ x ∈ ws, x.length ≤ 2097152) :
    Calls Tryz.prog 162 #[.slice A n cp] w (RetXW w ws) := by
  have hln := h.len_str
  obtain ⟨wa, hwa, XR, hba, hsa⟩ := one_box w #[.int .i64 0, .int .i64 0, .int .i64 0, .int .i64 0, .int .i64 0, .int .i64 0, .int .i64 0] 25
  have HWA := Lib.hid hwa
  have HX := Lib.hid XR
  have HBA := Lib.hid hba
  have HSH := Lib.hid hsh
  have HLEN := Lib.hid hln
  by_cases hlen : n ≠ 4 ∧ n ≠ 5
  · have e1 : ((n : Int) != 4) = true := by simp; omega
    have e2 : ((n : Int) != 5) = true := by simp; omega
    have HR := Lib.hid (xw_no (ws := ws) 0 0 0 0 (fun _ r b c t h => by
      have h1 := h.1
      rw [List.length_drop] at h1
      omega))
    have FX := HX.out.f7
    have FZ := HX.out.z7
    clear h XR hba hsa hwa hsh hln
    go_enter Tryz.func162, Tryz.ntmps162
    go_wp2_with fail
    rw [← HWA.out]
    clear HWA
    go_wp2_with fail
    refine bodyPost_ret (v := .tuple #[.agg #[.int .i64 0, .int .i64 0, .int .i64 0, .int .i64 0, .int .i64 0, .int .i64 0, .int .i64 0], .bool false]) (by simp [results, Tryz.results162, go_sem, FX]) rfl ?_
    exact ⟨0, 0, 0, 0, false, rfl, HR.out, HBA.out⟩
  have hor : (((n : Int) != 4) = false ∧ n = 4) ∨ (((n : Int) != 4) = true ∧ ((n : Int) != 5) = false ∧ n = 5) := by
    by_cases h4 : n = 4
    · exact .inl ⟨by simp [h4], h4⟩
    · exact .inr ⟨by simp; omega, by simp; omega, by omega⟩
  have h4 : 4 ≤ n ∧ n ≤ 5 := by omega
  obtain ⟨h4, h5⟩ := h4
  clear hlen
  have hd1 : ws.drop 1 = ws.drop 1 := rfl
  obtain ⟨bb, oo, rfl, -⟩ := h.pos (by omega)
  have HRD := Lib.hid (h.below hba)
  obtain ⟨b0, o0, x0, q0, hx0, -, hc0⟩ := h.str (k := 0) (by omega)
  injection q0 with q0
  injection q0 with q1 q2
  subst q1; subst q2
  have hx0g : ws.getD 0 [] = x0 := by rw [List.getD_eq_getElem?_getD, hx0]; rfl
  have HX0 := Lib.hid hx0g
  have hbl0 := cell_lt hc0
  have HLIT := Lib.hid (enter_lit x0)
  clear hx0 hd1 hx0g
  by_cases hw : x0 = enterWord
  rotate_left
  · have HR := Lib.hid (xw_no (ws := ws) 0 0 0 0 (fun h _ _ _ _ _ => hw (HX0.out.symm.trans h)))
    have hlit := HLIT.out
    rw [decide_eq_false hw] at hlit
    have hlit2 : ((str x0).toList != [101, 110, 116, 101, 114]) = true := by rw [bne, hlit]; rfl
    have FX := HX.out.f7
    have FZ := HX.out.z7
    clear h XR hba hsa hwa hsh hln hw
    simp only [Nat.add_zero] at hc0
    rcases hor with ⟨e1, -⟩ | ⟨e1, e2, -⟩
    · go_enter Tryz.func162, Tryz.ntmps162
      go_wp2_with fail
      rw [← HWA.out]
      clear HWA
      refine bodyPost_ret (v := .tuple #[.agg #[.int .i64 0, .int .i64 0, .int .i64 0, .int .i64 0, .int .i64 0, .int .i64 0, .int .i64 0], .bool false]) (by simp [results, Tryz.results162, go_sem, FX]) rfl ?_
      exact ⟨0, 0, 0, 0, false, rfl, HR.out, HBA.out⟩
    · go_enter Tryz.func162, Tryz.ntmps162
      go_wp2_with fail
      rw [← HWA.out]
      clear HWA
      refine bodyPost_ret (v := .tuple #[.agg #[.int .i64 0, .int .i64 0, .int .i64 0, .int .i64 0, .int .i64 0, .int .i64 0, .int .i64 0], .bool false]) (by simp [results, Tryz.results162, go_sem, FX]) rfl ?_
      exact ⟨0, 0, 0, 0, false, rfl, HR.out, HBA.out⟩
  have hlit := HLIT.out
  rw [decide_eq_true hw] at hlit
  have hlit2 : ((str x0).toList != [101, 110, 116, 101, 114]) = false := by rw [bne, hlit]; rfl
  have HWD := Lib.hid (HX0.out.trans hw)
  obtain ⟨tl, htl⟩ : ∃ tl, tl = ws.drop 1 := ⟨_, rfl⟩
  have HTL := Lib.hid htl
  have HTG := Lib.hid (show ∀ k, tl.getD k [] = ws.getD (k + 1) [] from fun k => by rw [htl, drop1_getD])
  have hsl : Rd wa 1 (some ⟨bb, oo + 1, none⟩) 2 (strs (tl.take 2)) := by rw [htl]; exact (HRD.out.dropS 1 (by omega)).takeS 2 (by omega)
  have hc1 : 1 ≤ cp := by omega
  have hc3 : 3 ≤ cp := by omega
  have HS := Lib.hid (valuesQ_any (some ⟨bb, oo + 1, none⟩) 2 (cp - 1) (tl.take 2) wa hsl (by omega) (fun x hx => hsh x (by rw [htl] at hx; exact List.mem_of_mem_drop (List.mem_of_mem_take hx))))
  clear h XR hba hsa hwa hsh hln hw hsl HX0 HLIT htl
  simp only [Nat.add_zero] at hc0
  rcases hor with ⟨e1, hn4⟩ | ⟨e1, e2, hn4⟩
  · go_enter Tryz.func162, Tryz.ntmps162
    go_wp2_with fail
    rw [← HWA.out]
    clear HWA
    go_wp2_with fail
    refine HS.out.mono ?_
    rintro e w1 ⟨B, m, c1, rfl, hrn, hb⟩
    have HB1 := Lib.hid (HBA.out.trans (hb.mono HBA.out.size))
    have HX1 := Lib.hid (HX.out.below hb)
    have HRD1 := Lib.hid (HRD.out.below hb)
    rw [allVal_short] at hrn
    have HRN1 := Lib.hid hrn
    clear hb hrn HX HBA HRD HS hc0 hlit hlit2
    obtain ⟨b2, o2, x2, q2, hx2, -, hc2⟩ := HRD1.out.str (k := 3) (by omega)
    injection q2 with q2
    injection q2 with q1 q2
    subst q1; subst q2
    have hxg : ws.getD 3 [] = x2 := by rw [List.getD_eq_getElem?_getD, hx2]; rfl
    have HC := Lib.hid (specReadCode_any (str x2) w1)
    rw [str_list] at HC
    have HXG := Lib.hid hxg
    clear hx2
    generalize hcd : codeOf x2 = cd at *
    obtain ⟨cv, ck⟩ := cd
    have HCD := Lib.hid (show codeOf (tl.getD 2 []) = (cv, ck) from by rw [HTG.out, hxg, hcd])
    simp only at HC
    clear hcd hxg
    rw [allVal_short]
    go_wp2_with fail
    refine HC.out.mono ?_
    rintro e w2 ⟨rfl, hb⟩
    have HB2 := Lib.hid (HB1.out.trans (hb.mono HB1.out.size))
    have HX2 := Lib.hid (HX1.out.below hb)
    have HRD2 := Lib.hid (HRD1.out.below hb)
    have HRN2 := Lib.hid (fun h => (HRN1.out h).below hb)
    clear hb HB1 HX1 HRD1 HRN1 HC
    have HLD := Lib.hid (show tl.length = n - 1 from by rw [HTL.out, List.length_drop, HLEN.out])
    have HA := Lib.hid (short_two (tl := tl) (by rw [HLD.out]; omega))
    have HVS := Lib.hid (fun h => vals_short (ws := tl.take 2) h)
    generalize hsh2 : allShort (tl.take 2) = sh at *
    cases sh with
    | false =>
      have HR := Lib.hid (xw_noT HTL.out 0 0 0 0 (fun _ r b c t h => by
        have h1 := HA.out.1
        rw [h.2.1, h.2.2.1] at h1
        cases h1))
      have FX := HX2.out.f7
      have FZ := HX2.out.z7
      clear hsh2 HA HRN2
      go_wp2_with fail
      refine bodyPost_ret (v := .tuple #[.agg #[.int .i64 0, .int .i64 0, .int .i64 0, .int .i64 0, .int .i64 0, .int .i64 0, .int .i64 0], .bool false]) (by simp [results, Tryz.results162, go_sem, FX]) rfl ?_
      exact ⟨0, 0, 0, 0, false, rfl, HR.out, below_z7 HB2.out (Nat.le_refl _) _ _ _ _ _ _ _⟩
    | true =>
      have hrn := HRN2.out rfl
      rw [HVS.out rfl, HA.out.2] at hrn
      obtain ⟨q0, q1⟩ := both_of HA.out.1.symm
      have HQ0 := Lib.hid q0
      have HQ1 := Lib.hid q1
      generalize (shortF (tl.getD 0 [])).1 = r0 at *
      generalize (shortF (tl.getD 1 [])).1 = b0 at *
      have hm2 : m = 2 := by have := hrn.len_int; simpa using this.symm
      subst hm2
      clear hsh2 HA HRN2 q0 q1 HVS
      have hkn : (ck = true ∧ ((cv = 0) ↔ n = 5)) ∨ ck = false ∨ (ck = true ∧ ¬ ((cv = 0) ↔ n = 5)) := by
        cases ck
        · exact .inr (.inl rfl)
        · by_cases h : (cv = 0) ↔ n = 5
          · exact .inl ⟨rfl, h⟩
          · exact .inr (.inr ⟨rfl, h⟩)
      rcases hkn with ⟨rfl, hcn⟩ | rfl | ⟨rfl, hcn⟩
      rotate_left
      · have HR := Lib.hid (xw_noT HTL.out 0 0 0 0 (fun _ r b c t h => by
          have h1 := HCD.out
          rw [h.2.2.2.1] at h1
          cases h1))
        have FX := HX2.out.f7
        have FZ := HX2.out.z7
        clear hrn
        go_wp2_with fail
        refine bodyPost_ret (v := .tuple #[.agg #[.int .i64 0, .int .i64 0, .int .i64 0, .int .i64 0, .int .i64 0, .int .i64 0, .int .i64 0], .bool false]) (by simp [results, Tryz.results162, go_sem, FX]) rfl ?_
        exact ⟨0, 0, 0, 0, false, rfl, HR.out, below_z7 HB2.out (Nat.le_refl _) _ _ _ _ _ _ _⟩
      · have HR := Lib.hid (xw_noT HTL.out 0 0 0 0 (fun _ r b c t h => by
          have h1 := HCD.out
          rw [h.2.2.2.1] at h1
          injection h1 with h1 _
          have h2 := h.2.2.2.2.1
          rw [h1, HLD.out] at h2
          apply hcn
          rw [h2]
          omega))
        have FX := HX2.out.f7
        have FZ := HX2.out.z7
        clear hrn
        have hor : (((cv : Int) == 0) = true ∧ ((n : Int) == 5) = false) ∨ (((cv : Int) == 0) = false ∧ ((n : Int) == 5) = true) := by
          by_cases h : cv = 0
          · have : n ≠ 5 := fun h2 => hcn ⟨fun _ => h2, fun _ => h⟩
            exact .inl ⟨by simp [h], by simp; omega⟩
          · have : n = 5 := by
              by_cases h2 : n = 5
              · exact h2
              · exact absurd ⟨fun h3 => absurd h3 h, fun h3 => absurd h3 h2⟩ hcn
            exact .inr ⟨by simp [h], by simp; omega⟩
        clear hcn
        rcases hor with ⟨c1, c2⟩ | ⟨c1, c2⟩
        · clear hn4
          go_wp2_with fail
          refine bodyPost_ret (v := .tuple #[.agg #[.int .i64 0, .int .i64 0, .int .i64 0, .int .i64 0, .int .i64 0, .int .i64 0, .int .i64 0], .bool false]) (by simp [results, Tryz.results162, go_sem, FX]) rfl ?_
          exact ⟨0, 0, 0, 0, false, rfl, HR.out, below_z7 HB2.out (Nat.le_refl _) _ _ _ _ _ _ _⟩
        · exfalso; rw [hn4] at c2; simp at c2
      · obtain ⟨bn, on, u0, en, hu0, -, hcn0⟩ := hrn.int (k := 0) (by omega)
        obtain ⟨bn', on', u1, en', hu1, -, hcn1⟩ := hrn.int (k := 1) (by omega)
        subst en
        injection en' with en'
        injection en' with e1' e2'
        subst e1' e2'
        obtain rfl : u0 = r0 := by simpa using hu0.symm
        obtain rfl : u1 = b0 := by simpa using hu1.symm
        clear hrn hu0 hu1
        have hbl := cell_lt hcn0
        have FX := HX2.out.f7
        have FZ := HX2.out.z7
        simp only [Nat.add_zero] at hcn0
        have hc0 : cv ≠ 0 := by have := hcn.1; intro h; have := this h; omega
        have c1 : (cv == 0) = false := by simp [hc0]
        have c2 : ((n : Int) == 5) = false := by simp; omega
        have HR := Lib.hid (show EntOk tl u0 u1 cv 0 from by
          have hl := HLD.out
          exact ⟨⟨by omega, by omega⟩, HQ0.out, HQ1.out, HCD.out, ⟨fun h => absurd h hc0, fun h => by omega⟩, (fun h => by omega), (fun _ => rfl)⟩)
        clear hcn h4 h5 e1 hn4
        go_wp2_with fail
        go_region
        go_wp2_with fail
        refine bodyPost_ret (v := .tuple #[.agg #[.int .i64 u0, .int .i64 u1, .int .i64 0, .int .i64 cv, .int .i64 0, .int .i64 0, .int .i64 0], .bool true]) (by simp [results, Tryz.results162, go_sem, FX]) rfl ?_
        exact ⟨u0, u1, cv, 0, true, rfl, xw_yesT HTL.out HWD.out HR.out, ((below_z7 HB2.out (Nat.le_refl _) _ _ _ _ _ _ _).alloc (by simp; have := HB2.out.size; omega) _).drew⟩
  · go_enter Tryz.func162, Tryz.ntmps162
    go_wp2_with fail
    rw [← HWA.out]
    clear HWA
    go_wp2_with fail
    refine HS.out.mono ?_
    rintro e w1 ⟨B, m, c1, rfl, hrn, hb⟩
    have HB1 := Lib.hid (HBA.out.trans (hb.mono HBA.out.size))
    have HX1 := Lib.hid (HX.out.below hb)
    have HRD1 := Lib.hid (HRD.out.below hb)
    rw [allVal_short] at hrn
    have HRN1 := Lib.hid hrn
    clear hb hrn HX HBA HRD HS hc0 hlit hlit2
    obtain ⟨b2, o2, x2, q2, hx2, -, hc2⟩ := HRD1.out.str (k := 3) (by omega)
    injection q2 with q2
    injection q2 with q1 q2
    subst q1; subst q2
    have hxg : ws.getD 3 [] = x2 := by rw [List.getD_eq_getElem?_getD, hx2]; rfl
    have HC := Lib.hid (specReadCode_any (str x2) w1)
    rw [str_list] at HC
    have HXG := Lib.hid hxg
    clear hx2
    generalize hcd : codeOf x2 = cd at *
    obtain ⟨cv, ck⟩ := cd
    have HCD := Lib.hid (show codeOf (tl.getD 2 []) = (cv, ck) from by rw [HTG.out, hxg, hcd])
    simp only at HC
    clear hcd hxg
    rw [allVal_short]
    go_wp2_with fail
    refine HC.out.mono ?_
    rintro e w2 ⟨rfl, hb⟩
    have HB2 := Lib.hid (HB1.out.trans (hb.mono HB1.out.size))
    have HX2 := Lib.hid (HX1.out.below hb)
    have HRD2 := Lib.hid (HRD1.out.below hb)
    have HRN2 := Lib.hid (fun h => (HRN1.out h).below hb)
    clear hb HB1 HX1 HRD1 HRN1 HC
    have HLD := Lib.hid (show tl.length = n - 1 from by rw [HTL.out, List.length_drop, HLEN.out])
    have HA := Lib.hid (short_two (tl := tl) (by rw [HLD.out]; omega))
    have HVS := Lib.hid (fun h => vals_short (ws := tl.take 2) h)
    generalize hsh2 : allShort (tl.take 2) = sh at *
    cases sh with
    | false =>
      have HR := Lib.hid (xw_noT HTL.out 0 0 0 0 (fun _ r b c t h => by
        have h1 := HA.out.1
        rw [h.2.1, h.2.2.1] at h1
        cases h1))
      have FX := HX2.out.f7
      have FZ := HX2.out.z7
      clear hsh2 HA HRN2
      go_wp2_with fail
      refine bodyPost_ret (v := .tuple #[.agg #[.int .i64 0, .int .i64 0, .int .i64 0, .int .i64 0, .int .i64 0, .int .i64 0, .int .i64 0], .bool false]) (by simp [results, Tryz.results162, go_sem, FX]) rfl ?_
      exact ⟨0, 0, 0, 0, false, rfl, HR.out, below_z7 HB2.out (Nat.le_refl _) _ _ _ _ _ _ _⟩
    | true =>
      have hrn := HRN2.out rfl
      rw [HVS.out rfl, HA.out.2] at hrn
      obtain ⟨q0, q1⟩ := both_of HA.out.1.symm
      have HQ0 := Lib.hid q0
      have HQ1 := Lib.hid q1
      generalize (shortF (tl.getD 0 [])).1 = r0 at *
      generalize (shortF (tl.getD 1 [])).1 = b0 at *
      have hm2 : m = 2 := by have := hrn.len_int; simpa using this.symm
      subst hm2
      clear hsh2 HA HRN2 q0 q1 HVS
      have hkn : (ck = true ∧ ((cv = 0) ↔ n = 5)) ∨ ck = false ∨ (ck = true ∧ ¬ ((cv = 0) ↔ n = 5)) := by
        cases ck
        · exact .inr (.inl rfl)
        · by_cases h : (cv = 0) ↔ n = 5
          · exact .inl ⟨rfl, h⟩
          · exact .inr (.inr ⟨rfl, h⟩)
      rcases hkn with ⟨rfl, hcn⟩ | rfl | ⟨rfl, hcn⟩
      rotate_left
      · have HR := Lib.hid (xw_noT HTL.out 0 0 0 0 (fun _ r b c t h => by
          have h1 := HCD.out
          rw [h.2.2.2.1] at h1
          cases h1))
        have FX := HX2.out.f7
        have FZ := HX2.out.z7
        clear hrn
        go_wp2_with fail
        refine bodyPost_ret (v := .tuple #[.agg #[.int .i64 0, .int .i64 0, .int .i64 0, .int .i64 0, .int .i64 0, .int .i64 0, .int .i64 0], .bool false]) (by simp [results, Tryz.results162, go_sem, FX]) rfl ?_
        exact ⟨0, 0, 0, 0, false, rfl, HR.out, below_z7 HB2.out (Nat.le_refl _) _ _ _ _ _ _ _⟩
      · have HR := Lib.hid (xw_noT HTL.out 0 0 0 0 (fun _ r b c t h => by
          have h1 := HCD.out
          rw [h.2.2.2.1] at h1
          injection h1 with h1 _
          have h2 := h.2.2.2.2.1
          rw [h1, HLD.out] at h2
          apply hcn
          rw [h2]
          omega))
        have FX := HX2.out.f7
        have FZ := HX2.out.z7
        clear hrn
        have hor : (((cv : Int) == 0) = true ∧ ((n : Int) == 5) = false) ∨ (((cv : Int) == 0) = false ∧ ((n : Int) == 5) = true) := by
          by_cases h : cv = 0
          · have : n ≠ 5 := fun h2 => hcn ⟨fun _ => h2, fun _ => h⟩
            exact .inl ⟨by simp [h], by simp; omega⟩
          · have : n = 5 := by
              by_cases h2 : n = 5
              · exact h2
              · exact absurd ⟨fun h3 => absurd h3 h, fun h3 => absurd h3 h2⟩ hcn
            exact .inr ⟨by simp [h], by simp; omega⟩
        clear hcn
        rcases hor with ⟨c1, c2⟩ | ⟨c1, c2⟩
        · exfalso; rw [hn4] at c2; simp at c2
        · clear hn4
          go_wp2_with fail
          refine bodyPost_ret (v := .tuple #[.agg #[.int .i64 0, .int .i64 0, .int .i64 0, .int .i64 0, .int .i64 0, .int .i64 0, .int .i64 0], .bool false]) (by simp [results, Tryz.results162, go_sem, FX]) rfl ?_
          exact ⟨0, 0, 0, 0, false, rfl, HR.out, below_z7 HB2.out (Nat.le_refl _) _ _ _ _ _ _ _⟩
      · obtain ⟨bn, on, u0, en, hu0, -, hcn0⟩ := hrn.int (k := 0) (by omega)
        obtain ⟨bn', on', u1, en', hu1, -, hcn1⟩ := hrn.int (k := 1) (by omega)
        subst en
        injection en' with en'
        injection en' with e1' e2'
        subst e1' e2'
        obtain rfl : u0 = r0 := by simpa using hu0.symm
        obtain rfl : u1 = b0 := by simpa using hu1.symm
        clear hrn hu0 hu1
        have hbl := cell_lt hcn0
        have FX := HX2.out.f7
        have FZ := HX2.out.z7
        simp only [Nat.add_zero] at hcn0
        have hc0 : cv = 0 := hcn.2 hn4
        have c1 : (cv == 0) = true := by simp [hc0]
        have c2 : ((n : Int) == 5) = true := by simp; omega
        subst hc0
        obtain ⟨b3, o3, x3, q3, hx3, -, hc3⟩ := HRD2.out.str (k := 4) (by omega)
        injection q3 with q3
        injection q3 with q1 q2
        subst q1; subst q2
        have hxg3 : tl.getD 3 [] = x3 := by rw [HTG.out, List.getD_eq_getElem?_getD, hx3]; rfl
        have hsz3 : (str x3).size ≤ 2097152 := by rw [str_size]; exact HSH.out x3 (List.mem_of_getElem? hx3)
        have HT := Lib.hid (fun w' => specReadTime_any (str x3) hsz3 w')
        rw [str_list] at HT
        have HXG3 := Lib.hid hxg3
        have hb3l := cell_lt hc3
        have HN4 := Lib.hid hn4
        have hk3 : 4 < n := by omega
        clear hcn h4 h5 e1 e2 hx3 hxg3 hsz3 hn4
        go_wp2_with fail
        go_region
        go_wp2_with fail
        obtain ⟨w3, hw3, XV, hb3, hs3⟩ := one_box w2 #[.int .i64 u0, .int .i64 u1, .int .i64 0, .int .i64 0, .int .i64 0, .int .i64 0, .int .i64 0] 25
        rw [← hw3]
        have hbd : Below w3.heap.size w3 w3.drew := (Below.refl _ _).drew
        generalize w3.drew = w4 at *
        have HB4 := Lib.hid (HB2.out.trans ((hb3.trans (hbd.mono hb3.size)).mono HB2.out.size))
        have HX4 := Lib.hid (HX2.out.below (hb3.trans (hbd.mono hb3.size)))
        have HV4 := Lib.hid (XV.below hbd)
        have hlt4 := FX.2.2.2.2.2.2.2
        clear FX FZ XV hb3 hbd hs3 hw3 hcn0 hcn1 hc3
        refine (HT.out _).mono ?_
        rintro e w5 ⟨t, ok, rfl, hrt, hb⟩
        have HRT := Lib.hid hrt
        have HB5 := Lib.hid (HB4.out.trans (hb.mono HB4.out.size))
        have FX := (HX4.out.below hb).f7
        have FZ := (HX4.out.below hb).z7
        have FV := (HV4.out.below hb).f7
        have FVZ := (HV4.out.below hb).z7
        clear hrt hb HT
        cases ok with
        | true =>
          have HR := Lib.hid (show XW ws u0 u1 0 t true from by
            have hl := HLD.out
            have h4 := HN4.out
            obtain ⟨t1, t2, t3⟩ := HRT.out.2 rfl
            exact xw_yesT HTL.out HWD.out ⟨⟨by omega, by omega⟩, HQ0.out, HQ1.out, HCD.out, ⟨fun _ => by omega, fun _ => rfl⟩, (fun _ => ⟨t1, t2, by rw [HXG3.out]; exact t3⟩), (fun h => by omega)⟩)
          go_wp2_with fail
          refine bodyPost_ret (v := .tuple #[.agg #[.int .i64 u0, .int .i64 u1, .int .i64 0, .int .i64 0, .int .i64 t, .int .i64 0, .int .i64 0], .bool true]) (by simp [results, Tryz.results162, go_sem, FX]) rfl ?_
          exact ⟨u0, u1, 0, t, true, rfl, HR.out, below_z7 (HB5.out.setCell (p := ⟨w2.heap.size, 4, none⟩) HB2.out.size _) (Nat.le_refl _) _ _ _ _ _ _ _⟩
        | false =>
          have HR := Lib.hid (show XW ws 0 0 0 0 false from by
            refine xw_noT HTL.out _ _ _ _ (fun _ r b c t' h => ?_)
            have hl := HLD.out
            have h4 := HN4.out
            have h6 := h.2.2.2.2.2.1 (by omega)
            rw [HXG3.out] at h6
            have h7 := (HRT.out.1 t'.toNat (by omega) h6.2.2).2
            cases h7)
          go_wp2_with fail
          refine bodyPost_ret (v := .tuple #[.agg #[.int .i64 0, .int .i64 0, .int .i64 0, .int .i64 0, .int .i64 0, .int .i64 0, .int .i64 0], .bool false]) (by simp [results, Tryz.results162, go_sem, FX]) rfl ?_
          exact ⟨0, 0, 0, 0, false, rfl, HR.out, below_z7 HB5.out (Nat.le_refl _) _ _ _ _ _ _ _⟩
end Go.Proofs.YtnpldahkhaacnaaGreatDoor

/- Walks: an entry read by the program out of the words behind enter. -/
import Derived.Test.YtnpldahkhaacnaaGreatDoorZme
import Derived.Test.YtnpldahkhaacnaaGreatDoorQp
import Derived.BigRegion
namespace Go.Proofs.YtnpldahkhaacnaaGreatDoor
open Go.RowKit Go.Sort
set_option linter.unusedVariables false
set_option maxRecDepth 100000

theorem Box.z7 {w : World} {b : Nat} {vs : Array Value} {t : TypeId} (h : Box w b vs t) : w.frozen? ⟨b, 0, none⟩ = false ∧ w.frozen? ⟨b, 1, none⟩ = false ∧ w.frozen? ⟨b, 2, none⟩ = false ∧ w.frozen? ⟨b, 3, none⟩ = false ∧ w.frozen? ⟨b, 4, none⟩ = false ∧ w.frozen? ⟨b, 5, none⟩ = false ∧ w.frozen? ⟨b, 6, none⟩ = false := ⟨h.fz, h.fz, h.fz, h.fz, h.fz, h.fz, h.fz⟩
theorem below_z7 {n b : Nat} {w w' : World} (h : Below n w w') (hb : n ≤ b) (v0 v1 v2 v3 v4 v5 v6 : Value) : Below n w (((((((w'.setCell ⟨b, 0, none⟩ v0).setCell ⟨b, 1, none⟩ v1).setCell ⟨b, 2, none⟩ v2).setCell ⟨b, 3, none⟩ v3).setCell ⟨b, 4, none⟩ v4).setCell ⟨b, 5, none⟩ v5).setCell ⟨b, 6, none⟩ v6) :=
  ((((((h.setCell (p := ⟨b, 0, none⟩) hb v0).setCell (p := ⟨b, 1, none⟩) hb v1).setCell (p := ⟨b, 2, none⟩) hb v2).setCell (p := ⟨b, 3, none⟩) hb v3).setCell (p := ⟨b, 4, none⟩) hb v4).setCell (p := ⟨b, 5, none⟩) hb v5).setCell (p := ⟨b, 6, none⟩) hb v6
theorem short_two {tl : List (List UInt8)} (h : 2 ≤ tl.length) : allShort (tl.take 2) = ((shortF (tl.getD 0 [])).2 && (shortF (tl.getD 1 [])).2) ∧ ((tl.take 2).map fun w => (shortF w).1) = [(shortF (tl.getD 0 [])).1, (shortF (tl.getD 1 [])).1] := by
  match tl, h with
  | a :: b :: r, _ => exact ⟨by simp [allShort], rfl⟩
theorem both_of {p q : Int × Bool} (h : (p.2 && q.2) = true) : p = (p.1, true) ∧ q = (q.1, true) := by
  obtain ⟨p1, p2⟩ := p
  obtain ⟨q1, q2⟩ := q
  simp only [Bool.and_eq_true] at h
  simp [h.1, h.2]
/-- An entry read out of words: something, which is the entry where the words are one's. -/
def RetXE (w : World) (tl : List (List UInt8)) (e : Ending) (w' : World) : Prop :=
  ∃ r b c t ok, e = .returned (.tuple #[.agg #[.int .i64 r, .int .i64 b, .int .i64 0, .int .i64 c, .int .i64 t, .int .i64 0, .int .i64 0], .bool ok]) ∧ XP tl r b c t ok ∧ Below w.heap.size w w'
set_option maxHeartbeats 8000000 in
theorem implReadEnter_any (A : Option Addr) (n cp : Nat) (tl : List (List UInt8)) (w : World) (h : Rd w 1 A n (strs tl)) (hn : n ≤ 4194304) (hcp : n ≤ cp) (hsh : ∀ x ∈ tl, x.length ≤ 2097152) (HL : ∀ w', Below w.heap.size w w' → Libs w') :
    Calls Tryz.prog 39 #[.slice A n cp] w (RetXE w tl) := by
  have hln := h.len_str
  obtain ⟨wa, hwa, XR, hba, hsa⟩ := one_box w #[.int .i64 0, .int .i64 0, .int .i64 0, .int .i64 0, .int .i64 0, .int .i64 0, .int .i64 0] 25
  have HWA := Lib.hid hwa
  have HX := Lib.hid XR
  have HBA := Lib.hid hba
  have HLL := Lib.hid HL
  have HSH := Lib.hid hsh
  have HLEN := Lib.hid hln
  have hlen : n < 3 ∨ 4 < n ∨ (3 ≤ n ∧ n ≤ 4) := by omega
  rcases hlen with h3 | h3 | ⟨h3, h4⟩
  · have e1 : decide ((n : Int) < 3) = true := by simp; omega
    have HR := Lib.hid (xp_len (tl := tl) (.inl (by omega)) 0 0 0 0)
    have FX := HX.out.f7
    have FZ := HX.out.z7
    clear h XR hba hsa hwa HL hsh hln
    go_enter Tryz.func39, Tryz.ntmps39
    go_wp2_with fail
    rw [← HWA.out]
    clear HWA
    go_wp2_with fail
    refine bodyPost_ret (v := .tuple #[.agg #[.int .i64 0, .int .i64 0, .int .i64 0, .int .i64 0, .int .i64 0, .int .i64 0, .int .i64 0], .bool false]) (by simp [results, Tryz.results39, go_sem, FX]) rfl ?_
    exact ⟨0, 0, 0, 0, false, rfl, HR.out, HBA.out⟩
  · have e1 : decide ((n : Int) < 3) = false := by simp; omega
    have e2 : decide ((4 : Int) < (n : Int)) = true := by simp; omega
    have HR := Lib.hid (xp_len (tl := tl) (.inr (by omega)) 0 0 0 0)
    have FX := HX.out.f7
    have FZ := HX.out.z7
    clear h XR hba hsa hwa HL hsh hln
    go_enter Tryz.func39, Tryz.ntmps39
    go_wp2_with fail
    rw [← HWA.out]
    clear HWA
    go_wp2_with fail
    refine bodyPost_ret (v := .tuple #[.agg #[.int .i64 0, .int .i64 0, .int .i64 0, .int .i64 0, .int .i64 0, .int .i64 0, .int .i64 0], .bool false]) (by simp [results, Tryz.results39, go_sem, FX]) rfl ?_
    exact ⟨0, 0, 0, 0, false, rfl, HR.out, HBA.out⟩
  · have e1 : decide ((n : Int) < 3) = false := by simp; omega
    have e2 : decide ((4 : Int) < (n : Int)) = false := by simp; omega
    obtain ⟨bb, oo, rfl, -⟩ := h.pos (by omega)
    have HT2 := Lib.hid ((h.takeS 2 (by omega)).below hba)
    have HRD := Lib.hid (h.below hba)
    have h2c : 2 ≤ cp := by omega
    have HS := Lib.hid (shorts_any (some ⟨bb, oo, none⟩) 2 cp (tl.take 2) wa HT2.out (by omega) (fun x hx => hsh x (List.mem_of_mem_take hx)) (fun w' hb => HL w' (hba.trans (hb.mono hba.size))))
    clear h XR hba hsa hwa HL hsh hln
    go_enter Tryz.func39, Tryz.ntmps39
    go_wp2_with fail
    rw [← HWA.out]
    clear HWA
    go_wp2_with fail
    refine HS.out.mono ?_
    rintro e w1 ⟨B, m, c1, rfl, hrn, hb⟩
    have HB1 := Lib.hid (HBA.out.trans (hb.mono HBA.out.size))
    have HX1 := Lib.hid (HX.out.below hb)
    have HRD1 := Lib.hid (HRD.out.below hb)
    have HRN1 := Lib.hid hrn
    clear hb hrn HX HBA HRD HT2 HS
    obtain ⟨b2, o2, x2, q2, hx2, -, hc2⟩ := HRD1.out.str (k := 2) (by omega)
    injection q2 with q2
    injection q2 with q1 q2
    subst q1; subst q2
    have hxg : tl.getD 2 [] = x2 := by rw [List.getD_eq_getElem?_getD, hx2]; rfl
    have HC := Lib.hid (implReadCode_any (str x2) w1)
    rw [str_list] at HC
    have HXG := Lib.hid hxg
    clear hx2
    generalize hcd : codeOf x2 = cd at *
    obtain ⟨cv, ck⟩ := cd
    have HCD := Lib.hid (show codeOf (tl.getD 2 []) = (cv, ck) from by rw [hxg, hcd])
    simp only at HC
    clear hcd hxg
    go_wp2_with fail
    refine HC.out.mono ?_
    rintro e w2 ⟨rfl, hb⟩
    have HB2 := Lib.hid (HB1.out.trans (hb.mono HB1.out.size))
    have HX2 := Lib.hid (HX1.out.below hb)
    have HRD2 := Lib.hid (HRD1.out.below hb)
    have HRN2 := Lib.hid (fun h => (HRN1.out h).below hb)
    clear hb HB1 HX1 HRD1 HRN1 HC
    have h2l : 2 ≤ tl.length := by have := HLEN.out; omega
    have HA := Lib.hid (short_two h2l)
    rw [HA.out.2] at HRN2
    generalize hsh2 : allShort (tl.take 2) = sh at *
    cases sh with
    | false =>
      have HR := Lib.hid (xp_no (tl := tl) 0 0 0 0 (fun r b c t h => by
        have h1 := HA.out.1
        rw [h.2.1, h.2.2.1] at h1
        cases h1))
      have FX := HX2.out.f7
      have FZ := HX2.out.z7
      clear hsh2 HA HRN2
      go_wp2_with fail
      refine bodyPost_ret (v := .tuple #[.agg #[.int .i64 0, .int .i64 0, .int .i64 0, .int .i64 0, .int .i64 0, .int .i64 0, .int .i64 0], .bool false]) (by simp [results, Tryz.results39, go_sem, FX]) rfl ?_
      exact ⟨0, 0, 0, 0, false, rfl, HR.out, below_z7 HB2.out (Nat.le_refl _) _ _ _ _ _ _ _⟩
    | true =>
      have hrn := HRN2.out rfl
      obtain ⟨q0, q1⟩ := both_of HA.out.1.symm
      have HQ0 := Lib.hid q0
      have HQ1 := Lib.hid q1
      generalize (shortF (tl.getD 0 [])).1 = r0 at *
      generalize (shortF (tl.getD 1 [])).1 = b0 at *
      have hm2 : m = 2 := by have := hrn.len_int; simpa using this.symm
      subst hm2
      clear hsh2 HA HRN2 q0 q1
      have hkn : (ck = true ∧ ((cv = 0) ↔ n = 4)) ∨ ck = false ∨ (ck = true ∧ ¬ ((cv = 0) ↔ n = 4)) := by
        cases ck
        · exact .inr (.inl rfl)
        · by_cases h : (cv = 0) ↔ n = 4
          · exact .inl ⟨rfl, h⟩
          · exact .inr (.inr ⟨rfl, h⟩)
      rcases hkn with ⟨rfl, hcn⟩ | rfl | ⟨rfl, hcn⟩
      rotate_left
      · have HR := Lib.hid (xp_no (tl := tl) 0 0 0 0 (fun r b c t h => by
          have h1 := HCD.out
          rw [h.2.2.2.1] at h1
          cases h1))
        have FX := HX2.out.f7
        have FZ := HX2.out.z7
        clear hrn
        go_wp2_with fail
        refine bodyPost_ret (v := .tuple #[.agg #[.int .i64 0, .int .i64 0, .int .i64 0, .int .i64 0, .int .i64 0, .int .i64 0, .int .i64 0], .bool false]) (by simp [results, Tryz.results39, go_sem, FX]) rfl ?_
        exact ⟨0, 0, 0, 0, false, rfl, HR.out, below_z7 HB2.out (Nat.le_refl _) _ _ _ _ _ _ _⟩
      · have HR := Lib.hid (xp_no (tl := tl) 0 0 0 0 (fun r b c t h => by
          have h1 := HCD.out
          rw [h.2.2.2.1] at h1
          injection h1 with h1 _
          have h2 := h.2.2.2.2.1
          rw [h1] at h2
          apply hcn
          rw [h2]
          have := HLEN.out
          omega))
        have FX := HX2.out.f7
        have FZ := HX2.out.z7
        clear hrn
        have hor : (((cv : Int) == 0) = true ∧ ((n : Int) == 4) = false) ∨ (((cv : Int) == 0) = false ∧ ((n : Int) == 4) = true) := by
          by_cases h : cv = 0
          · have : n ≠ 4 := fun h2 => hcn ⟨fun _ => h2, fun _ => h⟩
            exact .inl ⟨by simp [h], by simp; omega⟩
          · have : n = 4 := by
              by_cases h2 : n = 4
              · exact h2
              · exact absurd ⟨fun h3 => absurd h3 h, fun h3 => absurd h3 h2⟩ hcn
            exact .inr ⟨by simp [h], by simp; omega⟩
        clear hcn
        rcases hor with ⟨c1, c2⟩ | ⟨c1, c2⟩
        · go_wp2_with fail
          refine bodyPost_ret (v := .tuple #[.agg #[.int .i64 0, .int .i64 0, .int .i64 0, .int .i64 0, .int .i64 0, .int .i64 0, .int .i64 0], .bool false]) (by simp [results, Tryz.results39, go_sem, FX]) rfl ?_
          exact ⟨0, 0, 0, 0, false, rfl, HR.out, below_z7 HB2.out (Nat.le_refl _) _ _ _ _ _ _ _⟩
        · go_wp2_with fail
          refine bodyPost_ret (v := .tuple #[.agg #[.int .i64 0, .int .i64 0, .int .i64 0, .int .i64 0, .int .i64 0, .int .i64 0, .int .i64 0], .bool false]) (by simp [results, Tryz.results39, go_sem, FX]) rfl ?_
          exact ⟨0, 0, 0, 0, false, rfl, HR.out, below_z7 HB2.out (Nat.le_refl _) _ _ _ _ _ _ _⟩
      · obtain ⟨bn, on, u0, en, hu0, -, hcn0⟩ := hrn.int (k := 0) (by omega)
        obtain ⟨bn', on', u1, en', hu1, -, hcn1⟩ := hrn.int (k := 1) (by omega)
        subst en
        injection en' with en'
        injection en' with e1 e2
        subst e1 e2
        obtain rfl : u0 = r0 := by simpa using hu0.symm
        obtain rfl : u1 = b0 := by simpa using hu1.symm
        clear hrn hu0 hu1
        simp only [Nat.add_zero] at hcn0
        have hbl := cell_lt hcn0
        have FX := HX2.out.f7
        have FZ := HX2.out.z7
        by_cases hc0 : cv = 0
        · have hn4 := hcn.1 hc0
          have c1 : (cv == 0) = true := by simp [hc0]
          have c2 : ((n : Int) == 4) = true := by simp; omega
          subst hc0
          obtain ⟨b3, o3, x3, q3, hx3, -, hc3⟩ := HRD2.out.str (k := 3) (by omega)
          injection q3 with q3
          injection q3 with q1 q2
          subst q1; subst q2
          have hxg3 : tl.getD 3 [] = x3 := by rw [List.getD_eq_getElem?_getD, hx3]; rfl
          have hsz3 : (str x3).size ≤ 2097152 := by rw [str_size]; exact HSH.out x3 (List.mem_of_getElem? hx3)
          have HT := Lib.hid (fun w' (hb : Below w.heap.size w w') => implReadTime_any (str x3) hsz3 w' (fun w2 h2 => HLL.out _ (hb.trans (h2.mono hb.size))))
          rw [str_list] at HT
          have HXG3 := Lib.hid hxg3
          have hb3l := cell_lt hc3
          have HN4 := Lib.hid hn4
          have hk3 : 3 < n := by omega
          clear hcn h3 h4 e1 e2 hx3 hxg3 hsz3 hn4
          go_wp2_with fail
          go_region
          go_wp2_with fail
          obtain ⟨w3, hw3, XV, hb3, hs3⟩ := one_box w2 #[.int .i64 u0, .int .i64 u1, .int .i64 0, .int .i64 0, .int .i64 0, .int .i64 0, .int .i64 0] 25
          rw [← hw3]
          have hbd : Below w3.heap.size w3 w3.drew := (Below.refl _ _).drew
          generalize w3.drew = w4 at *
          have HB4 := Lib.hid (HB2.out.trans ((hb3.trans (hbd.mono hb3.size)).mono HB2.out.size))
          have HX4 := Lib.hid (HX2.out.below (hb3.trans (hbd.mono hb3.size)))
          have HV4 := Lib.hid (XV.below hbd)
          have hlt4 := FX.2.2.2.2.2.2.2
          clear FX FZ XV hb3 hbd hs3 hw3 hcn0 hcn1 hc3
          refine (HT.out _ HB4.out).mono ?_
          rintro e w5 ⟨t, ok, rfl, hrt, hb⟩
          have HRT := Lib.hid hrt
          have HB5 := Lib.hid (HB4.out.trans (hb.mono HB4.out.size))
          have FX := (HX4.out.below hb).f7
          have FZ := (HX4.out.below hb).z7
          have FV := (HV4.out.below hb).f7
          have FVZ := (HV4.out.below hb).z7
          have HR := Lib.hid (show XP tl u0 u1 0 t ok from by
            have hl := HLEN.out
            have h4 := HN4.out
            cases ok with
            | true =>
              obtain ⟨t1, t2, t3⟩ := HRT.out.2 rfl
              exact xp_yes ⟨⟨by omega, by omega⟩, HQ0.out, HQ1.out, HCD.out, ⟨fun _ => by omega, fun _ => rfl⟩, (fun _ => ⟨t1, t2, by rw [HXG3.out]; exact t3⟩), (fun h => by omega)⟩
            | false =>
              refine xp_no _ _ _ _ (fun r b c t' h => ?_)
              have h6 := h.2.2.2.2.2.1 (by omega)
              rw [HXG3.out] at h6
              have h7 := (HRT.out.1 t'.toNat (by omega) h6.2.2).2
              cases h7)
          clear hrt hb HT
          go_wp2_with fail
          refine bodyPost_ret (v := .tuple #[.agg #[.int .i64 u0, .int .i64 u1, .int .i64 0, .int .i64 0, .int .i64 t, .int .i64 0, .int .i64 0], .bool ok]) (by simp [results, Tryz.results39, go_sem, FX]) rfl ?_
          exact ⟨u0, u1, 0, t, ok, rfl, HR.out, below_z7 (HB5.out.setCell (p := ⟨w2.heap.size, 4, none⟩) HB2.out.size _) (Nat.le_refl _) _ _ _ _ _ _ _⟩
        · have hn4 : n = 3 := by have := hcn.2; omega
          have c1 : (cv == 0) = false := by simp [hc0]
          have c2 : ((n : Int) == 4) = false := by simp; omega
          have HR := Lib.hid (show EntOk tl u0 u1 cv 0 from by
            have hl := HLEN.out
            exact ⟨⟨by omega, by omega⟩, HQ0.out, HQ1.out, HCD.out, ⟨fun h => absurd h hc0, fun h => by omega⟩, (fun h => by omega), (fun _ => rfl)⟩)
          clear hcn h3 h4 e1 e2
          go_wp2_with fail
          go_region
          go_wp2_with fail
          refine bodyPost_ret (v := .tuple #[.agg #[.int .i64 u0, .int .i64 u1, .int .i64 0, .int .i64 cv, .int .i64 0, .int .i64 0, .int .i64 0], .bool true]) (by simp [results, Tryz.results39, go_sem, FX]) rfl ?_
          exact ⟨u0, u1, cv, 0, true, rfl, xp_yes HR.out, ((below_z7 HB2.out (Nat.le_refl _) _ _ _ _ _ _ _).alloc (by simp; have := HB2.out.size; omega) _).drew⟩
end Go.Proofs.YtnpldahkhaacnaaGreatDoor

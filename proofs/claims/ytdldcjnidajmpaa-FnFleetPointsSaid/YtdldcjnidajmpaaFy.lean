/- Walks: points of a race in fleets, the spec. -/
import Derived.Test.YtdldcjnidajmpaaFx
import Derived.Test.YtdldcjnidajmpaaFv
namespace Go.Proofs.Ytdldcjnidajmpaa
open Go.RowKit
set_option linter.unusedVariables false
set_option maxRecDepth 100000

set_option maxHeartbeats 8000000 in
theorem specFleetPoints_any (A : Option Addr) (n c : Nat) (fs : List FinishT) (B : Option Addr) (m d : Nat) (list : List Int) (k : Int) (w : World) (h : Rd w 3 A n (fins fs)) (hl : Rd w 1 B m (ints list)) :
    Calls Try.prog 16 #[.agg #[.slice A n c], .slice B m d, .int .i64 k] w (RetI w (fleetPointsL fs list k)) := by
  have HC := Lib.hid (fun w' (hb : Below w.heap.size w w') => l30Code_any B m d list k w' (hl.below hb))
  have HR := Lib.hid (fun w' (hb : Below w.heap.size w w') => specIsRace_any (m : Int) A n c fs w' (h.below hb))
  have HN := Lib.hid h.len_fin
  have HM := Lib.hid hl.len_int
  have hmle := hl.le
  have hnle := h.le
  obtain ⟨w1, hw1, X0, hb1, hs1⟩ := one_box w #[.slice A n c] 31
  by_cases hz : fleetsCodeF list k = 0
  rotate_left
  · have e1 : fleetPointsL fs list k = ([], fleetsCodeF list k) := by unfold fleetPointsL; rw [if_neg hz]
    rw [e1]; clear e1
    generalize fleetsCodeF list k = code at *
    have hne : (code != 0) = true := by simp [hz]
    clear hz
    go_enter Try.func16, Try.ntmps16
    go_wp2_with fail
    rw [← hw1]
    clear hw1
    refine (HC.out _ hb1).mono ?_
    rintro e w2 ⟨rfl, rfl⟩
    go_wp2_with fail
    go_ret2
    exact RetI.nil _ _ _ hb1
  obtain ⟨hk1, hk4, hfl⟩ := fleetsCode_ok hz
  have HOK := Lib.hid hfl
  have hlen := fleetsB_len hfl
  clear hfl
  rw [HM.out] at hlen
  by_cases hr : raceB (list.length : Int) fs = true
  rotate_left
  · have e1 : fleetPointsL fs list k = ([], 5) := by unfold fleetPointsL; rw [if_pos hz, if_neg hr]
    rw [e1]; clear e1
    rw [hz] at HC
    rw [← HM.out] at HR
    simp only [Bool.not_eq_true] at hr
    rw [hr] at HR
    clear hr hz
    rw [HM.out] at HR
    go_enter Try.func16, Try.ntmps16
    go_wp2_with fail
    rw [← hw1]
    clear hw1
    refine (HC.out _ hb1).mono ?_
    rintro e w2 ⟨rfl, rfl⟩
    have F0 := X0.l1
    go_wp2_with fail
    refine (HR.out _ hb1).mono ?_
    rintro e w2 ⟨rfl, hb2⟩
    have HB2 := Lib.hid (hb1.trans (hb2.mono hb1.size))
    clear hb1 hb2 X0 F0 hs1
    go_wp2_with fail
    go_ret2
    exact RetI.nil _ _ _ HB2.out
  obtain ⟨kn, rfl⟩ : ∃ kn : Nat, k = kn := ⟨k.toNat, by omega⟩
  have hkn : kn ≤ 4 := by omega
  have HSZ := Lib.hid (fun w' (hb : Below w.heap.size w w') => l30SizesS_any B m d kn list hkn HOK.out w' (hl.below hb))
  have HRL := Lib.hid (fun w' (hb : Below w.heap.size w w') => hl.below hb)
  have HLL := Lib.hid (largest_le (sizes_le HOK.out kn))
  have HCL := Lib.hid (show (countF list (List.replicate kn 0)).length = kn from by rw [countFv_len]; simp)
  have e1 : fleetPointsL fs list kn = (pointsL (largestF (countF list (List.replicate kn 0))) fs list, 0) := by unfold fleetPointsL; rw [if_pos hz, if_pos hr]; simp
  rw [e1]; clear e1
  have OKR := Lib.hid (raceB_ok hr)
  rw [hz] at HC
  rw [← HM.out, hr, HM.out] at HR
  generalize countF list (List.replicate kn 0) = sizes at *
  have HEQ := Lib.hid (show fs.length = list.length from by have := OKR.out.len; omega)
  have HNM := Lib.hid (show n = m from by rw [← HN.out, ← HM.out]; exact HEQ.out)
  have HRD := Lib.hid (fun w' (hb : Below w.heap.size w w') => h.below hb)
  clear hz hr h hl
  go_enter Try.func16, Try.ntmps16
  go_wp2_with fail
  rw [← hw1]
  clear hw1
  refine (HC.out _ hb1).mono ?_
  rintro e w2 ⟨rfl, rfl⟩
  have F0 := X0.l1
  go_wp2_with fail
  refine (HR.out _ hb1).mono ?_
  rintro e w2 ⟨rfl, hb2⟩
  have HB2 := Lib.hid (hb1.trans (hb2.mono hb1.size))
  have X2 := X0.below hb2
  have hs2 : w.heap.size < w2.heap.size := by have := hb2.size; omega
  clear hb1 hb2 X0 F0 hs1 HC HR
  go_wp2_with fail
  have HB3 := HB2
  have X3 := X2
  refine (HSZ.out _ HB3.out).mono ?_
  rintro e w4 ⟨Z, z, cz, rfl, hoz, hzz, hb4⟩
  have HZL := Lib.hid (show sizes.length = z from own_len hoz)
  have HZ := Lib.hid hoz
  have HB4 := Lib.hid (HB3.out.trans (hb4.mono HB3.out.size))
  have X4 := X3.below hb4
  have hb4s := hb4.size
  clear hoz hb4 X3 HSZ HB3 HB2
  go_wp2_with fail
  go_loopw [9, 11] (fun v i wr => ∃ j : Nat, j ≤ z ∧ i = .int .i64 j ∧ v = .int .i64 (largestF (sizes.take j)) ∧ wr = w4) (fun _ i _ => z - (intOf i).toNat)
  case atStart => exact ⟨0, Nat.zero_le _, rfl, by simp [largestF], rfl⟩
  case round =>
    obtain ⟨j, hj, rfl, rfl, hwr⟩ := hrel
    replace hwr := hwr.symm
    subst hwr
    by_cases hjz : j < z
    · obtain ⟨g, x, rfl, hg1, hg2, hx, hc, hf⟩ := own_int_at HZ.out hjz
      have HX := Lib.hid hx
      clear hx
      go_wp2_with fail
      go_roundw
      case rel => exact ⟨j + 1, by omega, by go_num, by rw [take_snoc_get HX.out, largest_snoc]; congr 1; split <;> omega, trivial⟩
      case measure => simp [intOf] <;> omega
    · obtain rfl : j = z := by omega
      have HL := Lib.hid (show largestF (sizes.take j) = largestF sizes from by rw [List.take_of_length_le (by rw [HZL.out]; exact Nat.le_refl _)])
      rw [HL.out]
      clear HL HZ
      have hLL := HLL.out
      generalize largestF sizes = L at *
      go_wp2_with fail
      have hb0 : Below w4.heap.size w4 (w4.alloc (.cells #[] 2)) := (Below.refl _ _).alloc (Nat.le_refl _) _
      clear HZL hj HCL
      go_loopw [12, 13] (fun s i wr => ∃ (t c' : Nat) (A' : Option Addr), t ≤ m ∧ i = .int .i64 t ∧ s = .slice A' t c' ∧ Hid (wr.ownsRow w4.heap.size 2 1 (.slice A' t c') t (ints ((pointsL L fs list).take t))) ∧ Hid (Below w4.heap.size w4 wr)) (fun _ i _ => m - (intOf i).toNat)
      case atStart => exact ⟨0, _, _, Nat.zero_le _, rfl, rfl, Lib.hid (own_empty _ _ _ (Nat.le_refl _)), Lib.hid hb0⟩
      case round =>
        clear hb0
        obtain ⟨t, c', A', ht, rfl, rfl, HO, HB⟩ := hrel
        obtain ⟨wo, hwo⟩ : ∃ wo : World, wo = wr := ⟨_, rfl⟩
        subst hwo
        have HBo := Lib.hid (HB4.out.trans (HB.out.mono HB4.out.size))
        have HXo := Lib.hid (X4.below HB.out)
        have hso := HB.out.size
        have hs4 := HB4.out.size
        by_cases htm : t < m
        · obtain ⟨b, o, x0, x1, x2, rfl, hx, _, hc0, hc1, hc2⟩ := (HRD.out _ HBo.out).fin (k := t) (by rw [HNM.out]; exact htm)
          obtain ⟨b2, o2, lt, rfl, hlt, _, hcl⟩ := (HRL.out _ HBo.out).int htm
          have htn : t < n := by rw [HNM.out]; exact htm
          have HFG := Lib.hid (show fs.getD t (0, 0, 0) = (x0, x1, x2) from by rw [List.getD_eq_getElem?_getD, hx]; rfl)
          have HPT := Lib.hid (show ptF L fs list t = pointF L (ofFleet lt fs list) (x0, x1, x2) from by rw [ptF_at hlt, HFG.out])
          have HSN := Lib.hid (show (pointsL L fs list).take (t + 1) = (pointsL L fs list).take t ++ [ptF L fs list t] from take_snoc_get (by unfold pointsL; rw [List.getElem?_map, List.getElem?_range (by rw [HM.out]; exact htm)]; rfl))
          have HPL := Lib.hid (fun w' (hb : Below w.heap.size w w') => l26Place_any (some ⟨b, o, none⟩) n c fs (some ⟨b2, o2, none⟩) m d list t x0 x1 x2 lt w' (HRD.out _ hb) (HRL.out _ hb) hx hlt HNM.out (by rw [HNM.out]; omega))
          have hlo : (ofFleet lt fs list).length ≤ 16 := Nat.le_trans (ofFleet_len _ _ _) (by rw [HN.out, HNM.out]; omega)
          have hp1 := ltN_le x2 (ofFleet lt fs list)
          have hp2 := eqN_le x2 (ofFleet lt fs list)
          clear hx hlt hcl
          generalize hLN : ltN x2 (ofFleet lt fs list) = ln at *
          generalize hEN : eqN x2 (ofFleet lt fs list) = en at *
          have HLN := Lib.hid hLN
          have HEN := Lib.hid hEN
          clear hLN hEN
          obtain ⟨wa, hwa, XA, hba, hsa⟩ := one_box wo #[.int .i64 x0, .int .i64 x1, .int .i64 x2] 88
          have F0 := HXo.out.l1
          have FA := XA.f3
          have HBA := Lib.hid (HB.out.trans (hba.mono hso))
          have HOA := Lib.hid (own_below HO.out hba)
          have HXA := Lib.hid (HXo.out.below hba)
          clear hba hsa
          by_cases e1 : x1 = 0
          · subst e1
            have h0 : ((0 : Int) == 0) = true := rfl
            have HV := Lib.hid (show ptF L fs list t = 5 * (2 * (1 + (ln : Int)) + en - 1) from by rw [HPT.out]; unfold pointF; rw [if_pos rfl, HLN.out, HEN.out])
            go_wp2_with fail
            rw [← hwa]
            clear hwa F0 hc0 hc1 hc2
            refine (l26Done_lit _ _ h0 _).mono ?_
            rintro e wb ⟨rfl, hbb⟩
            have F1 := (HXA.out.below hbb).l1
            have HBB := Lib.hid (HBA.out.trans (hbb.mono HBA.out.size))
            have HOB := Lib.hid (own_below HOA.out hbb)
            clear hbb FA
            go_wp2_with fail
            refine (HPL.out _ (HB4.out.trans (HBB.out.mono hs4))).mono ?_
            rintro e wc ⟨rfl, hbc⟩
            have HBC := Lib.hid (HBB.out.trans (hbc.mono HBB.out.size))
            have HOC := Lib.hid (own_below HOB.out hbc)
            clear hbc F1
            have hcs := HBC.out.size
            go_wp2_with (at_builtin; refine app_i64 _ rfl _ _ rfl rfl (HOC.out.alloc _) rfl (cell_new1 _ _ _) (by omega) ?cB1 ?_; rotate_left; intro A1 c1 w1 hown1 hgr1)
            · have HON := Lib.hid hown1
              have HBN := Lib.hid (below_app HBC.out hcs (Nat.le_refl _) HOC.out hgr1)
              clear hown1 hgr1
              go_roundw
              case rel => exact ⟨t + 1, _, _, by omega, by go_num, rfl, Lib.hid (by rw [HSN.out, HV.out]; exact HON.out), HBN⟩
              case measure => simp [intOf] <;> omega
            · simp; omega
          · have h0 : (x1 == 0) = false := by simp [e1]
            by_cases e9 : x1 = 9
            · subst e9
              have HV := Lib.hid (show ptF L fs list t = 0 from by rw [HPT.out]; rfl)
              go_wp2_with fail
              rw [← hwa]
              clear hwa F0 hc0 hc1 hc2
              refine (l26Done_lit _ _ h0 _).mono ?_
              rintro e wb ⟨rfl, hbb⟩
              have HBC := Lib.hid (HBA.out.trans (hbb.mono HBA.out.size))
              have HOC := Lib.hid (own_below HOA.out hbb)
              clear hbb FA
              have hcs := HBC.out.size
              go_wp2_with (at_builtin; refine app_i64 _ rfl _ _ rfl rfl (HOC.out.alloc _) rfl (cell_new1 _ _ _) (by omega) ?cB2 ?_; rotate_left; intro A1 c1 w1 hown1 hgr1)
              · have HON := Lib.hid hown1
                have HBN := Lib.hid (below_app HBC.out hcs (Nat.le_refl _) HOC.out hgr1)
                clear hown1 hgr1
                go_roundw
                case rel => exact ⟨t + 1, _, _, by omega, by go_num, rfl, Lib.hid (by rw [HSN.out, HV.out]; exact HON.out), HBN⟩
                case measure => simp [intOf] <;> omega
              · simp; omega
            · have h9 : (x1 == 9) = false := by simp [e9]
              have HV := Lib.hid (show ptF L fs list t = 10 * (L + 1) from by rw [HPT.out]; unfold pointF; rw [if_neg e1, if_neg e9])
              go_wp2_with fail
              rw [← hwa]
              clear hwa F0 hc0 hc1 hc2
              refine (l26Done_lit _ _ h0 _).mono ?_
              rintro e wb ⟨rfl, hbb⟩
              have HBC := Lib.hid (HBA.out.trans (hbb.mono HBA.out.size))
              have HOC := Lib.hid (own_below HOA.out hbb)
              clear hbb FA
              have hcs := HBC.out.size
              go_wp2_with (at_builtin; refine app_i64 _ rfl _ _ rfl rfl (HOC.out.alloc _) rfl (cell_new1 _ _ _) (by omega) ?cB3 ?_; rotate_left; intro A1 c1 w1 hown1 hgr1)
              · have HON := Lib.hid hown1
                have HBN := Lib.hid (below_app HBC.out hcs (Nat.le_refl _) HOC.out hgr1)
                clear hown1 hgr1
                go_roundw
                case rel => exact ⟨t + 1, _, _, by omega, by go_num, rfl, Lib.hid (by rw [HSN.out, HV.out]; exact HON.out), HBN⟩
                case measure => simp [intOf] <;> omega
              · simp; omega
        · obtain rfl : t = m := by omega
          have HTK := Lib.hid (show (pointsL L fs list).take t = pointsL L fs list from List.take_of_length_le (by unfold pointsL; simp [HM.out]))
          rw [HTK.out] at HO
          go_wp2_with fail
          go_ret2
          exact ⟨_, _, _, rfl, own_base HO.out hs4, by omega, HBo.out⟩
end Go.Proofs.Ytdldcjnidajmpaa

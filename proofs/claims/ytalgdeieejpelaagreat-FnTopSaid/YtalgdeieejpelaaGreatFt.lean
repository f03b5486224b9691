/- Walks: places in a race (chapter 26), the program. -/
import Derived.Test.YtalgdeieejpelaaGreatFr
import Derived.BigRegion
namespace Go.Proofs.YtalgdeieejpelaaGreat
open Go.RowKit
set_option linter.unusedVariables false
set_option maxRecDepth 100000

/-- Result: two new rows of numbers. -/
def RetPP (w : World) (r : List Int × List Int) (e : Ending) (w' : World) : Prop :=
  ∃ A n c A2 c2, e = .returned (.tuple #[.slice A n c, .slice A2 n c2]) ∧ w'.ownsRow w.heap.size 2 1 (.slice A n c) n (ints r.1) ∧ w'.ownsRow w.heap.size 2 1 (.slice A2 n c2) n (ints r.2) ∧ Below w.heap.size w w'
def doneL (g : FinishT → Int) (fs : List FinishT) (k : Nat) : List Int := (fs.map g).take k ++ List.replicate (fs.length - k) 0
theorem doneL_len (g : FinishT → Int) (fs : List FinishT) (k : Nat) (hk : k ≤ fs.length) : (doneL g fs k).length = fs.length := by unfold doneL; simp; omega
theorem doneL_next (g : FinishT → Int) {fs : List FinishT} {k : Nat} {f : FinishT} (hf : fs[k]? = some f) (hk : k < fs.length) : doneL g fs (k + 1) = (doneL g fs k).set k (g f) := by
  unfold doneL
  exact (copy_stepG 0 (fs.map g) fs.length k (g f) (by simp) (by rw [List.getElem?_map, hf]; rfl) hk).symm
theorem doneL_zero (g : FinishT → Int) {fs : List FinishT} {k : Nat} (hk : k < fs.length) : (doneL g fs k)[k]? = some 0 := by
  unfold doneL
  rw [List.getElem?_append_right (by simp; omega), List.getElem?_replicate, if_pos (by simp; omega)]
theorem set_same {α : Type} {xs : List α} {k : Nat} {x : α} (h : xs[k]? = some x) : xs.set k x = xs := by
  obtain ⟨hk, he⟩ := List.getElem?_eq_some_iff.1 h
  subst he
  exact List.set_getElem_self hk
theorem ltN_snoc (t : Int) (fs : List FinishT) (g : FinishT) : ltN t (fs ++ [g]) = ltN t fs + (if (g.2.1 == 0 && decide (g.2.2 < t)) = true then 1 else 0) := by
  unfold ltN
  rw [List.filter_append, List.length_append, List.filter_cons]
  split <;> simp_all
theorem eqN_snoc (t : Int) (fs : List FinishT) (g : FinishT) : eqN t (fs ++ [g]) = eqN t fs + (if (g.2.1 == 0 && (g.2.2 == t)) = true then 1 else 0) := by
  unfold eqN
  rw [List.filter_append, List.length_append, List.filter_cons]
  split <;> simp_all
theorem two_makes (w : World) (n : Nat) (hn : n ≤ 1048576) : ∃ w1, w1 = ((w.alloc (.cells (madeCells #[.int .i64 0] n) 2)).alloc (.cells (madeCells #[.int .i64 0] n) 2)).drew ∧
    w1.ownsRow w.heap.size 2 1 (.slice (some ⟨w.heap.size, 0, none⟩) n n) n (ints (List.replicate n 0)) ∧ w1.ownsRow w.heap.size 2 1 (.slice (some ⟨w.heap.size + 1, 0, none⟩) n n) n (ints (List.replicate n 0)) ∧ Below w.heap.size w w1 := by
  have h1 := own_made w w.heap.size 2 n (.int .i64 0) (Nat.le_refl _) (by omega)
  have h2 := own_made (w.alloc (.cells (madeCells #[.int .i64 0] n) 2)) w.heap.size 2 n (.int .i64 0) (by simp) (by omega)
  rw [World.size_alloc] at h2
  rw [← ints_replicate] at h1 h2
  refine ⟨_, rfl, own_drewN (own_below h1 ((Below.refl _ _).alloc (Nat.le_refl _) _)) 1, own_drewN h2 1, below_drewN (((Below.refl _ _).alloc (Nat.le_refl _) _).alloc (by simp) _) 1⟩
set_option maxHeartbeats 4000000 in
theorem placesOf_any (A : Option Addr) (n c : Nat) (fs : List FinishT) (hn : n ≤ 16) (w : World) (h : Rd w 3 A n (fins fs)) :
    Calls Tryz.prog 116 #[.slice A n c] w (RetPP w (fs.map fun f => (placeF fs f).1, fs.map fun f => (placeF fs f).2)) := by
  have HN := Lib.hid h.len_fin
  have HRD := Lib.hid (fun w' (hb : Below w.heap.size w w') => h.below hb)
  have hmk := fun w => run_make_i64 n (by omega) w
  obtain ⟨w1, hw1, hm1, hm2, hbm⟩ := two_makes w n (by omega)
  have HM1 := Lib.hid hm1; have HM2 := Lib.hid hm2; have HBM := Lib.hid hbm
  clear h hm1 hm2 hbm
  go_enter Tryz.func116, Tryz.ntmps116
  go_wp2_with fail
  go_region
  · rw [← hw1]
    clear hw1 hmk
    go_wp2_with fail
    have HXL0 := Lib.hid (show w.heap.size + 1 < w1.heap.size from (HM2.out.lt (w.heap.size + 1) rfl).2)
    go_loopw [18] (fun i wr => ∃ k : Nat, k ≤ n ∧ i = .int .i64 k ∧ Hid (wr.ownsRow w.heap.size 2 1 (.slice (some ⟨w.heap.size, 0, none⟩) n n) n (ints (doneL (fun f => (placeF fs f).1) fs k))) ∧ Hid (wr.ownsRow w.heap.size 2 1 (.slice (some ⟨w.heap.size + 1, 0, none⟩) n n) n (ints (doneL (fun f => (placeF fs f).2) fs k))) ∧ Hid (Below w.heap.size w wr) ∧ Hid (w1.heap.size ≤ wr.heap.size)) (fun i _ => n - (intOf i).toNat)
    case atStart => exact ⟨0, Nat.zero_le _, rfl, Lib.hid (by unfold doneL; rw [HN.out]; simpa using HM1.out), Lib.hid (by unfold doneL; rw [HN.out]; simpa using HM2.out), HBM, Lib.hid (Nat.le_refl _)⟩
    case round =>
      obtain ⟨k, hk, rfl, HP0, HS0, HB0, HSZ⟩ := hrel
      obtain ⟨wo, hwo⟩ : ∃ wo : World, wo = wr := ⟨_, rfl⟩
      subst hwo
      by_cases hkn : k < n
      · obtain ⟨b, o, x0, x1, x2, rfl, hx, _, hc0, hc1, hc2⟩ := (HRD.out _ HB0.out).fin hkn
        have HX := Lib.hid hx
        clear hx
        have ba : Below wo.heap.size wo (wo.alloc (.cells #[.int .i64 x0, .int .i64 x1, .int .i64 x2] 128)) := (Below.refl _ _).alloc (Nat.le_refl _) _
        have HPa := Lib.hid (own_below HP0.out ba); have HSa := Lib.hid (own_below HS0.out ba); have HBa := Lib.hid (HB0.out.trans (ba.mono HB0.out.size)); have HSZa := Lib.hid (show w1.heap.size ≤ (wo.alloc (.cells #[.int .i64 x0, .int .i64 x1, .int .i64 x2] 128)).heap.size from Nat.le_trans HSZ.out ba.size)
        clear ba
        by_cases g0 : x1 = 0
        · subst g0
          obtain ⟨gx, yp, hpg, _, hp2, _, hpc, hpf⟩ := own_int_at HP0.out hkn
          obtain rfl : w.heap.size = gx := by injection hpg with hpg; injection hpg
          clear hpg
          go_wp2_with fail
          have HXL := Lib.hid (show w.heap.size + 1 < wo.heap.size from Nat.lt_of_lt_of_le HXL0.out HSZ.out)
          have HP1' := Lib.hid (own_set (k := k) HP0.out 1)
          have HS1' := Lib.hid (HS0.out.kept (HP0.out.stored k (.int .i64 1)).2 (.inr (by simp [Value.ownBlock])))
          have HB1' := Lib.hid (HB0.out.setCell (p := ⟨w.heap.size, k, none⟩) (HP0.out.lt (w.heap.size) rfl).1 (.int .i64 1))
          have HSZ1' := Lib.hid (size_set wo ⟨w.heap.size, k, none⟩ (.int .i64 1))
          generalize wo.setCell ⟨w.heap.size, k, none⟩ (.int .i64 1) = wz at *
          obtain ⟨wa, hwa, XA, hba, hsa⟩ := one_box wz #[.int .i64 x0, .int .i64 0, .int .i64 x2] 128
          rw [← hwa]
          have HP1 := Lib.hid (own_below HP1'.out hba)
          have HS1 := Lib.hid (own_below HS1'.out hba)
          have HB1 := Lib.hid (HB1'.out.trans (hba.mono HB1'.out.size))
          have XF1 : Hid (Box wa wo.heap.size #[.int .i64 x0, .int .i64 0, .int .i64 x2] 128) := Lib.hid (by rw [← HSZ1'.out]; exact XA)
          clear hwa XA hba hsa hp2 hpc hpf HPa HSa HBa HSZa HP1' HS1' HB1' HSZ1'
          generalize wa = ws at *
          clear hc0 hc1 hc2
    
          go_loopw [31] (fun i wr => ∃ j : Nat, j ≤ n ∧ i = .int .i64 j ∧ Hid (wr.ownsRow w.heap.size 2 1 (.slice (some ⟨w.heap.size, 0, none⟩) n n) n (ints ((doneL (fun f => (placeF fs f).1) fs k).set k (1 + (ltN x2 (fs.take j) : Int))))) ∧ Hid (wr.ownsRow w.heap.size 2 1 (.slice (some ⟨w.heap.size + 1, 0, none⟩) n n) n (ints ((doneL (fun f => (placeF fs f).2) fs k).set k (eqN x2 (fs.take j) : Int)))) ∧ Hid (Below w.heap.size w wr) ∧ Hid (Box wr wo.heap.size #[.int .i64 x0, .int .i64 0, .int .i64 x2] 128)) (fun i _ => n - (intOf i).toNat)
          case atStart => exact ⟨0, Nat.zero_le _, rfl, Lib.hid (by simpa [ltN] using HP1.out), Lib.hid (by rw [set_same (by simpa [eqN] using doneL_zero _ (by rw [HN.out]; exact hkn))]; exact HS1.out), HB1, XF1⟩
          case round =>
            clear HP1 HS1 HB1 XF1
            obtain ⟨j, hj, rfl, HP, HS, HB, XF⟩ := hrel
            obtain ⟨wi, hwi⟩ : ∃ wi : World, wi = wr := ⟨_, rfl⟩
            subst hwi
            have FA := XF.out.f3
            by_cases hjn : j < n
            · obtain ⟨b', o', y0, y1, y2, hbe, hy, _, hd0, hd1, hd2⟩ := (HRD.out _ HB.out).fin hjn
              injection hbe with hbe; injection hbe with hb1 hb2; subst hb1; subst hb2
              have HY := Lib.hid hy
              clear hy
              by_cases q1 : y1 = 0
              · subst q1
                by_cases q2 : y2 < x2
                · have hq : decide (y2 < x2) = true := by simpa using q2
                  have HCL := Lib.hid (show (((0 : Int) == 0) && decide (y2 < x2)) = true from by simp [q2])
                  have HCE := Lib.hid (show ¬ (((0 : Int) == 0) && (y2 == x2)) = true from by simp; omega)
                  obtain ⟨gx, yp, hpg, _, hp2, hyp, hpc, hpf⟩ := own_int_at HP.out hkn
                  obtain rfl : w.heap.size = gx := by injection hpg with hpg; injection hpg
                  have hyv : yp = 1 + (ltN x2 (fs.take j) : Int) := by rw [List.getElem?_set_self (by rw [doneL_len _ _ _ (by rw [HN.out]; omega), HN.out]; exact hkn)] at hyp; injection hyp with hyp; exact hyp.symm
                  subst hyv
                  clear hyp hpg
                  have hlb := ltN_le x2 (fs.take j)
                  have hlt16 : (fs.take j).length ≤ 16 := by rw [List.length_take, HN.out]; omega
                  generalize hLN : ltN x2 (fs.take j) = ln at *
                  have HLN := Lib.hid hLN
                  clear hLN
                  go_wp2_with fail
                  have HPa := Lib.hid (own_set (k := k) HP.out (1 + (ln : Int) + 1))
                  have HSa := Lib.hid (HS.out.kept (HP.out.stored k (.int .i64 (1 + (ln : Int) + 1))).2 (.inr (by simp [Value.ownBlock])))
                  have HBa := Lib.hid (HB.out.setCell (p := ⟨w.heap.size, k, none⟩) (HP.out.lt (w.heap.size) rfl).1 (.int .i64 (1 + (ln : Int) + 1)))
                  have XFa := Lib.hid (XF.out.other (c := w.heap.size) (i := k) (by have := HXL.out; omega) (.int .i64 (1 + (ln : Int) + 1)))
                  have HSZb := Lib.hid (size_set wi ⟨w.heap.size, k, none⟩ (.int .i64 (1 + (ln : Int) + 1)))
                  generalize wi.setCell ⟨w.heap.size, k, none⟩ (.int .i64 (1 + (ln : Int) + 1)) = wi2 at *
                  have ba : Below wi2.heap.size wi2 (wi2.alloc (.cells #[.int .i64 y0, .int .i64 0, .int .i64 y2] 128)) := (Below.refl _ _).alloc (Nat.le_refl _) _
                  have HP2 := Lib.hid (own_below HPa.out ba); have HS2 := Lib.hid (own_below HSa.out ba); have HB2 := Lib.hid (HBa.out.trans (ba.mono HBa.out.size)); have XF2 := Lib.hid (XFa.out.below ba)
                  clear ba
                  go_roundw
                  case rel => exact ⟨j + 1, by omega, by go_num, Lib.hid (by rw [take_snoc_get HY.out, ltN_snoc, if_pos HCL.out]; rw [HLN.out]; have h9 := HP2.out; rw [List.set_set] at h9; simpa [Int.add_assoc] using h9), Lib.hid (by rw [take_snoc_get HY.out, eqN_snoc, if_neg HCE.out]; simpa using HS2.out), HB2, XF2⟩
                  case measure => simp [intOf] <;> omega
                · have hq : decide (y2 < x2) = false := by simpa using q2
                  have HCL := Lib.hid (show ¬ (((0 : Int) == 0) && decide (y2 < x2)) = true from by simp [q2])
                  by_cases q3 : y2 = x2
                  · have hq3 : (y2 == x2) = true := by simpa using q3
                    have HCE := Lib.hid (show (((0 : Int) == 0) && (y2 == x2)) = true from by simp [q3])
                    clear q3
                    obtain ⟨gx, ys, hsg, _, hs2, hys, hsc, hsf⟩ := own_int_at HS.out hkn
                    obtain rfl : w.heap.size + 1 = gx := by injection hsg with hsg; injection hsg
                    have hyv : ys = (eqN x2 (fs.take j) : Int) := by rw [List.getElem?_set_self (by rw [doneL_len _ _ _ (by rw [HN.out]; omega), HN.out]; exact hkn)] at hys; injection hys with hys; exact hys.symm
                    subst hyv
                    clear hys hsg
                    have hlb := eqN_le x2 (fs.take j)
                    have hlt16 : (fs.take j).length ≤ 16 := by rw [List.length_take, HN.out]; omega
                    generalize hEN : eqN x2 (fs.take j) = en at *
                    have HEN := Lib.hid hEN
                    clear hEN
                    go_wp2_with fail
                    have HSa := Lib.hid (own_set (k := k) HS.out ((en : Int) + 1))
                    have HPa := Lib.hid (HP.out.kept (HS.out.stored k (.int .i64 ((en : Int) + 1))).2 (.inr (by simp [Value.ownBlock])))
                    have HBa := Lib.hid (HB.out.setCell (p := ⟨w.heap.size + 1, k, none⟩) (HS.out.lt (w.heap.size + 1) rfl).1 (.int .i64 ((en : Int) + 1)))
                    have XFa := Lib.hid (XF.out.other (c := w.heap.size + 1) (i := k) (by have := HXL.out; omega) (.int .i64 ((en : Int) + 1)))
                    have HSZb := Lib.hid (size_set wi ⟨w.heap.size + 1, k, none⟩ (.int .i64 ((en : Int) + 1)))
                    generalize wi.setCell ⟨w.heap.size + 1, k, none⟩ (.int .i64 ((en : Int) + 1)) = wi2 at *
                    have ba : Below wi2.heap.size wi2 (wi2.alloc (.cells #[.int .i64 y0, .int .i64 0, .int .i64 y2] 128)) := (Below.refl _ _).alloc (Nat.le_refl _) _
                    have HP2 := Lib.hid (own_below HPa.out ba); have HS2 := Lib.hid (own_below HSa.out ba); have HB2 := Lib.hid (HBa.out.trans (ba.mono HBa.out.size)); have XF2 := Lib.hid (XFa.out.below ba)
                    clear ba
                    go_roundw
                    case rel => exact ⟨j + 1, by omega, by go_num, Lib.hid (by rw [take_snoc_get HY.out, ltN_snoc, if_neg HCL.out]; simpa using HP2.out), Lib.hid (by rw [take_snoc_get HY.out, eqN_snoc, if_pos HCE.out]; rw [HEN.out]; have h9 := HS2.out; rw [List.set_set] at h9; simpa using h9), HB2, XF2⟩
                    case measure => simp [intOf] <;> omega
                  · have hq3 : (y2 == x2) = false := by simpa using q3
                    have HCE := Lib.hid (show ¬ (((0 : Int) == 0) && (y2 == x2)) = true from by simp [q3])
                    clear q3
                    have ba : Below wi.heap.size wi (wi.alloc (.cells #[.int .i64 y0, .int .i64 0, .int .i64 y2] 128)) := (Below.refl _ _).alloc (Nat.le_refl _) _
                    have HP2 := Lib.hid (own_below HP.out ba); have HS2 := Lib.hid (own_below HS.out ba); have HB2 := Lib.hid (HB.out.trans (ba.mono HB.out.size)); have XF2 := Lib.hid (XF.out.below ba)
                    clear ba
                    go_wp2_with fail
                    go_roundw
                    case rel => exact ⟨j + 1, by omega, by go_num, Lib.hid (by rw [take_snoc_get HY.out, ltN_snoc, if_neg HCL.out]; simpa using HP2.out), Lib.hid (by rw [take_snoc_get HY.out, eqN_snoc, if_neg HCE.out]; simpa using HS2.out), HB2, XF2⟩
                    case measure => simp [intOf] <;> omega
              · have hq : (y1 == 0) = false := by simpa using q1
                have HCL := Lib.hid (show ¬ ((y1 == 0) && decide (y2 < x2)) = true from by simp [q1])
                have HCE := Lib.hid (show ¬ ((y1 == 0) && (y2 == x2)) = true from by simp [q1])
                clear q1
                have ba : Below wi.heap.size wi (wi.alloc (.cells #[.int .i64 y0, .int .i64 y1, .int .i64 y2] 128)) := (Below.refl _ _).alloc (Nat.le_refl _) _
                have HP2 := Lib.hid (own_below HP.out ba); have HS2 := Lib.hid (own_below HS.out ba); have HB2 := Lib.hid (HB.out.trans (ba.mono HB.out.size)); have XF2 := Lib.hid (XF.out.below ba)
                clear ba
                go_wp2_with fail
                go_roundw
                case rel => exact ⟨j + 1, by omega, by go_num, Lib.hid (by rw [take_snoc_get HY.out, ltN_snoc, if_neg HCL.out]; simpa using HP2.out), Lib.hid (by rw [take_snoc_get HY.out, eqN_snoc, if_neg HCE.out]; simpa using HS2.out), HB2, XF2⟩
                case measure => simp [intOf] <;> omega
            · obtain rfl : j = n := by omega
              have HTK := Lib.hid (show fs.take j = fs from List.take_of_length_le (by rw [HN.out]; exact Nat.le_refl _))
              rw [HTK.out] at HP HS
              have HSZ2 := Lib.hid (show w1.heap.size ≤ wi.heap.size from by have := FA.2.2.2.2.2.2; have := HXL.out; have := HSZ.out; omega)
              clear FA
              go_wp2_with fail
              go_roundw
              case rel => exact ⟨k + 1, by omega, by go_num, Lib.hid (by rw [doneL_next _ HX.out (by rw [HN.out]; exact hkn)]; exact HP.out), Lib.hid (by rw [doneL_next _ HX.out (by rw [HN.out]; exact hkn)]; exact HS.out), HB, HSZ2⟩
              case measure => simp [intOf] <;> omega
        · have e0 : (x1 != 0) = true := by simp [g0]
          have HZ := Lib.hid (show placeF fs (x0, x1, x2) = (0, 0) from by unfold placeF; rw [if_neg g0])
          go_wp2_with fail
          go_roundw
          case rel => exact ⟨k + 1, by omega, by go_num, Lib.hid (by rw [doneL_next _ HX.out (by rw [HN.out]; exact hkn), set_same (by rw [HZ.out]; exact doneL_zero _ (by rw [HN.out]; exact hkn))]; exact HPa.out), Lib.hid (by rw [doneL_next _ HX.out (by rw [HN.out]; exact hkn), set_same (by rw [HZ.out]; exact doneL_zero _ (by rw [HN.out]; exact hkn))]; exact HSa.out), HBa, HSZa⟩
          case measure => simp [intOf] <;> omega
      · obtain rfl : k = n := by omega
        have HF1 := Lib.hid (show doneL (fun f => (placeF fs f).1) fs k = fs.map (fun f => (placeF fs f).1) from by unfold doneL; rw [HN.out, List.take_of_length_le (by simp [HN.out]), Nat.sub_self]; simp)
        have HF2 := Lib.hid (show doneL (fun f => (placeF fs f).2) fs k = fs.map (fun f => (placeF fs f).2) from by unfold doneL; rw [HN.out, List.take_of_length_le (by simp [HN.out]), Nat.sub_self]; simp)
        go_wp2_with fail
        go_ret2
        exact ⟨_, _, _, _, _, rfl, by rw [← HF1.out]; exact HP0.out, by rw [← HF2.out]; exact HS0.out, HB0.out⟩
  · rw [← hw1]
    clear hw1 hmk
    go_wp2_with fail
    have HXL0 := Lib.hid (show w.heap.size + 1 < w1.heap.size from (HM2.out.lt (w.heap.size + 1) rfl).2)
    go_loopw [18] (fun i wr => ∃ k : Nat, k ≤ n ∧ i = .int .i64 k ∧ Hid (wr.ownsRow w.heap.size 2 1 (.slice (some ⟨w.heap.size + 1, 0, none⟩) n n) n (ints (doneL (fun f => (placeF fs f).1) fs k))) ∧ Hid (wr.ownsRow w.heap.size 2 1 (.slice (some ⟨w.heap.size, 0, none⟩) n n) n (ints (doneL (fun f => (placeF fs f).2) fs k))) ∧ Hid (Below w.heap.size w wr) ∧ Hid (w1.heap.size ≤ wr.heap.size)) (fun i _ => n - (intOf i).toNat)
    case atStart => exact ⟨0, Nat.zero_le _, rfl, Lib.hid (by unfold doneL; rw [HN.out]; simpa using HM2.out), Lib.hid (by unfold doneL; rw [HN.out]; simpa using HM1.out), HBM, Lib.hid (Nat.le_refl _)⟩
    case round =>
      obtain ⟨k, hk, rfl, HP0, HS0, HB0, HSZ⟩ := hrel
      obtain ⟨wo, hwo⟩ : ∃ wo : World, wo = wr := ⟨_, rfl⟩
      subst hwo
      by_cases hkn : k < n
      · obtain ⟨b, o, x0, x1, x2, rfl, hx, _, hc0, hc1, hc2⟩ := (HRD.out _ HB0.out).fin hkn
        have HX := Lib.hid hx
        clear hx
        have ba : Below wo.heap.size wo (wo.alloc (.cells #[.int .i64 x0, .int .i64 x1, .int .i64 x2] 128)) := (Below.refl _ _).alloc (Nat.le_refl _) _
        have HPa := Lib.hid (own_below HP0.out ba); have HSa := Lib.hid (own_below HS0.out ba); have HBa := Lib.hid (HB0.out.trans (ba.mono HB0.out.size)); have HSZa := Lib.hid (show w1.heap.size ≤ (wo.alloc (.cells #[.int .i64 x0, .int .i64 x1, .int .i64 x2] 128)).heap.size from Nat.le_trans HSZ.out ba.size)
        clear ba
        by_cases g0 : x1 = 0
        · subst g0
          obtain ⟨gx, yp, hpg, _, hp2, _, hpc, hpf⟩ := own_int_at HP0.out hkn
          obtain rfl : w.heap.size + 1 = gx := by injection hpg with hpg; injection hpg
          clear hpg
          go_wp2_with fail
          have HXL := Lib.hid (show w.heap.size + 1 < wo.heap.size from Nat.lt_of_lt_of_le HXL0.out HSZ.out)
          have HP1' := Lib.hid (own_set (k := k) HP0.out 1)
          have HS1' := Lib.hid (HS0.out.kept (HP0.out.stored k (.int .i64 1)).2 (.inr (by simp [Value.ownBlock])))
          have HB1' := Lib.hid (HB0.out.setCell (p := ⟨w.heap.size + 1, k, none⟩) (HP0.out.lt (w.heap.size + 1) rfl).1 (.int .i64 1))
          have HSZ1' := Lib.hid (size_set wo ⟨w.heap.size + 1, k, none⟩ (.int .i64 1))
          generalize wo.setCell ⟨w.heap.size + 1, k, none⟩ (.int .i64 1) = wz at *
          obtain ⟨wa, hwa, XA, hba, hsa⟩ := one_box wz #[.int .i64 x0, .int .i64 0, .int .i64 x2] 128
          rw [← hwa]
          have HP1 := Lib.hid (own_below HP1'.out hba)
          have HS1 := Lib.hid (own_below HS1'.out hba)
          have HB1 := Lib.hid (HB1'.out.trans (hba.mono HB1'.out.size))
          have XF1 : Hid (Box wa wo.heap.size #[.int .i64 x0, .int .i64 0, .int .i64 x2] 128) := Lib.hid (by rw [← HSZ1'.out]; exact XA)
          clear hwa XA hba hsa hp2 hpc hpf HPa HSa HBa HSZa HP1' HS1' HB1' HSZ1'
          generalize wa = ws at *
          clear hc0 hc1 hc2
    
          go_loopw [31] (fun i wr => ∃ j : Nat, j ≤ n ∧ i = .int .i64 j ∧ Hid (wr.ownsRow w.heap.size 2 1 (.slice (some ⟨w.heap.size + 1, 0, none⟩) n n) n (ints ((doneL (fun f => (placeF fs f).1) fs k).set k (1 + (ltN x2 (fs.take j) : Int))))) ∧ Hid (wr.ownsRow w.heap.size 2 1 (.slice (some ⟨w.heap.size, 0, none⟩) n n) n (ints ((doneL (fun f => (placeF fs f).2) fs k).set k (eqN x2 (fs.take j) : Int)))) ∧ Hid (Below w.heap.size w wr) ∧ Hid (Box wr wo.heap.size #[.int .i64 x0, .int .i64 0, .int .i64 x2] 128)) (fun i _ => n - (intOf i).toNat)
          case atStart => exact ⟨0, Nat.zero_le _, rfl, Lib.hid (by simpa [ltN] using HP1.out), Lib.hid (by rw [set_same (by simpa [eqN] using doneL_zero _ (by rw [HN.out]; exact hkn))]; exact HS1.out), HB1, XF1⟩
          case round =>
            clear HP1 HS1 HB1 XF1
            obtain ⟨j, hj, rfl, HP, HS, HB, XF⟩ := hrel
            obtain ⟨wi, hwi⟩ : ∃ wi : World, wi = wr := ⟨_, rfl⟩
            subst hwi
            have FA := XF.out.f3
            by_cases hjn : j < n
            · obtain ⟨b', o', y0, y1, y2, hbe, hy, _, hd0, hd1, hd2⟩ := (HRD.out _ HB.out).fin hjn
              injection hbe with hbe; injection hbe with hb1 hb2; subst hb1; subst hb2
              have HY := Lib.hid hy
              clear hy
              by_cases q1 : y1 = 0
              · subst q1
                by_cases q2 : y2 < x2
                · have hq : decide (y2 < x2) = true := by simpa using q2
                  have HCL := Lib.hid (show (((0 : Int) == 0) && decide (y2 < x2)) = true from by simp [q2])
                  have HCE := Lib.hid (show ¬ (((0 : Int) == 0) && (y2 == x2)) = true from by simp; omega)
                  obtain ⟨gx, yp, hpg, _, hp2, hyp, hpc, hpf⟩ := own_int_at HP.out hkn
                  obtain rfl : w.heap.size + 1 = gx := by injection hpg with hpg; injection hpg
                  have hyv : yp = 1 + (ltN x2 (fs.take j) : Int) := by rw [List.getElem?_set_self (by rw [doneL_len _ _ _ (by rw [HN.out]; omega), HN.out]; exact hkn)] at hyp; injection hyp with hyp; exact hyp.symm
                  subst hyv
                  clear hyp hpg
                  have hlb := ltN_le x2 (fs.take j)
                  have hlt16 : (fs.take j).length ≤ 16 := by rw [List.length_take, HN.out]; omega
                  generalize hLN : ltN x2 (fs.take j) = ln at *
                  have HLN := Lib.hid hLN
                  clear hLN
                  go_wp2_with fail
                  have HPa := Lib.hid (own_set (k := k) HP.out (1 + (ln : Int) + 1))
                  have HSa := Lib.hid (HS.out.kept (HP.out.stored k (.int .i64 (1 + (ln : Int) + 1))).2 (.inr (by simp [Value.ownBlock])))
                  have HBa := Lib.hid (HB.out.setCell (p := ⟨w.heap.size + 1, k, none⟩) (HP.out.lt (w.heap.size + 1) rfl).1 (.int .i64 (1 + (ln : Int) + 1)))
                  have XFa := Lib.hid (XF.out.other (c := w.heap.size + 1) (i := k) (by have := HXL.out; omega) (.int .i64 (1 + (ln : Int) + 1)))
                  have HSZb := Lib.hid (size_set wi ⟨w.heap.size + 1, k, none⟩ (.int .i64 (1 + (ln : Int) + 1)))
                  generalize wi.setCell ⟨w.heap.size + 1, k, none⟩ (.int .i64 (1 + (ln : Int) + 1)) = wi2 at *
                  have ba : Below wi2.heap.size wi2 (wi2.alloc (.cells #[.int .i64 y0, .int .i64 0, .int .i64 y2] 128)) := (Below.refl _ _).alloc (Nat.le_refl _) _
                  have HP2 := Lib.hid (own_below HPa.out ba); have HS2 := Lib.hid (own_below HSa.out ba); have HB2 := Lib.hid (HBa.out.trans (ba.mono HBa.out.size)); have XF2 := Lib.hid (XFa.out.below ba)
                  clear ba
                  go_roundw
                  case rel => exact ⟨j + 1, by omega, by go_num, Lib.hid (by rw [take_snoc_get HY.out, ltN_snoc, if_pos HCL.out]; rw [HLN.out]; have h9 := HP2.out; rw [List.set_set] at h9; simpa [Int.add_assoc] using h9), Lib.hid (by rw [take_snoc_get HY.out, eqN_snoc, if_neg HCE.out]; simpa using HS2.out), HB2, XF2⟩
                  case measure => simp [intOf] <;> omega
                · have hq : decide (y2 < x2) = false := by simpa using q2
                  have HCL := Lib.hid (show ¬ (((0 : Int) == 0) && decide (y2 < x2)) = true from by simp [q2])
                  by_cases q3 : y2 = x2
                  · have hq3 : (y2 == x2) = true := by simpa using q3
                    have HCE := Lib.hid (show (((0 : Int) == 0) && (y2 == x2)) = true from by simp [q3])
                    clear q3
                    obtain ⟨gx, ys, hsg, _, hs2, hys, hsc, hsf⟩ := own_int_at HS.out hkn
                    obtain rfl : w.heap.size = gx := by injection hsg with hsg; injection hsg
                    have hyv : ys = (eqN x2 (fs.take j) : Int) := by rw [List.getElem?_set_self (by rw [doneL_len _ _ _ (by rw [HN.out]; omega), HN.out]; exact hkn)] at hys; injection hys with hys; exact hys.symm
                    subst hyv
                    clear hys hsg
                    have hlb := eqN_le x2 (fs.take j)
                    have hlt16 : (fs.take j).length ≤ 16 := by rw [List.length_take, HN.out]; omega
                    generalize hEN : eqN x2 (fs.take j) = en at *
                    have HEN := Lib.hid hEN
                    clear hEN
                    go_wp2_with fail
                    have HSa := Lib.hid (own_set (k := k) HS.out ((en : Int) + 1))
                    have HPa := Lib.hid (HP.out.kept (HS.out.stored k (.int .i64 ((en : Int) + 1))).2 (.inr (by simp [Value.ownBlock])))
                    have HBa := Lib.hid (HB.out.setCell (p := ⟨w.heap.size, k, none⟩) (HS.out.lt (w.heap.size) rfl).1 (.int .i64 ((en : Int) + 1)))
                    have XFa := Lib.hid (XF.out.other (c := w.heap.size) (i := k) (by have := HXL.out; omega) (.int .i64 ((en : Int) + 1)))
                    have HSZb := Lib.hid (size_set wi ⟨w.heap.size, k, none⟩ (.int .i64 ((en : Int) + 1)))
                    generalize wi.setCell ⟨w.heap.size, k, none⟩ (.int .i64 ((en : Int) + 1)) = wi2 at *
                    have ba : Below wi2.heap.size wi2 (wi2.alloc (.cells #[.int .i64 y0, .int .i64 0, .int .i64 y2] 128)) := (Below.refl _ _).alloc (Nat.le_refl _) _
                    have HP2 := Lib.hid (own_below HPa.out ba); have HS2 := Lib.hid (own_below HSa.out ba); have HB2 := Lib.hid (HBa.out.trans (ba.mono HBa.out.size)); have XF2 := Lib.hid (XFa.out.below ba)
                    clear ba
                    go_roundw
                    case rel => exact ⟨j + 1, by omega, by go_num, Lib.hid (by rw [take_snoc_get HY.out, ltN_snoc, if_neg HCL.out]; simpa using HP2.out), Lib.hid (by rw [take_snoc_get HY.out, eqN_snoc, if_pos HCE.out]; rw [HEN.out]; have h9 := HS2.out; rw [List.set_set] at h9; simpa using h9), HB2, XF2⟩
                    case measure => simp [intOf] <;> omega
                  · have hq3 : (y2 == x2) = false := by simpa using q3
                    have HCE := Lib.hid (show ¬ (((0 : Int) == 0) && (y2 == x2)) = true from by simp [q3])
                    clear q3
                    have ba : Below wi.heap.size wi (wi.alloc (.cells #[.int .i64 y0, .int .i64 0, .int .i64 y2] 128)) := (Below.refl _ _).alloc (Nat.le_refl _) _
                    have HP2 := Lib.hid (own_below HP.out ba); have HS2 := Lib.hid (own_below HS.out ba); have HB2 := Lib.hid (HB.out.trans (ba.mono HB.out.size)); have XF2 := Lib.hid (XF.out.below ba)
                    clear ba
                    go_wp2_with fail
                    go_roundw
                    case rel => exact ⟨j + 1, by omega, by go_num, Lib.hid (by rw [take_snoc_get HY.out, ltN_snoc, if_neg HCL.out]; simpa using HP2.out), Lib.hid (by rw [take_snoc_get HY.out, eqN_snoc, if_neg HCE.out]; simpa using HS2.out), HB2, XF2⟩
                    case measure => simp [intOf] <;> omega
              · have hq : (y1 == 0) = false := by simpa using q1
                have HCL := Lib.hid (show ¬ ((y1 == 0) && decide (y2 < x2)) = true from by simp [q1])
                have HCE := Lib.hid (show ¬ ((y1 == 0) && (y2 == x2)) = true from by simp [q1])
                clear q1
                have ba : Below wi.heap.size wi (wi.alloc (.cells #[.int .i64 y0, .int .i64 y1, .int .i64 y2] 128)) := (Below.refl _ _).alloc (Nat.le_refl _) _
                have HP2 := Lib.hid (own_below HP.out ba); have HS2 := Lib.hid (own_below HS.out ba); have HB2 := Lib.hid (HB.out.trans (ba.mono HB.out.size)); have XF2 := Lib.hid (XF.out.below ba)
                clear ba
                go_wp2_with fail
                go_roundw
                case rel => exact ⟨j + 1, by omega, by go_num, Lib.hid (by rw [take_snoc_get HY.out, ltN_snoc, if_neg HCL.out]; simpa using HP2.out), Lib.hid (by rw [take_snoc_get HY.out, eqN_snoc, if_neg HCE.out]; simpa using HS2.out), HB2, XF2⟩
                case measure => simp [intOf] <;> omega
            · obtain rfl : j = n := by omega
              have HTK := Lib.hid (show fs.take j = fs from List.take_of_length_le (by rw [HN.out]; exact Nat.le_refl _))
              rw [HTK.out] at HP HS
              have HSZ2 := Lib.hid (show w1.heap.size ≤ wi.heap.size from by have := FA.2.2.2.2.2.2; have := HXL.out; have := HSZ.out; omega)
              clear FA
              go_wp2_with fail
              go_roundw
              case rel => exact ⟨k + 1, by omega, by go_num, Lib.hid (by rw [doneL_next _ HX.out (by rw [HN.out]; exact hkn)]; exact HP.out), Lib.hid (by rw [doneL_next _ HX.out (by rw [HN.out]; exact hkn)]; exact HS.out), HB, HSZ2⟩
              case measure => simp [intOf] <;> omega
        · have e0 : (x1 != 0) = true := by simp [g0]
          have HZ := Lib.hid (show placeF fs (x0, x1, x2) = (0, 0) from by unfold placeF; rw [if_neg g0])
          go_wp2_with fail
          go_roundw
          case rel => exact ⟨k + 1, by omega, by go_num, Lib.hid (by rw [doneL_next _ HX.out (by rw [HN.out]; exact hkn), set_same (by rw [HZ.out]; exact doneL_zero _ (by rw [HN.out]; exact hkn))]; exact HPa.out), Lib.hid (by rw [doneL_next _ HX.out (by rw [HN.out]; exact hkn), set_same (by rw [HZ.out]; exact doneL_zero _ (by rw [HN.out]; exact hkn))]; exact HSa.out), HBa, HSZa⟩
          case measure => simp [intOf] <;> omega
      · obtain rfl : k = n := by omega
        have HF1 := Lib.hid (show doneL (fun f => (placeF fs f).1) fs k = fs.map (fun f => (placeF fs f).1) from by unfold doneL; rw [HN.out, List.take_of_length_le (by simp [HN.out]), Nat.sub_self]; simp)
        have HF2 := Lib.hid (show doneL (fun f => (placeF fs f).2) fs k = fs.map (fun f => (placeF fs f).2) from by unfold doneL; rw [HN.out, List.take_of_length_le (by simp [HN.out]), Nat.sub_self]; simp)
        go_wp2_with fail
        go_ret2
        exact ⟨_, _, _, _, _, rfl, by rw [← HF1.out]; exact HP0.out, by rw [← HF2.out]; exact HS0.out, HB0.out⟩
end Go.Proofs.YtalgdeieejpelaaGreat

/- Walks: valid entries (chapter 33), both sides. -/
import Derived.Test.YtnpldahkhaacnaaGreatDoorFr
import Derived.Test.YtnpldahkhaacnaaGreatDoorZmc
import Derived.Test.YtnpldahkhaacnaaGreatDoorCf
namespace Go.Proofs.YtnpldahkhaacnaaGreatDoor
open Go.RowKit
set_option linter.unusedVariables false
set_option maxRecDepth 100000

theorem isRedress_any (x0 x1 x2 x3 : Int) (w : World) :
    Calls Tryz.prog 85 #[.agg #[.int .i64 x0, .int .i64 x1, .int .i64 x2, .int .i64 x3]] w fun e w' => e = .returned (.bool (isRedB x2 x3)) ∧ Below w.heap.size w w' := by
  have HB := Lib.hid (show ∀ o, Below w.heap.size w (w.alloc o) from fun o => (Below.refl _ _).alloc (Nat.le_refl _) o)
  unfold isRedB
  by_cases h3 : x2 = 3
  · subst h3
    rw [if_pos rfl]
    go_enter Tryz.func85, Tryz.ntmps85
    go_wp2_with (go_at_call 30; refine (within_any _ _ _ _).mono ?_; rintro e w' ⟨rfl, rfl⟩)
    go_ret
    exact ⟨rfl, HB.out _⟩
  · rw [if_neg h3]
    have e3 : (x2 == 3) = false := by simp [h3]
    cases h12 : withinB x2 1 2 with
    | false =>
      have HWL := Lib.hid (fun w => within_lit h12 w)
      clear h12
      go_enter Tryz.func85, Tryz.ntmps85
      go_wp2_with (go_at_call 30; refine (HWL.out _).mono ?_; rintro e w' ⟨rfl, rfl⟩)
      go_ret
      exact ⟨rfl, HB.out _⟩
    | true =>
      have HWL := Lib.hid (fun w => within_lit h12 w)
      clear h12
      go_enter Tryz.func85, Tryz.ntmps85
      go_wp2_with (go_at_call 30; refine (HWL.out _).mono ?_; rintro e w' ⟨rfl, rfl⟩)
      go_ret
      exact ⟨ret_bool (by simp), HB.out _⟩
theorem isRevision_any (n : Int) (w : World) :
    Calls Tryz.prog 54 #[.int .i64 n] w fun e w' => e = .returned (.bool (revB n)) ∧ w = w' := by
  unfold revB
  go_enter Tryz.func54, Tryz.ntmps54
  go_wp2_with (go_at_call 30; refine (within_any _ _ _ _).mono ?_; rintro e w' ⟨rfl, rfl⟩)
  go_ret
  exact ⟨rfl, rfl⟩
theorem isRevision_lit {n : Int} {r : Bool} (h : revB n = r) (w : World) : Calls Tryz.prog 54 #[.int .i64 n] w fun e w' => e = .returned (.bool r) ∧ w = w' := by
  subst h; exact isRevision_any n w
theorem entB_eq (b : Int) (x0 x1 x2 x3 x4 x5 x6 : Int) : entB b (x0, x1, x2, x3, x4, x5, x6) = (withinB x0 0 11 && withinB x1 0 (b - 1) && finB (x1, x3, x4) && (if x5 = 0 then (x6 == 0) else (x3 == 9) && isRedB x5 x6)) := rfl
theorem isFin_of {b x1 x3 x4 : Int} (hb : b ≤ 16) (h : withinB x1 0 (b - 1) = true) : isFinB (x1, x3, x4) = finB (x1, x3, x4) := by
  have h1 := withinB_iff.1 h
  unfold isFinB
  rw [withinB_iff.2 ⟨h1.1, by omega⟩, Bool.true_and]
set_option maxHeartbeats 1000000 in
theorem isEntry_any (b : Int) (hb1 : 1 ≤ b) (hb2 : b ≤ 16) (x0 x1 x2 x3 x4 x5 x6 : Int) (w : World) :
    Calls Tryz.prog 53 #[.int .i64 b, .agg #[.int .i64 x0, .int .i64 x1, .int .i64 x2, .int .i64 x3, .int .i64 x4, .int .i64 x5, .int .i64 x6]] w fun e w' => e = .returned (.bool (entB b (x0, x1, x2, x3, x4, x5, x6))) ∧ Below w.heap.size w w' := by
  have HB0 := Lib.hid (show ∀ o, Below w.heap.size w (w.alloc o) from fun o => (Below.refl _ _).alloc (Nat.le_refl _) o)
  have HB := Lib.hid (show ∀ o w2, Below (w.alloc o).heap.size (w.alloc o) w2 → Below w.heap.size w w2 from fun o w2 h => ((Below.refl _ _).alloc (Nat.le_refl _) o).trans (h.mono (by simp)))
  have HE := Lib.hid (entB_eq b x0 x1 x2 x3 x4 x5 x6)
  cases ha : withinB x0 0 11 with
  | false =>
    have HA := Lib.hid (fun w => within_lit ha w)
    have HC := HA
    have e1 := Lib.hid ha
    clear ha
    go_enter Tryz.func53, Tryz.ntmps53
    go_wp2_with (first | (go_at_call 30; (with_reducible refine (HA.out _).mono ?_); rintro e w' ⟨rfl, rfl⟩) | (go_at_call 30; (with_reducible refine (HC.out _).mono ?_); rintro e w' ⟨rfl, rfl⟩))
    go_ret
    exact ⟨ret_bool (by rw [HE.out, e1.out]; rfl), HB0.out _⟩
  | true =>
    have HA := Lib.hid (fun w => within_lit ha w)
    have e1 := Lib.hid ha
    clear ha
    cases hc : withinB x1 0 (b - 1) with
    | false =>
      have HC := Lib.hid (fun w => within_lit hc w)
      have e2 := Lib.hid hc
      clear hc
      go_enter Tryz.func53, Tryz.ntmps53
      go_wp2_with (first | (go_at_call 30; (with_reducible refine (HA.out _).mono ?_); rintro e w' ⟨rfl, rfl⟩) | (go_at_call 30; (with_reducible refine (HC.out _).mono ?_); rintro e w' ⟨rfl, rfl⟩))
      go_ret
      exact ⟨ret_bool (by rw [HE.out, e1.out, e2.out]; rfl), HB0.out _⟩
    | true =>
      have HC := Lib.hid (fun w => within_lit hc w)
      have e2 := Lib.hid hc
      have HF := Lib.hid (fun w => isFinish_any x1 x3 x4 w)
      rw [isFin_of hb2 hc] at HF
      clear hc
      cases hf : finB (x1, x3, x4) with
      | false =>
        rw [hf] at HF
        have e3 := Lib.hid hf
        clear hf
        go_enter Tryz.func53, Tryz.ntmps53
        go_wp2_with (first | (go_at_call 30; (with_reducible refine (HA.out _).mono ?_); rintro e w' ⟨rfl, rfl⟩) | (go_at_call 30; (with_reducible refine (HC.out _).mono ?_); rintro e w' ⟨rfl, rfl⟩))
        refine (HF.out _).mono ?_
        rintro e w2 ⟨rfl, hb2⟩
        have HB2 := Lib.hid (HB.out _ _ hb2)
        have F0 := ((Box.new _ _ _).below hb2).f7
        clear hb2
        go_wp2_with fail
        go_ret
        exact ⟨ret_bool (by rw [HE.out, e1.out, e2.out, e3.out]; rfl), HB2.out⟩
      | true =>
        rw [hf] at HF
        have e3 := Lib.hid hf
        clear hf
        by_cases h0 : x5 = 0
        · subst h0
          go_enter Tryz.func53, Tryz.ntmps53
          go_wp2_with (first | (go_at_call 30; (with_reducible refine (HA.out _).mono ?_); rintro e w' ⟨rfl, rfl⟩) | (go_at_call 30; (with_reducible refine (HC.out _).mono ?_); rintro e w' ⟨rfl, rfl⟩))
          refine (HF.out _).mono ?_
          rintro e w2 ⟨rfl, hb2⟩
          have HB2 := Lib.hid (HB.out _ _ hb2)
          have F0 := ((Box.new _ _ _).below hb2).f7
          clear hb2
          go_wp2_with fail
          go_ret
          exact ⟨ret_bool (by rw [HE.out, e1.out, e2.out, e3.out]; simp), HB2.out⟩
        · have e4 : (x5 == 0) = false := by simp [h0]
          by_cases h9 : x3 = 9
          · subst h9
            have HR := Lib.hid (fun w => isRedress_any 0 0 x5 x6 w)
            have HZ := Lib.hid h0
            clear h0
            go_enter Tryz.func53, Tryz.ntmps53
            go_wp2_with (first | (go_at_call 30; (with_reducible refine (HA.out _).mono ?_); rintro e w' ⟨rfl, rfl⟩) | (go_at_call 30; (with_reducible refine (HC.out _).mono ?_); rintro e w' ⟨rfl, rfl⟩))
            refine (HF.out _).mono ?_
            rintro e w2 ⟨rfl, hb2⟩
            have HB2 := Lib.hid (HB.out _ _ hb2)
            have F0 := ((Box.new _ _ _).below hb2).f7
            clear hb2
            go_wp2_with fail
            refine (HR.out _).mono ?_
            rintro e w3 ⟨rfl, hb3⟩
            have HB3 := Lib.hid (HB2.out.trans (hb3.mono HB2.out.size))
            clear hb3
            go_wp2_with fail
            go_ret
            exact ⟨ret_bool (by rw [HE.out, e1.out, e2.out, e3.out, if_neg HZ.out]; simp), HB3.out⟩
          · have e5 : (x3 == 9) = false := by simp [h9]
            have HZ := Lib.hid h0
            have HZ9 := Lib.hid h9
            clear h0 h9
            go_enter Tryz.func53, Tryz.ntmps53
            go_wp2_with (first | (go_at_call 30; (with_reducible refine (HA.out _).mono ?_); rintro e w' ⟨rfl, rfl⟩) | (go_at_call 30; (with_reducible refine (HC.out _).mono ?_); rintro e w' ⟨rfl, rfl⟩))
            refine (HF.out _).mono ?_
            rintro e w2 ⟨rfl, hb2⟩
            have HB2 := Lib.hid (HB.out _ _ hb2)
            have F0 := ((Box.new _ _ _).below hb2).f7
            clear hb2
            go_wp2_with fail
            go_ret
            exact ⟨ret_bool (by rw [HE.out, e1.out, e2.out, e3.out, if_neg HZ.out]; simp [HZ9.out]), HB2.out⟩
theorem isEntry_lit {b : Int} (hb1 : 1 ≤ b) (hb2 : b ≤ 16) {x0 x1 x2 x3 x4 x5 x6 : Int} {r : Bool} (h : entB b (x0, x1, x2, x3, x4, x5, x6) = r) (w : World) :
    Calls Tryz.prog 53 #[.int .i64 b, .agg #[.int .i64 x0, .int .i64 x1, .int .i64 x2, .int .i64 x3, .int .i64 x4, .int .i64 x5, .int .i64 x6]] w fun e w' => e = .returned (.bool r) ∧ Below w.heap.size w w' := by
  subst h; exact isEntry_any b hb1 hb2 x0 x1 x2 x3 x4 x5 x6 w
theorem isRedB_k {k p : Int} (h : withinB k 1 3 = false) : isRedB k p = false := by
  rw [withinB_not] at h
  unfold isRedB
  rw [if_neg (by omega), withinB_not.2 (by omega : ¬ (1 ≤ k ∧ k ≤ 2))]; rfl
theorem isRedB_p {k p : Int} (h : withinB p 0 10000 = false) : isRedB k p = false := by
  unfold isRedB
  by_cases hk : k = 3
  · rw [if_pos hk, h]
  · rw [if_neg hk]
    rw [withinB_not] at h
    have : (p == 0) = false := by simp; omega
    rw [this, Bool.and_false]
theorem isRedB_all {k p : Int} (h1 : withinB k 1 3 = true) (h : withinB p 0 10000 = true) : isRedB k p = (k == 3 || p == 0) := by
  unfold isRedB
  have h2 := withinB_iff.1 h1
  by_cases hk : k = 3
  · rw [if_pos hk, h, hk]; rfl
  · rw [if_neg hk, withinB_iff.2 (by omega : 1 ≤ k ∧ k ≤ 2)]
    simp [hk]
set_option maxHeartbeats 4000000 in
theorem l33Entry_any (b : Int) (hb1 : 1 ≤ b) (hb2 : b ≤ 16) (x0 x1 x2 x3 x4 x5 x6 : Int) (w : World) :
    Calls Tryz.prog 232 #[.agg #[.int .i64 x0, .int .i64 x1, .int .i64 x2, .int .i64 x3, .int .i64 x4, .int .i64 x5, .int .i64 x6], .int .i64 b] w fun e w' => e = .returned (.bool (entB b (x0, x1, x2, x3, x4, x5, x6) && revB x2)) ∧ Below w.heap.size w w' := by
  have HB0 := Lib.hid (show ∀ o, Below w.heap.size w (w.alloc o) from fun o => (Below.refl _ _).alloc (Nat.le_refl _) o)
  have HE := Lib.hid (entB_eq b x0 x1 x2 x3 x4 x5 x6)
  cases hA : withinB x0 0 11 with
  | false =>
    have HA := Lib.hid (fun w => l01In_lit hA w)
    have eA := Lib.hid hA
    clear hA
    have HC := HA
    have HR := HA
    have HT := HA
    have HK := HA
    have HP := HA
    have HD := Lib.hid (fun w => l26Code_any 0 w)
    go_enter Tryz.func232, Tryz.ntmps232
    go_wp2_with (first | (go_at_call 34; (with_reducible refine (HA.out _).mono ?_); rintro e w' ⟨rfl, rfl⟩) | (go_at_call 34; (with_reducible refine (HC.out _).mono ?_); rintro e w' ⟨rfl, rfl⟩) | (go_at_call 34; (with_reducible refine (HR.out _).mono ?_); rintro e w' ⟨rfl, rfl⟩) | (go_at_call 34; (with_reducible refine (HT.out _).mono ?_); rintro e w' ⟨rfl, rfl⟩) | (go_at_call 34; (with_reducible refine (HK.out _).mono ?_); rintro e w' ⟨rfl, rfl⟩) | (go_at_call 34; (with_reducible refine (HP.out _).mono ?_); rintro e w' ⟨rfl, rfl⟩) | (go_at_call 279; (with_reducible refine (HD.out _).mono ?_); rintro e w' ⟨rfl, rfl⟩))
    go_ret
    exact ⟨ret_bool (by rw [HE.out, eA.out]; rfl), HB0.out _⟩
  | true =>
    have HA := Lib.hid (fun w => l01In_lit hA w)
    have eA := Lib.hid hA
    clear hA
    cases hC : withinB x1 0 (b - 1) with
    | false =>
      have HC := Lib.hid (fun w => l01In_lit hC w)
      have eC := Lib.hid hC
      clear hC
      have HR := HA
      have HT := HA
      have HK := HA
      have HP := HA
      have HD := Lib.hid (fun w => l26Code_any 0 w)
      go_enter Tryz.func232, Tryz.ntmps232
      go_wp2_with (first | (go_at_call 34; (with_reducible refine (HA.out _).mono ?_); rintro e w' ⟨rfl, rfl⟩) | (go_at_call 34; (with_reducible refine (HC.out _).mono ?_); rintro e w' ⟨rfl, rfl⟩) | (go_at_call 34; (with_reducible refine (HR.out _).mono ?_); rintro e w' ⟨rfl, rfl⟩) | (go_at_call 34; (with_reducible refine (HT.out _).mono ?_); rintro e w' ⟨rfl, rfl⟩) | (go_at_call 34; (with_reducible refine (HK.out _).mono ?_); rintro e w' ⟨rfl, rfl⟩) | (go_at_call 34; (with_reducible refine (HP.out _).mono ?_); rintro e w' ⟨rfl, rfl⟩) | (go_at_call 279; (with_reducible refine (HD.out _).mono ?_); rintro e w' ⟨rfl, rfl⟩))
      go_ret
      exact ⟨ret_bool (by rw [HE.out, eA.out, eC.out]; rfl), HB0.out _⟩
    | true =>
      have HC := Lib.hid (fun w => l01In_lit hC w)
      have eC := Lib.hid hC
      clear hC
      cases hD : withinB x3 0 9 with
      | false =>
        have HD := Lib.hid (fun w => l26Code_lit hD w)
        have eD := Lib.hid (finB_code (x0 := x1) (x2 := x4) hD)
        clear hD
        have HR := HA
        have HT := HA
        have HK := HA
        have HP := HA
        go_enter Tryz.func232, Tryz.ntmps232
        go_wp2_with (first | (go_at_call 34; (with_reducible refine (HA.out _).mono ?_); rintro e w' ⟨rfl, rfl⟩) | (go_at_call 34; (with_reducible refine (HC.out _).mono ?_); rintro e w' ⟨rfl, rfl⟩) | (go_at_call 34; (with_reducible refine (HR.out _).mono ?_); rintro e w' ⟨rfl, rfl⟩) | (go_at_call 34; (with_reducible refine (HT.out _).mono ?_); rintro e w' ⟨rfl, rfl⟩) | (go_at_call 34; (with_reducible refine (HK.out _).mono ?_); rintro e w' ⟨rfl, rfl⟩) | (go_at_call 34; (with_reducible refine (HP.out _).mono ?_); rintro e w' ⟨rfl, rfl⟩) | (go_at_call 279; (with_reducible refine (HD.out _).mono ?_); rintro e w' ⟨rfl, rfl⟩))
        go_ret
        exact ⟨ret_bool (by rw [HE.out, eA.out, eC.out, eD.out]; rfl), HB0.out _⟩
      | true =>
        have HD := Lib.hid (fun w => l26Code_lit hD w)
        have hD2 := withinB_iff.1 hD
        clear hD
        cases hR : revB x2 with
        | false =>
          have HR := Lib.hid (fun w => l01In_lit hR w)
          have eR := Lib.hid hR
          clear hR hD2
          have HT := HA
          have HK := HA
          have HP := HA
          go_enter Tryz.func232, Tryz.ntmps232
          go_wp2_with (first | (go_at_call 34; (with_reducible refine (HA.out _).mono ?_); rintro e w' ⟨rfl, rfl⟩) | (go_at_call 34; (with_reducible refine (HC.out _).mono ?_); rintro e w' ⟨rfl, rfl⟩) | (go_at_call 34; (with_reducible refine (HR.out _).mono ?_); rintro e w' ⟨rfl, rfl⟩) | (go_at_call 34; (with_reducible refine (HT.out _).mono ?_); rintro e w' ⟨rfl, rfl⟩) | (go_at_call 34; (with_reducible refine (HK.out _).mono ?_); rintro e w' ⟨rfl, rfl⟩) | (go_at_call 34; (with_reducible refine (HP.out _).mono ?_); rintro e w' ⟨rfl, rfl⟩) | (go_at_call 279; (with_reducible refine (HD.out _).mono ?_); rintro e w' ⟨rfl, rfl⟩))
          go_ret
          exact ⟨ret_bool (by rw [Bool.and_false]), HB0.out _⟩
        | true =>
          have HR := Lib.hid (fun w => l01In_lit hR w)
          have eR := Lib.hid hR
          clear hR
          by_cases h0 : x3 = 0
          · subst h0
            clear hD2
            have HX9 := Lib.hid (show ((0 : Int) == 9) = false from rfl)
            cases hT : withinB x4 1 1000000000 with
            | false =>
              have HT := Lib.hid (fun w => l01In_lit hT w)
              have eT := Lib.hid (show finB (x1, 0, x4) = false from by unfold finB; rw [if_pos rfl]; exact hT)
              clear hT
              have HK := HA
              have HP := HA
              go_enter Tryz.func232, Tryz.ntmps232
              go_wp2_with (first | (go_at_call 34; (with_reducible refine (HA.out _).mono ?_); rintro e w' ⟨rfl, rfl⟩) | (go_at_call 34; (with_reducible refine (HC.out _).mono ?_); rintro e w' ⟨rfl, rfl⟩) | (go_at_call 34; (with_reducible refine (HR.out _).mono ?_); rintro e w' ⟨rfl, rfl⟩) | (go_at_call 34; (with_reducible refine (HT.out _).mono ?_); rintro e w' ⟨rfl, rfl⟩) | (go_at_call 34; (with_reducible refine (HK.out _).mono ?_); rintro e w' ⟨rfl, rfl⟩) | (go_at_call 34; (with_reducible refine (HP.out _).mono ?_); rintro e w' ⟨rfl, rfl⟩) | (go_at_call 279; (with_reducible refine (HD.out _).mono ?_); rintro e w' ⟨rfl, rfl⟩))
              go_ret
              exact ⟨ret_bool (by rw [HE.out, eT.out]; simp), HB0.out _⟩
            | true =>
              have HT := Lib.hid (fun w => l01In_lit hT w)
              have eT := Lib.hid (show finB (x1, 0, x4) = true from by unfold finB; rw [if_pos rfl]; exact hT)
              clear hT
              by_cases h5 : x5 = 0
              · subst h5
                have HP := HA
                have HK := HA
                go_enter Tryz.func232, Tryz.ntmps232
                go_wp2_with (first | (go_at_call 34; (with_reducible refine (HA.out _).mono ?_); rintro e w' ⟨rfl, rfl⟩) | (go_at_call 34; (with_reducible refine (HC.out _).mono ?_); rintro e w' ⟨rfl, rfl⟩) | (go_at_call 34; (with_reducible refine (HR.out _).mono ?_); rintro e w' ⟨rfl, rfl⟩) | (go_at_call 34; (with_reducible refine (HT.out _).mono ?_); rintro e w' ⟨rfl, rfl⟩) | (go_at_call 34; (with_reducible refine (HK.out _).mono ?_); rintro e w' ⟨rfl, rfl⟩) | (go_at_call 34; (with_reducible refine (HP.out _).mono ?_); rintro e w' ⟨rfl, rfl⟩) | (go_at_call 279; (with_reducible refine (HD.out _).mono ?_); rintro e w' ⟨rfl, rfl⟩))
                go_ret
                exact ⟨ret_bool (by rw [HE.out, eA.out, eC.out, eT.out]; simp), HB0.out _⟩
              · have e5 : (x5 == 0) = false := by simp [h5]
                have HP := HA
                have HK := HA
                have Hh5 := Lib.hid h5
                clear h5
                go_enter Tryz.func232, Tryz.ntmps232
                go_wp2_with (first | (go_at_call 34; (with_reducible refine (HA.out _).mono ?_); rintro e w' ⟨rfl, rfl⟩) | (go_at_call 34; (with_reducible refine (HC.out _).mono ?_); rintro e w' ⟨rfl, rfl⟩) | (go_at_call 34; (with_reducible refine (HR.out _).mono ?_); rintro e w' ⟨rfl, rfl⟩) | (go_at_call 34; (with_reducible refine (HT.out _).mono ?_); rintro e w' ⟨rfl, rfl⟩) | (go_at_call 34; (with_reducible refine (HK.out _).mono ?_); rintro e w' ⟨rfl, rfl⟩) | (go_at_call 34; (with_reducible refine (HP.out _).mono ?_); rintro e w' ⟨rfl, rfl⟩) | (go_at_call 279; (with_reducible refine (HD.out _).mono ?_); rintro e w' ⟨rfl, rfl⟩))
                go_ret
                exact ⟨ret_bool (by rw [HE.out, eA.out, eC.out, eT.out, if_neg Hh5.out, HX9.out]; rfl), HB0.out _⟩
          · have e0 : (x3 == 0) = false := by simp [h0]
            have e0' : (x3 != 0) = true := by simp [h0]
            have HT := HA
            have hw9 : withinB x3 1 9 = true := withinB_iff.2 (by omega)
            by_cases h4 : x4 = 0
            · subst h4
              have eT := Lib.hid (show finB (x1, x3, 0) = true from by unfold finB; rw [if_neg h0, hw9]; rfl)
              clear hw9 hD2 h0
              by_cases h9 : x3 = 9
              · subst h9
                clear e0 e0'
                by_cases h5 : x5 = 0
                · subst h5
                  have HP := HA
                  have HK := HA
                  go_enter Tryz.func232, Tryz.ntmps232
                  go_wp2_with (first | (go_at_call 34; (with_reducible refine (HA.out _).mono ?_); rintro e w' ⟨rfl, rfl⟩) | (go_at_call 34; (with_reducible refine (HC.out _).mono ?_); rintro e w' ⟨rfl, rfl⟩) | (go_at_call 34; (with_reducible refine (HR.out _).mono ?_); rintro e w' ⟨rfl, rfl⟩) | (go_at_call 34; (with_reducible refine (HT.out _).mono ?_); rintro e w' ⟨rfl, rfl⟩) | (go_at_call 34; (with_reducible refine (HK.out _).mono ?_); rintro e w' ⟨rfl, rfl⟩) | (go_at_call 34; (with_reducible refine (HP.out _).mono ?_); rintro e w' ⟨rfl, rfl⟩) | (go_at_call 279; (with_reducible refine (HD.out _).mono ?_); rintro e w' ⟨rfl, rfl⟩))
                  go_ret
                  exact ⟨ret_bool (by rw [HE.out, eA.out, eC.out, eT.out]; simp), HB0.out _⟩
                · have e5 : (x5 == 0) = false := by simp [h5]
                  have Hh5 := Lib.hid h5
                  clear h5
                  cases hK : withinB x5 1 3 with
                  | false =>
                    have HK := Lib.hid (fun w => l01In_lit hK w)
                    have eK := Lib.hid hK
                    clear hK
                    have HP := HA
                    go_enter Tryz.func232, Tryz.ntmps232
                    go_wp2_with (first | (go_at_call 34; (with_reducible refine (HA.out _).mono ?_); rintro e w' ⟨rfl, rfl⟩) | (go_at_call 34; (with_reducible refine (HC.out _).mono ?_); rintro e w' ⟨rfl, rfl⟩) | (go_at_call 34; (with_reducible refine (HR.out _).mono ?_); rintro e w' ⟨rfl, rfl⟩) | (go_at_call 34; (with_reducible refine (HT.out _).mono ?_); rintro e w' ⟨rfl, rfl⟩) | (go_at_call 34; (with_reducible refine (HK.out _).mono ?_); rintro e w' ⟨rfl, rfl⟩) | (go_at_call 34; (with_reducible refine (HP.out _).mono ?_); rintro e w' ⟨rfl, rfl⟩) | (go_at_call 279; (with_reducible refine (HD.out _).mono ?_); rintro e w' ⟨rfl, rfl⟩))
                    go_ret
                    exact ⟨ret_bool (by rw [HE.out, eA.out, eC.out, eT.out, if_neg Hh5.out, isRedB_k eK.out]; rfl), HB0.out _⟩
                  | true =>
                    have HK := Lib.hid (fun w => l01In_lit hK w)
                    have eK := Lib.hid hK
                    clear hK
                    cases hP : withinB x6 0 10000 with
                    | false =>
                      have HP := Lib.hid (fun w => l01In_lit hP w)
                      have eP := Lib.hid hP
                      clear hP
                      go_enter Tryz.func232, Tryz.ntmps232
                      go_wp2_with (first | (go_at_call 34; (with_reducible refine (HA.out _).mono ?_); rintro e w' ⟨rfl, rfl⟩) | (go_at_call 34; (with_reducible refine (HC.out _).mono ?_); rintro e w' ⟨rfl, rfl⟩) | (go_at_call 34; (with_reducible refine (HR.out _).mono ?_); rintro e w' ⟨rfl, rfl⟩) | (go_at_call 34; (with_reducible refine (HT.out _).mono ?_); rintro e w' ⟨rfl, rfl⟩) | (go_at_call 34; (with_reducible refine (HK.out _).mono ?_); rintro e w' ⟨rfl, rfl⟩) | (go_at_call 34; (with_reducible refine (HP.out _).mono ?_); rintro e w' ⟨rfl, rfl⟩) | (go_at_call 279; (with_reducible refine (HD.out _).mono ?_); rintro e w' ⟨rfl, rfl⟩))
                      go_ret
                      exact ⟨ret_bool (by rw [HE.out, eA.out, eC.out, eT.out, if_neg Hh5.out, isRedB_p eP.out]; rfl), HB0.out _⟩
                    | true =>
                      have HP := Lib.hid (fun w => l01In_lit hP w)
                      have eP := Lib.hid hP
                      clear hP
                      by_cases h53 : x5 = 3
                      · subst h53
                        clear e5
                        go_enter Tryz.func232, Tryz.ntmps232
                        go_wp2_with (first | (go_at_call 34; (with_reducible refine (HA.out _).mono ?_); rintro e w' ⟨rfl, rfl⟩) | (go_at_call 34; (with_reducible refine (HC.out _).mono ?_); rintro e w' ⟨rfl, rfl⟩) | (go_at_call 34; (with_reducible refine (HR.out _).mono ?_); rintro e w' ⟨rfl, rfl⟩) | (go_at_call 34; (with_reducible refine (HT.out _).mono ?_); rintro e w' ⟨rfl, rfl⟩) | (go_at_call 34; (with_reducible refine (HK.out _).mono ?_); rintro e w' ⟨rfl, rfl⟩) | (go_at_call 34; (with_reducible refine (HP.out _).mono ?_); rintro e w' ⟨rfl, rfl⟩) | (go_at_call 279; (with_reducible refine (HD.out _).mono ?_); rintro e w' ⟨rfl, rfl⟩))
                        go_ret
                        exact ⟨ret_bool (by rw [HE.out, eA.out, eC.out, eT.out, if_neg Hh5.out, isRedB_all eK.out eP.out]; rfl), HB0.out _⟩
                      · have e53 : (x5 == 3) = false := by simp [h53]
                        have HX3 := Lib.hid e53
                        clear h53
                        go_enter Tryz.func232, Tryz.ntmps232
                        go_wp2_with (first | (go_at_call 34; (with_reducible refine (HA.out _).mono ?_); rintro e w' ⟨rfl, rfl⟩) | (go_at_call 34; (with_reducible refine (HC.out _).mono ?_); rintro e w' ⟨rfl, rfl⟩) | (go_at_call 34; (with_reducible refine (HR.out _).mono ?_); rintro e w' ⟨rfl, rfl⟩) | (go_at_call 34; (with_reducible refine (HT.out _).mono ?_); rintro e w' ⟨rfl, rfl⟩) | (go_at_call 34; (with_reducible refine (HK.out _).mono ?_); rintro e w' ⟨rfl, rfl⟩) | (go_at_call 34; (with_reducible refine (HP.out _).mono ?_); rintro e w' ⟨rfl, rfl⟩) | (go_at_call 279; (with_reducible refine (HD.out _).mono ?_); rintro e w' ⟨rfl, rfl⟩))
                        go_ret
                        exact ⟨ret_bool (by rw [HE.out, eA.out, eC.out, eT.out, if_neg Hh5.out, isRedB_all eK.out eP.out, HX3.out]; simp), HB0.out _⟩
              · have e9 : (x3 == 9) = false := by simp [h9]
                have e9' : (x3 != 9) = true := by simp [h9]
                have HX9 := Lib.hid e9
                clear h9
                by_cases h5 : x5 = 0
                · subst h5
                  have HP := HA
                  have HK := HA
                  go_enter Tryz.func232, Tryz.ntmps232
                  go_wp2_with (first | (go_at_call 34; (with_reducible refine (HA.out _).mono ?_); rintro e w' ⟨rfl, rfl⟩) | (go_at_call 34; (with_reducible refine (HC.out _).mono ?_); rintro e w' ⟨rfl, rfl⟩) | (go_at_call 34; (with_reducible refine (HR.out _).mono ?_); rintro e w' ⟨rfl, rfl⟩) | (go_at_call 34; (with_reducible refine (HT.out _).mono ?_); rintro e w' ⟨rfl, rfl⟩) | (go_at_call 34; (with_reducible refine (HK.out _).mono ?_); rintro e w' ⟨rfl, rfl⟩) | (go_at_call 34; (with_reducible refine (HP.out _).mono ?_); rintro e w' ⟨rfl, rfl⟩) | (go_at_call 279; (with_reducible refine (HD.out _).mono ?_); rintro e w' ⟨rfl, rfl⟩))
                  go_ret
                  exact ⟨ret_bool (by rw [HE.out, eA.out, eC.out, eT.out]; simp), HB0.out _⟩
                · have e5 : (x5 == 0) = false := by simp [h5]
                  have HP := HA
                  have HK := HA
                  have Hh5 := Lib.hid h5
                  clear h5
                  go_enter Tryz.func232, Tryz.ntmps232
                  go_wp2_with (first | (go_at_call 34; (with_reducible refine (HA.out _).mono ?_); rintro e w' ⟨rfl, rfl⟩) | (go_at_call 34; (with_reducible refine (HC.out _).mono ?_); rintro e w' ⟨rfl, rfl⟩) | (go_at_call 34; (with_reducible refine (HR.out _).mono ?_); rintro e w' ⟨rfl, rfl⟩) | (go_at_call 34; (with_reducible refine (HT.out _).mono ?_); rintro e w' ⟨rfl, rfl⟩) | (go_at_call 34; (with_reducible refine (HK.out _).mono ?_); rintro e w' ⟨rfl, rfl⟩) | (go_at_call 34; (with_reducible refine (HP.out _).mono ?_); rintro e w' ⟨rfl, rfl⟩) | (go_at_call 279; (with_reducible refine (HD.out _).mono ?_); rintro e w' ⟨rfl, rfl⟩))
                  go_ret
                  exact ⟨ret_bool (by rw [HE.out, eA.out, eC.out, eT.out, if_neg Hh5.out, HX9.out]; rfl), HB0.out _⟩
            · have e4 : (x4 != 0) = true := by simp [h4]
              have eT := Lib.hid (show finB (x1, x3, x4) = false from by unfold finB; rw [if_neg h0]; simp [h4])
              clear hw9 hD2 h0 h4
              have HK := HA
              have HP := HA
              go_enter Tryz.func232, Tryz.ntmps232
              go_wp2_with (first | (go_at_call 34; (with_reducible refine (HA.out _).mono ?_); rintro e w' ⟨rfl, rfl⟩) | (go_at_call 34; (with_reducible refine (HC.out _).mono ?_); rintro e w' ⟨rfl, rfl⟩) | (go_at_call 34; (with_reducible refine (HR.out _).mono ?_); rintro e w' ⟨rfl, rfl⟩) | (go_at_call 34; (with_reducible refine (HT.out _).mono ?_); rintro e w' ⟨rfl, rfl⟩) | (go_at_call 34; (with_reducible refine (HK.out _).mono ?_); rintro e w' ⟨rfl, rfl⟩) | (go_at_call 34; (with_reducible refine (HP.out _).mono ?_); rintro e w' ⟨rfl, rfl⟩) | (go_at_call 279; (with_reducible refine (HD.out _).mono ?_); rintro e w' ⟨rfl, rfl⟩))
              go_ret
              exact ⟨ret_bool (by rw [HE.out, eT.out]; simp), HB0.out _⟩
end Go.Proofs.YtnpldahkhaacnaaGreatDoor

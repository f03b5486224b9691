/- Walks: valid tables (chapter 26), both sides. -/
import Derived.Test.YtalgdeieejpelaaTa
import Derived.Test.YtalgdeieejpelaaTp
import Derived.Test.YtalgdeieejpelaaWr
namespace Go.Proofs.Ytalgdeieejpelaa
open Go.RowKit
set_option linter.unusedVariables false
set_option maxRecDepth 100000

theorem areRow_q (A : Option Addr) (n c : Nat) (xs : List Int) (many most : Int) (w : World) (b : Bool) (hb : rowB xs many most = b) (h : Rd w 1 A n (ints xs)) (q : Nat) :
    Calls Try.prog 46 #[.slice A n c, .int .i64 many, .int .i64 most] (w.drewN q) fun e w' => e = .returned (.bool b) ∧ ∃ m, w' = (w.drewN q).drewN m := by
  subst hb
  exact (areRow_any A n c xs many most (w.drewN q) (h.drewN q)).mono fun _ _ ⟨a, b⟩ => ⟨a, 0, by rw [← b]; rfl⟩
set_option maxHeartbeats 1000000 in
theorem implIsTable_any (P : Option Addr) (n c : Nat) (C : Option Addr) (m d : Nat) (t : Tb) (w : World) (h : RdT w P n C m t) :
    Calls Try.prog 34 #[.agg #[.int .i64 t.boats, .slice P n c, .slice C m d]] w fun e w' => e = .returned (.bool (tableB t)) ∧ Below w.heap.size w w' := by
  have hn := h.pts.le
  have hm := h.cds.le
  have HN := Lib.hid h.pts.len
  have HM := Lib.hid h.cds.len
  have E := Lib.hid (show tableB t = (withinB t.boats 1 16 && decide (t.pts.length ≤ 12) && decide (t.pts.length = t.cds.length) && zipB t.boats t.pts t.cds) from rfl)
  have HB := Lib.hid (show ∀ o, Below w.heap.size w (w.alloc o) from fun o => (Below.refl _ _).alloc (Nat.le_refl _) o)
  cases h1 : withinB t.boats 1 16 with
  | false =>
    go_enter Try.func34, Try.ntmps34
    go_wp2_with (go_at_call 37; refine (within_any _ _ _ _).mono ?_; rintro e w' ⟨rfl, rfl⟩)
    go_ret
    exact ⟨ret_bool (by rw [E.out, h1]; rfl), HB.out _⟩
  | true =>
    by_cases h2 : n ≤ 12
    · by_cases h3 : n = m
      · subst h3
        go_enter Try.func34, Try.ntmps34
        go_wp2_with (go_at_call 37; refine (within_any _ _ _ _).mono ?_; rintro e w' ⟨rfl, rfl⟩)
        obtain ⟨w1, hw1, X0, hb1, hs1⟩ := one_box w #[.int .i64 t.boats, .slice P n c, .slice C n d] 31
        rw [← hw1]
        have HH1 := Lib.hid h1
        clear hw1 hs1 h1
        have hsb := X0.lt
        go_loopw [26] (fun i wr => ∃ k : Nat, k ≤ n ∧ i = .int .i64 k ∧ Hid (zipB t.boats (t.pts.drop k) (t.cds.drop k) = zipB t.boats t.pts t.cds) ∧ Below w1.heap.size w1 wr) (fun i _ => n - (intOf i).toNat)
        case atStart => exact ⟨0, Nat.zero_le _, rfl, Lib.hid rfl, Below.refl _ _⟩
        case round =>
          obtain ⟨k, hk, rfl, HR, hb⟩ := hrel
          have F0 := (X0.below hb).f3
          by_cases hlt : k < n
          · obtain ⟨b, o, A', c', p, rfl, _, hd, hc, hrd⟩ := ((h.pts.below hb1).below hb).row hlt
            obtain ⟨b', o', A2, c2, q, rfl, _, hd', hc', hrd'⟩ := ((h.cds.below hb1).below hb).row hlt
            have HD := Lib.hid hd; have HD' := Lib.hid hd'
            clear hd hd'
            have HB3 := Lib.hid hb
            clear hb
            cases hp : rowB p t.boats 10000 with
            | false =>
              have HP := Lib.hid (areRow_q _ _ c' _ _ _ wr _ hp hrd)
              clear hrd hrd' X0
              have HPE := Lib.hid hp; clear hp
              go_wp2_with fail
              go_quiet ((go_at_call 46; exact Calls.quiet_of (HP.out _)))
              go_wp2_with fail
              go_ret
              exact ⟨ret_bool (by rw [E.out, ← HR.out, HD.out, HD'.out, zipB, HPE.out]; simp), hb1.trans ((HB3.out.trans (below_drewN' _ _ _)).mono hb1.size)⟩
            | true =>
              have HP := Lib.hid (areRow_q _ _ c' _ _ _ wr _ hp hrd)
              have HPE := Lib.hid hp; clear hp
              cases hq : rowB q t.boats 9 with
              | false =>
                have HQ := Lib.hid (areRow_q _ _ c2 _ _ _ wr _ hq hrd')
                clear hrd hrd' X0
                have HQE := Lib.hid hq; clear hq
                go_wp2_with fail
                go_quiet ((go_at_call 46; first | (with_reducible exact Calls.quiet_of (HP.out _)) | (with_reducible exact Calls.quiet_of (HQ.out _))))
                go_wp2_with fail
                go_ret
                exact ⟨ret_bool (by rw [E.out, ← HR.out, HD.out, HD'.out, zipB, HQE.out]; simp), hb1.trans ((HB3.out.trans (below_drewN' _ _ _)).mono hb1.size)⟩
              | true =>
                have HQ := Lib.hid (areRow_q _ _ c2 _ _ _ wr _ hq hrd')
                clear hrd hrd' X0
                have HQE := Lib.hid hq; clear hq
                go_wp2_with fail
                go_quiet ((go_at_call 46; first | (with_reducible exact Calls.quiet_of (HP.out _)) | (with_reducible exact Calls.quiet_of (HQ.out _))))
                go_wp2_with fail
                go_roundw
                case rel => exact ⟨k + 1, by omega, by go_num, Lib.hid (by rw [← HR.out, HD.out, HD'.out, zipB, HPE.out, HQE.out]; rfl), HB3.out.trans (below_drewN' _ _ _)⟩
                case measure => simp [intOf] <;> omega
          · obtain rfl : k = n := by omega
            go_wp2_with fail
            go_ret
            exact ⟨ret_bool (by rw [E.out, ← HR.out, HH1.out, List.drop_eq_nil_of_le (by rw [HN.out]; omega), HN.out, HM.out, decide_eq_true h2]; simp [zipB]), hb1.trans (hb.mono hb1.size)⟩
      · have hne : ((n : Int) != m) = true := by simp; omega
        go_enter Try.func34, Try.ntmps34
        go_wp2_with (go_at_call 37; refine (within_any _ _ _ _).mono ?_; rintro e w' ⟨rfl, rfl⟩)
        go_ret
        exact ⟨ret_bool (by rw [E.out, HN.out, HM.out, decide_eq_false h3]; simp), HB.out _⟩
    · go_enter Try.func34, Try.ntmps34
      go_wp2_with (go_at_call 37; refine (within_any _ _ _ _).mono ?_; rintro e w' ⟨rfl, rfl⟩)
      go_ret
      exact ⟨ret_bool (by rw [E.out, HN.out, decide_eq_false h2]; simp), HB.out _⟩
theorem l26Code_anyT (x : Int) (w : World) :
    Calls Try.prog 41 #[.int .i64 x] w fun e w' => e = .returned (.bool (withinB x 0 9)) ∧ w = w' := by
  go_enter Try.func41, Try.ntmps41
  go_wp2_with (go_at_call 30; refine (l01In_any _ _ _ _).mono ?_; rintro e w' ⟨rfl, rfl⟩)
  go_ret
  exact ⟨rfl, rfl⟩
set_option maxHeartbeats 2000000 in
theorem specIsTable_any (P : Option Addr) (n c : Nat) (C : Option Addr) (m d : Nat) (t : Tb) (w : World) (h : RdT w P n C m t) :
    Calls Try.prog 28 #[.agg #[.int .i64 t.boats, .slice P n c, .slice C m d]] w fun e w' => e = .returned (.bool (tableB t)) ∧ Below w.heap.size w w' := by
  have hn := h.pts.le
  have hm := h.cds.le
  have HN := Lib.hid h.pts.len
  have HM := Lib.hid h.cds.len
  have E := Lib.hid (show tableB t = (withinB t.boats 1 16 && decide (t.pts.length ≤ 12) && decide (t.pts.length = t.cds.length) && zipB t.boats t.pts t.cds) from rfl)
  have HB := Lib.hid (show ∀ o, Below w.heap.size w (w.alloc o) from fun o => (Below.refl _ _).alloc (Nat.le_refl _) o)
  cases h1 : withinB t.boats 1 16 with
  | false =>
    go_enter Try.func28, Try.ntmps28
    go_wp2_with (go_at_call 30; refine (l01In_any _ _ _ _).mono ?_; rintro e w' ⟨rfl, rfl⟩)
    go_ret
    exact ⟨ret_bool (by rw [E.out, h1]; rfl), HB.out _⟩
  | true =>
    by_cases h2 : n ≤ 12
    · by_cases h3 : m = n
      · subst h3
        have hB := withinB_iff.1 h1
        obtain ⟨bo, hbo⟩ := int_up t.boats (by omega)
        have HR0 := Lib.hid (show (true && decide (t.pts.length ≤ 12) && decide (t.pts.length = t.cds.length) && zipB t.boats t.pts t.cds) = zipB t.boats t.pts t.cds from by rw [HN.out, HM.out, decide_eq_true h2]; simp)
        rw [h1] at E
        unfold Hid at E HR0
        rw [hbo] at E HR0 h1 hB ⊢
        replace E := Lib.hid E
        replace HR0 := Lib.hid HR0
        clear hbo
        go_enter Try.func28, Try.ntmps28
        go_wp2_with (go_at_call 30; refine (l01In_any _ _ _ _).mono ?_; rintro e w' ⟨rfl, rfl⟩)
        clear h1
        obtain ⟨w1, hw1, X0, hb1, hs1⟩ := one_box w #[.int .i64 bo, .slice P m c, .slice C m d] 31
        rw [← hw1]
        clear hw1 hs1
        have hsb := X0.lt
        go_loopw [3] (fun i wr => ∃ k : Nat, k ≤ m ∧ i = .int .i64 k ∧ Hid (zipB bo (t.pts.drop k) (t.cds.drop k) = zipB bo t.pts t.cds) ∧ Below w1.heap.size w1 wr) (fun i _ => m - (intOf i).toNat)
        case atStart => exact ⟨0, Nat.zero_le _, rfl, Lib.hid rfl, Below.refl _ _⟩
        case round =>
          obtain ⟨k, hk, rfl, HR, hb⟩ := hrel
          have X1 := X0.below hb
          have F0 := X1.f3
          by_cases hlt : k < m
          · obtain ⟨b, o, A', c', p, rfl, _, hd, hc, hrd⟩ := ((h.pts.below hb1).below hb).row hlt
            obtain ⟨b', o', A2, c2, q, rfl, _, hd', hc', hrd'⟩ := ((h.cds.below hb1).below hb).row hlt
            have HD := Lib.hid hd; have HD' := Lib.hid hd'
            clear hd hd' X0
            have HB3 := Lib.hid hb
            clear hb
            by_cases hp : p.length = bo
            · by_cases hq : q.length = bo
              · have HPQ := Lib.hid (pairB_eq (bo : Int) p q (by omega) (by omega))
                have e1 : ((p.length : Int) != bo) = false := by simp; omega
                have e2 : ((q.length : Int) != bo) = false := by simp; omega
                have HP := Lib.hid hp; have HQ := Lib.hid hq
                clear hp hq
                go_wp2_with fail
                go_quiet (fail)
                clear e1 e2 F0
                obtain ⟨wo, hwo, hbo⟩ : ∃ wo, wo = wr.drewN nq ∧ Below wr.heap.size wr wo := ⟨_, rfl, below_drewN' _ _ _⟩
                rw [← hwo]
                have F0 := (X1.below hbo).f3
                have hc := (hbo.cell (p := ⟨b, o + k, none⟩) (cell_lt hc)).trans hc
                have hc' := (hbo.cell (p := ⟨b', o' + k, none⟩) (cell_lt hc')).trans hc'
                have hrd := hrd.below hbo
                have hrd' := hrd'.below hbo
                have HBO := Lib.hid (hb1.trans ((HB3.out.trans (hbo.mono HB3.out.size)).mono hb1.size))
                have HBW := Lib.hid (HB3.out.trans (hbo.mono HB3.out.size))
                clear hwo hbo X1 hb1 HB3
                have hpl := hrd.le
                have hql := hrd'.le
                rw [HP.out] at hrd hpl hc
                rw [HQ.out] at hrd' hql hc'
                go_wp2_with fail
                go_loop [4] (fun i => ∃ j : Nat, j ≤ bo ∧ i = .int .i64 j ∧ Hid (pairB (p.drop j) (q.drop j) = pairB p q)) (fun i => bo - (intOf i).toNat)
                case atStart => exact ⟨0, Nat.zero_le _, rfl, Lib.hid rfl⟩
                case round =>
                  obtain ⟨j, hj, rfl, HJ⟩ := hrel
                  by_cases hjl : j < bo
                  · obtain ⟨b2, o2, x, rfl, _, hxd, hxc⟩ := hrd.int hjl
                    obtain ⟨b3, o3, y, rfl, _, hyd, hyc⟩ := hrd'.int hjl
                    have HXD := Lib.hid hxd; have HYD := Lib.hid hyd
                    clear hxd hyd
                    cases hx : withinB x 0 10000 with
                    | false =>
                      go_wp2_with (first | (go_at_call 30; refine (l01In_any _ _ _ _).mono ?_; rintro e w' ⟨rfl, rfl⟩) | (go_at_call 41; refine (l26Code_anyT _ _).mono ?_; rintro e w' ⟨rfl, rfl⟩))
                      have HXE := Lib.hid hx
                      go_ret
                      exact ⟨ret_bool (by rw [E.out, HR0.out, ← HR.out, HD.out, HD'.out, zipB, HPQ.out, ← HJ.out, HXD.out, HYD.out, pairB, HXE.out]; simp), HBO.out⟩
                    | true =>
                      cases hy : withinB y 0 9 with
                      | false =>
                        go_wp2_with (first | (go_at_call 30; refine (l01In_any _ _ _ _).mono ?_; rintro e w' ⟨rfl, rfl⟩) | (go_at_call 41; refine (l26Code_anyT _ _).mono ?_; rintro e w' ⟨rfl, rfl⟩))
                        have HXE := Lib.hid hx; have HYE := Lib.hid hy
                        go_ret
                        exact ⟨ret_bool (by rw [E.out, HR0.out, ← HR.out, HD.out, HD'.out, zipB, HPQ.out, ← HJ.out, HXD.out, HYD.out, pairB, HXE.out, HYE.out]; simp), HBO.out⟩
                      | true =>
                        go_wp2_with (first | (go_at_call 30; refine (l01In_any _ _ _ _).mono ?_; rintro e w' ⟨rfl, rfl⟩) | (go_at_call 41; refine (l26Code_anyT _ _).mono ?_; rintro e w' ⟨rfl, rfl⟩))
                        have HXE := Lib.hid hx; have HYE := Lib.hid hy
                        go_round
                        case rel => exact ⟨j + 1, by omega, by go_num, Lib.hid (by rw [← HJ.out, HXD.out, HYD.out, pairB, HXE.out, HYE.out]; rfl)⟩
                        case measure => simp [intOf] <;> omega
                  · obtain rfl : j = bo := by omega
                    have HT := Lib.hid (show pairB p q = true from by rw [← HJ.out, List.drop_eq_nil_of_le (by rw [HP.out]; omega), pairB_nil])
                    go_wp2_with fail
                    go_roundw
                    case rel => exact ⟨k + 1, by omega, by go_num, Lib.hid (by rw [← HR.out, HD.out, HD'.out, zipB, HPQ.out, HT.out]; rfl), HBW.out⟩
                    case measure => simp [intOf] <;> omega
              · have e1 : ((p.length : Int) != bo) = false := by simp; omega
                have e2 : ((q.length : Int) != bo) = true := by simp; omega
                go_wp2_with fail
                go_quiet (fail)
                go_wp2_with fail
                go_ret
                exact ⟨ret_bool (by rw [E.out, HR0.out, ← HR.out, HD.out, HD'.out, zipB, rowB_false (xs := q) (by omega)]; simp), hb1.trans ((HB3.out.trans (below_drewN' _ _ _)).mono hb1.size)⟩
            · have e1 : ((p.length : Int) != bo) = true := by simp; omega
              go_wp2_with fail
              go_quiet (fail)
              go_wp2_with fail
              go_ret
              exact ⟨ret_bool (by rw [E.out, HR0.out, ← HR.out, HD.out, HD'.out, zipB, rowB_false (xs := p) (by omega)]; simp), hb1.trans ((HB3.out.trans (below_drewN' _ _ _)).mono hb1.size)⟩
          · obtain rfl : k = m := by omega
            go_wp2_with fail
            go_ret
            exact ⟨ret_bool (by rw [E.out, HR0.out, ← HR.out, List.drop_eq_nil_of_le (by rw [HN.out]; omega), zipB_nil]), hb1.trans (hb.mono hb1.size)⟩
      · have hne : ((m : Int) != n) = true := by simp; omega
        go_enter Try.func28, Try.ntmps28
        go_wp2_with (go_at_call 30; refine (l01In_any _ _ _ _).mono ?_; rintro e w' ⟨rfl, rfl⟩)
        go_ret
        exact ⟨ret_bool (by rw [E.out, HN.out, HM.out, decide_eq_false (show ¬ n = m from fun e => h3 e.symm)]; simp), HB.out _⟩
    · go_enter Try.func28, Try.ntmps28
      go_wp2_with (go_at_call 30; refine (l01In_any _ _ _ _).mono ?_; rintro e w' ⟨rfl, rfl⟩)
      go_ret
      exact ⟨ret_bool (by rw [E.out, HN.out, decide_eq_false h2]; simp), HB.out _⟩
end Go.Proofs.Ytalgdeieejpelaa

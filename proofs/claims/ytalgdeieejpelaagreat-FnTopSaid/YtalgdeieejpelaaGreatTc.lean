/- Walks: valid tables (chapter 26), both sides. -/
import Derived.Test.YtalgdeieejpelaaGreatZma
namespace Go.Proofs.YtalgdeieejpelaaGreat
open Go.RowKit
set_option linter.unusedVariables false
set_option maxRecDepth 100000

theorem areRow_q (A : Option Addr) (n c : Nat) (xs : List Int) (many most : Int) (w : World) (b : Bool) (hb : rowB xs many most = b) (h : Rd w 1 A n (ints xs)) (q : Nat) :
    Calls Tryz.prog 129 #[.slice A n c, .int .i64 many, .int .i64 most] (w.drewN q) fun e w' => e = .returned (.bool b) ∧ ∃ m, w' = (w.drewN q).drewN m := by
  subst hb
  exact (areRow_any A n c xs many most (w.drewN q) (h.drewN q)).mono fun _ _ ⟨a, b⟩ => ⟨a, 0, by rw [← b]; rfl⟩
set_option maxHeartbeats 1000000 in
theorem implIsTable_any (P : Option Addr) (n c : Nat) (C : Option Addr) (m d : Nat) (t : Tb) (w : World) (h : RdT w P n C m t) :
    Calls Tryz.prog 112 #[.agg #[.int .i64 t.boats, .slice P n c, .slice C m d]] w fun e w' => e = .returned (.bool (tableB t)) ∧ Below w.heap.size w w' := by
  have hn := h.pts.le
  have hm := h.cds.le
  have HN := Lib.hid h.pts.len
  have HM := Lib.hid h.cds.len
  have E := Lib.hid (show tableB t = (withinB t.boats 1 16 && decide (t.pts.length ≤ 12) && decide (t.pts.length = t.cds.length) && zipB t.boats t.pts t.cds) from rfl)
  have HB := Lib.hid (show ∀ o, Below w.heap.size w (w.alloc o) from fun o => (Below.refl _ _).alloc (Nat.le_refl _) o)
  cases h1 : withinB t.boats 1 16 with
  | false =>
    go_enter Tryz.func112, Tryz.ntmps112
    go_wp2_with (go_at_call 53; refine (within_any _ _ _ _).mono ?_; rintro e w' ⟨rfl, rfl⟩)
    go_ret
    exact ⟨ret_bool (by rw [E.out, h1]; rfl), HB.out _⟩
  | true =>
    by_cases h2 : n ≤ 12
    · by_cases h3 : n = m
      · subst h3
        go_enter Tryz.func112, Tryz.ntmps112
        go_wp2_with (go_at_call 53; refine (within_any _ _ _ _).mono ?_; rintro e w' ⟨rfl, rfl⟩)
        obtain ⟨w1, hw1, X0, hb1, hs1⟩ := one_box w #[.int .i64 t.boats, .slice P n c, .slice C n d] 53
        rw [← hw1]
        have HH1 := Lib.hid h1
        clear hw1 hs1 h1
        have hsb := X0.lt
        go_loopw [26] (fun i wr => ∃ k : Nat, k ≤ n ∧ i = .int .i64 k ∧ Hid (zipB t.boats (t.pts.drop k) (t.cds.drop k) = zipB t.boats t.pts t.cds) ∧ Below w1.heap.size w1 wr) (fun i _ => n - (intOf i).toNat)
        case atStart => exact ⟨0, Nat.zero_le _, rfl, Lib.hid rfl, Below.refl _ _⟩
        case round =>
          obtain ⟨k, hk, rfl, HR, hb⟩ := hrel
          have F0 := (X0.below hb).f3
          by_cases hlt : k < n
          · obtain ⟨b, o, A', c', p, rfl, _, hd, hc, hrd⟩ := ((h.pts.below hb1).below hb).row hlt
            obtain ⟨b', o', A2, c2, q, rfl, _, hd', hc', hrd'⟩ := ((h.cds.below hb1).below hb).row hlt
            have HD := Lib.hid hd; have HD' := Lib.hid hd'
            clear hd hd'
            have HB3 := Lib.hid hb
            clear hb
            cases hp : rowB p t.boats 10000 with
            | false =>
              have HP := Lib.hid (areRow_q _ _ c' _ _ _ wr _ hp hrd)
              clear hrd hrd' X0
              have HPE := Lib.hid hp; clear hp
              go_wp2_with fail
              go_quiet ((go_at_call 129; exact Calls.quiet_of (HP.out _)))
              go_wp2_with fail
              go_ret
              exact ⟨ret_bool (by rw [E.out, ← HR.out, HD.out, HD'.out, zipB, HPE.out]; simp), hb1.trans ((HB3.out.trans (below_drewN' _ _ _)).mono hb1.size)⟩
            | true =>
              have HP := Lib.hid (areRow_q _ _ c' _ _ _ wr _ hp hrd)
              have HPE := Lib.hid hp; clear hp
              cases hq : rowB q t.boats 9 with
              | false =>
                have HQ := Lib.hid (areRow_q _ _ c2 _ _ _ wr _ hq hrd')
                clear hrd hrd' X0
                have HQE := Lib.hid hq; clear hq
                go_wp2_with fail
                go_quiet ((go_at_call 129; first | (with_reducible exact Calls.quiet_of (HP.out _)) | (with_reducible exact Calls.quiet_of (HQ.out _))))
                go_wp2_with fail
                go_ret
                exact ⟨ret_bool (by rw [E.out, ← HR.out, HD.out, HD'.out, zipB, HQE.out]; simp), hb1.trans ((HB3.out.trans (below_drewN' _ _ _)).mono hb1.size)⟩
              | true =>
                have HQ := Lib.hid (areRow_q _ _ c2 _ _ _ wr _ hq hrd')
                clear hrd hrd' X0
                have HQE := Lib.hid hq; clear hq
                go_wp2_with fail
                go_quiet ((go_at_call 129; first | (with_reducible exact Calls.quiet_of (HP.out _)) | (with_reducible exact Calls.quiet_of (HQ.out _))))
                go_wp2_with fail
                go_roundw
                case rel => exact ⟨k + 1, by omega, by go_num, Lib.hid (by rw [← HR.out, HD.out, HD'.out, zipB, HPE.out, HQE.out]; rfl), HB3.out.trans (below_drewN' _ _ _)⟩
                case measure => simp [intOf] <;> omega
          · obtain rfl : k = n := by omega
            go_wp2_with fail
            go_ret
            exact ⟨ret_bool (by rw [E.out, ← HR.out, HH1.out, List.drop_eq_nil_of_le (by rw [HN.out]; omega), HN.out, HM.out, decide_eq_true h2]; simp [zipB]), hb1.trans (hb.mono hb1.size)⟩
      · have hne : ((n : Int) != m) = true := by simp; omega
        go_enter Tryz.func112, Tryz.ntmps112
        go_wp2_with (go_at_call 53; refine (within_any _ _ _ _).mono ?_; rintro e w' ⟨rfl, rfl⟩)
        go_ret
        exact ⟨ret_bool (by rw [E.out, HN.out, HM.out, decide_eq_false h3]; simp), HB.out _⟩
    · go_enter Tryz.func112, Tryz.ntmps112
      go_wp2_with (go_at_call 53; refine (within_any _ _ _ _).mono ?_; rintro e w' ⟨rfl, rfl⟩)
      go_ret
      exact ⟨ret_bool (by rw [E.out, HN.out, decide_eq_false h2]; simp), HB.out _⟩
theorem l26Code_anyT (x : Int) (w : World) :
    Calls Tryz.prog 97 #[.int .i64 x] w fun e w' => e = .returned (.bool (withinB x 0 9)) ∧ w = w' := by
  go_enter Tryz.func97, Tryz.ntmps97
  go_wp2_with (go_at_call 64; refine (l01In_any _ _ _ _).mono ?_; rintro e w' ⟨rfl, rfl⟩)
  go_ret
  exact ⟨rfl, rfl⟩
end Go.Proofs.YtalgdeieejpelaaGreat

/- Walks: rounds (chapter 30), the reference: codes, meetings, counts. -/
import Derived.Test.YtoccfbkklponnaaWt
namespace Go.Proofs.Ytoccfbkklponnaa
open Go.RowKit
set_option linter.unusedVariables false
set_option maxRecDepth 100000

theorem all_drop1 {rows : List (List Int)} {x0 : List Int} {r : List (List Int)} (h : rows.drop 0 = x0 :: rows.drop 1) (h0 : rows.getD 0 [] = x0) : (rows.drop 1).all (fun r => r.length == x0.length) = lensB rows := by
  unfold lensB
  rw [h0]
  rw [List.drop_zero] at h
  generalize rows.drop 1 = q at h
  subst h
  simp

theorem l30Rounds_any (A : Option Addr) (n c : Nat) (rows : List (List Int)) (k : Int) (w : World) (h : RdRows w A n rows) :
    Calls Try.prog 66 #[.slice A n c, .int .i64 k] w fun e w' => e = .returned (.int .i64 (roundsCodeF rows k)) ∧ Drawn w w' := by
  have HN := Lib.hid h.len
  have hle := h.le
  have e1 : roundsCodeF rows k = if withinB k 1 4 then (if rows.all (fun r => fleetsB r k) then (if withinB (rows.length : Int) 1 12 then (if lensB rows then 0 else 5) else 5) else 1) else 2 := rfl
  rw [HN.out] at e1
  have E := Lib.hid e1; clear e1
  cases hw : withinB k 1 4 with
  | true =>
    obtain ⟨hk1, hk2⟩ := withinB_iff.1 hw
    go_enter Try.func66, Try.ntmps66
    go_wp2_with (go_at_call 52; refine (l30Kinds_any _ _).mono ?_; rintro e w' ⟨rfl, rfl⟩)
    have HW := Lib.hid hw; clear hw
    rw [HW.out, if_pos rfl] at E
    go_loop [5] (fun i => ∃ j : Nat, j ≤ n ∧ i = .int .i64 j ∧ (rows.drop j).all (fun r => fleetsB r k) = rows.all (fun r => fleetsB r k)) (fun i => n - (intOf i).toNat)
    case atStart => exact ⟨0, Nat.zero_le _, rfl, rfl⟩
    case round =>
      obtain ⟨j, hj, rfl, hr⟩ := hrel
      have HR := Lib.hid hr; clear hr
      by_cases hlt : j < n
      · obtain ⟨b, o, A', c', xs, rfl, _, hd, hc, hrd⟩ := h.row hlt
        have HD := Lib.hid hd; clear hd
        generalize hm : xs.length = m at *
        clear hm
        have hcl := fun w' => l30Fleets_any A' m c' xs k hk1 hk2 w'
        cases hf : fleetsB xs k with
        | true =>
          simp only [hf] at hcl
          have HC := Lib.hid hcl; clear hcl
          go_wp2_with (go_at_call 53; refine (HC.out _ hrd).mono ?_; rintro e w' ⟨rfl, rfl⟩)
          go_round
          case rel => exact ⟨j + 1, by omega, by go_num, by rw [← HR.out, HD.out, List.all_cons, hf, Bool.true_and]⟩
          case measure => simp [intOf]; omega
        | false =>
          simp only [hf] at hcl
          have HC := Lib.hid hcl; clear hcl
          go_wp2_with (go_at_call 53; refine (HC.out _ hrd).mono ?_; rintro e w' ⟨rfl, rfl⟩)
          go_ret
          refine ⟨ret_int ?_, Drawn.refl _⟩
          rw [E.out, ← HR.out, HD.out, List.all_cons, hf]; rfl
      · obtain rfl : n = j := by omega
        rw [List.drop_eq_nil_of_le (by rw [HN.out]; omega)] at HR
        rw [← HR.out] at E
        simp only [List.all_nil, if_true] at E
        clear HR
        cases hwn : withinB (n : Int) 1 12 with
        | true =>
          obtain ⟨h1, h12⟩ := withinB_iff.1 hwn
          have h1n : 0 < n := by omega
          rw [hwn, if_pos rfl] at E
          obtain ⟨b, o, A0, c0, x0, rfl, hx0, hd0, hc0, hrd0⟩ := h.row (k := 0) (by omega)
          simp only [Nat.add_zero] at hc0
          have eg : rows.getD 0 [] = x0 := by rw [List.getD_eq_getElem?_getD, hx0]; rfl
          have ea := all_drop1 (r := []) hd0 eg
          have EA := Lib.hid ea
          clear eg hx0 hd0 ea
          generalize hm0 : x0.length = m0 at *
          clear hm0
          have hm0le := hrd0.le
          go_wp2_with (go_at_call 59; refine (l01In_any _ _ _ _).mono ?_; rintro e w' ⟨rfl, rfl⟩)
          clear hwn
          go_loopw [6] (fun i wr => ∃ j : Nat, 1 ≤ j ∧ j ≤ n ∧ i = .int .i64 j ∧ (rows.drop j).all (fun r => r.length == m0) = lensB rows ∧ Drawn w wr) (fun i _ => n - (intOf i).toNat)
          case atStart => exact ⟨1, by omega, by omega, rfl, EA.out, Drawn.refl _⟩
          case round =>
            obtain ⟨j, hj1, hj, rfl, hr, hq⟩ := hrel
            have HR := Lib.hid hr; clear hr
            have hc0' : wr.cell? ⟨b, o, none⟩ = some (.slice A0 m0 c0) := Keeps.below hq.below _ _ hc0
            by_cases hlt : j < n
            · obtain ⟨b', o', A', c', xs, hb', _, hd, hc, hrd⟩ := (h.drawn hq).row hlt
              obtain ⟨rfl, rfl⟩ : b = b' ∧ o = o' := by injection hb' with hb'; injection hb' with e1 e2; exact ⟨e1, e2⟩
              have HD := Lib.hid hd; clear hd hb'
              generalize hm : xs.length = m at *
              have HM := Lib.hid hm; clear hm
              have hmle := hrd.le
              by_cases hmm : m = m0
              · subst hmm
                go_wp2
                go_quiet (fail)
                go_wp2
                go_roundw
                case rel => exact ⟨j + 1, by omega, by omega, by go_num, by rw [← HR.out, HD.out, List.all_cons, HM.out, beq_self_eq_true, Bool.true_and], hq.step _⟩
                case measure => simp [intOf]; omega
              · have hne : ((m : Int) != m0) = true := by simp; omega
                go_wp2
                go_quiet (fail)
                go_wp2
                go_ret
                refine ⟨ret_int ?_, hq.step _⟩
                have hbq : (m == m0) = false := by simpa using hmm
                rw [E.out, ← HR.out, HD.out, List.all_cons, HM.out, hbq]; rfl
            · obtain rfl : j = n := by omega
              go_wp2
              go_ret
              refine ⟨ret_int ?_, hq⟩
              rw [E.out, ← HR.out, List.drop_eq_nil_of_le (by rw [HN.out]; omega)]; rfl
        | false =>
          rw [hwn, if_neg (by decide)] at E
          go_wp2_with (go_at_call 59; refine (l01In_any _ _ _ _).mono ?_; rintro e w' ⟨rfl, rfl⟩)
          go_ret
          exact ⟨ret_int E.out.symm, Drawn.refl _⟩
  | false =>
    rw [hw, if_neg (by decide)] at E
    go_enter Try.func66, Try.ntmps66
    go_wp2_with (go_at_call 52; refine (l30Kinds_any _ _).mono ?_; rintro e w' ⟨rfl, rfl⟩)
    go_ret
    exact ⟨ret_int E.out.symm, Drawn.refl _⟩

theorem l30Meet_any (A : Option Addr) (m c : Nat) (rows : List (List Int)) (n i j : Nat) (hR : Rounds rows n) (hi : i < n) (hj : j < n) (w : World) (h : RdRows w A m rows) :
    Calls Try.prog 67 #[.slice A m c, .int .i64 (i : Int), .int .i64 (j : Int)] w fun e w' => e = .returned (.int .i64 (meetN rows i j : Int)) ∧ Drawn w w' := by
  have HM := Lib.hid h.len
  have hm12 := hR.m12
  rw [h.len] at hm12
  by_cases hij : i = j
  · subst hij
    have e : meetN rows i i = 0 := by unfold meetN; rw [if_pos rfl]
    rw [e]
    have hbq : ((i : Int) != i) = false := by simp
    go_enter Try.func67, Try.ntmps67
    go_wp2_with fail
    refine wp_loop_once ?_
    by_cases hm0 : 0 < m
    · go_wp2
      go_ret
      exact ⟨rfl, Drawn.refl _⟩
    · go_wp2
      go_ret
      exact ⟨rfl, Drawn.refl _⟩
  · have e : meetN rows i j = rows.countP (sameAt i j) := by unfold meetN; rw [if_neg hij]
    rw [e]
    have hbq : ((i : Int) != j) = true := by simp; omega
    clear e
    go_enter Try.func67, Try.ntmps67
    go_wp2_with fail
    go_loopw [7, 8] (fun t q wr => ∃ (k s : Nat), k ≤ m ∧ q = .int .i64 k ∧ t = .int .i64 s ∧ s ≤ k ∧ Hid (s = (rows.take k).countP (sameAt i j)) ∧ Drawn w wr) (fun _ q _ => m - (intOf q).toNat)
    case atStart => exact ⟨0, 0, Nat.zero_le _, rfl, rfl, Nat.le_refl _, rfl, Drawn.refl _⟩
    case round =>
      obtain ⟨k, s, hk, rfl, rfl, hs, HS, hq⟩ := hrel
      by_cases hlt : k < m
      · obtain ⟨b, o, A', c', r, rfl, hr, _, hc, hrd⟩ := (h.drawn hq).row hlt
        have hrl : r.length = n := hR.all_ r (List.mem_of_getElem? hr)
        rw [hrl] at hrd hc
        obtain ⟨b1, o1, x, rfl, hx, _, hcx⟩ := hrd.int hi
        obtain ⟨b2, o2, y, hb2, hy, _, hcy⟩ := hrd.int hj
        obtain ⟨rfl, rfl⟩ : b1 = b2 ∧ o1 = o2 := by injection hb2 with hb2; injection hb2 with e1 e2; exact ⟨e1, e2⟩
        have hcp := countP_snoc (sameAt i j) hr
        have HR := Lib.hid hcp
        have hsame : sameAt i j r = decide (x = y) := by unfold sameAt; rw [hx, hy, Bool.eq_iff_iff]; simp
        have HE := Lib.hid hsame
        clear hr hrl hb2 hx hy hcp hsame
        by_cases hxy : x = y
        · subst hxy
          have hd : (x == x) = true := by simp
          go_wp2
          go_quiet (fail)
          go_wp2
          go_roundw
          case rel => exact ⟨k + 1, s + 1, by omega, by go_num, by go_num, by omega, by unfold Hid; rw [HR.out, HE.out, ← HS.out]; simp, hq.step _⟩
          case measure => simp [intOf]; omega
        · have hd : (x == y) = false := by simpa using hxy
          go_wp2
          go_quiet (fail)
          go_wp2
          go_roundw
          case rel => exact ⟨k + 1, s, by omega, by go_num, rfl, by omega, by unfold Hid; rw [HR.out, HE.out, ← HS.out]; simp [hxy], hq.step _⟩
          case measure => simp [intOf]; omega
      · obtain rfl : k = m := by omega
        go_wp2
        go_ret
        exact ⟨ret_int (by rw [HS.out, List.take_of_length_le (by rw [HM.out]; omega)]), hq⟩
end Go.Proofs.Ytoccfbkklponnaa

/- Walks: rounds (chapter 30): codes, meetings. -/
import Derived.Test.YtoccfbkklponnaaMr
import Derived.Test.YtoccfbkklponnaaWa
import Derived.Test.YtoccfbkklponnaaWy
namespace Go.Proofs.Ytoccfbkklponnaa
open Go.RowKit
set_option linter.unusedVariables false
set_option maxRecDepth 100000

theorem l01In_q (n a b : Int) (w : World) :
    Calls Try.prog 59 #[.int .i64 n, .int .i64 a, .int .i64 b] w fun e w' => e = .returned (.bool (withinB n a b)) ∧ w' = w :=
  (l01In_any n a b w).mono fun _ _ ⟨h1, h2⟩ => ⟨h1, h2.symm⟩

theorem roundsCode_any (A : Option Addr) (n c : Nat) (rows : List (List Int)) (k : Int) (w : World) (h : RdRows w A n rows) :
    Calls Try.prog 71 #[.slice A n c, .int .i64 k] w fun e w' => e = .returned (.int .i64 (roundsCodeF rows k)) ∧ Drawn w w' := by
  have HN := Lib.hid h.len
  have hle := h.le
  have e1 : roundsCodeF rows k = if withinB k 1 4 then (if rows.all (fun r => fleetsB r k) then (if withinB (rows.length : Int) 1 12 then (if lensB rows then 0 else 5) else 5) else 1) else 2 := rfl
  rw [HN.out] at e1
  have E := Lib.hid e1; clear e1
  have eb : ∀ r, isFleetsB r k = (withinB k 1 4 && fleetsB r k) := fun _ => rfl
  have EB := Lib.hid eb; clear eb
  cases hw : withinB k 1 4 with
  | true =>
    go_enter Try.func71, Try.ntmps71
    go_wp2_with (go_at_call 54; refine (isFleetCount_any _ _).mono ?_; rintro e w' ⟨rfl, rfl⟩)
    have HW := Lib.hid hw; clear hw
    rw [HW.out, if_pos rfl] at E
    go_loop [6, 14] (fun _ i => ∃ j : Nat, j ≤ n ∧ i = .int .i64 j ∧ (rows.drop j).all (fun r => fleetsB r k) = rows.all (fun r => fleetsB r k)) (fun _ i => n - (intOf i).toNat)
    case atStart => exact ⟨0, Nat.zero_le _, rfl, rfl⟩
    case round =>
      obtain ⟨j, hj, rfl, hr⟩ := hrel
      have HR := Lib.hid hr; clear hr
      by_cases hlt : j < n
      · obtain ⟨b, o, A', c', xs, rfl, _, hd, hc, hrd⟩ := h.row hlt
        have HD := Lib.hid hd; clear hd
        generalize hm : xs.length = m at *
        clear hm
        have hcl := fun w' => implIsFleets_any A' m c' xs k w'
        cases hf : fleetsB xs k with
        | true =>
          simp only [EB.out, HW.out, hf, Bool.and_self] at hcl
          have HC := Lib.hid hcl; clear hcl
          go_wp2_with (go_at_call 17; refine (HC.out _ hrd).mono ?_; rintro e w' ⟨rfl, rfl⟩)
          go_round
          case rel => exact ⟨j + 1, by omega, by go_num, by rw [← HR.out, HD.out, List.all_cons, hf, Bool.true_and]⟩
          case measure => simp [intOf]; omega
        | false =>
          simp only [EB.out, HW.out, hf, Bool.and_false] at hcl
          have HC := Lib.hid hcl; clear hcl
          go_wp2_with (go_at_call 17; refine (HC.out _ hrd).mono ?_; rintro e w' ⟨rfl, rfl⟩)
          go_ret
          refine ⟨ret_int ?_, Drawn.refl _⟩
          rw [E.out, ← HR.out, HD.out, List.all_cons, hf]; rfl
      · obtain rfl : n = j := by omega
        rw [List.drop_eq_nil_of_le (by rw [HN.out]; omega)] at HR
        rw [← HR.out] at E
        simp only [List.all_nil, if_true] at E
        clear HR
        by_cases h12 : n ≤ 12
        · by_cases h1 : 1 ≤ n
          · have hwn : withinB (n : Int) 1 12 = true := withinB_iff.2 (by omega)
            rw [hwn, if_pos rfl] at E
            clear hwn
            obtain ⟨b, o, A0, c0, x0, rfl, hx0, _, hc0, hrd0⟩ := h.row (k := 0) h1
            simp only [Nat.add_zero] at hc0
            have eg : rows.getD 0 [] = x0 := by rw [List.getD_eq_getElem?_getD, hx0]; rfl
            have EG := Lib.hid eg; clear eg hx0
            generalize hm0 : x0.length = m0 at *
            have HM0 := Lib.hid hm0; clear hm0
            have hm0le := hrd0.le
            go_wp2
            go_loopw [8, 33] (fun _ i wr => ∃ j : Nat, j ≤ n ∧ i = .int .i64 j ∧ (rows.drop j).all (fun r => r.length == m0) = lensB rows ∧ Drawn w wr) (fun _ i _ => n - (intOf i).toNat)
            case atStart => exact ⟨0, Nat.zero_le _, rfl, by unfold lensB; rw [EG.out, HM0.out]; rfl, Drawn.refl _⟩
            case round =>
              obtain ⟨j, hj, rfl, hr, hq⟩ := hrel
              have HR := Lib.hid hr; clear hr
              have hc0' : wr.cell? ⟨b, o, none⟩ = some (.slice A0 m0 c0) := Keeps.below hq.below _ _ hc0
              by_cases hlt : j < n
              · obtain ⟨b', o', A', c', xs, hb', _, hd, hc, hrd⟩ := (h.drawn hq).row hlt
                obtain ⟨rfl, rfl⟩ : b = b' ∧ o = o' := by injection hb' with hb'; injection hb' with e1 e2; exact ⟨e1, e2⟩
                have HD := Lib.hid hd; clear hd hb'
                generalize hm : xs.length = m at *
                have HM := Lib.hid hm; clear hm
                have hmle := hrd.le
                by_cases hmm : m = m0
                · subst hmm
                  go_wp2
                  go_roundw
                  case rel => exact ⟨j + 1, by omega, by go_num, by rw [← HR.out, HD.out, List.all_cons, HM.out, beq_self_eq_true, Bool.true_and], hq⟩
                  case measure => simp [intOf]; omega
                · have hne : ((m : Int) != m0) = true := by simp; omega
                  go_wp2
                  go_ret
                  refine ⟨ret_int ?_, hq⟩
                  have hbq : (m == m0) = false := by simpa using hmm
                  rw [E.out, ← HR.out, HD.out, List.all_cons, HM.out, hbq]; rfl
              · obtain rfl : j = n := by omega
                go_wp2
                go_ret
                refine ⟨ret_int ?_, hq⟩
                rw [E.out, ← HR.out, List.drop_eq_nil_of_le (by rw [HN.out]; omega)]; rfl
          · have hwn : withinB (n : Int) 1 12 = false := withinB_not.2 (by omega)
            rw [hwn, if_neg (by decide)] at E
            clear hwn
            go_wp2
            go_ret
            exact ⟨ret_int E.out.symm, Drawn.refl _⟩
        · have hwn : withinB (n : Int) 1 12 = false := withinB_not.2 (by omega)
          rw [hwn, if_neg (by decide)] at E
          clear hwn
          have h1' : 1 ≤ n := by omega
          go_wp2
          go_ret
          exact ⟨ret_int E.out.symm, Drawn.refl _⟩
  | false =>
    rw [hw, if_neg (by decide)] at E
    go_enter Try.func71, Try.ntmps71
    go_wp2_with (go_at_call 54; refine (isFleetCount_any _ _).mono ?_; rintro e w' ⟨rfl, rfl⟩)
    go_ret
    exact ⟨ret_int E.out.symm, Drawn.refl _⟩
end Go.Proofs.Ytoccfbkklponnaa

/- Walks: discard rules, codes of a table, a rule and a boat (chapter 27), both sides. -/
import Derived.Test.YtalgdeieejpelaaGreatZmb
import Derived.Test.YtalgdeieejpelaaGreatTc
import Derived.IntWalk
import Derived.Deep.QuietTactic
import Derived.BigQuiet
import Derived.Lib.QuietBelow
import Derived.Lib.Hide
namespace Go.Proofs.YtalgdeieejpelaaGreat
open Go.RowKit Go.Sort
set_option linter.unusedVariables false
set_option maxRecDepth 100000

theorem l01In_qz (n a b : Int) (w : World) :
    Calls Tryz.prog 64 #[.int .i64 n, .int .i64 a, .int .i64 b] w fun e w' => e = .returned (.bool (withinB n a b)) ∧ w' = w :=
  (l01In_any n a b w).mono fun _ _ ⟨h1, h2⟩ => ⟨h1, h2.symm⟩
/-- What stands before place k of a rule. -/
def prevI (rule : List Int) (k : Nat) : Int := if k = 0 then 0 else rule.getD (k - 1) 0
theorem prevI_succ {rule : List Int} {k : Nat} {x : Int} (h : rule[k]? = some x) : prevI rule (k + 1) = x := by
  unfold prevI
  rw [if_neg (by omega), Nat.add_sub_cancel, List.getD_eq_getElem?_getD, h]
  rfl
theorem inc_no_in {p x : Int} {r : List Int} (h : withinB x 1 12 = false) : incGo p (x :: r) = false := by rw [incGo, h]; rfl
theorem inc_no_lt {p x : Int} {r : List Int} (h : ¬ p < x) : incGo p (x :: r) = false := by rw [incGo, decide_eq_false h]; simp
theorem inc_yes {p x : Int} {r : List Int} (h : withinB x 1 12 = true) (h2 : p < x) : incGo p (x :: r) = incGo x r := by rw [incGo, h, decide_eq_true h2]; rfl
theorem ruleB_no {rule : List Int} (h : incGo 0 rule = false) : ruleB rule = false := by unfold ruleB; rw [h, Bool.and_false]
theorem ruleB_yes {rule : List Int} (h : incGo 0 rule = true) : ruleB rule = decide (rule.length ≤ 3) := by unfold ruleB; rw [h, Bool.and_true]
def codeT (t : Tb) (rule : List Int) (boat : Int) : Int := if tableB t = true then (if ruleB rule = true ∧ withinB boat 0 (t.boats - 1) = true then 0 else 2) else 1
set_option maxHeartbeats 2000000 in
theorem implRule_any (A : Option Addr) (n c : Nat) (rule : List Int) (w : World) (h : Rd w 1 A n (ints rule)) :
    Calls Tryz.prog 41 #[.slice A n c] w fun e w' => e = .returned (.bool (ruleB rule)) ∧ Below w.heap.size w w' := by
  have HN := Lib.hid h.len_int
  have hm := h.le
  have HR0 := Lib.hid (show incGo (prevI rule 0) (rule.drop 0) = incGo 0 rule from rfl)
  go_enter Tryz.func41, Tryz.ntmps41
  go_wp2_with fail
  go_loop [7] (fun i => ∃ k : Nat, k ≤ n ∧ i = .int .i64 k ∧ Hid (incGo (prevI rule k) (rule.drop k) = incGo 0 rule)) (fun i => n - (intOf i).toNat)
  case atStart => exact ⟨0, Nat.zero_le _, rfl, HR0⟩
  case round =>
    clear HR0
    obtain ⟨k, hk, rfl, HI⟩ := hrel
    by_cases hlt : k < n
    · have hkd : decide ((k : Int) < (n : Int)) = true := by simpa using hlt
      obtain ⟨b, o, x, rfl, hx, hd, hc⟩ := h.int hlt
      have hi := HI.out
      rw [hd] at hi
      have HX := Lib.hid hx
      have HI2 := Lib.hid hi
      have HW := Lib.hid (within_any x 1 12)
      clear hi HI hx hd
      cases hw : withinB x 1 12 with
      | false =>
        rw [hw] at HW
        have HF := Lib.hid (show ruleB rule = false from ruleB_no (by rw [← HI2.out, inc_no_in hw]))
        clear hw
        go_wp2_with fail
        refine (HW.out _).mono ?_
        rintro e w' ⟨rfl, rfl⟩
        go_wp2_with fail
        go_ret
        exact ⟨ret_bool HF.out.symm, Below.refl _ _⟩
      | true =>
        rw [hw] at HW
        have hwb := withinB_iff.1 hw
        rcases Nat.eq_zero_or_pos k with hk0 | hk0
        · subst hk0
          have HI3 := Lib.hid (show incGo (prevI rule 1) (rule.drop 1) = incGo 0 rule from by
            rw [prevI_succ HX.out, ← HI2.out]
            exact (inc_yes hw (show (0 : Int) < x by omega)).symm)
          simp only [Nat.add_zero] at hc
          clear hw hwb
          go_wp2_with fail
          refine (HW.out _).mono ?_
          rintro e w' ⟨rfl, rfl⟩
          go_wp2_with fail
          go_round
          case rel => exact ⟨1, by omega, by go_num, HI3⟩
          case measure => simp [intOf] <;> omega
        · obtain ⟨j, rfl⟩ : ∃ j, k = j + 1 := ⟨k - 1, by omega⟩
          obtain ⟨b2, o2, y, hA, hy, -, hcy⟩ := h.int (k := j) (by omega)
          injection hA with hA
          injection hA with h1 h2
          subst h1 h2
          have e0 : decide (0 < j + 1) = true := by simp
          have e1 : IntKind.i64.wrap (((j + 1 : Nat) : Int) - 1) = (j : Int) := by rw [IntWalk.i64_in _ (by omega)]; omega
          have HP := Lib.hid (prevI_succ hy)
          rw [HP.out] at HI2
          have HY := Lib.hid hy
          clear hy
          by_cases hyx : x ≤ y
          · have e2 : decide (x ≤ y) = true := by simpa using hyx
            have HF := Lib.hid (show ruleB rule = false from ruleB_no (by rw [← HI2.out, inc_no_lt (by omega)]))
            clear hw hwb hyx
            go_wp2_with fail
            refine (HW.out _).mono ?_
            rintro e w' ⟨rfl, rfl⟩
            go_wp2_with fail
            go_ret
            exact ⟨ret_bool HF.out.symm, Below.refl _ _⟩
          · have e2 : decide (x ≤ y) = false := by simpa using hyx
            have HI3 := Lib.hid (show incGo (prevI rule (j + 1 + 1)) (rule.drop (j + 1 + 1)) = incGo 0 rule from by
              rw [prevI_succ HX.out, ← HI2.out]
              exact (inc_yes hw (by omega)).symm)
            clear hw hwb hyx
            go_wp2_with fail
            refine (HW.out _).mono ?_
            rintro e w' ⟨rfl, rfl⟩
            go_wp2_with fail
            go_round
            case rel => exact ⟨j + 1 + 1, by omega, by go_num, HI3⟩
            case measure => simp [intOf] <;> omega
    · obtain rfl : k = n := by omega
      have hi := HI.out
      rw [List.drop_eq_nil_of_le (by rw [HN.out]; omega)] at hi
      have HF := Lib.hid (ruleB_yes (rule := rule) (by rw [← hi]; rfl))
      clear hi HI
      have hkd : decide ((k : Int) < (k : Int)) = false := by simp
      by_cases h3 : k ≤ 3
      · have e3 : decide ((k : Int) ≤ 3) = true := by simp; omega
        go_wp2_with fail
        go_ret
        exact ⟨ret_bool (by rw [HF.out, HN.out]; simp [h3]), Below.refl _ _⟩
      · have e3 : decide ((k : Int) ≤ 3) = false := by simp; omega
        go_wp2_with fail
        go_ret
        exact ⟨ret_bool (by rw [HF.out, HN.out]; simp [h3]), Below.refl _ _⟩
set_option maxHeartbeats 2000000 in
theorem specRule_any (A : Option Addr) (n c : Nat) (rule : List Int) (w : World) (h : Rd w 1 A n (ints rule)) :
    Calls Tryz.prog 36 #[.slice A n c] w fun e w' => e = .returned (.bool (ruleB rule)) ∧ Below w.heap.size w w' := by
  have HN := Lib.hid h.len_int
  have hm := h.le
  have HR0 := Lib.hid (show incGo (prevI rule 0) (rule.drop 0) = incGo 0 rule from rfl)
  by_cases hn3 : 3 < n
  · have e3 : decide ((3 : Int) < (n : Int)) = true := by simp; omega
    have HF := Lib.hid (show ruleB rule = false from by unfold ruleB; rw [HN.out, decide_eq_false (by omega)]; rfl)
    clear hn3 h
    go_enter Tryz.func36, Tryz.ntmps36
    go_wp2_with fail
    go_ret
    exact ⟨ret_bool HF.out.symm, Below.refl _ _⟩
  have e3 : decide ((3 : Int) < (n : Int)) = false := by simp; omega
  go_enter Tryz.func36, Tryz.ntmps36
  go_wp2_with fail
  clear e3
  go_loopw [3] (fun i wr => ∃ k : Nat, k ≤ n ∧ i = .int .i64 k ∧ Hid (incGo (prevI rule k) (rule.drop k) = incGo 0 rule) ∧ Hid (Drawn w wr)) (fun i _ => n - (intOf i).toNat)
  case atStart => exact ⟨0, Nat.zero_le _, rfl, HR0, Lib.hid (Drawn.refl _)⟩
  case round =>
    clear HR0
    obtain ⟨k, hk, rfl, HI, HQ⟩ := hrel
    obtain ⟨wo, hwo⟩ : ∃ wo : World, wo = wr := ⟨_, rfl⟩
    subst hwo
    by_cases hlt : k < n
    · have hkd : decide ((k : Int) < (n : Int)) = true := by simpa using hlt
      have hr := h.drawn HQ.out
      obtain ⟨b, o, x, rfl, hx, hd, hc⟩ := hr.int hlt
      have hi := HI.out
      rw [hd] at hi
      have HX := Lib.hid hx
      have HI2 := Lib.hid hi
      clear hi HI hx hd
      cases hw : withinB x 1 12 with
      | false =>
        have HF := Lib.hid (show ruleB rule = false from ruleB_no (by rw [← HI2.out, inc_no_in hw]))
        clear hr
        go_wp2_with fail
        go_quiet ((go_at_call 64; exact Calls.quiet_of_same (l01In_qz _ _ _ _)))
        go_wp2_with fail
        go_ret
        exact ⟨ret_bool HF.out.symm, (HQ.out.step _).below⟩
      | true =>
        have hwb := withinB_iff.1 hw
        rcases Nat.eq_zero_or_pos k with hk0 | hk0
        · subst hk0
          have HI3 := Lib.hid (show incGo (prevI rule 1) (rule.drop 1) = incGo 0 rule from by
            rw [prevI_succ HX.out, ← HI2.out]
            exact (inc_yes hw (show (0 : Int) < x by omega)).symm)
          simp only [Nat.add_zero] at hc
          clear hr hwb
          go_wp2_with fail
          go_quiet ((go_at_call 64; exact Calls.quiet_of_same (l01In_qz _ _ _ _)))
          go_wp2_with fail
          go_roundw
          case rel => exact ⟨1, by omega, by go_num, HI3, Lib.hid (HQ.out.step _)⟩
          case measure => simp [intOf] <;> omega
        · obtain ⟨j, hj⟩ : ∃ j, k = j + 1 := ⟨k - 1, by omega⟩
          obtain ⟨b2, o2, y, hA, hy, -, hcy⟩ := hr.int (k := j) (by omega)
          injection hA with hA
          injection hA with h1 h2
          subst h1 h2
          have HS := Lib.hid (show IntKind.i64.wrap ((k : Int) - 1) = (j : Int) by rw [IntWalk.i64_in _ (by omega)]; omega)
          have hjn : j < n := by omega
          have HJ := Lib.hid hj
          rw [hj, prevI_succ hy, ← hj] at HI2
          have HY := Lib.hid hy
          clear hy hj hr
          by_cases hyx : x ≤ y
          · have e2 : decide (x ≤ y) = true := by simpa using hyx
            have HF := Lib.hid (show ruleB rule = false from ruleB_no (by rw [← HI2.out, inc_no_lt (by omega)]))
            clear hwb hyx
            go_wp2_with fail
            have hs := HS.out
            go_quiet ((go_at_call 64; exact Calls.quiet_of_same (l01In_qz _ _ _ _)))
            clear hs
            go_wp2_with fail
            go_ret
            exact ⟨ret_bool HF.out.symm, (HQ.out.step _).below⟩
          · have e2 : decide (x ≤ y) = false := by simpa using hyx
            have HI3 := Lib.hid (show incGo (prevI rule (k + 1)) (rule.drop (k + 1)) = incGo 0 rule from by
              rw [prevI_succ HX.out, ← HI2.out]
              exact (inc_yes hw (by omega)).symm)
            clear hwb hyx
            go_wp2_with fail
            have hs := HS.out
            go_quiet ((go_at_call 64; exact Calls.quiet_of_same (l01In_qz _ _ _ _)))
            clear hs
            go_wp2_with fail
            go_roundw
            case rel => exact ⟨k + 1, by omega, by go_num, HI3, Lib.hid (HQ.out.step _)⟩
            case measure => simp [intOf] <;> omega
    · obtain rfl : k = n := by omega
      have hi := HI.out
      rw [List.drop_eq_nil_of_le (by rw [HN.out]; omega)] at hi
      have HF := Lib.hid (ruleB_yes (rule := rule) (by rw [← hi]; rfl))
      clear hi HI
      have hkd : decide ((k : Int) < (k : Int)) = false := by simp
      go_wp2_with fail
      go_ret
      exact ⟨ret_bool (by rw [HF.out, HN.out]; simp; omega), HQ.out.below⟩
set_option maxHeartbeats 2000000 in
theorem implCount_any (A : Option Addr) (n c : Nat) (rule : List Int) (races : Int) (w : World) (h : Rd w 1 A n (ints rule)) :
    Calls Tryz.prog 147 #[.slice A n c, .int .i64 races] w fun e w' => e = .returned (.int .i64 (leN races rule : Nat)) ∧ w = w' := by
  have HN := Lib.hid h.len_int
  have hm := h.le
  go_enter Tryz.func147, Tryz.ntmps147
  go_wp2_with fail
  go_loop [5, 10] (fun m i => ∃ k q : Nat, k ≤ n ∧ i = .int .i64 k ∧ m = .int .i64 q ∧ q ≤ k ∧ Hid (leN races (rule.take k) = q)) (fun _ i => n - (intOf i).toNat)
  case atStart => exact ⟨0, 0, Nat.zero_le _, rfl, rfl, Nat.le_refl _, Lib.hid (by rw [List.take_zero]; rfl)⟩
  case round =>
    obtain ⟨k, q, hk, rfl, rfl, hq, HI⟩ := hrel
    by_cases hlt : k < n
    · have hkd : decide ((k : Int) < (n : Int)) = true := by simpa using hlt
      obtain ⟨b, o, x, rfl, hx, hd, hc⟩ := h.int hlt
      have ht := take_snoc_get hx
      have HT := Lib.hid (show leN races (rule.take (k + 1)) = q + (if x ≤ races then 1 else 0) from by rw [ht, leN_snoc, HI.out])
      clear ht hx hd HI
      by_cases hxr : x ≤ races
      · have hxd : decide (x ≤ races) = true := by simpa using hxr
        rw [if_pos hxr] at HT
        clear hxr
        go_wp2_with fail
        go_round
        case rel => exact ⟨k + 1, q + 1, by omega, by go_num, by go_num, by omega, HT⟩
        case measure => simp [intOf] <;> omega
      · have hxd : decide (x ≤ races) = false := by simpa using hxr
        rw [if_neg hxr] at HT
        clear hxr
        go_wp2_with fail
        go_round
        case rel => exact ⟨k + 1, q, by omega, by go_num, rfl, by omega, HT⟩
        case measure => simp [intOf] <;> omega
    · obtain rfl : k = n := by omega
      have hkd : decide ((k : Int) < (k : Int)) = false := by simp
      have hi := HI.out
      rw [List.take_of_length_le (by rw [HN.out]; omega)] at hi
      have HI2 := Lib.hid hi
      clear hi HI
      go_wp2_with fail
      go_ret
      exact ⟨ret_int (by rw [HI2.out]), rfl⟩
set_option maxHeartbeats 2000000 in
theorem specCount_any (A : Option Addr) (n c : Nat) (rule : List Int) (races : Int) (w : World) (h : Rd w 1 A n (ints rule)) :
    Calls Tryz.prog 159 #[.slice A n c, .int .i64 races] w fun e w' => e = .returned (.int .i64 (leN races rule : Nat)) ∧ w = w' := by
  have HN := Lib.hid h.len_int
  have hm := h.le
  go_enter Tryz.func159, Tryz.ntmps159
  go_wp2_with fail
  go_loop [5, 6] (fun m i => ∃ k q : Nat, k ≤ n ∧ i = .int .i64 k ∧ m = .int .i64 q ∧ q ≤ k ∧ Hid (leN races (rule.take k) = q)) (fun _ i => n - (intOf i).toNat)
  case atStart => exact ⟨0, 0, Nat.zero_le _, rfl, rfl, Nat.le_refl _, Lib.hid (by rw [List.take_zero]; rfl)⟩
  case round =>
    obtain ⟨k, q, hk, rfl, rfl, hq, HI⟩ := hrel
    by_cases hlt : k < n
    · have hkd : decide ((k : Int) < (n : Int)) = true := by simpa using hlt
      obtain ⟨b, o, x, rfl, hx, hd, hc⟩ := h.int hlt
      have ht := take_snoc_get hx
      have HT := Lib.hid (show leN races (rule.take (k + 1)) = q + (if x ≤ races then 1 else 0) from by rw [ht, leN_snoc, HI.out])
      clear ht hx hd HI
      by_cases hxr : x ≤ races
      · have hxd : decide (x ≤ races) = true := by simpa using hxr
        rw [if_pos hxr] at HT
        clear hxr
        go_wp2_with fail
        go_round
        case rel => exact ⟨k + 1, q + 1, by omega, by go_num, by go_num, by omega, HT⟩
        case measure => simp [intOf] <;> omega
      · have hxd : decide (x ≤ races) = false := by simpa using hxr
        rw [if_neg hxr] at HT
        clear hxr
        go_wp2_with fail
        go_round
        case rel => exact ⟨k + 1, q, by omega, by go_num, rfl, by omega, HT⟩
        case measure => simp [intOf] <;> omega
    · obtain rfl : k = n := by omega
      have hkd : decide ((k : Int) < (k : Int)) = false := by simp
      have hi := HI.out
      rw [List.take_of_length_le (by rw [HN.out]; omega)] at hi
      have HI2 := Lib.hid hi
      clear hi HI
      go_wp2_with fail
      go_ret
      exact ⟨ret_int (by rw [HI2.out]), rfl⟩
set_option maxHeartbeats 2000000 in
theorem implCode_any (P : Option Addr) (n c : Nat) (C : Option Addr) (m d : Nat) (t : Tb) (A : Option Addr) (l cl : Nat) (rule : List Int) (boat : Int) (w : World) (h : RdT w P n C m t) (hl : Rd w 1 A l (ints rule)) :
    Calls Tryz.prog 91 #[.agg #[.int .i64 t.boats, .slice P n c, .slice C m d], .slice A l cl, .int .i64 boat] w fun e w' => e = .returned (.int .i64 (codeT t rule boat)) ∧ Below w.heap.size w w' := by
  obtain ⟨w1, hw1, X0, hb1, hs1⟩ := one_box w #[.int .i64 t.boats, .slice P n c, .slice C m d] 53
  have HT := Lib.hid (implIsTable_any P n c C m d t w1 (h.below hb1))
  have HB1 := Lib.hid hb1
  have HX := Lib.hid X0
  have HW1 := Lib.hid hw1
  have HL := Lib.hid hl
  have hok := fun e => tableB_ok (t := t) e
  unfold codeT
  generalize tableB t = tb at *
  have FX := X0.f3
  clear X0 hb1 hs1 hw1 h hl
  cases tb with
  | false =>
    clear hok
    show Calls Tryz.prog _ _ w fun e w' => e = .returned (.int .i64 1) ∧ Below w.heap.size w w'
    go_enter Tryz.func91, Tryz.ntmps91
    go_wp2_with fail
    rw [← HW1.out]
    clear HW1 FX
    go_wp2_with fail
    refine HT.out.mono ?_
    rintro e w2 ⟨rfl, hb⟩
    have HB2 := Lib.hid (HB1.out.trans (hb.mono HB1.out.size))
    clear hb
    go_wp2_with fail
    go_ret
    exact ⟨rfl, HB2.out⟩
  | true =>
    have ok := hok rfl
    have hb1 := ok.b1
    have hb2 := ok.b2
    rw [if_pos rfl]
    clear hok ok
    have HR := Lib.hid (fun w' hb => implRule_any A l cl rule w' (HL.out.below (w' := w') hb))
    have HWI := Lib.hid (fun w' => within_any boat 0 (t.boats - 1) w')
    cases hr : ruleB rule with
    | false =>
      rw [hr] at HR
      rw [if_neg (by simp)]
      clear hr
      go_enter Tryz.func91, Tryz.ntmps91
      go_wp2_with fail
      rw [← HW1.out]
      clear HW1
      go_wp2_with fail
      refine HT.out.mono ?_
      rintro e w2 ⟨rfl, hb⟩
      have HB2 := Lib.hid (HB1.out.trans (hb.mono HB1.out.size))
      have HX2 := Lib.hid (HX.out.below hb)
      clear hb FX
      go_wp2_with fail
      refine (HR.out _ HB2.out).mono ?_
      rintro e w3 ⟨rfl, hb⟩
      have HB3 := Lib.hid (HB2.out.trans (hb.mono HB2.out.size))
      have FX := (HX2.out.below hb).f3
      clear hb
      go_wp2_with fail
      go_ret
      exact ⟨rfl, HB3.out⟩
    | true =>
      rw [hr] at HR
      cases hwi : withinB boat 0 (t.boats - 1) with
      | false =>
        rw [hwi] at HWI
        rw [if_neg (by simp)]
        clear hr hwi
        go_enter Tryz.func91, Tryz.ntmps91
        go_wp2_with fail
        rw [← HW1.out]
        clear HW1
        go_wp2_with fail
        refine HT.out.mono ?_
        rintro e w2 ⟨rfl, hb⟩
        have HB2 := Lib.hid (HB1.out.trans (hb.mono HB1.out.size))
        have HX2 := Lib.hid (HX.out.below hb)
        clear hb FX
        go_wp2_with fail
        refine (HR.out _ HB2.out).mono ?_
        rintro e w3 ⟨rfl, hb⟩
        have HB3 := Lib.hid (HB2.out.trans (hb.mono HB2.out.size))
        have FX := (HX2.out.below hb).f3
        clear hb
        go_wp2_with fail
        refine (HWI.out _).mono ?_
        rintro e w4 ⟨rfl, rfl⟩
        go_wp2_with fail
        go_ret
        exact ⟨rfl, HB3.out⟩
      | true =>
        rw [hwi] at HWI
        rw [if_pos ⟨rfl, rfl⟩]
        clear hr hwi
        go_enter Tryz.func91, Tryz.ntmps91
        go_wp2_with fail
        rw [← HW1.out]
        clear HW1
        go_wp2_with fail
        refine HT.out.mono ?_
        rintro e w2 ⟨rfl, hb⟩
        have HB2 := Lib.hid (HB1.out.trans (hb.mono HB1.out.size))
        have HX2 := Lib.hid (HX.out.below hb)
        clear hb FX
        go_wp2_with fail
        refine (HR.out _ HB2.out).mono ?_
        rintro e w3 ⟨rfl, hb⟩
        have HB3 := Lib.hid (HB2.out.trans (hb.mono HB2.out.size))
        have FX := (HX2.out.below hb).f3
        clear hb
        go_wp2_with fail
        refine (HWI.out _).mono ?_
        rintro e w4 ⟨rfl, rfl⟩
        go_wp2_with fail
        go_ret
        exact ⟨rfl, HB3.out⟩
end Go.Proofs.YtalgdeieejpelaaGreat

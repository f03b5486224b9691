/- Walks: a word as a number (the reference's first reading). -/
import Derived.Test.YthlnoahjfllhfaaGreatDoorQs
import Derived.Test.YthlnoahjfllhfaaGreatDoorQc
namespace Go.Proofs.YthlnoahjfllhfaaGreatDoor
open Go.RowKit Go.Sort
set_option linter.unusedVariables false
set_option maxRecDepth 100000

theorem signed_any (n : Int) (h0 : -1000000000000000 ≤ n) (h1 : n ≤ 1000000000000000) (w : World) :
    Calls Tryz.prog 41 #[.int .i64 n] w fun e w' => e = .returned (.string (str (Lib.itoa n))) ∧ Below w.heap.size w w' := by
  by_cases h : n < 0
  · obtain ⟨m, rfl⟩ : ∃ m : Nat, n = -(m : Int) := ⟨n.natAbs, by omega⟩
    have hd : decide (0 < m) = true := by simp; omega
    have HN := Lib.hid (fun w' => number_any m m (Nat.le_refl _) (by omega) w')
    have hs := dec_len 15 m (by omega)
    have hz : (str (dec m)).size ≤ 16 := by rw [str_size]; exact hs
    have HE := Lib.hid (show str (Lib.itoa (-(m : Int))) = ⟨#[45]⟩ ++ str (dec m) from by rw [Lib.itoa_neg m (by omega)]; show str (45 :: dec m) = str [45] ++ str (dec m); rw [str_add]; rfl)
    have hm : - -(m : Int) = (m : Int) := by omega
    have HM := Lib.hid hm
    generalize str (dec m) = Z at *
    clear h hs hm
    go_enter Tryz.func41, Tryz.ntmps41
    go_wp2_with fail
    (try rw [HM.out])
    refine (HN.out _).mono ?_
    rintro e w1 ⟨rfl, hb⟩
    have HB1 := Lib.hid hb
    clear hb
    go_wp2_with fail
    go_ret
    exact ⟨by rw [HE.out]; rfl, HB1.out⟩
  · have hd : decide (n < 0) = false := by simpa using h
    obtain ⟨m, rfl⟩ := int_up n (by omega)
    have HN := Lib.hid (fun w' => number_any m m (Nat.le_refl _) (by omega) w')
    have HE := Lib.hid (show str (Lib.itoa (m : Int)) = str (dec m) from by rw [Lib.itoa_nonneg]; rfl)
    clear h
    go_enter Tryz.func41, Tryz.ntmps41
    go_wp2_with fail
    refine (HN.out _).mono ?_
    rintro e w1 ⟨rfl, hb⟩
    have HB1 := Lib.hid hb
    clear hb
    go_wp2_with fail
    go_ret
    exact ⟨by rw [HE.out]; rfl, HB1.out⟩
theorem valL_snoc1 (n : Nat) (l : List UInt8) (c : UInt8) : valL n (l ++ [c]) = stepV (valL n l) c := by rw [valL_app, valL_cons, valL_nil]
theorem str_inj {a b : List UInt8} (h : str a = str b) : a = b := by rw [← str_list a, h, str_list]
/-- What a word spells whose digits are D. -/
def valG (neg : Bool) (D w : List UInt8) : Int × Bool := if D.length < 1 ∨ 15 < D.length then (0, false) else if D.all dgB = true then (if Lib.itoa (if neg = true then -(valL 0 D : Int) else (valL 0 D : Int)) = w then (if neg = true then -(valL 0 D : Int) else (valL 0 D : Int), true) else (0, false)) else (0, false)
def valF (w : List UInt8) : Int × Bool := match w with
  | [] => (0, false)
  | c :: r => if c = 45 then valG true r (c :: r) else valG false (c :: r) (c :: r)
theorem valG_short {neg : Bool} {D w : List UInt8} (h : D.length < 1 ∨ 15 < D.length) : valG neg D w = (0, false) := by unfold valG; rw [if_pos h]
theorem valG_other {neg : Bool} {D w : List UInt8} (h : ¬ D.all dgB = true) : valG neg D w = (0, false) := by
  unfold valG
  split <;> first | rfl | rw [if_neg h]
theorem valG_yes {neg : Bool} {D w : List UInt8} (h : ¬ (D.length < 1 ∨ 15 < D.length)) (hd : D.all dgB = true) (he : Lib.itoa (if neg = true then -(valL 0 D : Int) else (valL 0 D : Int)) = w) : valG neg D w = (if neg = true then -(valL 0 D : Int) else (valL 0 D : Int), true) := by
  unfold valG
  rw [if_neg h, if_pos hd, if_pos he]
theorem valG_no {neg : Bool} {D w : List UInt8} (h : ¬ (D.length < 1 ∨ 15 < D.length)) (hd : D.all dgB = true) (he : ¬ Lib.itoa (if neg = true then -(valL 0 D : Int) else (valL 0 D : Int)) = w) : valG neg D w = (0, false) := by
  unfold valG
  rw [if_neg h, if_pos hd, if_neg he]
theorem valF_dec {n : Nat} (h : n < 10 ^ 15) : valF (dec n) = ((n : Int), true) := by
  have hd := dec_digits n
  have hl := dec_len 14 n (by simpa using h)
  have hv := valL_dec n
  cases hc : dec n with
  | nil => exact absurd hc (dec_ne n)
  | cons c r =>
    rw [hc] at hd hl hv
    have h45 : c ≠ 45 := by
      intro e
      have := hd c List.mem_cons_self
      rw [e] at this
      exact absurd this (by decide)
    show (if c = 45 then _ else _) = _
    rw [if_neg h45, valG_yes (neg := false) (by simp at hl ⊢; omega) (List.all_eq_true.2 hd) (by rw [if_neg (by decide), hv, Lib.itoa_nonneg]; exact hc), if_neg (by decide), hv]
set_option maxHeartbeats 4000000 in
theorem value_any (s : ByteArray) (hs : s.size ≤ 2097152) (w : World) :
    Calls Tryz.prog 28 #[.string s] w fun e w' => e = .returned (.tuple #[.int .i64 (valF s.data.toList).1, .bool (valF s.data.toList).2]) ∧ Below w.heap.size w w' := by
  have hst := str_data s
  have hsz := Lib.size_eq s
  cases hL : s.data.toList with
  | nil =>
    have hse : s = ⟨#[]⟩ := by
      apply WideShapes.bytes_inj
      rw [hL]
    subst hse
    clear hL hst hsz
    go_enter Tryz.func28, Tryz.ntmps28
    go_wp2_with fail
    go_ret2
    exact ⟨rfl, Below.refl _ _⟩
  | cons c r =>
    rw [hL] at hst hsz
    have h0 : 0 < s.size := by rw [hsz]; simp
    have hc0 : (s[0]'h0).toNat = c.toNat := by
      have h1 : s.data.toList[0]? = some c := by rw [hL]; rfl
      have h2 : s.data.toList[0]? = some (s[0]'h0) := by
        rw [List.getElem?_eq_getElem (by rw [hL]; simp)]
        rfl
      rw [h2] at h1
      injection h1 with h1
      rw [h1]
    have HST := Lib.hid hst
    by_cases h45 : c = 45
    · have hv : valF (c :: r) = valG true r (c :: r) := by show (if c = 45 then _ else _) = _; rw [if_pos h45]
      rw [hv]
      have hc1 : (s[0]'h0).toNat = 45 := by rw [hc0, h45]; rfl
      have hrl : r.length = s.size - 1 := by rw [hsz]; simp
      have hxs : s.extract 1 s.size = str r := by rw [extract_str s 1 s.size (Nat.le_refl _), hL]; show str (r.take (s.size - 1)) = str r; rw [List.take_of_length_le (by omega)]
      have HXS := Lib.hid hxs
      have hrz := str_size r
      have HRZ := Lib.hid hrz
      have HRL := Lib.hid hrl
      clear hv hc0 hL hst hsz h45 hxs hrz hrl
      by_cases hsh : r.length < 1 ∨ 15 < r.length
      · rw [valG_short hsh]
        rcases hsh with h1 | h1
        · have e1 : decide (((s.size - 1 : Nat) : Int) < 1) = true := by have := HRL.out; simp; omega
          clear h1
          go_enter Tryz.func28, Tryz.ntmps28
          go_wp2_with fail
          go_ret2
          exact ⟨rfl, Below.refl _ _⟩
        · have e1 : decide (((s.size - 1 : Nat) : Int) < 1) = false := by have := HRL.out; simp; omega
          have e2 : decide ((15 : Int) < ((s.size - 1 : Nat) : Int)) = true := by have := HRL.out; simp; omega
          clear h1
          go_enter Tryz.func28, Tryz.ntmps28
          go_wp2_with fail
          go_ret2
          exact ⟨rfl, Below.refl _ _⟩
      · have e1 : decide (((s.size - 1 : Nat) : Int) < 1) = false := by have := HRL.out; simp; omega
        have e2 : decide ((15 : Int) < ((s.size - 1 : Nat) : Int)) = false := by have := HRL.out; simp; omega
        have hneg : decide (((s.size - 1 : Nat) : Int) < (s.size : Int)) = true := by simp; omega
        have HNEG := Lib.hid hneg
        have HSH := Lib.hid hsh
        have HWQ := Lib.hid (show str (c :: r) = s from HST.out)
        generalize c :: r = L at *
        clear hneg hsh
        go_enter Tryz.func28, Tryz.ntmps28
        go_wp2_with fail
        rw [HXS.out, ← HRL.out, ← HRZ.out]
        rw [← HRL.out, ← HRZ.out] at HNEG
        have HDT := Lib.hid (str_list r)
        have hD15 : r.length ≤ 15 := by have := HSH.out; omega
        generalize hS4 : str r = S at *
        clear hc1 e1 e2 hS4
        have hDS : r.length = S.size := by rw [Lib.size_eq S, HDT.out]
        have HDS := Lib.hid hDS
        clear hDS
        go_loop [5, 6] (fun n i => ∃ (k x : Nat), k ≤ S.size ∧ x < 1000000000000000 ∧ i = .int .i64 k ∧ n = .int .i64 x ∧ Hid (x = valL 0 (r.take k) ∧ ∀ c ∈ r.take k, dgB c = true)) (fun _ i => S.size - (intOf i).toNat)
        case atStart => exact ⟨0, 0, Nat.zero_le _, by omega, rfl, rfl, Lib.hid ⟨by rw [List.take_zero, valL_nil], by simp⟩⟩
        case round =>
          obtain ⟨k, x, hk, hx, rfl, rfl, HI⟩ := hrel
          by_cases hlt : k < S.size
          · have hkd : decide ((k : Int) < (S.size : Int)) = true := by simpa using hlt
            have hkL : k < r.length := by have := HDS.out; omega
            have hgs : S[k] = r[k] := by
              have h1 := HDT.out
              subst h1
              rfl
            have htk : r.take (k + 1) = r.take k ++ [r[k]] := by rw [List.take_add_one, List.getElem?_eq_getElem hkL]; rfl
            obtain ⟨cm, hcm⟩ : ∃ cm, cm = (S[k]).toNat := ⟨_, rfl⟩
            by_cases hd : dgB r[k] = true
            · have hd0 := hd
              unfold dgB at hd0
              simp only [Bool.and_eq_true, decide_eq_true_eq] at hd0
              rw [← hgs, ← hcm] at hd0
              have hall : ∀ c ∈ r.take (k + 1), dgB c = true := by
                rw [htk]
                intro c hc
                rcases List.mem_append.1 hc with hc | hc
                · exact HI.out.2 c hc
                · rw [List.mem_singleton.1 hc]; exact hd
              have hval : valL 0 (r.take (k + 1)) = 10 * x + (cm - 48) := by
                rw [htk, valL_snoc1, ← HI.out.1, ← hgs]
                unfold stepV
                rw [← hcm]
              have hlt2 := valL_lt (r.take (k + 1)) 0 hall
              have hpow : 10 ^ (r.take (k + 1)).length ≤ 10 ^ 15 := Nat.pow_le_pow_right (by decide) (by rw [List.length_take]; omega)
              rw [hval] at hlt2
              have hx2 : 10 * x + (cm - 48) < 1000000000000000 := by
                have e : (10 : Nat) ^ 15 = 1000000000000000 := by decide
                rw [e] at hpow
                omega
              have HI2 := Lib.hid (show 10 * x + (cm - 48) = valL 0 (r.take (k + 1)) ∧ ∀ c ∈ r.take (k + 1), dgB c = true from ⟨hval.symm, hall⟩)
              obtain ⟨hd1, hd2⟩ := hd0
              have hcm2 : (S[k]).toNat = cm := hcm.symm
              have ht1 : decide ((cm : Int) < 48) = false := by simp; omega
              have ht2 : decide ((57 : Int) < (cm : Int)) = false := by simp; omega
              clear hd hall hval hlt2 hpow htk hgs HI hcm
              go_wp2_with fail
              go_round
              case rel => exact ⟨k + 1, 10 * x + (cm - 48), by omega, hx2, by go_num, by go_num, HI2⟩
              case measure => simp [intOf] <;> omega
            · have HNQ := Lib.hid (valG_other (neg := true) (D := r) (w := L) (fun hall => hd (List.all_eq_true.1 hall _ (List.getElem_mem hkL))))
              have hcm2 : (S[k]).toNat = cm := hcm.symm
              have hor : cm < 48 ∨ (¬ cm < 48 ∧ 57 < cm) := by
                unfold dgB at hd
                simp only [Bool.and_eq_true, decide_eq_true_eq] at hd
                rw [← hgs, ← hcm] at hd
                omega
              clear hd htk hgs HI hcm
              rcases hor with h1 | ⟨h1, h2⟩
              · have ht1 : decide ((cm : Int) < 48) = true := by simp; omega
                clear h1
                go_wp2_with fail
                go_ret2
                exact ⟨by rw [HNQ.out]; rfl, Below.refl _ _⟩
              · have ht1 : decide ((cm : Int) < 48) = false := by simp; omega
                have ht2 : decide ((57 : Int) < (cm : Int)) = true := by simp; omega
                clear h1 h2
                go_wp2_with fail
                go_ret2
                exact ⟨by rw [HNQ.out]; rfl, Below.refl _ _⟩
          · obtain rfl : k = S.size := by omega
            have hkd : decide ((S.size : Int) < (S.size : Int)) = false := by simp
            have hi := HI.out
            rw [List.take_of_length_le (by have := HDS.out; omega)] at hi
            have hall : r.all dgB = true := List.all_eq_true.2 hi.2
            have HN := Lib.hid (signed_any (-(x : Int)) (by omega) (by omega) w)
            have hneg := HNEG.out
            by_cases hq : Lib.itoa (-(x : Int)) = L
            · have hn := valG_yes (neg := true) (w := L) HSH.out hall (by rw [if_pos rfl, ← hi.1]; exact hq)
              rw [if_pos rfl, ← hi.1] at hn
              have HNQ := Lib.hid hn
              have hst : str (Lib.itoa (-(x : Int))) = s := by rw [hq, HWQ.out]
              rw [hst] at HN
              clear hi hall hq hn hst HI
              go_wp2_with fail
              refine HN.out.mono ?_
              rintro e w1 ⟨rfl, hb⟩
              have HB1 := Lib.hid hb
              clear hb
              go_wp2_with fail
              go_ret2
              exact ⟨by rw [HNQ.out]; rfl, HB1.out⟩
              all_goals (exfalso; have h9 := of_decide_eq_true hneg; have h8 := ‹¬ S.size < s.size›; omega)
            · have HNQ := Lib.hid (valG_no (neg := true) (w := L) HSH.out hall (by rw [if_pos rfl, ← hi.1]; exact hq))
              have hst : str (Lib.itoa (-(x : Int))) ≠ s := fun e => hq (str_inj (e.trans HWQ.out.symm))
              have hnl := ne_list hst
              generalize str (Lib.itoa (-(x : Int))) = Z at *
              clear hi hall hq hst HI
              go_wp2_with fail
              refine HN.out.mono ?_
              rintro e w1 ⟨rfl, hb⟩
              have HB1 := Lib.hid hb
              clear hb
              go_wp2_with fail
              go_ret2
              exact ⟨by rw [HNQ.out]; rfl, HB1.out⟩
              all_goals (exfalso; have h9 := of_decide_eq_true hneg; have h8 := ‹¬ S.size < s.size›; omega)
    · have hv : valF (c :: r) = valG false (c :: r) (c :: r) := by show (if c = 45 then _ else _) = _; rw [if_neg h45]
      rw [hv]
      obtain ⟨cn, hcn⟩ : ∃ cn, cn = c.toNat := ⟨_, rfl⟩
      have hc45 : ((cn : Int) == 45) = false := by
        simp only [beq_eq_false_iff_ne]
        intro e
        apply h45
        apply UInt8.toNat_inj.1
        show c.toNat = 45
        omega
      have hc1 : (s[0]'h0).toNat = cn := by rw [hc0, hcn]
      have HRL := Lib.hid (show (c :: r).length = s.size from hsz.symm)
      have HDT := Lib.hid hL
      clear hv hc0 hst hsz h45 hcn hL
      generalize c :: r = L at *
      by_cases hsh : L.length < 1 ∨ 15 < L.length
      · rw [valG_short hsh]
        rcases hsh with h1 | h1
        · exact absurd h0 (by have := HRL.out; omega)
        · have e1 : decide ((s.size : Int) < 1) = false := by simp; omega
          have e2 : decide ((15 : Int) < (s.size : Int)) = true := by have := HRL.out; simp; omega
          clear h1
          go_enter Tryz.func28, Tryz.ntmps28
          go_wp2_with fail
          go_ret2
          exact ⟨rfl, Below.refl _ _⟩
      · have e1 : decide ((s.size : Int) < 1) = false := by simp; omega
        have e2 : decide ((15 : Int) < (s.size : Int)) = false := by have := HRL.out; simp; omega
        have hneg : decide ((s.size : Int) < (s.size : Int)) = false := by simp
        have HNEG := Lib.hid hneg
        have HSH := Lib.hid hsh
        have HWQ := HST
        clear hneg hsh
        go_enter Tryz.func28, Tryz.ntmps28
        go_wp2_with fail
        have hD15 : L.length ≤ 15 := by have := HSH.out; omega
        clear hc1 hc45 e1 e2
        have hDS : L.length = s.size := by rw [Lib.size_eq s, HDT.out]
        have HDS := Lib.hid hDS
        clear hDS
        go_loop [5, 6] (fun n i => ∃ (k x : Nat), k ≤ s.size ∧ x < 1000000000000000 ∧ i = .int .i64 k ∧ n = .int .i64 x ∧ Hid (x = valL 0 (L.take k) ∧ ∀ c ∈ L.take k, dgB c = true)) (fun _ i => s.size - (intOf i).toNat)
        case atStart => exact ⟨0, 0, Nat.zero_le _, by omega, rfl, rfl, Lib.hid ⟨by rw [List.take_zero, valL_nil], by simp⟩⟩
        case round =>
          obtain ⟨k, x, hk, hx, rfl, rfl, HI⟩ := hrel
          by_cases hlt : k < s.size
          · have hkd : decide ((k : Int) < (s.size : Int)) = true := by simpa using hlt
            have hkL : k < L.length := by have := HDS.out; omega
            have hgs : s[k] = L[k] := by
              have h1 := HDT.out
              subst h1
              rfl
            have htk : L.take (k + 1) = L.take k ++ [L[k]] := by rw [List.take_add_one, List.getElem?_eq_getElem hkL]; rfl
            obtain ⟨cm, hcm⟩ : ∃ cm, cm = (s[k]).toNat := ⟨_, rfl⟩
            by_cases hd : dgB L[k] = true
            · have hd0 := hd
              unfold dgB at hd0
              simp only [Bool.and_eq_true, decide_eq_true_eq] at hd0
              rw [← hgs, ← hcm] at hd0
              have hall : ∀ c ∈ L.take (k + 1), dgB c = true := by
                rw [htk]
                intro c hc
                rcases List.mem_append.1 hc with hc | hc
                · exact HI.out.2 c hc
                · rw [List.mem_singleton.1 hc]; exact hd
              have hval : valL 0 (L.take (k + 1)) = 10 * x + (cm - 48) := by
                rw [htk, valL_snoc1, ← HI.out.1, ← hgs]
                unfold stepV
                rw [← hcm]
              have hlt2 := valL_lt (L.take (k + 1)) 0 hall
              have hpow : 10 ^ (L.take (k + 1)).length ≤ 10 ^ 15 := Nat.pow_le_pow_right (by decide) (by rw [List.length_take]; omega)
              rw [hval] at hlt2
              have hx2 : 10 * x + (cm - 48) < 1000000000000000 := by
                have e : (10 : Nat) ^ 15 = 1000000000000000 := by decide
                rw [e] at hpow
                omega
              have HI2 := Lib.hid (show 10 * x + (cm - 48) = valL 0 (L.take (k + 1)) ∧ ∀ c ∈ L.take (k + 1), dgB c = true from ⟨hval.symm, hall⟩)
              obtain ⟨hd1, hd2⟩ := hd0
              have hcm2 : (s[k]).toNat = cm := hcm.symm
              have ht1 : decide ((cm : Int) < 48) = false := by simp; omega
              have ht2 : decide ((57 : Int) < (cm : Int)) = false := by simp; omega
              clear hd hall hval hlt2 hpow htk hgs HI hcm
              go_wp2_with fail
              go_round
              case rel => exact ⟨k + 1, 10 * x + (cm - 48), by omega, hx2, by go_num, by go_num, HI2⟩
              case measure => simp [intOf] <;> omega
            · have HNQ := Lib.hid (valG_other (neg := false) (D := L) (w := L) (fun hall => hd (List.all_eq_true.1 hall _ (List.getElem_mem hkL))))
              have hcm2 : (s[k]).toNat = cm := hcm.symm
              have hor : cm < 48 ∨ (¬ cm < 48 ∧ 57 < cm) := by
                unfold dgB at hd
                simp only [Bool.and_eq_true, decide_eq_true_eq] at hd
                rw [← hgs, ← hcm] at hd
                omega
              clear hd htk hgs HI hcm
              rcases hor with h1 | ⟨h1, h2⟩
              · have ht1 : decide ((cm : Int) < 48) = true := by simp; omega
                clear h1
                go_wp2_with fail
                go_ret2
                exact ⟨by rw [HNQ.out]; rfl, Below.refl _ _⟩
              · have ht1 : decide ((cm : Int) < 48) = false := by simp; omega
                have ht2 : decide ((57 : Int) < (cm : Int)) = true := by simp; omega
                clear h1 h2
                go_wp2_with fail
                go_ret2
                exact ⟨by rw [HNQ.out]; rfl, Below.refl _ _⟩
          · obtain rfl : k = s.size := by omega
            have hkd : decide ((s.size : Int) < (s.size : Int)) = false := by simp
            have hi := HI.out
            rw [List.take_of_length_le (by have := HDS.out; omega)] at hi
            have hall : L.all dgB = true := List.all_eq_true.2 hi.2
            have HN := Lib.hid (signed_any (x : Int) (by omega) (by omega) w)
            have hneg := HNEG.out
            by_cases hq : Lib.itoa (x : Int) = L
            · have hn := valG_yes (neg := false) (w := L) HSH.out hall (by rw [if_neg (by decide), ← hi.1]; exact hq)
              rw [if_neg (by decide), ← hi.1] at hn
              have HNQ := Lib.hid hn
              have hst : str (Lib.itoa (x : Int)) = s := by rw [hq, HWQ.out]
              rw [hst] at HN
              clear hi hall hq hn hst HI
              go_wp2_with fail
              refine HN.out.mono ?_
              rintro e w1 ⟨rfl, hb⟩
              have HB1 := Lib.hid hb
              clear hb
              go_wp2_with fail
              go_ret2
              exact ⟨by rw [HNQ.out]; rfl, HB1.out⟩
            · have HNQ := Lib.hid (valG_no (neg := false) (w := L) HSH.out hall (by rw [if_neg (by decide), ← hi.1]; exact hq))
              have hst : str (Lib.itoa (x : Int)) ≠ s := fun e => hq (str_inj (e.trans HWQ.out.symm))
              have hnl := ne_list hst
              generalize str (Lib.itoa (x : Int)) = Z at *
              clear hi hall hq hst HI
              go_wp2_with fail
              refine HN.out.mono ?_
              rintro e w1 ⟨rfl, hb⟩
              have HB1 := Lib.hid hb
              clear hb
              go_wp2_with fail
              go_ret2
              exact ⟨by rw [HNQ.out]; rfl, HB1.out⟩
end Go.Proofs.YthlnoahjfllhfaaGreatDoor

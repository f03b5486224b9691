/- General and plain lemmas, and light walks (merged): Qt Qv Qw Ro Rm. -/
import Derived.Test.YtnpldahkhaacnaaGreatDoorQs
import Derived.Test.YtnpldahkhaacnaaGreatDoorQc
import Derived.Test.YtnpldahkhaacnaaGreatDoorZmc
import Derived.Test.YtnpldahkhaacnaaGreatDoorCf
import Derived.Lib.IndexMore
import Derived.Lib.AtoiAll
import Derived.BigRegion
import Derived.Lib.QuietBelow
/- Walks: a word as a number (the reference's first reading). -/
namespace Go.Proofs.YtnpldahkhaacnaaGreatDoor
open Go.RowKit Go.Sort
set_option linter.unusedVariables false
set_option maxRecDepth 100000

theorem signed_any (n : Int) (h0 : -1000000000000000 ≤ n) (h1 : n ≤ 1000000000000000) (w : World) :
    Calls Tryz.prog 228 #[.int .i64 n] w fun e w' => e = .returned (.string (str (Lib.itoa n))) ∧ Below w.heap.size w w' := by
  by_cases h : n < 0
  · obtain ⟨m, rfl⟩ : ∃ m : Nat, n = -(m : Int) := ⟨n.natAbs, by omega⟩
    have hd : decide (0 < m) = true := by simp; omega
    have HN := Lib.hid (fun w' => number_any m m (Nat.le_refl _) (by omega) w')
    have hs := dec_len 15 m (by omega)
    have hz : (str (dec m)).size ≤ 16 := by rw [str_size]; exact hs
    have HE := Lib.hid (show str (Lib.itoa (-(m : Int))) = ⟨#[45]⟩ ++ str (dec m) from by rw [Lib.itoa_neg m (by omega)]; show str (45 :: dec m) = str [45] ++ str (dec m); rw [str_add]; rfl)
    have hm : - -(m : Int) = (m : Int) := by omega
    have HM := Lib.hid hm
    generalize str (dec m) = Z at *
    clear h hs hm
    go_enter Tryz.func228, Tryz.ntmps228
    go_wp2_with fail
    (try rw [HM.out])
    refine (HN.out _).mono ?_
    rintro e w1 ⟨rfl, hb⟩
    have HB1 := Lib.hid hb
    clear hb
    go_wp2_with fail
    go_ret
    exact ⟨by rw [HE.out]; rfl, HB1.out⟩
  · have hd : decide (n < 0) = false := by simpa using h
    obtain ⟨m, rfl⟩ := int_up n (by omega)
    have HN := Lib.hid (fun w' => number_any m m (Nat.le_refl _) (by omega) w')
    have HE := Lib.hid (show str (Lib.itoa (m : Int)) = str (dec m) from by rw [Lib.itoa_nonneg]; rfl)
    clear h
    go_enter Tryz.func228, Tryz.ntmps228
    go_wp2_with fail
    refine (HN.out _).mono ?_
    rintro e w1 ⟨rfl, hb⟩
    have HB1 := Lib.hid hb
    clear hb
    go_wp2_with fail
    go_ret
    exact ⟨by rw [HE.out]; rfl, HB1.out⟩
theorem valL_snoc1 (n : Nat) (l : List UInt8) (c : UInt8) : valL n (l ++ [c]) = stepV (valL n l) c := by rw [valL_app, valL_cons, valL_nil]
theorem str_inj {a b : List UInt8} (h : str a = str b) : a = b := by rw [← str_list a, h, str_list]
/-- What a word spells whose digits are D. -/
def valG (neg : Bool) (D w : List UInt8) : Int × Bool := if D.length < 1 ∨ 15 < D.length then (0, false) else if D.all dgB = true then (if Lib.itoa (if neg = true then -(valL 0 D : Int) else (valL 0 D : Int)) = w then (if neg = true then -(valL 0 D : Int) else (valL 0 D : Int), true) else (0, false)) else (0, false)
def valF (w : List UInt8) : Int × Bool := match w with
  | [] => (0, false)
  | c :: r => if c = 45 then valG true r (c :: r) else valG false (c :: r) (c :: r)
theorem valG_short {neg : Bool} {D w : List UInt8} (h : D.length < 1 ∨ 15 < D.length) : valG neg D w = (0, false) := by unfold valG; rw [if_pos h]
theorem valG_other {neg : Bool} {D w : List UInt8} (h : ¬ D.all dgB = true) : valG neg D w = (0, false) := by
  unfold valG
  split <;> first | rfl | rw [if_neg h]
theorem valG_yes {neg : Bool} {D w : List UInt8} (h : ¬ (D.length < 1 ∨ 15 < D.length)) (hd : D.all dgB = true) (he : Lib.itoa (if neg = true then -(valL 0 D : Int) else (valL 0 D : Int)) = w) : valG neg D w = (if neg = true then -(valL 0 D : Int) else (valL 0 D : Int), true) := by
  unfold valG
  rw [if_neg h, if_pos hd, if_pos he]
theorem valG_no {neg : Bool} {D w : List UInt8} (h : ¬ (D.length < 1 ∨ 15 < D.length)) (hd : D.all dgB = true) (he : ¬ Lib.itoa (if neg = true then -(valL 0 D : Int) else (valL 0 D : Int)) = w) : valG neg D w = (0, false) := by
  unfold valG
  rw [if_neg h, if_pos hd, if_neg he]
theorem valF_dec {n : Nat} (h : n < 10 ^ 15) : valF (dec n) = ((n : Int), true) := by
  have hd := dec_digits n
  have hl := dec_len 14 n (by simpa using h)
  have hv := valL_dec n
  cases hc : dec n with
  | nil => exact absurd hc (dec_ne n)
  | cons c r =>
    rw [hc] at hd hl hv
    have h45 : c ≠ 45 := by
      intro e
      have := hd c List.mem_cons_self
      rw [e] at this
      exact absurd this (by decide)
    show (if c = 45 then _ else _) = _
    rw [if_neg h45, valG_yes (neg := false) (by simp at hl ⊢; omega) (List.all_eq_true.2 hd) (by rw [if_neg (by decide), hv, Lib.itoa_nonneg]; exact hc), if_neg (by decide), hv]
set_option maxHeartbeats 4000000 in
theorem value_any (s : ByteArray) (hs : s.size ≤ 2097152) (w : World) :
    Calls Tryz.prog 158 #[.string s] w fun e w' => e = .returned (.tuple #[.int .i64 (valF s.data.toList).1, .bool (valF s.data.toList).2]) ∧ Below w.heap.size w w' := by
  have hst := str_data s
  have hsz := Lib.size_eq s
  cases hL : s.data.toList with
  | nil =>
    have hse : s = ⟨#[]⟩ := by
      apply WideShapes.bytes_inj
      rw [hL]
    subst hse
    clear hL hst hsz
    go_enter Tryz.func158, Tryz.ntmps158
    go_wp2_with fail
    go_ret2
    exact ⟨rfl, Below.refl _ _⟩
  | cons c r =>
    rw [hL] at hst hsz
    have h0 : 0 < s.size := by rw [hsz]; simp
    have hc0 : (s[0]'h0).toNat = c.toNat := by
      have h1 : s.data.toList[0]? = some c := by rw [hL]; rfl
      have h2 : s.data.toList[0]? = some (s[0]'h0) := by
        rw [List.getElem?_eq_getElem (by rw [hL]; simp)]
        rfl
      rw [h2] at h1
      injection h1 with h1
      rw [h1]
    have HST := Lib.hid hst
    by_cases h45 : c = 45
    · have hv : valF (c :: r) = valG true r (c :: r) := by show (if c = 45 then _ else _) = _; rw [if_pos h45]
      rw [hv]
      have hc1 : (s[0]'h0).toNat = 45 := by rw [hc0, h45]; rfl
      have hrl : r.length = s.size - 1 := by rw [hsz]; simp
      have hxs : s.extract 1 s.size = str r := by rw [extract_str s 1 s.size (Nat.le_refl _), hL]; show str (r.take (s.size - 1)) = str r; rw [List.take_of_length_le (by omega)]
      have HXS := Lib.hid hxs
      have hrz := str_size r
      have HRZ := Lib.hid hrz
      have HRL := Lib.hid hrl
      clear hv hc0 hL hst hsz h45 hxs hrz hrl
      by_cases hsh : r.length < 1 ∨ 15 < r.length
      · rw [valG_short hsh]
        rcases hsh with h1 | h1
        · have e1 : decide (((s.size - 1 : Nat) : Int) < 1) = true := by have := HRL.out; simp; omega
          clear h1
          go_enter Tryz.func158, Tryz.ntmps158
          go_wp2_with fail
          go_ret2
          exact ⟨rfl, Below.refl _ _⟩
        · have e1 : decide (((s.size - 1 : Nat) : Int) < 1) = false := by have := HRL.out; simp; omega
          have e2 : decide ((15 : Int) < ((s.size - 1 : Nat) : Int)) = true := by have := HRL.out; simp; omega
          clear h1
          go_enter Tryz.func158, Tryz.ntmps158
          go_wp2_with fail
          go_ret2
          exact ⟨rfl, Below.refl _ _⟩
      · have e1 : decide (((s.size - 1 : Nat) : Int) < 1) = false := by have := HRL.out; simp; omega
        have e2 : decide ((15 : Int) < ((s.size - 1 : Nat) : Int)) = false := by have := HRL.out; simp; omega
        have hneg : decide (((s.size - 1 : Nat) : Int) < (s.size : Int)) = true := by simp; omega
        have HNEG := Lib.hid hneg
        have HSH := Lib.hid hsh
        have HWQ := Lib.hid (show str (c :: r) = s from HST.out)
        generalize c :: r = L at *
        clear hneg hsh
        go_enter Tryz.func158, Tryz.ntmps158
        go_wp2_with fail
        rw [HXS.out, ← HRL.out, ← HRZ.out]
        rw [← HRL.out, ← HRZ.out] at HNEG
        have HDT := Lib.hid (str_list r)
        have hD15 : r.length ≤ 15 := by have := HSH.out; omega
        generalize hS4 : str r = S at *
        clear hc1 e1 e2 hS4
        have hDS : r.length = S.size := by rw [Lib.size_eq S, HDT.out]
        have HDS := Lib.hid hDS
        clear hDS
        go_loop [5, 6] (fun n i => ∃ (k x : Nat), k ≤ S.size ∧ x < 1000000000000000 ∧ i = .int .i64 k ∧ n = .int .i64 x ∧ Hid (x = valL 0 (r.take k) ∧ ∀ c ∈ r.take k, dgB c = true)) (fun _ i => S.size - (intOf i).toNat)
        case atStart => exact ⟨0, 0, Nat.zero_le _, by omega, rfl, rfl, Lib.hid ⟨by rw [List.take_zero, valL_nil], by simp⟩⟩
        case round =>
          obtain ⟨k, x, hk, hx, rfl, rfl, HI⟩ := hrel
          by_cases hlt : k < S.size
          · have hkd : decide ((k : Int) < (S.size : Int)) = true := by simpa using hlt
            have hkL : k < r.length := by have := HDS.out; omega
            have hgs : S[k] = r[k] := by
              have h1 := HDT.out
              subst h1
              rfl
            have htk : r.take (k + 1) = r.take k ++ [r[k]] := by rw [List.take_add_one, List.getElem?_eq_getElem hkL]; rfl
            obtain ⟨cm, hcm⟩ : ∃ cm, cm = (S[k]).toNat := ⟨_, rfl⟩
            by_cases hd : dgB r[k] = true
            · have hd0 := hd
              unfold dgB at hd0
              simp only [Bool.and_eq_true, decide_eq_true_eq] at hd0
              rw [← hgs, ← hcm] at hd0
              have hall : ∀ c ∈ r.take (k + 1), dgB c = true := by
                rw [htk]
                intro c hc
                rcases List.mem_append.1 hc with hc | hc
                · exact HI.out.2 c hc
                · rw [List.mem_singleton.1 hc]; exact hd
              have hval : valL 0 (r.take (k + 1)) = 10 * x + (cm - 48) := by
                rw [htk, valL_snoc1, ← HI.out.1, ← hgs]
                unfold stepV
                rw [← hcm]
              have hlt2 := valL_lt (r.take (k + 1)) 0 hall
              have hpow : 10 ^ (r.take (k + 1)).length ≤ 10 ^ 15 := Nat.pow_le_pow_right (by decide) (by rw [List.length_take]; omega)
              rw [hval] at hlt2
              have hx2 : 10 * x + (cm - 48) < 1000000000000000 := by
                have e : (10 : Nat) ^ 15 = 1000000000000000 := by decide
                rw [e] at hpow
                omega
              have HI2 := Lib.hid (show 10 * x + (cm - 48) = valL 0 (r.take (k + 1)) ∧ ∀ c ∈ r.take (k + 1), dgB c = true from ⟨hval.symm, hall⟩)
              obtain ⟨hd1, hd2⟩ := hd0
              have hcm2 : (S[k]).toNat = cm := hcm.symm
              have ht1 : decide ((cm : Int) < 48) = false := by simp; omega
              have ht2 : decide ((57 : Int) < (cm : Int)) = false := by simp; omega
              clear hd hall hval hlt2 hpow htk hgs HI hcm
              go_wp2_with fail
              go_round
              case rel => exact ⟨k + 1, 10 * x + (cm - 48), by omega, hx2, by go_num, by go_num, HI2⟩
              case measure => simp [intOf] <;> omega
            · have HNQ := Lib.hid (valG_other (neg := true) (D := r) (w := L) (fun hall => hd (List.all_eq_true.1 hall _ (List.getElem_mem hkL))))
              have hcm2 : (S[k]).toNat = cm := hcm.symm
              have hor : cm < 48 ∨ (¬ cm < 48 ∧ 57 < cm) := by
                unfold dgB at hd
                simp only [Bool.and_eq_true, decide_eq_true_eq] at hd
                rw [← hgs, ← hcm] at hd
                omega
              clear hd htk hgs HI hcm
              rcases hor with h1 | ⟨h1, h2⟩
              · have ht1 : decide ((cm : Int) < 48) = true := by simp; omega
                clear h1
                go_wp2_with fail
                go_ret2
                exact ⟨by rw [HNQ.out]; rfl, Below.refl _ _⟩
              · have ht1 : decide ((cm : Int) < 48) = false := by simp; omega
                have ht2 : decide ((57 : Int) < (cm : Int)) = true := by simp; omega
                clear h1 h2
                go_wp2_with fail
                go_ret2
                exact ⟨by rw [HNQ.out]; rfl, Below.refl _ _⟩
          · obtain rfl : k = S.size := by omega
            have hkd : decide ((S.size : Int) < (S.size : Int)) = false := by simp
            have hi := HI.out
            rw [List.take_of_length_le (by have := HDS.out; omega)] at hi
            have hall : r.all dgB = true := List.all_eq_true.2 hi.2
            have HN := Lib.hid (signed_any (-(x : Int)) (by omega) (by omega) w)
            have hneg := HNEG.out
            by_cases hq : Lib.itoa (-(x : Int)) = L
            · have hn := valG_yes (neg := true) (w := L) HSH.out hall (by rw [if_pos rfl, ← hi.1]; exact hq)
              rw [if_pos rfl, ← hi.1] at hn
              have HNQ := Lib.hid hn
              have hst : str (Lib.itoa (-(x : Int))) = s := by rw [hq, HWQ.out]
              rw [hst] at HN
              clear hi hall hq hn hst HI
              go_wp2_with fail
              refine HN.out.mono ?_
              rintro e w1 ⟨rfl, hb⟩
              have HB1 := Lib.hid hb
              clear hb
              go_wp2_with fail
              go_ret2
              exact ⟨by rw [HNQ.out]; rfl, HB1.out⟩
              all_goals (exfalso; have h9 := of_decide_eq_true hneg; have h8 := ‹¬ S.size < s.size›; omega)
            · have HNQ := Lib.hid (valG_no (neg := true) (w := L) HSH.out hall (by rw [if_pos rfl, ← hi.1]; exact hq))
              have hst : str (Lib.itoa (-(x : Int))) ≠ s := fun e => hq (str_inj (e.trans HWQ.out.symm))
              have hnl := ne_list hst
              generalize str (Lib.itoa (-(x : Int))) = Z at *
              clear hi hall hq hst HI
              go_wp2_with fail
              refine HN.out.mono ?_
              rintro e w1 ⟨rfl, hb⟩
              have HB1 := Lib.hid hb
              clear hb
              go_wp2_with fail
              go_ret2
              exact ⟨by rw [HNQ.out]; rfl, HB1.out⟩
              all_goals (exfalso; have h9 := of_decide_eq_true hneg; have h8 := ‹¬ S.size < s.size›; omega)
    · have hv : valF (c :: r) = valG false (c :: r) (c :: r) := by show (if c = 45 then _ else _) = _; rw [if_neg h45]
      rw [hv]
      obtain ⟨cn, hcn⟩ : ∃ cn, cn = c.toNat := ⟨_, rfl⟩
      have hc45 : ((cn : Int) == 45) = false := by
        simp only [beq_eq_false_iff_ne]
        intro e
        apply h45
        apply UInt8.toNat_inj.1
        show c.toNat = 45
        omega
      have hc1 : (s[0]'h0).toNat = cn := by rw [hc0, hcn]
      have HRL := Lib.hid (show (c :: r).length = s.size from hsz.symm)
      have HDT := Lib.hid hL
      clear hv hc0 hst hsz h45 hcn hL
      generalize c :: r = L at *
      by_cases hsh : L.length < 1 ∨ 15 < L.length
      · rw [valG_short hsh]
        rcases hsh with h1 | h1
        · exact absurd h0 (by have := HRL.out; omega)
        · have e1 : decide ((s.size : Int) < 1) = false := by simp; omega
          have e2 : decide ((15 : Int) < (s.size : Int)) = true := by have := HRL.out; simp; omega
          clear h1
          go_enter Tryz.func158, Tryz.ntmps158
          go_wp2_with fail
          go_ret2
          exact ⟨rfl, Below.refl _ _⟩
      · have e1 : decide ((s.size : Int) < 1) = false := by simp; omega
        have e2 : decide ((15 : Int) < (s.size : Int)) = false := by have := HRL.out; simp; omega
        have hneg : decide ((s.size : Int) < (s.size : Int)) = false := by simp
        have HNEG := Lib.hid hneg
        have HSH := Lib.hid hsh
        have HWQ := HST
        clear hneg hsh
        go_enter Tryz.func158, Tryz.ntmps158
        go_wp2_with fail
        have hD15 : L.length ≤ 15 := by have := HSH.out; omega
        clear hc1 hc45 e1 e2
        have hDS : L.length = s.size := by rw [Lib.size_eq s, HDT.out]
        have HDS := Lib.hid hDS
        clear hDS
        go_loop [5, 6] (fun n i => ∃ (k x : Nat), k ≤ s.size ∧ x < 1000000000000000 ∧ i = .int .i64 k ∧ n = .int .i64 x ∧ Hid (x = valL 0 (L.take k) ∧ ∀ c ∈ L.take k, dgB c = true)) (fun _ i => s.size - (intOf i).toNat)
        case atStart => exact ⟨0, 0, Nat.zero_le _, by omega, rfl, rfl, Lib.hid ⟨by rw [List.take_zero, valL_nil], by simp⟩⟩
        case round =>
          obtain ⟨k, x, hk, hx, rfl, rfl, HI⟩ := hrel
          by_cases hlt : k < s.size
          · have hkd : decide ((k : Int) < (s.size : Int)) = true := by simpa using hlt
            have hkL : k < L.length := by have := HDS.out; omega
            have hgs : s[k] = L[k] := by
              have h1 := HDT.out
              subst h1
              rfl
            have htk : L.take (k + 1) = L.take k ++ [L[k]] := by rw [List.take_add_one, List.getElem?_eq_getElem hkL]; rfl
            obtain ⟨cm, hcm⟩ : ∃ cm, cm = (s[k]).toNat := ⟨_, rfl⟩
            by_cases hd : dgB L[k] = true
            · have hd0 := hd
              unfold dgB at hd0
              simp only [Bool.and_eq_true, decide_eq_true_eq] at hd0
              rw [← hgs, ← hcm] at hd0
              have hall : ∀ c ∈ L.take (k + 1), dgB c = true := by
                rw [htk]
                intro c hc
                rcases List.mem_append.1 hc with hc | hc
                · exact HI.out.2 c hc
                · rw [List.mem_singleton.1 hc]; exact hd
              have hval : valL 0 (L.take (k + 1)) = 10 * x + (cm - 48) := by
                rw [htk, valL_snoc1, ← HI.out.1, ← hgs]
                unfold stepV
                rw [← hcm]
              have hlt2 := valL_lt (L.take (k + 1)) 0 hall
              have hpow : 10 ^ (L.take (k + 1)).length ≤ 10 ^ 15 := Nat.pow_le_pow_right (by decide) (by rw [List.length_take]; omega)
              rw [hval] at hlt2
              have hx2 : 10 * x + (cm - 48) < 1000000000000000 := by
                have e : (10 : Nat) ^ 15 = 1000000000000000 := by decide
                rw [e] at hpow
                omega
              have HI2 := Lib.hid (show 10 * x + (cm - 48) = valL 0 (L.take (k + 1)) ∧ ∀ c ∈ L.take (k + 1), dgB c = true from ⟨hval.symm, hall⟩)
              obtain ⟨hd1, hd2⟩ := hd0
              have hcm2 : (s[k]).toNat = cm := hcm.symm
              have ht1 : decide ((cm : Int) < 48) = false := by simp; omega
              have ht2 : decide ((57 : Int) < (cm : Int)) = false := by simp; omega
              clear hd hall hval hlt2 hpow htk hgs HI hcm
              go_wp2_with fail
              go_round
              case rel => exact ⟨k + 1, 10 * x + (cm - 48), by omega, hx2, by go_num, by go_num, HI2⟩
              case measure => simp [intOf] <;> omega
            · have HNQ := Lib.hid (valG_other (neg := false) (D := L) (w := L) (fun hall => hd (List.all_eq_true.1 hall _ (List.getElem_mem hkL))))
              have hcm2 : (s[k]).toNat = cm := hcm.symm
              have hor : cm < 48 ∨ (¬ cm < 48 ∧ 57 < cm) := by
                unfold dgB at hd
                simp only [Bool.and_eq_true, decide_eq_true_eq] at hd
                rw [← hgs, ← hcm] at hd
                omega
              clear hd htk hgs HI hcm
              rcases hor with h1 | ⟨h1, h2⟩
              · have ht1 : decide ((cm : Int) < 48) = true := by simp; omega
                clear h1
                go_wp2_with fail
                go_ret2
                exact ⟨by rw [HNQ.out]; rfl, Below.refl _ _⟩
              · have ht1 : decide ((cm : Int) < 48) = false := by simp; omega
                have ht2 : decide ((57 : Int) < (cm : Int)) = true := by simp; omega
                clear h1 h2
                go_wp2_with fail
                go_ret2
                exact ⟨by rw [HNQ.out]; rfl, Below.refl _ _⟩
          · obtain rfl : k = s.size := by omega
            have hkd : decide ((s.size : Int) < (s.size : Int)) = false := by simp
            have hi := HI.out
            rw [List.take_of_length_le (by have := HDS.out; omega)] at hi
            have hall : L.all dgB = true := List.all_eq_true.2 hi.2
            have HN := Lib.hid (signed_any (x : Int) (by omega) (by omega) w)
            have hneg := HNEG.out
            by_cases hq : Lib.itoa (x : Int) = L
            · have hn := valG_yes (neg := false) (w := L) HSH.out hall (by rw [if_neg (by decide), ← hi.1]; exact hq)
              rw [if_neg (by decide), ← hi.1] at hn
              have HNQ := Lib.hid hn
              have hst : str (Lib.itoa (x : Int)) = s := by rw [hq, HWQ.out]
              rw [hst] at HN
              clear hi hall hq hn hst HI
              go_wp2_with fail
              refine HN.out.mono ?_
              rintro e w1 ⟨rfl, hb⟩
              have HB1 := Lib.hid hb
              clear hb
              go_wp2_with fail
              go_ret2
              exact ⟨by rw [HNQ.out]; rfl, HB1.out⟩
            · have HNQ := Lib.hid (valG_no (neg := false) (w := L) HSH.out hall (by rw [if_neg (by decide), ← hi.1]; exact hq))
              have hst : str (Lib.itoa (x : Int)) ≠ s := fun e => hq (str_inj (e.trans HWQ.out.symm))
              have hnl := ne_list hst
              generalize str (Lib.itoa (x : Int)) = Z at *
              clear hi hall hq hst HI
              go_wp2_with fail
              refine HN.out.mono ?_
              rintro e w1 ⟨rfl, hb⟩
              have HB1 := Lib.hid hb
              clear hb
              go_wp2_with fail
              go_ret2
              exact ⟨by rw [HNQ.out]; rfl, HB1.out⟩
end Go.Proofs.YtnpldahkhaacnaaGreatDoor

/- Plain: the words of a line enter; the parts of a time. -/
namespace Go.Proofs.YtnpldahkhaacnaaGreatDoor
open Go.RowKit Go.Sort
set_option linter.unusedVariables false
set_option maxRecDepth 100000

theorem lastGo_digits : ∀ (k n : Nat) (s : List UInt8), (∀ c ∈ s, dgB c = true) → ∀ c ∈ lastGo k n s, dgB c = true := by
  intro k
  induction k with
  | zero => intro n s h; exact h
  | succ k ih =>
    intro n s h
    refine ih (n / 10) (dgt n :: s) ?_
    intro c hc
    rcases List.mem_cons.1 hc with rfl | hc
    · unfold dgB
      rw [dgt_nat]
      simp; omega
    · exact h c hc
theorem lastGo_val : ∀ (k n : Nat) (s : List UInt8), valL 0 (lastGo k n s) = valL (n % 10 ^ k) s := by
  intro k
  induction k with
  | zero => intro n s; rw [Nat.pow_zero, Nat.mod_one]; rfl
  | succ k ih =>
    intro n s
    show valL 0 (lastGo k (n / 10) (dgt n :: s)) = _
    rw [ih, valL_cons]
    congr 1
    unfold stepV
    rw [dgt_nat]
    have h1 : n % 10 ^ (k + 1) = 10 * (n / 10 % 10 ^ k) + n % 10 := by
      rw [Nat.pow_succ, Nat.mul_comm, Nat.mod_mul]
      omega
    rw [h1]
    omega
theorem dg_ne {c d : UInt8} (h : dgB c = true) (hd : dgB d = false) : c ≠ d := by
  rintro rfl
  rw [h] at hd
  cases hd
theorem time_noblank (t : Nat) : ∀ c ∈ timeL t, c ≠ 32 := by
  intro c hc
  unfold timeL at hc
  simp only [List.mem_append, List.mem_singleton] at hc
  rcases hc with (((h | h) | h) | h) | h
  · exact dec_noblank _ c h
  · rw [h]; decide
  · exact dg_ne (lastGo_digits 2 _ [] (by simp) c h) (by decide)
  · rw [h]; decide
  · exact dg_ne (lastGo_digits 3 _ [] (by simp) c h) (by decide)
theorem code_noblank (c : Int) : ∀ x ∈ codeL c, x ≠ 32 := by
  unfold codeL
  split
  · have h : ∀ k < 10, ∀ x ∈ codesL.getD k [], x ≠ 32 := by decide
    exact h c.toNat (by omega)
  · simp
def enterWord : List UInt8 := [101, 110, 116, 101, 114]
def enterX (r b c t : Int) : List (List UInt8) := [enterWord, dec r.toNat, dec b.toNat, codeL c] ++ (if c = 0 then [timeL t.toNat] else [])
theorem words_enter {r b c t : Int} (h : withinB r 0 11 = true ∧ finW b c t = true) : wordsL (enterS r b c t) = enterX r b c t := by
  unfold enterS
  rw [if_pos h]
  unfold finL enterX
  have e : [101, 110, 116, 101, 114, 32] ++ dec r.toNat ++ [32] ++ (dec b.toNat ++ [32] ++ codeL c ++ (if c = 0 then [32] ++ timeL t.toNat else [])) = enterWord ++ 32 :: (dec r.toNat ++ 32 :: (dec b.toNat ++ 32 :: (codeL c ++ (if c = 0 then [32] ++ timeL t.toNat else [])))) := by simp [enterWord]
  rw [e, wordsL_app _ (by decide), wordsL_app _ (dec_noblank _), wordsL_app _ (dec_noblank _)]
  split
  · show _ :: _ :: _ :: wordsL (codeL c ++ 32 :: timeL t.toNat) = _
    rw [wordsL_app _ (code_noblank c), wordsL_none (time_noblank _)]
    rfl
  · rw [List.append_nil, wordsL_none (code_noblank c)]
    rfl
/-! ### The parts of a time -/
theorem timeL_split (t : Nat) : timeL t = dec (t / 60000) ++ 58 :: (lastGo 2 (t / 1000 % 60) [] ++ 46 :: lastGo 3 t []) := by unfold timeL; simp
theorem decq_len {t : Nat} (h : t ≤ 1000000000) : 1 ≤ (dec (t / 60000)).length ∧ (dec (t / 60000)).length ≤ 5 := by
  refine ⟨?_, dec_len 4 _ (by omega)⟩
  have := dec_ne (t / 60000)
  cases hd : dec (t / 60000) with
  | nil => exact absurd hd this
  | cons c r => simp
theorem timeL_size (t : Nat) : (timeL t).length = (dec (t / 60000)).length + 7 := by
  rw [timeL_split]
  simp [lastGo_len]
theorem take_app {α : Type} {a b : List α} {n : Nat} (h : n = a.length) : (a ++ b).take n = a := by subst h; exact List.take_left
theorem drop_app {α : Type} {a b : List α} {n : Nat} (h : n = a.length) : (a ++ b).drop n = b := by subst h; exact List.drop_left
theorem time_front (t : Nat) : (timeL t).take ((timeL t).length - 7) = dec (t / 60000) := by
  rw [timeL_size, timeL_split]
  exact take_app (by omega)
theorem time_mid (t : Nat) : ((timeL t).drop ((timeL t).length - 6)).take 2 = lastGo 2 (t / 1000 % 60) [] := by
  rw [timeL_size, timeL_split]
  have e : dec (t / 60000) ++ 58 :: (lastGo 2 (t / 1000 % 60) [] ++ 46 :: lastGo 3 t []) = (dec (t / 60000) ++ [58]) ++ (lastGo 2 (t / 1000 % 60) [] ++ 46 :: lastGo 3 t []) := by simp
  rw [e, drop_app (by simp), take_app (by rw [lastGo_len]; rfl)]
theorem time_back (t : Nat) : (timeL t).drop ((timeL t).length - 3) = lastGo 3 t [] := by
  rw [timeL_size]
  unfold timeL
  exact drop_app (by simp [lastGo_len])
theorem time_five (t : Nat) : valL 0 (lastGo 2 (t / 1000 % 60) [] ++ lastGo 3 t []) = t % 60000 := by
  rw [valL_app, lastGo_val, valL_nil]
  have h : ∀ n, valL n (lastGo 3 t []) = 1000 * n + valL 0 (lastGo 3 t []) := by
    intro n
    show valL n [dgt (t / 10 / 10), dgt (t / 10), dgt t] = 1000 * n + valL 0 [dgt (t / 10 / 10), dgt (t / 10), dgt t]
    simp only [valL_cons, valL_nil, stepV]
    omega
  rw [h, lastGo_val, valL_nil]
  omega
/-- What is said of a time that was read. -/
def RTP (L : List UInt8) (t : Int) (ok : Bool) : Prop := (∀ t0 : Nat, t0 ≤ 1000000000 → L = timeL t0 → t = t0 ∧ ok = true) ∧ (ok = true → 0 ≤ t ∧ t ≤ 1000000000 ∧ L = timeL t.toNat)
theorem rtp_none {L : List UInt8} {t : Int} (h : ∀ t0 : Nat, t0 ≤ 1000000000 → L = timeL t0 → False) : RTP L t false := ⟨fun t0 h0 e => (h t0 h0 e).elim, fun h => by cases h⟩
theorem rtp_short {L : List UInt8} (h : L.length < 8 ∨ 12 < L.length) (t : Int) : RTP L t false := by
  refine rtp_none (fun t0 h0 e => ?_)
  have h1 := decq_len h0
  have h2 := timeL_size t0
  rw [← e] at h2
  omega
theorem rtp_digit {L D : List UInt8} (hD : D = (L.drop (L.length - 6)).take 2 ++ L.drop (L.length - 3)) (h : ¬ ∀ c ∈ D, dgB c = true) (t : Int) : RTP L t false := by
  refine rtp_none (fun t0 h0 e => ?_)
  apply h
  rw [hD, e, time_mid, time_back]
  intro c hc
  rcases List.mem_append.1 hc with hc | hc
  · exact lastGo_digits 2 _ [] (by simp) c hc
  · exact lastGo_digits 3 _ [] (by simp) c hc
theorem rtp_value {L : List UInt8} {t0 : Nat} (h0 : t0 ≤ 1000000000) (e : L = timeL t0) : valF (L.take (L.length - 7)) = (((t0 / 60000 : Nat) : Int), true) ∧ valL 0 ((L.drop (L.length - 6)).take 2 ++ L.drop (L.length - 3)) = t0 % 60000 := by
  rw [e, time_front, time_mid, time_back, time_five]
  exact ⟨valF_dec (by omega), rfl⟩
/-! ### The program's cut -/
theorem index_at : ∀ {a : List UInt8} (b : List UInt8), (∀ c ∈ a, c ≠ 58) → Lib.index (a ++ 58 :: b) [58] = a.length := by
  intro a
  induction a with
  | nil => intro b _; rfl
  | cons c a ih =>
    intro b h
    have hc := h c List.mem_cons_self
    show (if [58].isPrefixOf (c :: (a ++ 58 :: b)) then (0 : Int) else if Lib.index (a ++ 58 :: b) [58] == -1 then -1 else Lib.index (a ++ 58 :: b) [58] + 1) = _
    rw [ih b (fun d hd => h d (List.mem_cons_of_mem _ hd))]
    have h1 : [58].isPrefixOf (c :: (a ++ 58 :: b)) = false := by
      show ((58 : UInt8) == c && true) = false
      rw [Bool.and_true, beq_eq_false_iff_ne]
      exact fun e => hc e.symm
    have h2 : ((a.length : Int) == -1) = false := by rw [beq_eq_false_iff_ne]; omega
    rw [h1, h2]
    simp
theorem cut_time (t : Nat) : Lib.cut (timeL t) [58] = (dec (t / 60000), lastGo 2 (t / 1000 % 60) [] ++ 46 :: lastGo 3 t [], true) := by
  have hi : Lib.index (timeL t) [58] = ((dec (t / 60000)).length : Int) := by
    rw [timeL_split]
    exact index_at _ (fun c hc => dg_ne (dec_digits _ c hc) (by decide))
  unfold Lib.cut
  rw [hi, if_pos (by omega), timeL_split]
  have e : dec (t / 60000) ++ 58 :: (lastGo 2 (t / 1000 % 60) [] ++ 46 :: lastGo 3 t []) = (dec (t / 60000) ++ [58]) ++ (lastGo 2 (t / 1000 % 60) [] ++ 46 :: lastGo 3 t []) := by simp
  rw [take_app (by simp), e, drop_app (by simp)]
theorem atoi_two : ∀ k < 60, Lib.atoiAll (lastGo 2 k []) = .ok (k : Int) := by decide
theorem atoi_three (t : Nat) : Lib.atoiAll (lastGo 3 t []) = .ok ((t % 1000 : Nat) : Int) := by
  rw [lastGo_mod]
  have h : ∀ k < 1000, Lib.atoiAll (lastGo 3 k []) = .ok (k : Int) := by decide +kernel
  exact h _ (by omega)
end Go.Proofs.YtnpldahkhaacnaaGreatDoor

/- Walks: the text of any time, both sides; a time read by the reference. -/
namespace Go.Proofs.YtnpldahkhaacnaaGreatDoor
open Go.RowKit Go.Sort
set_option linter.unusedVariables false
set_option maxRecDepth 100000

def timeT (t : Int) : List UInt8 := if withinB t 0 1000000000 = true then timeL t.toNat else []
theorem specTimeT_any (t : Int) (w : World) :
    Calls Tryz.prog 227 #[.int .i64 t] w fun e w' => e = .returned (.string (str (timeT t))) ∧ Below w.heap.size w w' := by
  have HW := Lib.hid (l01In_any t 0 1000000000 w)
  cases h : withinB t 0 1000000000 with
  | false =>
    rw [h] at HW
    have HS := Lib.hid (show timeT t = [] from by unfold timeT; rw [h]; rfl)
    clear h
    go_enter Tryz.func227, Tryz.ntmps227
    go_wp2_with fail
    refine HW.out.mono ?_
    rintro e w' ⟨rfl, rfl⟩
    go_wp2_with fail
    go_ret
    exact ⟨by rw [HS.out]; rfl, Below.refl _ _⟩
  | true =>
    rw [h] at HW
    have hb := withinB_iff.1 h
    obtain ⟨n, rfl⟩ := int_up t hb.1
    have HS := Lib.hid (show timeT (n : Int) = timeL n from by unfold timeT; rw [h]; rfl)
    have HN := Lib.hid (fun w' => specTime_any n (by omega) w')
    clear h hb
    go_enter Tryz.func227, Tryz.ntmps227
    go_wp2_with fail
    refine HW.out.mono ?_
    rintro e w' ⟨rfl, rfl⟩
    go_wp2_with fail
    refine (HN.out _).mono ?_
    rintro e w1 ⟨rfl, hb⟩
    have HB1 := Lib.hid hb
    clear hb
    go_wp2_with fail
    go_ret
    exact ⟨by rw [HS.out]; rfl, HB1.out⟩
theorem implTimeT_any (t : Int) (w : World) (ht : ∀ w', Below w.heap.size w w' → Pow w') :
    Calls Tryz.prog 63 #[.int .i64 t] w fun e w' => e = .returned (.string (str (timeT t))) ∧ Below w.heap.size w w' := by
  cases h : withinB t 0 1000000000 with
  | false =>
    have HW := Lib.hid (isTime_any t w)
    rw [h] at HW
    have HS := Lib.hid (show timeT t = [] from by unfold timeT; rw [h]; rfl)
    clear h ht
    go_enter Tryz.func63, Tryz.ntmps63
    go_wp2_with fail
    refine HW.out.mono ?_
    rintro e w' ⟨rfl, rfl⟩
    go_wp2_with fail
    go_ret
    exact ⟨by rw [HS.out]; rfl, Below.refl _ _⟩
  | true =>
    have hb := withinB_iff.1 h
    obtain ⟨n, rfl⟩ := int_up t hb.1
    rw [show timeT (n : Int) = timeL n from by unfold timeT; rw [h]; rfl]
    exact implTime_any n (by omega) w ht
/-- A time read: something, which is the time where the text is one's. -/
def RetRT (w : World) (L : List UInt8) (e : Ending) (w' : World) : Prop :=
  ∃ t ok, e = .returned (.tuple #[.int .i64 t, .bool ok]) ∧ RTP L t ok ∧ Below w.heap.size w w'
theorem timeT_at {L : List UInt8} {t : Int} (hL : L ≠ []) (h : timeT t = L) : 0 ≤ t ∧ t ≤ 1000000000 ∧ L = timeL t.toNat := by
  unfold timeT at h
  split at h
  · rename_i hw
    have := withinB_iff.1 hw
    exact ⟨this.1, this.2, h.symm⟩
  · exact absurd h.symm hL
theorem rtp_end {L : List UInt8} (hL : L ≠ []) {D : List UInt8} {m t : Int} {ok : Bool} (hD : D = (L.drop (L.length - 6)).take 2 ++ L.drop (L.length - 3)) (hv : valF (L.take (L.length - 7)) = (m, ok)) (ht : t = wrap64 (wrap64 (60000 * m) + (valL 0 D : Int))) {b : Bool} (hb : b = (ok && decide (timeT t = L))) {t' : Int} (ht' : b = true → t' = t) : RTP L t' b := by
  refine ⟨?_, fun h => ?_⟩
  rotate_left
  · have h2 := h
    rw [hb] at h2
    simp only [Bool.and_eq_true, decide_eq_true_eq] at h2
    rw [ht' h]
    exact timeT_at hL h2.2
  intro t0 h0 e
  obtain ⟨q1, q2⟩ := rtp_value h0 e
  rw [← hD] at q2
  rw [hv] at q1
  injection q1 with q1 q3
  have hm : wrap64 (60000 * m) = 60000 * m := IntWalk.wrap64_in _ (by omega)
  have ht1 : t = t0 := by
    rw [ht, hm, IntWalk.wrap64_in _ (by omega)]
    omega
  have hT : timeT t = L := by
    rw [ht1, e]
    unfold timeT
    rw [if_pos (withinB_iff.2 (by omega))]
    rfl
  have hbt : b = true := by rw [hb, q3, hT]; simp
  exact ⟨(ht' hbt).trans ht1, hbt⟩
set_option maxHeartbeats 4000000 in
theorem specReadTime_any (s : ByteArray) (hs : s.size ≤ 2097152) (w : World) :
    Calls Tryz.prog 157 #[.string s] w (RetRT w s.data.toList) := by
  have hsz := Lib.size_eq s
  by_cases hn : s.size < 8 ∨ 12 < s.size
  · have HR := Lib.hid (rtp_short (L := s.data.toList) (by omega) 0)
    clear hsz
    rcases hn with h1 | h1
    · have e1 : decide ((s.size : Int) < 8) = true := by simp; omega
      clear h1
      go_enter Tryz.func157, Tryz.ntmps157
      go_wp2_with fail
      go_ret2
      exact ⟨0, false, rfl, HR.out, Below.refl _ _⟩
    · have e1 : decide ((s.size : Int) < 8) = false := by simp; omega
      have e2 : decide ((12 : Int) < (s.size : Int)) = true := by simp; omega
      clear h1
      go_enter Tryz.func157, Tryz.ntmps157
      go_wp2_with fail
      go_ret2
      exact ⟨0, false, rfl, HR.out, Below.refl _ _⟩
  · have e1 : decide ((s.size : Int) < 8) = false := by simp; omega
    have e2 : decide ((12 : Int) < (s.size : Int)) = false := by simp; omega
    have h8 : 8 ≤ s.size := by omega
    have h12 : s.size ≤ 12 := by omega
    have HSZ := Lib.hid hsz
    clear hn hsz
    go_enter Tryz.func157, Tryz.ntmps157
    go_wp2_with fail
    have q6 : IntKind.i64.wrap ((s.size : Int) - 6) = ((s.size - 6 : Nat) : Int) := by rw [IntWalk.i64_in _ (by omega)]; omega
    have q4 : IntKind.i64.wrap ((s.size : Int) - 4) = ((s.size - 4 : Nat) : Int) := by rw [IntWalk.i64_in _ (by omega)]; omega
    have q3 : IntKind.i64.wrap ((s.size : Int) - 3) = ((s.size - 3 : Nat) : Int) := by rw [IntWalk.i64_in _ (by omega)]; omega
    have hx : s.extract (s.size - 6) (s.size - 4) ++ s.extract (s.size - 3) s.size = str ((s.data.toList.drop (s.data.toList.length - 6)).take 2 ++ s.data.toList.drop (s.data.toList.length - 3)) := by
      rw [extract_str s _ _ (by omega), extract_str s _ _ (Nat.le_refl _), str_add, ← HSZ.out, show s.size - 4 - (s.size - 6) = 2 from by omega]
      rw [List.take_of_length_le (l := s.data.toList.drop (s.size - 3)) (by rw [List.length_drop, ← HSZ.out]; exact Nat.le_refl _)]
    have hLne : s.data.toList ≠ [] := by intro h; have h2 := HSZ.out; rw [h, List.length_nil] at h2; omega
    have hdl : ((s.data.toList.drop (s.data.toList.length - 6)).take 2 ++ s.data.toList.drop (s.data.toList.length - 3)).length = 5 := by
      rw [List.length_append, List.length_take, List.length_drop, List.length_drop, ← HSZ.out]
      omega
    have HRD := Lib.hid (fun t => rtp_digit (L := s.data.toList) (t := t) rfl)
    have HRE := Lib.hid (fun m t ok hv ht b hb t' ht' => rtp_end (L := s.data.toList) hLne (m := m) (t := t) (ok := ok) rfl hv ht (b := b) hb (t' := t') ht')
    obtain ⟨D, hD⟩ : ∃ D, D = (s.data.toList.drop (s.data.toList.length - 6)).take 2 ++ s.data.toList.drop (s.data.toList.length - 3) := ⟨_, rfl⟩
    rw [← hD] at hx hdl HRD HRE
    have HX := Lib.hid hx
    have HDL := Lib.hid hdl
    have hx7 : s.extract 0 (s.size - 7) = str (s.data.toList.take (s.data.toList.length - 7)) := by
      rw [extract_str s _ _ (by omega), List.drop_zero, ← HSZ.out]
      rfl
    have HX7 := Lib.hid hx7
    have HV := Lib.hid (fun w' => value_any (str (s.data.toList.take (s.data.toList.length - 7))) (by rw [str_size, List.length_take, ← HSZ.out]; omega) w')
    rw [str_list] at HV
    obtain ⟨L, hL⟩ : ∃ L, L = s.data.toList := ⟨_, rfl⟩
    rw [← hL] at HV HX7 HRD HRE ⊢
    have HLS := Lib.hid (show str L = s from by rw [hL, str_data])
    have HLE := Lib.hid hL
    clear hx hdl hD hx7 hL HSZ hLne
    go_region
    go_wp2_with fail
    rw [HX.out]
    have HDT := Lib.hid (str_list D)
    have hS5 : (str D).size = 5 := by rw [str_size, HDL.out]
    generalize str D = S at *
    have HS5 := Lib.hid hS5
    have HB0 := Lib.hid (below_drewN (Below.refl w.heap.size w) 1)
    clear q6 q4 q3 e1 e2 HX
    go_loop [6, 7] (fun n i => ∃ (k x : Nat), k ≤ 5 ∧ x < 100000 ∧ i = .int .i64 k ∧ n = .int .i64 x ∧ Hid (x = valL 0 (D.take k) ∧ ∀ c ∈ D.take k, dgB c = true)) (fun _ i => 5 - (intOf i).toNat)
    case atStart => exact ⟨0, 0, Nat.zero_le _, by omega, rfl, rfl, Lib.hid ⟨by rw [List.take_zero, valL_nil], by simp⟩⟩
    case round =>
      obtain ⟨k, x, hk, hx, rfl, rfl, HI⟩ := hrel
      by_cases hlt : k < 5
      · have hkd : decide ((k : Int) < 5) = true := by simp; omega
        have hkL : k < D.length := by have := HDL.out; omega
        have hkS : k < S.size := by omega
        have hgs : S[k] = D[k] := by
          have h1 := HDT.out
          subst h1
          rfl
        have htk : D.take (k + 1) = D.take k ++ [D[k]] := by rw [List.take_add_one, List.getElem?_eq_getElem hkL]; rfl
        obtain ⟨cm, hcm⟩ : ∃ cm, cm = (S[k]).toNat := ⟨_, rfl⟩
        by_cases hd : dgB D[k] = true
        · have hd0 := hd
          unfold dgB at hd0
          simp only [Bool.and_eq_true, decide_eq_true_eq] at hd0
          rw [← hgs, ← hcm] at hd0
          have hall : ∀ c ∈ D.take (k + 1), dgB c = true := by
            rw [htk]
            intro c hc
            rcases List.mem_append.1 hc with hc | hc
            · exact HI.out.2 c hc
            · rw [List.mem_singleton.1 hc]; exact hd
          have hval : valL 0 (D.take (k + 1)) = 10 * x + (cm - 48) := by
            rw [htk, valL_snoc1, ← HI.out.1, ← hgs]
            unfold stepV
            rw [← hcm]
          have hlt2 := valL_lt (D.take (k + 1)) 0 hall
          have hpow : 10 ^ (D.take (k + 1)).length ≤ 10 ^ 5 := Nat.pow_le_pow_right (by decide) (by rw [List.length_take]; omega)
          rw [hval] at hlt2
          have hx2 : 10 * x + (cm - 48) < 100000 := by
            have e : (10 : Nat) ^ 5 = 100000 := by decide
            rw [e] at hpow
            omega
          have HI2 := Lib.hid (show 10 * x + (cm - 48) = valL 0 (D.take (k + 1)) ∧ ∀ c ∈ D.take (k + 1), dgB c = true from ⟨hval.symm, hall⟩)
          obtain ⟨hd1, hd2⟩ := hd0
          have hcm2 : (S[k]).toNat = cm := hcm.symm
          have ht1 : decide ((cm : Int) < 48) = false := by simp; omega
          have ht2 : decide ((57 : Int) < (cm : Int)) = false := by simp; omega
          clear hd hall hval hlt2 hpow htk hgs HI hcm hS5
          go_wp2_with fail
          go_round
          case rel => exact ⟨k + 1, 10 * x + (cm - 48), by omega, hx2, by go_num, by go_num, HI2⟩
          case measure => simp [intOf] <;> omega
        · have HNQ := Lib.hid (HRD.out 0 (fun hall => hd (hall _ (List.getElem_mem hkL))))
          have hcm2 : (S[k]).toNat = cm := hcm.symm
          have hor : cm < 48 ∨ (¬ cm < 48 ∧ 57 < cm) := by
            unfold dgB at hd
            simp only [Bool.and_eq_true, decide_eq_true_eq] at hd
            rw [← hgs, ← hcm] at hd
            omega
          clear hd htk hgs HI hcm hS5
          rcases hor with h1 | ⟨h1, h2⟩
          · have ht1 : decide ((cm : Int) < 48) = true := by simp; omega
            clear h1
            go_wp2_with fail
            go_ret2
            exact ⟨0, false, rfl, by rw [← HLE.out]; exact HNQ.out, HB0.out⟩
          · have ht1 : decide ((cm : Int) < 48) = false := by simp; omega
            have ht2 : decide ((57 : Int) < (cm : Int)) = true := by simp; omega
            clear h1 h2
            go_wp2_with fail
            go_ret2
            exact ⟨0, false, rfl, by rw [← HLE.out]; exact HNQ.out, HB0.out⟩
      · obtain rfl : k = 5 := by omega
        have hi := HI.out
        rw [List.take_of_length_le (by have := HDL.out; omega)] at hi
        have hxv := hi.1
        generalize hvf : valF (L.take (L.length - 7)) = r at *
        obtain ⟨m, ok⟩ := r
        simp only at HV
        have HE := Lib.hid (HRE.out m _ ok rfl rfl)
        rw [← hxv] at HE
        clear hi hxv HI hS5 HRE HRD hvf
        have HT := Lib.hid (fun t w' => specTimeT_any t w')
        go_wp2_with fail
        rw [HX7.out]
        refine (HV.out _).mono ?_
        rintro e w1 ⟨rfl, hb⟩
        have HB1 := Lib.hid (HB0.out.trans (hb.mono HB0.out.size))
        clear hb HB0
        cases ok with
        | false =>
          go_wp2_with fail
          go_ret2
          exact ⟨0, false, rfl, by rw [← HLE.out]; exact HE.out false (by rw [Bool.false_and]) 0 (fun h => by cases h), HB1.out⟩
        | true =>
          go_wp2_with fail
          generalize wrap64 (wrap64 (60000 * m) + (x : Int)) = T at *
          refine (HT.out _ _).mono ?_
          rintro e w2 ⟨rfl, hb⟩
          have HB2 := Lib.hid (HB1.out.trans (hb.mono HB1.out.size))
          clear hb HB1 HX7 HV HT HDT HDL
          by_cases hq : timeT T = L
          · have HR := Lib.hid (HE.out true (by rw [Bool.true_and, hq]; simp) T (fun _ => rfl))
            have hst : str (timeT T) = s := by rw [hq, HLS.out]
            rw [hst]
            clear hq hst HE
            go_wp2_with fail
            go_ret2
            exact ⟨T, true, rfl, by rw [← HLE.out]; exact HR.out, HB2.out⟩
          · have HR := Lib.hid (HE.out false (by rw [Bool.true_and]; simp [hq]) 0 (fun h => by cases h))
            have hst : str (timeT T) ≠ s := fun e => hq (str_inj (e.trans HLS.out.symm))
            have hnl := ne_list hst
            generalize str (timeT T) = Z at *
            clear hq hst HE
            go_wp2_with fail
            go_ret2
            exact ⟨0, false, rfl, by rw [← HLE.out]; exact HR.out, HB2.out⟩
end Go.Proofs.YtnpldahkhaacnaaGreatDoor

/- Plain: a sorted list of entries shows whether two of them have one key. -/
namespace Go.Proofs.YtnpldahkhaacnaaGreatDoor
open Go.RowKit
set_option linter.unusedVariables false

theorem sameB_symm {x y : EntryT} (h : sameB x y = false) : sameB y x = false := by
  cases hs : sameB y x with
  | false => rfl
  | true =>
    have := sameB_iff.1 hs
    rw [sameB_iff.2 ⟨this.1.symm, this.2.1.symm, this.2.2.symm⟩] at h
    exact h
theorem adj_sorted : ∀ (ys : List EntryT), (ys.Pairwise fun x y => keyE x ≤ keyE y) → (∀ x ∈ ys, okE x) → (adjGo ys = false ↔ ys.Pairwise fun x y => sameB x y = false) := by
  intro ys
  induction ys with
  | nil => intro _ _; simp [adjGo]
  | cons x r ih =>
    intro hs hok
    match r, ih, hs, hok with
    | [], _, _, _ => simp [adjGo]
    | y :: r, ih, hs, hok =>
      have hs2 := (List.pairwise_cons.1 hs).2
      have hi := ih hs2 (fun z hz => hok z (.tail _ hz))
      rw [adjGo, Bool.or_eq_false_iff, hi, List.pairwise_cons (a := x)]
      constructor
      · rintro ⟨h1, h2⟩
        refine ⟨fun z hz => ?_, h2⟩
        rcases List.mem_cons.1 hz with rfl | hz
        · exact sameB_symm h1
        · have hxy := (List.pairwise_cons.1 hs).1 y (.head _)
          have hyz := (List.pairwise_cons.1 hs2).1 z hz
          cases hq : sameB x z with
          | false => rfl
          | true =>
            have hk := (key_same (hok x (.head _)) (hok z (.tail _ (.tail _ hz)))).2 hq
            have hk2 : keyE y = keyE x := by omega
            rw [(key_same (hok y (.tail _ (.head _))) (hok x (.head _))).1 hk2] at h1
            exact h1
      · rintro ⟨h1, h2⟩
        exact ⟨sameB_symm (h1 y (.head _)), h2⟩
theorem adj_perm {xs ys : List EntryT} (hp : ys.Perm xs) (hs : ys.Pairwise fun x y => keyE x ≤ keyE y) (hok : ∀ x ∈ xs, okE x) : adjGo ys = false ↔ xs.Pairwise fun x y => sameB x y = false :=
  (adj_sorted ys hs (fun x hx => hok x (hp.mem_iff.1 hx))).trans (hp.pairwise_iff (fun h => sameB_symm h))
/-- All entries are valid. -/
def allE (b : Int) (xs : List EntryT) : Bool := xs.all fun x => entB b x && revB (E.rev x)
theorem allE_iff {b : Int} {xs : List EntryT} : allE b xs = true ↔ ∀ x ∈ xs, entB b x = true ∧ revB (E.rev x) = true := by
  unfold allE; simp [List.all_eq_true]
theorem allE_cons (b : Int) (x : EntryT) (xs : List EntryT) : allE b (x :: xs) = ((entB b x && revB (E.rev x)) && allE b xs) := rfl
theorem regB_not_all {b s : Int} {xs : List EntryT} (h : allE b xs = false) : regB b s xs = false := by
  cases hr : regB b s xs with
  | false => rfl
  | true =>
    unfold regB at hr
    simp only [Bool.and_eq_true] at hr
    rw [allE_iff.2 ((entsGo_iff b xs []).1 hr.2).1] at h
    exact h
theorem allE_ok {b : Int} {xs : List EntryT} (hb : b ≤ 16) (h : allE b xs = true) : ∀ x ∈ xs, okE x := fun x hx => by
  obtain ⟨h1, h2⟩ := allE_iff.1 h x hx
  have h3 := withinB_iff.1 h2
  exact entB_okE hb h1 h3.1 h3.2
theorem regB_all {b s : Int} {xs ys : List EntryT} (h1 : withinB b 1 16 = true) (h2 : withinB s 0 1 = true) (h3 : xs.length ≤ 400) (h4 : allE b xs = true) (hp : ys.Perm xs) (hs : ys.Pairwise fun x y => keyE x ≤ keyE y) : regB b s xs = !adjGo ys := by
  have hi := adj_perm hp hs (allE_ok (withinB_iff.1 h1).2 h4)
  unfold regB
  rw [h1, h2, decide_eq_true h3, Bool.true_and, Bool.true_and, Bool.true_and]
  have he := entsGo_iff b xs []
  cases ha : adjGo ys with
  | false => exact he.2 ⟨allE_iff.1 h4, fun x _ y hy => (by cases hy), hi.1 ha⟩
  | true =>
    cases hg : entsGo b [] xs with
    | false => rfl
    | true => rw [hi.2 (he.1 hg).2.2] at ha; exact ha.symm
theorem RegOk.okE {b s : Int} {xs : List EntryT} (h : RegOk b s xs) : ∀ x ∈ xs, okE x := fun x hx => by
  obtain ⟨h1, h2, h3⟩ := h.ent x hx
  exact entB_okE h.b2 h1 h2 h3
end Go.Proofs.YtnpldahkhaacnaaGreatDoor

/- Plain: histories of a boat in a race: sorted, by insertion; current entries. -/
namespace Go.Proofs.YtnpldahkhaacnaaGreatDoor
open Go.RowKit
set_option linter.unusedVariables false

theorem ofKey_mem {race boat : Int} {xs : List EntryT} {x : EntryT} : x ∈ ofKey race boat xs ↔ x ∈ xs ∧ E.race x = race ∧ E.boat x = boat := by
  unfold ofKey
  simp [List.mem_filter]
theorem ofKey_rev {xs : List EntryT} (h : xs.Pairwise fun x y => sameB x y = false) (race boat : Int) : (ofKey race boat xs).Pairwise fun x y => E.rev x ≠ E.rev y :=
  (List.Pairwise.filter (fun x => E.race x == race && E.boat x == boat) h).imp_of_mem (fun {a b} ha hb hab he => by
    have h1 := (ofKey_mem.1 ha).2
    have h2 := (ofKey_mem.1 hb).2
    rw [sameB_iff.2 ⟨h1.1.trans h2.1.symm, h1.2.trans h2.2.symm, he⟩] at hab
    cases hab)
theorem lt_of {ys : List EntryT} (h1 : ys.Pairwise fun x y => E.rev x ≤ E.rev y) (h2 : ys.Pairwise fun x y => E.rev x ≠ E.rev y) : ys.Pairwise fun x y => E.rev x < E.rev y :=
  (h1.and h2).imp (fun {a b} h => by omega)
theorem hist_sorted {xs : List EntryT} (h : xs.Pairwise fun x y => sameB x y = false) (race boat : Int) : (histF xs race boat).Pairwise fun x y => E.rev x < E.rev y := by
  refine lt_of ?_ ?_
  · have hs := List.pairwise_mergeSort (le := fun x y : EntryT => decide (E.rev x ≤ E.rev y)) (fun a b c h1 h2 => by simp at h1 h2 ⊢; omega) (fun a b => by simp; omega) (ofKey race boat xs)
    exact hs.imp (fun {a b} h => by simpa using h)
  · exact ((List.mergeSort_perm (ofKey race boat xs) _).pairwise_iff (fun {a b} h => h.symm)).2 (ofKey_rev h race boat)
theorem hist_perm (xs : List EntryT) (race boat : Int) : (histF xs race boat).Perm (ofKey race boat xs) := List.mergeSort_perm _ _
theorem hist_uniq {xs ys : List EntryT} {race boat : Int} (h : xs.Pairwise fun x y => sameB x y = false) (hp : ys.Perm (ofKey race boat xs)) (hs : ys.Pairwise fun x y => E.rev x < E.rev y) : ys = histF xs race boat :=
  sorted_uniq (hp.trans (hist_perm xs race boat).symm) hs (hist_sorted h race boat)
/-- What the library's sort leaves is the history. -/
theorem hist_sort {xs ys : List EntryT} {race boat : Int} (h : xs.Pairwise fun x y => sameB x y = false) (hp : ys.Perm (ofKey race boat xs)) (hs : ys.Pairwise fun x y => keyE x ≤ keyE y) : ys = histF xs race boat := by
  refine hist_uniq h hp (lt_of (hs.imp_of_mem (fun {a b} ha hb hab => ?_)) ((hp.pairwise_iff (fun {a b} h => h.symm)).2 (ofKey_rev h race boat)))
  have h1 := (ofKey_mem.1 (hp.mem_iff.1 ha)).2
  have h2 := (ofKey_mem.1 (hp.mem_iff.1 hb)).2
  unfold keyE at hab
  omega
theorem hist_mem {xs : List EntryT} {race boat : Int} {x : EntryT} : x ∈ histF xs race boat ↔ x ∈ xs ∧ E.race x = race ∧ E.boat x = boat :=
  (hist_perm xs race boat).mem_iff.trans ofKey_mem
theorem hist_len (xs : List EntryT) (race boat : Int) : (histF xs race boat).length ≤ xs.length := by
  rw [(hist_perm xs race boat).length_eq]
  exact List.length_filter_le _ _
theorem ofKey_snoc (race boat : Int) (xs : List EntryT) (x : EntryT) : ofKey race boat (xs ++ [x]) = ofKey race boat xs ++ (if (E.race x == race && E.boat x == boat) = true then [x] else []) := by
  unfold ofKey
  rw [List.filter_append]
  congr 1
  simp only [List.filter_cons, List.filter_nil]
theorem ofKey_len (race boat : Int) (xs : List EntryT) : (ofKey race boat xs).length ≤ xs.length := List.length_filter_le _ _
/-- A sorted list of the key's entries among the first i. -/
def Ins (xs : List EntryT) (race boat : Int) (i : Nat) (out : List EntryT) : Prop := out.Perm (ofKey race boat (xs.take i)) ∧ out.Pairwise fun x y => E.rev x < E.rev y
theorem Ins.zero (xs : List EntryT) (race boat : Int) : Ins xs race boat 0 [] := ⟨List.Perm.refl _, List.Pairwise.nil⟩
theorem take_snoc {xs : List EntryT} {i : Nat} {x : EntryT} (hx : xs[i]? = some x) : xs.take (i + 1) = xs.take i ++ [x] := by
  rw [List.take_add_one, hx]; rfl
theorem Ins.skip {xs out : List EntryT} {race boat : Int} {i : Nat} {x : EntryT} (h : Ins xs race boat i out) (hx : xs[i]? = some x) (hk : (E.race x == race && E.boat x == boat) = false) : Ins xs race boat (i + 1) out := by
  refine ⟨?_, h.2⟩
  rw [take_snoc hx, ofKey_snoc, hk, if_neg (by simp), List.append_nil]
  exact h.1
theorem Ins.len {xs out : List EntryT} {race boat : Int} {i : Nat} (h : Ins xs race boat i out) : out.length ≤ i := by
  rw [h.1.length_eq]
  exact Nat.le_trans (ofKey_len _ _ _) (by rw [List.length_take]; omega)
theorem Ins.put {xs out : List EntryT} {race boat : Int} {i at_ : Nat} {x : EntryT} (hkeys : xs.Pairwise fun x y => sameB x y = false) (h : Ins xs race boat i out) (hx : xs[i]? = some x) (hr : E.race x = race) (hb : E.boat x = boat)
    (hat : at_ ≤ out.length) (hgt : ∀ z ∈ out.drop at_, E.rev x < E.rev z) (hle : ∀ y, 0 < at_ → out[at_ - 1]? = some y → E.rev y ≤ E.rev x) : Ins xs race boat (i + 1) (out.take at_ ++ [x] ++ out.drop at_) := by
  have hil : i < xs.length := (List.getElem?_eq_some_iff.1 hx).1
  have hne : ∀ z ∈ out, E.rev z ≠ E.rev x := fun z hz he => by
    have hm := ofKey_mem.1 (h.1.mem_iff.1 hz)
    have hs : (xs.take i ++ xs.drop i).Pairwise fun x y => sameB x y = false := by rw [List.take_append_drop]; exact hkeys
    have hd : x ∈ xs.drop i := by
      rw [List.drop_eq_getElem_cons hil]
      rw [List.getElem?_eq_getElem hil] at hx
      injection hx with hx
      rw [hx]; exact .head _
    have hq := (List.pairwise_append.1 hs).2.2 z hm.1 x hd
    rw [sameB_iff.2 ⟨hm.2.1.trans hr.symm, hm.2.2.trans hb.symm, he⟩] at hq
    cases hq
  constructor
  · rw [take_snoc hx, ofKey_snoc, hr, hb]
    simp only [BEq.rfl, Bool.and_self, if_true]
    have h1 : (out.take at_ ++ [x] ++ out.drop at_).Perm (out ++ [x]) := by
      have h2 : (out.take at_ ++ ([x] ++ out.drop at_)).Perm (out.take at_ ++ (out.drop at_ ++ [x])) := List.Perm.append_left _ List.perm_append_comm
      rw [← List.append_assoc, ← List.append_assoc, List.take_append_drop] at h2
      exact h2
    exact h1.trans (List.Perm.append_right _ h.1)
  · have hs : (out.take at_ ++ out.drop at_).Pairwise fun x y => E.rev x < E.rev y := by rw [List.take_append_drop]; exact h.2
    obtain ⟨s1, s2, s3⟩ := List.pairwise_append.1 hs
    rw [List.append_assoc, List.pairwise_append]
    refine ⟨s1, List.pairwise_cons.2 ⟨hgt, s2⟩, fun a ha b hb' => ?_⟩
    rcases List.mem_cons.1 hb' with rfl | hb'
    · by_cases h0 : at_ = 0
      · subst h0; simp at ha
      · have hlt : at_ - 1 < out.length := by omega
        have hy := hle _ (by omega) (List.getElem?_eq_getElem hlt)
        have hne' := hne _ (List.getElem_mem hlt)
        have ht : out.take at_ = out.take (at_ - 1) ++ [out[at_ - 1]] := by
          conv => lhs; rw [show at_ = at_ - 1 + 1 by omega]
          exact take_snoc (List.getElem?_eq_getElem hlt)
        rw [ht] at ha s1
        rcases List.mem_append.1 ha with ha | ha
        · have := (List.pairwise_append.1 s1).2.2 a ha _ (.head _)
          omega
        · have : a = out[at_ - 1] := by simpa using ha
          rw [this]; omega
    · exact s3 a ha b hb'
theorem Ins.done {xs out : List EntryT} {race boat : Int} (hkeys : xs.Pairwise fun x y => sameB x y = false) (h : Ins xs race boat xs.length out) : out = histF xs race boat :=
  hist_uniq hkeys (by have := h.1; rwa [List.take_length] at this) h.2
/-! ### Current entries -/
def lastL (l : List EntryT) : List EntryT := l.getLast?.toList
def rowC (xs : List EntryT) (race : Int) (k : Nat) : List EntryT := (List.range k).flatMap fun (b : Nat) => lastL (histF xs race (b : Int))
def currC (xs : List EntryT) (b r : Nat) : List EntryT := (List.range r).flatMap fun (race : Nat) => rowC xs (race : Int) b
def currF (b : Int) (xs : List EntryT) : List EntryT := currC xs b.toNat 12
theorem rowC_succ (xs : List EntryT) (race : Int) (k : Nat) : rowC xs race (k + 1) = rowC xs race k ++ lastL (histF xs race (k : Int)) := by
  unfold rowC; rw [List.range_succ, List.flatMap_append]; simp
theorem currC_succ (xs : List EntryT) (b r : Nat) : currC xs b (r + 1) = currC xs b r ++ rowC xs (r : Int) b := by
  unfold currC; rw [List.range_succ, List.flatMap_append]; simp
theorem lastL_len (l : List EntryT) : (lastL l).length ≤ 1 := by
  unfold lastL
  cases l.getLast? <;> simp
theorem lastL_nil : lastL [] = [] := rfl
theorem lastL_some {l : List EntryT} {x : EntryT} (h : l[l.length - 1]? = some x) : lastL l = [x] := by
  unfold lastL
  rw [List.getLast?_eq_getElem?, h]; rfl
theorem rowC_len (xs : List EntryT) (race : Int) : ∀ k, (rowC xs race k).length ≤ k := by
  intro k
  induction k with
  | zero => simp [rowC]
  | succ k ih =>
    rw [rowC_succ, List.length_append]
    have := lastL_len (histF xs race (k : Int))
    omega
theorem currC_len (xs : List EntryT) (b : Nat) : ∀ r, (currC xs b r).length ≤ r * b := by
  intro r
  induction r with
  | zero => simp [currC]
  | succ r ih =>
    rw [currC_succ, List.length_append, Nat.succ_mul]
    have := rowC_len xs (r : Int) b
    omega
end Go.Proofs.YtnpldahkhaacnaaGreatDoor

/- Walks: drawn standings (chapter 31). -/
import Derived.Test.YtfkllgnenbbccaaWx3
namespace Go.Proofs.Ytfkllgnenbbccaa
open Go.RowKit
set_option linter.unusedVariables false
set_option maxRecDepth 100000

def ordD (code : List Int) (N : Int) (s : St) : List Int × St := if N < 0 then ([], s) else orderD code N.toNat s
theorem ordD_any (w0 : World) (A : Option Addr) (n cap : Nat) (code : List Int) (hcode : Code0 w0 A n code) (g : Nat) (s : St) (N : Int) (hN0 : -10 ≤ N) (hN : N ≤ 1000) (w : World) (h : Src w0 w A n cap code g s) :
    Calls Try.prog 61 #[.pointer (some ⟨g, 0, none⟩), .int .i64 N] w (RetD w0 w A n cap code g (ordD code N s)) := by
  unfold ordD
  by_cases hneg : N < 0
  · rw [if_pos hneg]
    have HS := Lib.hid (h.alloc (.cells #[] 2))
    clear h
    go_enter Try.func61, Try.ntmps61
    go_wp2_with fail
    go_loop [5, 6] (fun s5 s6 => s5 = .slice (some ⟨w.heap.size, 0, none⟩) 0 0 ∧ s6 = .int .i64 0) (fun _ _ => 0)
    case atStart => exact ⟨rfl, rfl⟩
    case round =>
      obtain ⟨rfl, rfl⟩ := hrel
      have hd : ¬ (0 : Int) < N := by omega
      go_wp2_with fail
      go_ret
      exact ⟨_, 0, 0, rfl, own_empty _ _ _ (Nat.le_refl _), HS.out, chg_alloc (Chg.refl _ _ _) _⟩
  · rw [if_neg hneg]
    obtain ⟨m, rfl⟩ := int_up N (by omega)
    rw [Int.toNat_natCast]
    exact orderD_any w0 A n cap code hcode g s m (by omega) w h
def stX (code : List Int) (O : List Int × St) : List Int :=
  if O.1.length = 0 then O.1 else if (nextF code O.2 16).1 = 0 then O.1.set 0 (O.1.getD (O.1.length - 1) 0) else O.1
def stD (code : List Int) (m : Nat) : List Int :=
  stX (2 :: code) (ordD (2 :: code) ((m : Int) + (nextF (2 :: code) (fromF (2 :: code)) 5).1 - (nextF (2 :: code) (nextF (2 :: code) (fromF (2 :: code)) 5).2 24).1 / 23) (nextF (2 :: code) (nextF (2 :: code) (fromF (2 :: code)) 5).2 24).2)
theorem ordD_len (code : List Int) (N : Int) (s : St) (hN : N ≤ 20) : (ordD code N s).1.length ≤ 20 := by
  unfold ordD
  split
  · simp
  · rw [orderD_len]; omega
def RetM6 (w : World) (st : List Int) (D : List Int × Int × List Int × Int) (e : Ending) (w' : World) : Prop :=
  ∃ A0 n0 c0 A1 n1 c1 A2 n2 c2, e = .returned (.tuple #[.slice A0 n0 c0, .slice A1 n1 c1, .int .i64 D.2.1, .slice A2 n2 c2]) ∧ w'.ownsRow w.heap.size 2 1 (.slice A0 n0 c0) n0 (ints st) ∧ n0 ≤ c0 ∧ n0 ≤ 20 ∧
    w'.ownsRow w.heap.size 2 1 (.slice A1 n1 c1) n1 (ints D.1) ∧ w'.ownsRow w.heap.size 2 1 (.slice A2 n2 c2) n2 (ints D.2.2.1) ∧ n1 ≤ 6 ∧ n2 ≤ 6 ∧ Below w.heap.size w w'
set_option maxHeartbeats 4000000 in
theorem drawFull_any (A : Option Addr) (n cap : Nat) (code : List Int) (w0 : World) (hcode : Code0 w0 A n code) (hn : n ≤ 4096) (hA : (A = none ∧ n = 0 ∧ cap = 0) ∨ ∃ ad, A = some ad) (w : World) (hb : Below w0.heap.size w0 w) :
    Calls Try.prog 39 #[.slice A n cap] w (RetM6 w (stD code (medalD code).1.length) (medalD code)) := by
  have HD := Lib.hid (draw31_any A n cap code w0 hcode w hb)
  have hrd := hcode.rd.below hb
  have hby := hcode.byte
  have HF := Lib.hid (fun w1 A' n' c' (h : Code0 w1 A' n' (2 :: code)) => from_any w1 A' n' c' (2 :: code) h w1 (Below.refl _ _))
  have HN := Lib.hid (fun w1 A' n' c' g s k hk w' (h : Code0 w1 A' n' (2 :: code)) hs => next_any w1 A' n' c' (2 :: code) h g s k hk w' hs)
  have HO := Lib.hid (fun w1 A' n' c' g s N h0 h1 w' (h : Code0 w1 A' n' (2 :: code)) hs => ordD_any w1 A' n' c' (2 :: code) h g s N h0 h1 w' hs)
  have er : ∀ m : Nat, stD code m = stX (2 :: code) (ordD (2 :: code) ((m : Int) + (nextF (2 :: code) (fromF (2 :: code)) 5).1 - (nextF (2 :: code) (nextF (2 :: code) (fromF (2 :: code)) 5).2 24).1 / 23) (nextF (2 :: code) (nextF (2 :: code) (fromF (2 :: code)) 5).2 24).2) := fun m => rfl
  have hdl : (medalD code).1.length ≤ 6 := netD_len code (fromF code)
  generalize medalD code = D at *
  obtain ⟨net, fc, pls, boat⟩ := D
  simp only at hdl
  simp only
  have er1 := er net.length
  generalize stD code net.length = ST at *
  generalize fromF (2 :: code) = s0 at *
  have hb1 := nextF_bd (2 :: code) s0 5 (by omega)
  have HN1 := Lib.hid (fun w1 A' n' c' g w' h hs => HN.out w1 A' n' c' g s0 5 (by omega) w' h hs)
  generalize nextF (2 :: code) s0 5 = R1 at *
  obtain ⟨v1, s1⟩ := R1
  simp only at er1 hb1
  have hb2 := nextF_bd (2 :: code) s1 24 (by omega)
  have HN2 := Lib.hid (fun w1 A' n' c' g w' h hs => HN.out w1 A' n' c' g s1 24 (by omega) w' h hs)
  generalize nextF (2 :: code) s1 24 = R2 at *
  obtain ⟨v2, s2⟩ := R2
  simp only at er1 hb2
  obtain ⟨v10, v11⟩ := hb1
  obtain ⟨v20, v21⟩ := hb2
  have HO1 := Lib.hid (fun w1 A' n' c' g w' h hs => HO.out w1 A' n' c' g s2 ((net.length : Int) + v1 - v2 / 23) (by omega) (by omega) w' h hs)
  have hol := ordD_len (2 :: code) ((net.length : Int) + v1 - v2 / 23) s2 (by omega)
  generalize ordD (2 :: code) ((net.length : Int) + v1 - v2 / 23) s2 = O at *
  obtain ⟨os, s3⟩ := O
  simp only at hol
  have HN3 := Lib.hid (fun w1 A' n' c' g w' h hs => HN.out w1 A' n' c' g s3 16 (by omega) w' h hs)
  have ex : stX (2 :: code) (os, s3) = if os.length = 0 then os else if (nextF (2 :: code) s3 16).1 = 0 then os.set 0 (os.getD (os.length - 1) 0) else os := rfl
  rw [ex] at er1
  generalize nextF (2 :: code) s3 16 = R3 at *
  obtain ⟨v3, s4⟩ := R3
  simp only at er1
  have HER := Lib.hid er1
  have HRD := Lib.hid hrd
  have HBY := Lib.hid hby
  have HA := Lib.hid hA
  have hsz0 := hb.size
  clear er er1 ex hrd hby hA hb HN HO hcode
  go_enter Try.func39, Try.ntmps39
  go_wp2_with fail
  refine HD.out.mono ?_
  rintro e w1 ⟨A1, n1, c1, A2, n2, c2, rfl, o1, o2, hn1, hn2, hb1⟩
  simp only at o1 o2
  simp only
  have hl1 := own_len o1
  obtain rfl : net.length = n1 := hl1
  have HP1 := Lib.hid (And.intro o1 o2)
  have HB1 := Lib.hid hb1
  have hz1 := hb1.size
  clear o1 o2 hb1 HD
  have hlit := World.ownsRow_lit (base := w1.heap.size) (e := 5) (size := 1) w1 #[.int .u8 2] 1 (Nat.le_refl _) (by unfold maxLen; omega) (by simp)
  have HLIT := Lib.hid hlit
  clear hlit
  go_wp2_with (at_builtin; refine app_code (base := w1.heap.size) _ rfl _ _ rfl rfl HLIT.out rfl HA.out ((HRD.out.below HB1.out).below ((Below.refl _ _).alloc (Nat.le_refl _) _)) hn (by simp) ?_; intro g1 c3 w2 ho2 hgr2)
  have hb2 : Below w1.heap.size w1 w2 := ((Below.refl _ _).alloc (Nat.le_refl _) _).grown hgr2 (by simp) (fun k hk => by injection hk with hk; omega)
  have hcode2 : Code0 w2 (some ⟨g1, 0, none⟩) (1 + n) (2 :: code) := code_of ho2 hn (by omega) HBY.out
  have HCD := Lib.hid hcode2
  have HLT1 := Lib.hid (fun b hv => (HP1.out.1.lt b hv).2)
  have HLT2 := Lib.hid (fun b hv => (HP1.out.2.lt b hv).2)
  have HP2 := Lib.hid (And.intro (own_below HP1.out.1 hb2) (own_below HP1.out.2 hb2))
  have HB2 := Lib.hid (HB1.out.trans (hb2.mono hz1))
  have hz2 := hb2.size
  clear hb2 hcode2 ho2 hgr2 HLIT HRD HP1 HB1
  refine (HF.out w2 _ _ _ HCD.out).mono ?_
  rintro e w3 ⟨g, rfl, hs3, hg3, hb3⟩
  have HP3 := Lib.hid (And.intro (own_below HP2.out.1 hb3) (own_below HP2.out.2 hb3))
  have HB3 := Lib.hid (HB2.out.trans (hb3.mono HB2.out.size))
  have hgl := hs3.lt
  have HS3 := Lib.hid hs3
  clear hs3 hb3 HP2 HB2 HF
  go_wp2_with fail
  refine (HN1.out w2 _ _ _ g _ HCD.out HS3.out).mono ?_
  rintro e w4 ⟨rfl, hs4, hc4⟩
  simp only at hs4
  simp only
  have HP4 := Lib.hid (And.intro (own_chg HP3.out.1 hc4 (fun b hv => .inl (by have := HLT1.out b hv; omega))) (own_chg HP3.out.2 hc4 (fun b hv => .inl (by have := HLT2.out b hv; omega))))
  have HB4 := Lib.hid (below_chg HB3.out hc4 (by omega) HB3.out.size)
  have HS4 := Lib.hid hs4
  have hz4 := hc4.size
  clear hs4 hc4 HP3 HB3 HS3 HN1
  go_wp2_with fail
  refine (HN2.out w2 _ _ _ g _ HCD.out HS4.out).mono ?_
  rintro e w5 ⟨rfl, hs5, hc5⟩
  simp only at hs5
  simp only
  have HP5 := Lib.hid (And.intro (own_chg HP4.out.1 hc5 (fun b hv => .inl (by have := HLT1.out b hv; omega))) (own_chg HP4.out.2 hc5 (fun b hv => .inl (by have := HLT2.out b hv; omega))))
  have HB5 := Lib.hid (below_chg HB4.out hc5 (by omega) HB4.out.size)
  have htd : v2.tdiv 23 = v2 / 23 := Int.tdiv_eq_ediv_of_nonneg v20
  have HS5 := Lib.hid hs5
  have hz5 := hc5.size
  have hgl5 : g < w5.heap.size := by omega
  have hww5 := HB5.out.size
  clear hs5 hc5 HP4 HB4 HS4 HN2
  go_wp2_with fail
  refine (HO1.out w2 _ _ _ g _ HCD.out HS5.out).mono ?_
  rintro e w6 ⟨g6, n6, c6, rfl, o6, hs6, hc6⟩
  simp only at o6 hs6
  have hl6 := own_len o6
  obtain ⟨g6', hg6', hn6c, hb6, hb6'⟩ := own_some o6
  have HP6 := Lib.hid (And.intro (own_chg HP5.out.1 hc6 (fun b hv => .inl (by have := HLT1.out b hv; omega))) (own_chg HP5.out.2 hc6 (fun b hv => .inl (by have := HLT2.out b hv; omega))))
  have HB6 := Lib.hid (below_chg HB5.out hc6 (by omega) HB5.out.size)
  have HS6 := Lib.hid hs6
  have O6 := Lib.hid o6
  have HL6 := Lib.hid hl6
  rw [hl6] at hol
  clear hs6 hc6 o6 HP5 HB5 HS5 HO1 hg6' htd
  by_cases hl0 : n6 = 0
  · subst hl0
    have hst := HER.out
    rw [if_pos HL6.out] at hst
    have HST := Lib.hid hst
    clear hst hl6
    go_wp2_with fail
    refine bodyPost_ret (results_tmp4 rfl _ _ _) rfl ?_
    rw [HST.out]
    exact ⟨_, _, _, _, _, _, _, _, _, rfl, own_base O6.out hww5, hn6c, by omega, HP6.out.1, HP6.out.2, hdl, hn2, HB6.out⟩
  · have hlp : 0 < n6 := by omega
    have hst := HER.out
    rw [if_neg (by rw [hl6]; exact hl0)] at hst
    have HST := Lib.hid hst
    clear hst hl6
    go_wp2_with fail
    refine (HN3.out w2 _ _ _ g _ HCD.out HS6.out).mono ?_
    rintro e w7 ⟨rfl, hs7, hc7⟩
    simp only
    have o7 := own_ne_chg O6.out hc7 hgl5
    have HP7 := Lib.hid (And.intro (own_chg HP6.out.1 hc7 (fun b hv => .inl (by have := HLT1.out b hv; omega))) (own_chg HP6.out.2 hc7 (fun b hv => .inl (by have := HLT2.out b hv; omega))))
    have HB7 := Lib.hid (below_chg HB6.out hc7 (by omega) HB6.out.size)
    have O7 := Lib.hid o7
    clear hs7 hc7 o7 HP6 HB6 HS6 HN3 O6
    by_cases hv3 : v3 = 0
    · subst hv3
      have hst := HST.out
      rw [if_pos rfl] at hst
      obtain ⟨j, rfl⟩ : ∃ j, n6 = j + 1 := ⟨n6 - 1, by omega⟩
      obtain ⟨g7, y, e7, hg7, _, hy, hcy, _⟩ := own_int_at O7.out (k := j) (by omega)
      obtain rfl : g6 = g7 := by injection e7 with e7; injection e7
      obtain ⟨g7, z, e7, _, _, _, hcz, hfz⟩ := own_int_at O7.out (k := 0) (by omega)
      obtain rfl : g6 = g7 := by injection e7 with e7; injection e7
      have hyd : os.getD (os.length - 1) 0 = y := by rw [HL6.out, Nat.add_sub_cancel, List.getD_eq_getElem?_getD, hy]; rfl
      rw [hyd] at hst
      have HST2 := Lib.hid hst
      have HPUT := Lib.hid (own_set O7.out (k := 0) y)
      have hcj : ((j + 1 : Nat) : Int) - 1 = (j : Int) := by omega
      have hp1 : ∀ b, (Value.slice A1 net.length c1).ownBlock = some b → b ≠ g6 := fun b hv => by have := HLT1.out b hv; omega
      have hp2 : ∀ b, (Value.slice A2 n2 c2).ownBlock = some b → b ≠ g6 := fun b hv => by have := HLT2.out b hv; omega
      have HPP := Lib.hid (And.intro (HP7.out.1.kept (grown_set ⟨rfl, rfl, rfl, Nat.le_refl _, fun _ _ _ => rfl⟩ 0 (.int .i64 y)) (.inr (fun e => hp1 g6 e rfl))) (HP7.out.2.kept (grown_set ⟨rfl, rfl, rfl, Nat.le_refl _, fun _ _ _ => rfl⟩ 0 (.int .i64 y)) (.inr (fun e => hp2 g6 e rfl))))
      have HBP := Lib.hid (HB7.out.setCell (p := ⟨g6, 0, none⟩) (by show w.heap.size ≤ g6; omega) (.int .i64 y))
      clear hst hyd hy e7 hp1 hp2
      go_wp2_with fail
      refine bodyPost_ret (results_tmp4 rfl _ _ _) rfl ?_
      rw [HST2.out]
      exact ⟨_, _, _, _, _, _, _, _, _, rfl, own_base HPUT.out hww5, hn6c, by omega, HPP.out.1, HPP.out.2, hdl, hn2, HBP.out⟩
    · have hvb : (v3 == 0) = false := by simpa using hv3
      have hst := HST.out
      rw [if_neg hv3] at hst
      have HST2 := Lib.hid hst
      clear hst
      go_wp2_with fail
      refine bodyPost_ret (results_tmp4 rfl _ _ _) rfl ?_
      rw [HST2.out]
      exact ⟨_, _, _, _, _, _, _, _, _, rfl, own_base O7.out hww5, hn6c, by omega, HP7.out.1, HP7.out.2, hdl, hn2, HB7.out⟩
end Go.Proofs.Ytfkllgnenbbccaa

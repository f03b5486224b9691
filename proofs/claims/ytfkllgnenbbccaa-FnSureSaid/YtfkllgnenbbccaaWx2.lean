/- Walks: drawn medal races (chapter 31). -/
import Derived.Test.YtfkllgnenbbccaaWx1
namespace Go.Proofs.Ytfkllgnenbbccaa
open Go.RowKit
set_option linter.unusedVariables false
set_option maxRecDepth 100000

theorem drawFactor_any (w0 : World) (A : Option Addr) (n cap : Nat) (code : List Int) (hcode : Code0 w0 A n code) (g : Nat) (s : St) (w : World) (h : Src w0 w A n cap code g s) :
    Calls Try.prog 72 #[.pointer (some ⟨g, 0, none⟩)] w (RetN w0 w A n cap code g (factorD code s)) := by
  have e1 : factorD code s = if (nextF code s 24).1 = 0 then (4 * (nextF code (nextF code s 24).2 2).1, (nextF code (nextF code s 24).2 2).2) else (1 + (nextF code (nextF code s 24).2 3).1, (nextF code (nextF code s 24).2 3).2) := rfl
  rw [e1]; clear e1
  have hn := next_any w0 A n cap code hcode g s 24 (by omega) w h
  generalize nextF code s 24 = r at *
  obtain ⟨v, s1⟩ := r
  have HN := Lib.hid hn; clear hn
  simp only
  by_cases hv : v = 0
  · subst hv
    rw [if_pos rfl]
    have hb := nextF_bd code s1 2 (by omega)
    obtain ⟨hb0, hb1⟩ := hb
    go_enter Try.func72, Try.ntmps72
    go_wp2_with fail
    refine HN.out.mono ?_
    rintro e w1 ⟨rfl, hs1, hc1⟩
    go_wp2_with fail
    refine (next_any w0 A n cap code hcode g s1 2 (by omega) _ hs1).mono ?_
    rintro e w2 ⟨rfl, hs2, hc2⟩
    go_wp2_with fail
    go_ret
    exact ⟨rfl, hs2, hc1.trans hc2⟩
  · rw [if_neg hv]
    have hne : (v == 0) = false := by simpa using hv
    have hb := nextF_bd code s1 3 (by omega)
    obtain ⟨hb0, hb1⟩ := hb
    clear hv
    go_enter Try.func72, Try.ntmps72
    go_wp2_with fail
    refine HN.out.mono ?_
    rintro e w1 ⟨rfl, hs1, hc1⟩
    go_wp2_with fail
    refine (next_any w0 A n cap code hcode g s1 3 (by omega) _ hs1).mono ?_
    rintro e w2 ⟨rfl, hs2, hc2⟩
    go_wp2_with fail
    go_ret
    exact ⟨rfl, hs2, hc1.trans hc2⟩
theorem orderGo_bd (code : List Int) : ∀ (m i : Nat) (out : List Int) (s : St), (∀ x ∈ out, 0 ≤ x ∧ x < i) → ∀ x ∈ (orderGo code m i out s).1, 0 ≤ x ∧ x < i + m := by
  intro m
  induction m with
  | zero => intro i out s h x hx; have := h x hx; omega
  | succ m ih =>
    intro i out s h x hx
    rw [orderGo] at hx
    have := ih (i + 1) _ _ (fun y hy => by
      rw [List.mem_append, List.mem_append] at hy
      rcases hy with (hy | hy) | hy
      · have := h y (List.mem_of_mem_take hy); omega
      · simp at hy; omega
      · have := h y (List.mem_of_mem_drop hy); omega) x hx
    omega
theorem inc_step (xs : List Int) (k : Nat) (x : Int) (hx : xs[k]? = some x) : ((xs.take k).map (· + 1) ++ xs.drop k).set k (x + 1) = (xs.take (k + 1)).map (· + 1) ++ xs.drop (k + 1) := by
  obtain ⟨hk, he⟩ := List.getElem?_eq_some_iff.1 hx
  rw [List.set_append, if_neg (by simp; omega), List.drop_eq_getElem_cons hk, take_snoc_get hx, List.map_append]
  have e2 : k - ((xs.take k).map (· + 1)).length = 0 := by simp; omega
  rw [e2, List.set_cons_zero, List.append_assoc]
  rfl
set_option maxHeartbeats 4000000 in
theorem drawPlaces_any (w0 : World) (A : Option Addr) (n cap : Nat) (code : List Int) (hcode : Code0 w0 A n code) (g : Nat) (s : St) (m : Nat) (hm : m ≤ 6) (w : World) (h : Src w0 w A n cap code g s) :
    Calls Try.prog 73 #[.pointer (some ⟨g, 0, none⟩), .int .i64 (m : Int)] w (RetD w0 w A n cap code g (placesD code m s)) := by
  have HN := Lib.hid (fun s k hk w' h => next_any w0 A n cap code hcode g s k hk w' h)
  have HO := Lib.hid (orderD_any w0 A n cap code hcode g s m (by omega) w h)
  have hgl := h.lt
  have ep : placesD code m s = if m = 0 then ((orderD code m s).1.map (· + 1), (orderD code m s).2) else if (nextF code (orderD code m s).2 20).1 = 0 then (((orderD code m s).1.map (· + 1)).set 0 (nextF code (nextF code (orderD code m s).2 20).2 7).1, (nextF code (nextF code (orderD code m s).2 20).2 7).2) else ((orderD code m s).1.map (· + 1), (nextF code (orderD code m s).2 20).2) := rfl
  have hlen := orderD_len code m s
  have hbd := orderGo_bd code m 0 [] s (fun x hx => by cases hx)
  have hbd : ∀ x ∈ (orderD code m s).1, 0 ≤ x ∧ x < 0 + m := hbd
  generalize placesD code m s = PD at *
  generalize orderD code m s = O at *
  obtain ⟨xs, s1⟩ := O
  simp only at ep hlen hbd
  have HEP := Lib.hid ep
  have HLEN := Lib.hid hlen
  have HBD := Lib.hid hbd
  clear ep hlen hbd h
  go_enter Try.func73, Try.ntmps73
  go_wp2_with fail
  refine HO.out.mono ?_
  rintro e w1 ⟨g1, m1, c1, rfl, ho1, hs1, hc1⟩
  simp only at ho1 hs1
  have hl1 := own_len ho1
  rw [HLEN.out] at hl1
  obtain rfl : m = m1 := hl1
  have HO1 := Lib.hid ho1
  have HS1 := Lib.hid hs1
  have HC1 := Lib.hid hc1
  have hsz := hc1.size
  clear ho1 hs1 hc1 HO
  go_wp2_with fail
  go_loopw [6] (fun s6 wr => ∃ k : Nat, k ≤ m ∧ s6 = .int .i64 k ∧ wr.ownsRow w.heap.size 2 1 (.slice (some ⟨g1, 0, none⟩) m c1) m (ints ((xs.take k).map (· + 1) ++ xs.drop k)) ∧ Src w0 wr A n cap code g s1 ∧ Chg g (g + 1) w wr) (fun s6 _ => m - (intOf s6).toNat)
  case atStart => exact ⟨0, Nat.zero_le _, rfl, by simpa using HO1.out, HS1.out, HC1.out⟩
  case round =>
    clear HO1 HS1 HC1
    obtain ⟨k, hk, rfl, ho, hs, hc⟩ := hrel
    by_cases hlt : k < m
    · obtain ⟨g1', y, e5, hg1, _, hy, hcy, hfy⟩ := own_int_at ho hlt
      obtain rfl : g1 = g1' := by injection e5 with e5; injection e5
      obtain ⟨x, hx, _⟩ := drop_cons (xs := xs) (k := k) (by rw [HLEN.out]; exact hlt)
      obtain rfl : y = x := by
        have hkl : k = ((xs.take k).map (· + 1)).length := by simp [HLEN.out]; omega
        rw [List.getElem?_append_right (by omega), ← hkl, Nat.sub_self, List.getElem?_drop, Nat.add_zero, hx] at hy
        injection hy with hy; exact hy.symm
      have hyb := HBD.out y (List.mem_of_getElem? hx)
      obtain ⟨y0, y1⟩ := hyb
      have ho2 := own_set ho (k := k) (y + 1)
      rw [inc_step xs k y hx] at ho2
      have HA := Lib.hid (And.intro ho2 (And.intro (src_put hs (b := g1) (i := k) (by omega) (.int .i64 (y + 1))) (chg_put hc (g := g1) (i := k) hg1 (.int .i64 (y + 1)))))
      clear ho hs hc e5 hy hx ho2
      go_wp2_with fail
      go_roundw
      case rel => exact ⟨k + 1, by omega, by go_num, HA.out.1, HA.out.2.1, HA.out.2.2⟩
      case measure => simp [intOf] <;> omega
    · obtain rfl : m = k := by omega
      have e1 : (xs.take m).map (· + 1) ++ xs.drop m = xs.map (· + 1) := by
        rw [List.take_of_length_le (by rw [HLEN.out]; exact Nat.le_refl _), List.drop_eq_nil_of_le (by rw [HLEN.out]; exact Nat.le_refl _), List.append_nil]
      rw [e1] at ho
      clear e1
      by_cases hm0 : m = 0
      · subst hm0
        have hep := HEP.out
        rw [if_pos rfl] at hep
        have HHP := Lib.hid hep
        clear hep
        go_wp2_with fail
        go_ret
        rw [HHP.out]
        exact ⟨_, _, _, rfl, ho, hs, hc⟩
      · have hep := HEP.out
        rw [if_neg hm0] at hep
        have H20 := Lib.hid (HN.out s1 20 (by omega))
        generalize nextF code s1 20 = r1 at *
        obtain ⟨v1, s2⟩ := r1
        simp only at hep
        have hmp : 0 < m := by omega
        have HHP := Lib.hid hep
        have HO2 := Lib.hid ho
        have HC2 := Lib.hid hc
        have HS2 := Lib.hid hs
        clear hep ho hs hc
        go_wp2_with fail
        refine (H20.out _ HS2.out).mono ?_
        rintro e w3 ⟨rfl, hs3, hc3⟩
        simp only
        have ho3 := own_ne_chg HO2.out hc3 hgl
        obtain ⟨g1', y, e5, hg1, _, _, hcy, hfy⟩ := own_int_at ho3 hmp
        obtain rfl : g1 = g1' := by injection e5 with e5; injection e5
        have HO3 := Lib.hid ho3
        have HC3 := Lib.hid (HC2.out.trans hc3)
        have HS3 := Lib.hid hs3
        clear ho3 hs3 hc3 e5 HO2 HC2 HS2
        by_cases hv : v1 = 0
        · subst hv
          have hep := HHP.out
          rw [if_pos rfl] at hep
          have H7 := Lib.hid (HN.out s2 7 (by omega))
          generalize nextF code s2 7 = r2 at *
          obtain ⟨v2, s3⟩ := r2
          simp only at hep
          have HHP2 := Lib.hid hep
          clear hep hcy hfy
          go_wp2_with fail
          refine (H7.out _ HS3.out).mono ?_
          rintro e w4 ⟨rfl, hs4, hc4⟩
          simp only
          have ho4 := own_ne_chg HO3.out hc4 hgl
          obtain ⟨g1', y, e5, _, _, _, hcy, hfy⟩ := own_int_at ho4 hmp
          obtain rfl : g1 = g1' := by injection e5 with e5; injection e5
          have HA := Lib.hid (And.intro (own_set ho4 (k := 0) v2) (And.intro (src_put hs4 (b := g1) (i := 0) (by omega) (.int .i64 v2)) (chg_put (HC3.out.trans hc4) (g := g1) (i := 0) hg1 (.int .i64 v2))))
          clear ho4 hs4 hc4 e5
          go_wp2_with fail
          go_ret
          rw [HHP2.out]
          exact ⟨_, _, _, rfl, HA.out.1, HA.out.2.1, HA.out.2.2⟩
        · have hvb : (v1 == 0) = false := by simpa using hv
          have hep := HHP.out
          rw [if_neg hv] at hep
          have HHP2 := Lib.hid hep
          clear hep
          go_wp2_with fail
          go_ret
          rw [HHP2.out]
          exact ⟨_, _, _, rfl, HO3.out, HS3.out, HC3.out⟩
/-- What a law on medal races draws. -/
def RetM4 (w : World) (D : List Int × Int × List Int × Int) (e : Ending) (w' : World) : Prop :=
  ∃ A1 n1 c1 A2 n2 c2, e = .returned (.tuple #[.slice A1 n1 c1, .int .i64 D.2.1, .slice A2 n2 c2, .int .i64 D.2.2.2]) ∧ w'.ownsRow w.heap.size 2 1 (.slice A1 n1 c1) n1 (ints D.1) ∧ w'.ownsRow w.heap.size 2 1 (.slice A2 n2 c2) n2 (ints D.2.2.1) ∧ n1 ≤ 6 ∧ n2 ≤ 6 ∧ Below w.heap.size w w'
set_option maxHeartbeats 4000000 in
theorem draw31_any (A : Option Addr) (n cap : Nat) (code : List Int) (w0 : World) (hcode : Code0 w0 A n code) (w : World) (hb : Below w0.heap.size w0 w) :
    Calls Try.prog 57 #[.slice A n cap] w (RetM4 w (medalD code)) := by
  have HFR := Lib.hid (from_any w0 A n cap code hcode w hb)
  have HN := Lib.hid (fun g s k hk w' h => next_any w0 A n cap code hcode g s k hk w' h)
  have HNE := Lib.hid (fun g s w' h => drawNet_any w0 A n cap code hcode g s w' h)
  have HFA := Lib.hid (fun g s w' h => drawFactor_any w0 A n cap code hcode g s w' h)
  have HPL := Lib.hid (fun g s m hm w' h => drawPlaces_any w0 A n cap code hcode g s m hm w' h)
  have em : medalD code = ((netD code (fromF code)).1, (factorD code (netD code (fromF code)).2).1,
   (placesD code (netD code (fromF code)).1.length (factorD code (netD code (fromF code)).2).2).1,
   (nextF code (placesD code (netD code (fromF code)).1.length (factorD code (netD code (fromF code)).2).2).2 (((netD code (fromF code)).1.length : Int) + 1)).1 -
     (nextF code (nextF code (placesD code (netD code (fromF code)).1.length (factorD code (netD code (fromF code)).2).2).2 (((netD code (fromF code)).1.length : Int) + 1)).2 8).1 / 7) := rfl
  generalize medalD code = D at *
  generalize fromF code = s0 at *
  have HNE1 := Lib.hid (fun g w' h => HNE.out g s0 w' h)
  have hnl := netD_len code s0
  generalize netD code s0 = R1 at *
  obtain ⟨net, s1⟩ := R1
  simp only at em hnl
  have HFA1 := Lib.hid (fun g w' h => HFA.out g s1 w' h)
  generalize factorD code s1 = R2 at *
  obtain ⟨fc, s2⟩ := R2
  simp only at em
  have HPL1 := Lib.hid (fun g w' h => HPL.out g s2 net.length hnl w' h)
  have hpl := placesD_len code net.length s2
  generalize placesD code net.length s2 = R3 at *
  obtain ⟨pls, s3⟩ := R3
  simp only at em hpl
  have hb1 := nextF_bd code s3 ((net.length : Int) + 1) (by omega)
  have HN1 := Lib.hid (fun g w' h => HN.out g s3 ((net.length : Int) + 1) (by omega) w' h)
  generalize nextF code s3 ((net.length : Int) + 1) = R4 at *
  obtain ⟨b1, s4⟩ := R4
  simp only at em hb1
  have hb2 := nextF_bd code s4 8 (by omega)
  have HN2 := Lib.hid (fun g w' h => HN.out g s4 8 (by omega) w' h)
  generalize nextF code s4 8 = R5 at *
  obtain ⟨b2, s5⟩ := R5
  simp only at em hb2
  obtain ⟨b10, b11⟩ := hb1
  obtain ⟨b20, b21⟩ := hb2
  have HEM := Lib.hid em
  have HLP := Lib.hid hpl
  clear em hpl hb HN HNE HFA HPL
  go_enter Try.func57, Try.ntmps57
  go_wp2_with fail
  refine HFR.out.mono ?_
  rintro e w1 ⟨g, rfl, hs1, hg1, hb1⟩
  have hgl1 := hs1.lt
  go_wp2_with fail
  refine (HNE1.out g _ hs1).mono ?_
  rintro e w2 ⟨A1, n1, c1, rfl, ho2, hs2, hc2⟩
  simp only at ho2 hs2
  have hl2 := own_len ho2
  obtain rfl : net.length = n1 := hl2
  have HB2 := Lib.hid (below_chg hb1 hc2 (by omega) hb1.size)
  have hw1 := hb1.size
  have HO2 := Lib.hid ho2
  have HS2 := Lib.hid hs2
  have hz2 := hc2.size
  clear hs1 hb1 hc2 ho2 hs2 HFR HNE1
  go_wp2_with fail
  refine (HFA1.out g _ HS2.out).mono ?_
  rintro e w3 ⟨rfl, hs3, hc3⟩
  simp only at hs3
  simp only
  have HO3 := Lib.hid (own_ne_chg HO2.out hc3 hgl1)
  have HB3 := Lib.hid (below_chg HB2.out hc3 (by omega) HB2.out.size)
  have HS3 := Lib.hid hs3
  have hz3 := hc3.size
  clear hc3 hs3 HO2 HB2 HS2 HFA1
  go_wp2_with fail
  refine (HPL1.out g _ HS3.out).mono ?_
  rintro e w4 ⟨g4, n4, c4, rfl, ho4, hs4, hc4⟩
  simp only at ho4 hs4
  have hl4 := own_len ho4
  rw [HLP.out] at hl4
  have HN4 := Lib.hid hl4
  have HO4n := Lib.hid (own_ne_chg HO3.out hc4 hgl1)
  have HO4 := Lib.hid ho4
  have HB4 := Lib.hid (below_chg HB3.out hc4 (by omega) HB3.out.size)
  have HS4 := Lib.hid hs4
  have hz4 := hc4.size
  clear hc4 hs4 ho4 hl4 HO3 HB3 HS3 HPL1
  have hgw3 : g < w3.heap.size := by omega
  go_wp2_with fail
  refine (HN1.out g _ HS4.out).mono ?_
  rintro e w5 ⟨rfl, hs5, hc5⟩
  simp only at hs5
  simp only
  have HO5n := Lib.hid (own_ne_chg HO4n.out hc5 hgl1)
  have HO5 := Lib.hid (own_ne_chg HO4.out hc5 hgw3)
  have HB5 := Lib.hid (below_chg HB4.out hc5 (by omega) HB4.out.size)
  have HS5 := Lib.hid hs5
  clear hc5 hs5 HO4n HO4 HB4 HS4 HN1
  go_wp2_with fail
  refine (HN2.out g _ HS5.out).mono ?_
  rintro e w6 ⟨rfl, hs6, hc6⟩
  simp only
  have HO6n := Lib.hid (own_ne_chg HO5n.out hc6 hgl1)
  have HO6 := Lib.hid (own_ne_chg HO5.out hc6 hgw3)
  have HB6 := Lib.hid (below_chg HB5.out hc6 (by omega) HB5.out.size)
  have htd : b2.tdiv 7 = b2 / 7 := Int.tdiv_eq_ediv_of_nonneg b20
  clear hc6 hs6 HO5n HO5 HB5 HS5 HN2
  go_wp2_with fail
  refine bodyPost_ret (results_tmp4 rfl _ _ _) rfl ?_
  rw [HEM.out]
  exact ⟨_, _, _, _, _, _, rfl, own_base HO6n.out hw1, own_base HO6.out (by omega), hnl, by have := HN4.out; omega, HB6.out⟩
def RetMW (w : World) (D : List Int × Int × List Int × Int) (e : Ending) (w' : World) : Prop :=
  ∃ A1 n1 c1, e = .returned (.tuple #[.slice A1 n1 c1, .int .i64 D.2.1, .int .i64 D.2.2.2]) ∧ w'.ownsRow w.heap.size 2 1 (.slice A1 n1 c1) n1 (ints D.1) ∧ n1 ≤ 6 ∧ Below w.heap.size w w'
def RetMF (w : World) (D : List Int × Int × List Int × Int) (e : Ending) (w' : World) : Prop :=
  ∃ A1 n1 c1 A2 n2 c2, e = .returned (.tuple #[.slice A1 n1 c1, .int .i64 D.2.1, .slice A2 n2 c2]) ∧ w'.ownsRow w.heap.size 2 1 (.slice A1 n1 c1) n1 (ints D.1) ∧ w'.ownsRow w.heap.size 2 1 (.slice A2 n2 c2) n2 (ints D.2.2.1) ∧ n1 ≤ 6 ∧ n2 ≤ 6 ∧ Below w.heap.size w w'
theorem drawCanWin_any (A : Option Addr) (n cap : Nat) (code : List Int) (w0 : World) (hcode : Code0 w0 A n code) (w : World) (hb : Below w0.heap.size w0 w) :
    Calls Try.prog 35 #[.slice A n cap] w (RetMW w (medalD code)) := by
  have HD := Lib.hid (draw31_any A n cap code w0 hcode w hb)
  generalize medalD code = D at *
  clear hb
  go_enter Try.func35, Try.ntmps35
  go_wp2_with fail
  refine HD.out.mono ?_
  rintro e w1 ⟨A1, n1, c1, A2, n2, c2, rfl, o1, o2, h1, h2, hb1⟩
  have HK := Lib.hid (And.intro o1 hb1)
  clear o1 o2 hb1
  go_wp2_with fail
  refine bodyPost_ret (results_tmp3 rfl _ _ _) rfl ?_
  exact ⟨_, _, _, rfl, HK.out.1, h1, HK.out.2⟩
theorem drawFinalPoints_any (A : Option Addr) (n cap : Nat) (code : List Int) (w0 : World) (hcode : Code0 w0 A n code) (w : World) (hb : Below w0.heap.size w0 w) :
    Calls Try.prog 58 #[.slice A n cap] w (RetMF w (medalD code)) := by
  have HD := Lib.hid (draw31_any A n cap code w0 hcode w hb)
  generalize medalD code = D at *
  clear hb
  go_enter Try.func58, Try.ntmps58
  go_wp2_with fail
  refine HD.out.mono ?_
  rintro e w1 ⟨A1, n1, c1, A2, n2, c2, rfl, o1, o2, h1, h2, hb1⟩
  have HK := Lib.hid (And.intro o1 (And.intro o2 hb1))
  clear o1 o2 hb1
  go_wp2_with fail
  refine bodyPost_ret (results_tmp3 rfl _ _ _) rfl ?_
  exact ⟨_, _, _, _, _, _, rfl, HK.out.1, HK.out.2.1, h1, h2, HK.out.2.2⟩
theorem drawFinalOrder_any (A : Option Addr) (n cap : Nat) (code : List Int) (w0 : World) (hcode : Code0 w0 A n code) (w : World) (hb : Below w0.heap.size w0 w) :
    Calls Try.prog 36 #[.slice A n cap] w (RetMF w (medalD code)) := by
  have HD := Lib.hid (drawFinalPoints_any A n cap code w0 hcode w hb)
  generalize medalD code = D at *
  clear hb
  go_enter Try.func36, Try.ntmps36
  go_wp2_with fail
  refine HD.out.mono ?_
  rintro e w1 ⟨A1, n1, c1, A2, n2, c2, rfl, o1, o2, h1, h2, hb1⟩
  have HK := Lib.hid (And.intro o1 (And.intro o2 hb1))
  clear o1 o2 hb1
  go_wp2_with fail
  refine bodyPost_ret (results_tmp3 rfl _ _ _) rfl ?_
  exact ⟨_, _, _, _, _, _, rfl, HK.out.1, HK.out.2.1, h1, h2, HK.out.2.2⟩
end Go.Proofs.Ytfkllgnenbbccaa

/- Walks: drawn rounds; likeRows of the laws. -/
import Derived.Test.YtoccfbkklponnaaWi
import Derived.Test.YtoccfbkklponnaaWy
import Derived.Test.YtoccfbkklponnaaWl
namespace Go.Proofs.Ytoccfbkklponnaa
open Go.RowKit
set_option linter.unusedVariables false
set_option maxRecDepth 100000

theorem likeRows_any (A A' : Option Addr) (n c n' c' : Nat) (xs ys : List (List Int)) (w : World) (h : RdRows w A n xs) (h' : RdRows w A' n' ys) :
    Calls Try.prog 43 #[.slice A n c, .slice A' n' c'] w fun e w' => e = .returned (.bool (decide (xs = ys))) ∧ Drawn w w' := by
  have HN := Lib.hid h.len
  have HN' := Lib.hid h'.len
  have hm := h.le
  by_cases hl : n = n'
  · subst hl
    go_enter Try.func43, Try.ntmps43
    go_wp2
    go_loopw [5] (fun i wr => ∃ k : Nat, k ≤ n ∧ i = .int .i64 k ∧ Hid (xs = ys ↔ xs.drop k = ys.drop k) ∧ Drawn w wr) (fun i _ => n - (intOf i).toNat)
    case atStart => exact ⟨0, Nat.zero_le _, rfl, Iff.rfl, Drawn.refl _⟩
    case round =>
      obtain ⟨k, hk, rfl, HA, hq⟩ := hrel
      by_cases hlt : k < n
      · obtain ⟨b, o, B, cB, x, rfl, _, hd, hc, hrd⟩ := (h.drawn hq).row hlt
        obtain ⟨b', o', B', cB', x', rfl, _, hd', hc', hrd'⟩ := (h'.drawn hq).row hlt
        have HD := Lib.hid hd; clear hd
        have HD' := Lib.hid hd'; clear hd'
        have hcall := fun q : Nat => likeInts_any B B' x.length cB x'.length cB' x x' (wr.drewN q) (hrd.drewN q) (hrd'.drewN q)
        by_cases hxx : x = x'
        · subst hxx
          simp only [decide_true] at hcall
          have HC := Lib.hid hcall; clear hcall
          go_wp2
          go_quiet ((go_at_call 36; exact Calls.quiet_of (HC.out _)))
          go_wp2
          go_roundw
          case rel => exact ⟨k + 1, by omega, by go_num, by unfold Hid; rw [HA.out, HD.out, HD'.out]; simp, hq.step _⟩
          case measure => simp [intOf]; omega
        · rw [decide_eq_false hxx] at hcall
          have HC := Lib.hid hcall; clear hcall
          go_wp2
          go_quiet ((go_at_call 36; exact Calls.quiet_of (HC.out _)))
          go_wp2
          go_ret
          exact ⟨ret_bool (by rw [eq_comm, decide_eq_false_iff_not, HA.out, HD.out, HD'.out]; simp [hxx]), hq.step _⟩
      · obtain rfl : k = n := by omega
        go_wp2
        go_ret
        exact ⟨ret_bool (by rw [eq_comm, decide_eq_true_iff, HA.out, List.drop_eq_nil_of_le (by rw [HN.out]; omega), List.drop_eq_nil_of_le (by rw [HN'.out]; omega)]), hq⟩
  · have hne : ((n : Int) != n') = true := by simp; omega
    go_enter Try.func43, Try.ntmps43
    go_wp2
    go_ret
    exact ⟨ret_bool (by rw [eq_comm, decide_eq_false_iff_not]; rintro rfl; exact hl (HN.out.symm.trans HN'.out)), Drawn.refl _⟩

/-- What drawing of rounds keeps in each pass. -/
structure InR (w0 w wr : World) (A : Option Addr) (n cap : Nat) (code : List Int) (g : Nat) (s' : St) (B : Option Addr) (m c' : Nat) (vs : List Value) (rows : List (List Int)) : Prop where
  own : OwnRows wr w.heap.size 22 2 B m c' vs rows
  src : Src w0 wr A n cap code g s'
  chg : Chg g (g + 1) w wr
/-- A drawn row is appended. -/
theorem InR.put {w0 w wr w1 w2 : World} {A B B2 : Option Addr} {n cap m c' c2 : Nat} {code : List Int} {g : Nat} {s' s1 : St} {vs : List Value} {rows : List (List Int)} {A1 : Option Addr} {k1 c1 : Nat} {ys : List Int}
    (h : InR w0 w wr A n cap code g s' B m c' vs rows) (hg : g < w.heap.size) (hc1 : Chg g (g + 1) wr w1) (hs1 : Src w0 w1 A n cap code g s1)
    (hy : w1.ownsRow wr.heap.size 2 1 (.slice A1 k1 c1) k1 (ints ys))
    (ho : w2.ownsRow w.heap.size 22 1 (.slice B2 (m + 1) c2) (m + 1) (vs ++ [.slice A1 k1 c1])) (o : Obj) (hgr : (w1.alloc o).grownBy w2 (Value.slice B m c').ownBlock) :
    InR w0 w w2 A n cap code g s1 B2 (m + 1) c2 (vs ++ [.slice A1 k1 c1]) (rows ++ [ys]) := by
  obtain rfl : ys.length = k1 := own_len hy
  have hrow : ∀ q, (Value.slice B m c').ownBlock = some q → w.heap.size ≤ q := fun q e => (h.own.outer.lt q e).1
  have hin := h.own.in_
  refine ⟨?_, (hs1.alloc o).grown hgr (fun q e => by have := hrow q e; omega), chg_grown (chg_alloc (h.chg.trans hc1) o) hgr hrow⟩
  have h1 : OwnRows w1 w.heap.size 22 2 B m c' vs rows := h.own.chg hc1 (lo2 := w.heap.size) (hi2 := wr.heap.size) hin (.inr (by omega))
  refine h1.append (by decide) (own_base hy h.chg.size) ?_ o hgr ho
  intro u hu b hb hb'
  have e1 := (hy.lt b hb).1
  have e2 := (hin.2 u hu b hb').2
  omega

/-- Result: new rows and a number. -/
def RetRK (w : World) (r : List (List Int) × Int) (e : Ending) (w' : World) : Prop :=
  ∃ A n c vs, e = .returned (.tuple #[.slice A n c, .int .i64 r.2]) ∧ OwnRows w' w.heap.size 22 2 A n c vs r.1 ∧ Below w.heap.size w w'

theorem rounds_any (w0 : World) (A : Option Addr) (n cap : Nat) (code : List Int) (hcode : Code0 w0 A n code) (w : World) (hb : Below w0.heap.size w0 w) :
    Calls Try.prog 73 #[.slice A n cap] w (RetRK w (roundsD code)) := by
  unfold roundsD
  have hkb := kD_bd code (fromF code)
  have h2 := fun g W hs => kD_any w0 A n cap code hcode g (fromF code) W hs
  generalize kD code (fromF code) = r2 at *
  obtain ⟨K, s2⟩ := r2
  simp only at hkb
  simp only
  have hnb := boatsD_bd code s2
  have h3 := fun g W hs => boatsD_any w0 A n cap code hcode g s2 W hs
  generalize boatsD code s2 = r3 at *
  obtain ⟨nn, s3⟩ := r3
  simp only at hnb
  simp only
  obtain ⟨N, rfl⟩ := int_up nn hnb.1
  rw [Int.toNat_natCast]
  have h4 := fun g W hs => next_any w0 A n cap code hcode g s3 6 (by omega) W hs
  have hmb := nextF_bd code s3 6 (by omega)
  generalize nextF code s3 6 = r4 at *
  obtain ⟨mm, s4⟩ := r4
  simp only at hmb
  simp only
  obtain ⟨M, rfl⟩ := int_up mm hmb.1
  rw [Int.toNat_natCast]
  obtain ⟨hK0, hK5⟩ := hkb
  have hN16 : N ≤ 16 := by omega
  have hM5 : M ≤ 5 := by omega
  have H2 := Lib.hid h2; have H3 := Lib.hid h3; have H4 := Lib.hid h4
  clear h2 h3 h4 hnb hmb
  generalize hg1 : roundsGo1 code N K M [] s4 = r1
  have HG1 := Lib.hid hg1; clear hg1
  generalize hre : roundsEnd code N K r1 = re
  have HRE := Lib.hid hre; clear hre
  go_enter Try.func73, Try.ntmps73
  go_wp2_with fail
  refine (from_any w0 A n cap code hcode w hb).mono ?_
  rintro e w1 ⟨g, rfl, hs1, hg, hb1⟩
  have hgl := hs1.lt
  go_wp2_with fail
  refine (H2.out g _ hs1).mono ?_
  rintro e w2 ⟨rfl, hs2, hc2⟩
  go_wp2_with fail
  refine (H3.out g _ hs2).mono ?_
  rintro e w3 ⟨rfl, hs3, hc3⟩
  have hs3' := hs3.alloc (.cells #[] 22)
  have hc3' := chg_alloc (hc2.trans hc3) (.cells #[] 22)
  have hoe := OwnRows.empty w3 w1.heap.size 22 2 (hc2.trans hc3).size
  obtain ⟨wa, hwa⟩ : ∃ wa, wa = w3.alloc (.cells #[] 22) := ⟨_, rfl⟩
  rw [← hwa] at hs3' hc3' hoe
  have O3 := Lib.hid hoe; have C3 := Lib.hid hc3'
  clear hoe hc3' hc2 hc3 hs2 hs3 hs1
  go_wp2_with fail
  rw [← hwa]
  refine (H4.out g _ hs3').mono ?_
  rintro e w4 ⟨rfl, hs4, hc4⟩
  have I4 := Lib.hid (InR.mk (O3.out.chg hc4 O3.out.in_ (.inr (by omega))) hs4 (C3.out.trans hc4))
  clear hs4 hc4 hs3' O3 C3 hwa H2 H3 H4
  go_wp2_with fail
  go_loopw [7, 8] (fun v i wr => ∃ (q m c' : Nat) (B : Option Addr) (vs : List Value) (rows : List (List Int)) (s' : St), q ≤ M ∧ m + q ≤ 5 ∧ i = .int .i64 q ∧ v = .slice B m c' ∧ InR w0 w1 wr A n cap code g s' B m c' vs rows ∧ roundsGo1 code N K q rows s' = r1) (fun _ i _ => (intOf i).toNat)
  case atStart => exact ⟨M, 0, _, _, _, [], s4, Nat.le_refl _, by omega, rfl, rfl, I4.out, HG1.out⟩
  case round =>
    obtain ⟨q, m, c', B, vs, rows, s', hqM, hm5, rfl, rfl, hI, hr⟩ := hrel
    clear I4 HG1
    have HR := Lib.hid hr; clear hr
    have hsz := hI.chg.size
    by_cases hlt : 0 < q
    · have hnx := next_any w0 A n cap code hcode g s' 40 (by omega) wr hI.src
      have hvb := nextF_bd code s' 40 (by omega)
      have e : q = (q - 1) + 1 := by omega
      rw [e, roundsGo1] at HR
      clear e
      generalize nextF code s' 40 = r at *
      obtain ⟨v, s1⟩ := r
      simp only at hvb HR
      obtain ⟨hv0, hv1⟩ := hvb
      obtain ⟨d, hd, hd1⟩ : ∃ d : Nat, v / 39 = d ∧ d ≤ 1 := ⟨(v / 39).toNat, by omega, by omega⟩
      have hdt : v.tdiv 39 = d := by rw [Int.tdiv_eq_ediv_of_nonneg hv0]; exact hd
      rw [hd, Int.toNat_natCast] at HR
      have hfd := fun W hs => fleetsD_any w0 A n cap code hcode g s1 (N + d) (by omega) K hK0 (by omega) W hs
      generalize fleetsD code K (N + d) s1 = fd at *
      obtain ⟨ys, s5⟩ := fd
      simp only at HR
      simp only [Int.natCast_add] at hfd
      have HNX := Lib.hid hnx; have HFD := Lib.hid hfd; have I := Lib.hid hI
      clear hnx hfd hI
      go_wp2_with fail
      refine HNX.out.mono ?_
      rintro e w5 ⟨rfl, hs5, hc5⟩
      have hsz5 := hc5.size
      go_wp2_with fail
      refine (HFD.out _ hs5).mono ?_
      rintro e w6 ⟨A6, m6, c6, rfl, ho6, hs6, hc6⟩
      have HC6 := Lib.hid (hc5.trans hc6); have HS6 := Lib.hid hs6; have HY := Lib.hid (own_base ho6 hsz5)
      have OU := Lib.hid (own_ne_chg I.out.own.outer (hc5.trans hc6) (by omega))
      have hsz6 := hc6.size
      clear ho6 hs6 hc6 hc5 hs5
      go_wp2_with (at_builtin; refine app_row _ rfl _ _ rfl rfl (OU.out.alloc _) rfl (cell_new1 _ _ _) (by omega) ?cD ?_; rotate_left; intro A1 c1 w7 ho7 hgr7)
      · have I7 := Lib.hid (I.out.put hgl HC6.out HS6.out HY.out ho7 _ hgr7)
        clear ho7 hgr7 HC6 HS6 HY OU
        go_wp2_with fail
        go_roundw
        case rel => exact ⟨q - 1, m + 1, _, _, _, _, _, by omega, by omega, by go_num, rfl, I7.out, HR.out⟩
        case measure => simp [intOf]; omega
      · simp; omega
    · have e0 : q = 0 := by omega
      subst e0
      rw [roundsGo1] at HR
      have hr1 := HR.out
      subst hr1
      clear HR
      have hnx := next_any w0 A n cap code hcode g s' 24 (by omega) wr hI.src
      have e1 : roundsEnd code N K (rows, s') = if (nextF code s' 24).1 = 0 then roundsGo2 code N K (13 - rows.length) rows (nextF code s' 24).2 else (rows, (nextF code s' 24).2) := rfl
      rw [e1] at HRE
      clear e1
      generalize nextF code s' 24 = r at *
      obtain ⟨v, s1⟩ := r
      simp only at HRE
      have HNX := Lib.hid hnx; clear hnx
      by_cases hv : v = 0
      · subst hv
        rw [if_pos rfl] at HRE
        have I := Lib.hid hI
        clear hI
        go_wp2_with fail
        refine HNX.out.mono ?_
        rintro e w5 ⟨rfl, hs5, hc5⟩
        have I5 := Lib.hid (InR.mk (I.out.own.chg hc5 I.out.own.in_ (.inr (by omega))) hs5 (I.out.chg.trans hc5))
        clear hs5 hc5 I
        have hrl := I5.out.own.len
        rw [hrl] at HRE
        go_wp2_with fail
        go_loopw [7] (fun v wr => ∃ (m c' : Nat) (B : Option Addr) (vs : List Value) (rows : List (List Int)) (s' : St), m ≤ 13 ∧ v = .slice B m c' ∧ InR w0 w1 wr A n cap code g s' B m c' vs rows ∧ roundsGo2 code N K (13 - m) rows s' = re) (fun v _ => match v with | .slice _ m _ => 13 - m | _ => 0)
        case atStart => exact ⟨m, _, _, _, _, _, by omega, rfl, I5.out, HRE.out⟩
        case round =>
          obtain ⟨m, c', B, vs, rows, s', hm, rfl, hI, hr⟩ := hrel
          clear I5 HRE HNX hrl
          have HR := Lib.hid hr; clear hr
          have hsz := hI.chg.size
          by_cases hlt : m < 13
          · have e : 13 - m = (13 - (m + 1)) + 1 := by omega
            rw [e, roundsGo2] at HR
            clear e
            have hfd := fun W hs => fleetsD_any w0 A n cap code hcode g s' N (by omega) K hK0 (by omega) W hs
            generalize fleetsD code K N s' = fd at *
            obtain ⟨ys, s5⟩ := fd
            simp only at HR
            have HFD := Lib.hid hfd; have I := Lib.hid hI
            clear hfd hI
            go_wp2_with fail
            refine (HFD.out _ I.out.src).mono ?_
            rintro e w6 ⟨A6, m6, c6, rfl, ho6, hs6, hc6⟩
            have HC6 := Lib.hid hc6; have HS6 := Lib.hid hs6; have HY := Lib.hid ho6
            have OU := Lib.hid (own_ne_chg I.out.own.outer hc6 (by omega))
            have hsz6 := hc6.size
            clear ho6 hs6 hc6
            go_wp2_with (at_builtin; refine app_row _ rfl _ _ rfl rfl (OU.out.alloc _) rfl (cell_new1 _ _ _) (by omega) ?cE ?_; rotate_left; intro A1 c1 w7 ho7 hgr7)
            · have I7 := Lib.hid (I.out.put hgl HC6.out HS6.out HY.out ho7 _ hgr7)
              clear ho7 hgr7 HC6 HS6 HY OU
              go_wp2_with fail
              go_roundw
              case rel => exact ⟨m + 1, _, _, _, _, _, by omega, rfl, I7.out, HR.out⟩
              case measure => simp; omega
            · simp; omega
          · obtain rfl : m = 13 := by omega
            rw [Nat.sub_self, roundsGo2] at HR
            have hre := HR.out
            subst hre
            have B7 := Lib.hid (below_chg hb1 hI.chg hg hb1.size)
            have O7 := Lib.hid (hI.own.base' hb1.size)
            go_wp2_with fail
            go_ret2
            exact ⟨_, _, _, _, rfl, O7.out, B7.out⟩
      · rw [if_neg hv] at HRE
        have hre := HRE.out
        subst hre
        have hne : (v == 0) = false := by simpa using hv
        clear hv HRE
        have I := Lib.hid hI
        clear hI
        go_wp2_with fail
        refine HNX.out.mono ?_
        rintro e w5 ⟨rfl, hs5, hc5⟩
        have O7 := Lib.hid ((I.out.own.chg hc5 I.out.own.in_ (.inr (by omega))).base' hb1.size)
        have B7 := Lib.hid (below_chg hb1 (I.out.chg.trans hc5) hg hb1.size)
        go_wp2_with fail
        go_ret2
        exact ⟨_, _, _, _, rfl, O7.out, B7.out⟩
theorem roundsD_any (w0 : World) (A : Option Addr) (n cap : Nat) (code : List Int) (hcode : Code0 w0 A n code) (w : World) (hb : Below w0.heap.size w0 w) :
    Calls Try.prog 42 #[.slice A n cap] w (RetRK w (roundsD code)) := by
  go_enter Try.func42, Try.ntmps42
  go_wp2_with fail
  refine (rounds_any w0 A n cap code hcode w hb).mono ?_
  rintro e w1 ⟨A1, n1, c1, vs, rfl, h1, h2⟩
  go_wp2_with fail
  go_ret2
  exact ⟨_, _, _, vs, rfl, h1, h2⟩
end Go.Proofs.Ytoccfbkklponnaa

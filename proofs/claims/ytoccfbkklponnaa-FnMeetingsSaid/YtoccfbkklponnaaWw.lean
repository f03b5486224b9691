/- Walks: rounds (chapter 30): the pair that has met least often. -/
import Derived.Test.YtoccfbkklponnaaWv
namespace Go.Proofs.Ytoccfbkklponnaa
open Go.RowKit
set_option linter.unusedVariables false
set_option maxRecDepth 100000

/-- The element of a matrix in memory. -/
theorem mat_cell {w : World} {A : Option Addr} {n : Nat} {f : Nat → Nat → Nat} (h : RdRows w A n (mat f n)) {i j : Nat} (hi : i < n) (hj : j < n) :
    ∃ b o b2 o2 c', A = some ⟨b, o, none⟩ ∧ w.cell? ⟨b, o + i, none⟩ = some (.slice (some ⟨b2, o2, none⟩) n c') ∧ w.cell? ⟨b2, o2 + j, none⟩ = some (.int .i64 (f i j : Int)) := by
  obtain ⟨b, o, A', c', xs, e, hx, _, hc, hrd⟩ := h.row hi
  rw [mat_get f hi] at hx
  injection hx with hx
  subst hx
  rw [mrow_length] at hc hrd
  obtain ⟨b2, o2, x, rfl, hx, _, hcx⟩ := hrd.int hj
  rw [mrow_get f hj] at hx
  injection hx with hx
  subst hx
  exact ⟨b, o, b2, o2, c', e, hc, hcx⟩

def Ret4 (w : World) (r : Int × Int × Int × Int) (e : Ending) (w' : World) : Prop :=
  e = .returned (.tuple #[.int .i64 r.1, .int .i64 r.2.1, .int .i64 r.2.2.1, .int .i64 r.2.2.2]) ∧ Below w.heap.size w w'

theorem implLeast_any (A : Option Addr) (m c : Nat) (rows : List (List Int)) (k : Int) (w : World) (h0 : RdRows w A m rows) :
    Calls Try.prog 32 #[.slice A m c, .int .i64 k] w (Ret4 w (leastMetF rows k)) := by
  have h := h0; clear h0
  have HC := Lib.hid (implMeet_any A m c rows k w h)
  by_cases hz : roundsCodeF rows k = 0
  · have hR := rounds_of hz
    have e1 : meetCountsF rows k = (mat (meetN rows) (rows.getD 0 []).length, 0) := by unfold meetCountsF; rw [if_pos hz]
    have e2 : leastMetF rows k = if (rows.getD 0 []).length < 2 then (0, 0, 0, 4) else (((least (meetN rows) (rows.getD 0 []).length).1 : Int), ((least (meetN rows) (rows.getD 0 []).length).2 : Int), (meetN rows (least (meetN rows) (rows.getD 0 []).length).1 (least (meetN rows) (rows.getD 0 []).length).2 : Int), 0) := by unfold leastMetF; rw [if_pos hz]
    rw [e1] at HC
    rw [e2]; clear e1 e2 hz
    generalize hn : (rows.getD 0 []).length = n at *
    clear hn
    have hn1 := hR.n1; have hn16 := hR.n16
    generalize hf : meetN rows = f at *
    clear hf
    by_cases h2 : n < 2
    · rw [if_pos h2]
      go_enter Try.func32, Try.ntmps32
      go_wp2_with fail
      refine HC.out.mono ?_
      rintro e w1 ⟨A1, n1, c1, vs, rfl, ho, _, hb1⟩
      obtain rfl : n = n1 := by have := ho.len; rw [mat_length] at this; exact this
      have hb := Lib.hid hb1
      clear ho hb1
      go_wp2_with fail
      refine bodyPost_ret (results_tmp4 rfl _ _ _) rfl ?_
      exact ⟨rfl, hb.out⟩
    · rw [if_neg h2]
      go_enter Try.func32, Try.ntmps32
      go_wp2_with fail
      refine HC.out.mono ?_
      rintro e w1 ⟨A1, n1, c1, vs, rfl, ho, _, hb1⟩
      obtain rfl : n = n1 := by have := ho.len; rw [mat_length] at this; exact this
      have hrd := ho.rd
      have HB1 := Lib.hid hb1
      clear ho hb1
      go_wp2_with fail
      go_loopw [10, 11, 28] (fun sa sb i wr => ∃ (p a b : Nat), p ≤ n ∧ i = .int .i64 p ∧ sa = .int .i64 a ∧ sb = .int .i64 b ∧ a < n ∧ b < n ∧ leastI f n (List.range' p (n - p)) (a, b) = least f n ∧ Drawn w1 wr) (fun _ _ i _ => n - (intOf i).toNat)
      case atStart => exact ⟨0, 0, 1, Nat.zero_le _, rfl, rfl, rfl, by omega, by omega, rfl, Drawn.refl _⟩
      case round =>
        obtain ⟨p, a, b, hp, rfl, rfl, rfl, ha, hb, hr, hq⟩ := hrel
        have HR := Lib.hid hr; clear hr
        by_cases hlt : p < n
        · have hq' := Lib.hid hq; clear hq
          have es := range'_step p n hlt
          have ES := Lib.hid es; clear es
          go_wp2_with fail
          obtain ⟨wo, hwo⟩ : ∃ wo : World, wo = wr := ⟨_, rfl⟩
          rw [← hwo] at hq'
          go_loopw [10, 11, 13] (fun sa sb i wr => ∃ (q a' b' : Nat), q ≤ n ∧ i = .int .i64 q ∧ sa = .int .i64 a' ∧ sb = .int .i64 b' ∧ a' < n ∧ b' < n ∧ leastJ f p (List.range' q (n - q)) (a', b') = leastJ f p (List.range' (p + 1) (n - (p + 1))) (a, b) ∧ Drawn w1 wr) (fun _ _ i _ => n - (intOf i).toNat)
          case atStart => exact ⟨p + 1, a, b, by omega, by go_num, rfl, rfl, ha, hb, rfl, by rw [← hwo]; exact hq'.out⟩
          case round =>
            clear hwo hq'
            obtain ⟨q, a', b', hq0, rfl, rfl, rfl, ha', hb', hr', hq⟩ := hrel
            have HR' := Lib.hid hr'; clear hr'
            by_cases hltq : q < n
            · have es := range'_step q n hltq
              have ES' := Lib.hid es; clear es
              obtain ⟨x1, y1, x2, y2, d1, rfl, hc1, hc2⟩ := mat_cell (hrd.drawn hq) hlt hltq
              obtain ⟨x1', y1', x3, y3, d2, hA', hc3, hc4⟩ := mat_cell (hrd.drawn hq) ha' hb'
              obtain ⟨rfl, rfl⟩ : x1 = x1' ∧ y1 = y1' := by injection hA' with hA'; injection hA' with e1 e2; exact ⟨e1, e2⟩
              clear hA'
              by_cases hlf : f p q < f a' b'
              · have hd : decide (f p q < f a' b') = true := by simpa using hlf
                go_wp2
                go_quiet (fail)
                go_wp2
                go_roundw
                case rel => exact ⟨q + 1, p, q, by omega, by go_num, rfl, rfl, hlt, hltq, by rw [← HR'.out, ES'.out, leastJ, if_pos hlf], hq.step _⟩
                case measure => simp [intOf]; omega
              · have hd : decide (f p q < f a' b') = false := by simpa using hlf
                go_wp2
                go_quiet (fail)
                go_wp2
                go_roundw
                case rel => exact ⟨q + 1, a', b', by omega, by go_num, rfl, rfl, ha', hb', by rw [← HR'.out, ES'.out, leastJ, if_neg hlf], hq.step _⟩
                case measure => simp [intOf]; omega
            · obtain rfl : q = n := by omega
              rw [Nat.sub_self, List.range'_zero, leastJ] at HR'
              go_wp2
              go_roundw
              case rel => exact ⟨p + 1, a', b', by omega, by go_num, rfl, rfl, ha', hb', by rw [← HR.out, ES.out, leastI, ← HR'.out], hq⟩
              case measure => simp [intOf]; omega
        · obtain rfl : p = n := by omega
          rw [Nat.sub_self, List.range'_zero, leastI] at HR
          obtain ⟨x1, y1, x3, y3, d2, rfl, hc3, hc4⟩ := mat_cell (hrd.drawn hq) ha hb
          go_wp2
          go_quiet (fail)
          go_wp2
          refine bodyPost_ret (results_tmp4 rfl _ _ _) rfl ?_
          rw [← HR.out]
          exact ⟨rfl, HB1.out.trans ((hq.step _).below.mono HB1.out.size)⟩
  · have e1 : meetCountsF rows k = ([], roundsCodeF rows k) := by unfold meetCountsF; rw [if_neg hz]
    have e2 : leastMetF rows k = (0, 0, 0, roundsCodeF rows k) := by unfold leastMetF; rw [if_neg hz]
    rw [e1] at HC
    rw [e2]; clear e1 e2
    generalize roundsCodeF rows k = code at *
    have hne : (code != 0) = true := by simp [hz]
    clear hz
    go_enter Try.func32, Try.ntmps32
    go_wp2_with fail
    refine HC.out.mono ?_
    rintro e w1 ⟨A1, n1, c1, vs, rfl, ho, _, hb1⟩
    have hb := Lib.hid hb1
    clear ho hb1
    go_wp2_with fail
    refine bodyPost_ret (results_tmp4 rfl _ _ _) rfl ?_
    exact ⟨rfl, hb.out⟩

theorem specLeast_any (A : Option Addr) (m c : Nat) (rows : List (List Int)) (k : Int) (w : World) (h0 : RdRows w A m rows) :
    Calls Try.prog 30 #[.slice A m c, .int .i64 k] w (Ret4 w (leastMetF rows k)) := by
  have h := h0; clear h0
  have HC := Lib.hid (l30Rounds_any A m c rows k w h)
  by_cases hz : roundsCodeF rows k = 0
  · have hR := rounds_of hz
    have e2 : leastMetF rows k = if (rows.getD 0 []).length < 2 then (0, 0, 0, 4) else (((least (meetN rows) (rows.getD 0 []).length).1 : Int), ((least (meetN rows) (rows.getD 0 []).length).2 : Int), (meetN rows (least (meetN rows) (rows.getD 0 []).length).1 (least (meetN rows) (rows.getD 0 []).length).2 : Int), 0) := by unfold leastMetF; rw [if_pos hz]
    rw [hz] at HC
    rw [e2]; clear e2 hz
    generalize hn : (rows.getD 0 []).length = n at *
    clear hn
    have hm1 := hR.m1; have hn1 := hR.n1; have hn16 := hR.n16
    rw [h.len] at hm1
    have hmp : 0 < m := by omega
    obtain ⟨b0, o0, A0, c0, x0, rfl, hx0, _, hc0, hrd0⟩ := h.row (k := 0) hmp
    have hx0l := hR.all_ x0 (List.mem_of_getElem? hx0)
    simp only [Nat.add_zero, hx0l] at hc0
    clear hx0 hx0l hrd0
    by_cases h2 : n < 2
    · rw [if_pos h2]
      obtain rfl : n = 1 := by omega
      go_enter Try.func30, Try.ntmps30
      go_wp2_with fail
      refine HC.out.mono ?_
      rintro e w1 ⟨rfl, hq1⟩
      have hc01 := Keeps.below hq1.below _ _ hc0
      go_wp2_with fail
      refine bodyPost_ret (results_tmp4 rfl _ _ _) rfl ?_
      exact ⟨rfl, hq1.below⟩
    · rw [if_neg h2]
      have hne1 : ((n : Int) == 1) = false := by simp; omega
      go_enter Try.func30, Try.ntmps30
      go_wp2_with fail
      refine HC.out.mono ?_
      rintro e w1 ⟨rfl, hq1⟩
      have hc01 := Keeps.below hq1.below _ _ hc0
      have HQ1 := Lib.hid hq1; clear hq1
      go_wp2_with fail
      go_loopw [10, 11, 12] (fun sa sb i wr => ∃ (p a b : Nat), p ≤ n ∧ i = .int .i64 p ∧ sa = .int .i64 a ∧ sb = .int .i64 b ∧ a < n ∧ b < n ∧ leastI (meetN rows) n (List.range' p (n - p)) (a, b) = least (meetN rows) n ∧ Drawn w1 wr) (fun _ _ i _ => n - (intOf i).toNat)
      case atStart => exact ⟨0, 0, 1, Nat.zero_le _, rfl, rfl, rfl, by omega, by omega, rfl, Drawn.refl _⟩
      case round =>
        clear hc01 hc0 hne1
        obtain ⟨p, a, b, hp, rfl, rfl, rfl, ha, hb, hr, hq⟩ := hrel
        have HR := Lib.hid hr; clear hr
        by_cases hlt : p < n
        · have hq' := Lib.hid hq; clear hq
          have es := range'_step p n hlt
          have ES := Lib.hid es; clear es
          go_wp2_with fail
          obtain ⟨wo, hwo⟩ : ∃ wo : World, wo = wr := ⟨_, rfl⟩
          rw [← hwo] at hq'
          go_loopw [10, 11, 13] (fun sa sb i wr => ∃ (q a' b' : Nat), q ≤ n ∧ i = .int .i64 q ∧ sa = .int .i64 a' ∧ sb = .int .i64 b' ∧ a' < n ∧ b' < n ∧ leastJ (meetN rows) p (List.range' q (n - q)) (a', b') = leastJ (meetN rows) p (List.range' (p + 1) (n - (p + 1))) (a, b) ∧ Drawn w1 wr) (fun _ _ i _ => n - (intOf i).toNat)
          case atStart => exact ⟨p + 1, a, b, by omega, by go_num, rfl, rfl, ha, hb, rfl, by rw [← hwo]; exact hq'.out⟩
          case round =>
            clear hwo hq'
            obtain ⟨q, a', b', hq0, rfl, rfl, rfl, ha', hb', hr', hq⟩ := hrel
            have HR' := Lib.hid hr'; clear hr'
            by_cases hltq : q < n
            · have es := range'_step q n hltq
              have ES' := Lib.hid es; clear es
              have HRD := Lib.hid ((h.drawn HQ1.out).drawn hq)
              have HQ := Lib.hid hq; clear hq
              go_wp2_with fail
              refine (l30Meet_any _ _ _ _ _ p q hR hlt hltq _ HRD.out).mono ?_
              rintro e w3 ⟨rfl, hq3⟩
              have HQ3 := Lib.hid hq3; clear hq3
              go_wp2_with fail
              refine (l30Meet_any _ _ _ _ _ a' b' hR ha' hb' _ (HRD.out.drawn HQ3.out)).mono ?_
              rintro e w4 ⟨rfl, hq4⟩
              obtain ⟨qa, hqa⟩ := HQ3.out
              obtain ⟨qb, hqb⟩ := hq4
              have hqq : Drawn w1 w4 := by rw [hqb, hqa]; exact (HQ.out.step _).step _
              have HQQ := Lib.hid hqq; clear hqa hqb hqq
              by_cases hlf : meetN rows p q < meetN rows a' b'
              · have hd : decide (meetN rows p q < meetN rows a' b') = true := by simpa using hlf
                go_wp2
                go_roundw
                case rel => exact ⟨q + 1, p, q, by omega, by go_num, rfl, rfl, hlt, hltq, by rw [← HR'.out, ES'.out, leastJ, if_pos hlf], HQQ.out⟩
                case measure => simp [intOf]; omega
              · have hd : decide (meetN rows p q < meetN rows a' b') = false := by simpa using hlf
                go_wp2
                go_roundw
                case rel => exact ⟨q + 1, a', b', by omega, by go_num, rfl, rfl, ha', hb', by rw [← HR'.out, ES'.out, leastJ, if_neg hlf], HQQ.out⟩
                case measure => simp [intOf]; omega
            · obtain rfl : q = n := by omega
              rw [Nat.sub_self, List.range'_zero, leastJ] at HR'
              go_wp2
              go_roundw
              case rel => exact ⟨p + 1, a', b', by omega, by go_num, rfl, rfl, ha', hb', by rw [← HR.out, ES.out, leastI, ← HR'.out], hq⟩
              case measure => simp [intOf]; omega
        · obtain rfl : p = n := by omega
          rw [Nat.sub_self, List.range'_zero, leastI] at HR
          have HRD := Lib.hid ((h.drawn HQ1.out).drawn hq)
          have HQ := Lib.hid hq; clear hq
          go_wp2_with fail
          refine (l30Meet_any _ _ _ _ _ a b hR ha hb _ HRD.out).mono ?_
          rintro e w3 ⟨rfl, hq3⟩
          have HQ3 := Lib.hid hq3; clear hq3
          go_wp2_with fail
          refine bodyPost_ret (results_tmp4 rfl _ _ _) rfl ?_
          rw [← HR.out]
          have hb1 := HQ1.out.below
          have hb2 := hb1.trans (HQ.out.below.mono hb1.size)
          exact ⟨rfl, hb2.trans (HQ3.out.below.mono hb2.size)⟩
  · have e2 : leastMetF rows k = (0, 0, 0, roundsCodeF rows k) := by unfold leastMetF; rw [if_neg hz]
    rw [e2]; clear e2
    generalize roundsCodeF rows k = code at *
    have hne : (code != 0) = true := by simp [hz]
    clear hz
    go_enter Try.func30, Try.ntmps30
    go_wp2_with fail
    refine HC.out.mono ?_
    rintro e w1 ⟨rfl, hq1⟩
    go_wp2_with fail
    refine bodyPost_ret (results_tmp4 rfl _ _ _) rfl ?_
    exact ⟨rfl, hq1.below⟩
end Go.Proofs.Ytoccfbkklponnaa

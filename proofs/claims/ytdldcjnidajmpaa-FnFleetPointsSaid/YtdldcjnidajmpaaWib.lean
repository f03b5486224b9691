/- Walks: drawn fleets. -/
import Derived.Test.YtdldcjnidajmpaaMi
import Derived.Test.YtdldcjnidajmpaaWek
namespace Go.Proofs.Ytdldcjnidajmpaa
open Go.RowKit
set_option linter.unusedVariables false
set_option maxRecDepth 100000

/-- New integers are drawn (nil, too). -/
def RetO (w0 w : World) (A : Option Addr) (n cap : Nat) (code : List Int) (g : Nat) (r : List Int × St) (e : Ending) (w' : World) : Prop :=
  ∃ A' m c, e = .returned (.slice A' m c) ∧ w'.ownsRow w.heap.size 2 1 (.slice A' m c) m (ints r.1) ∧ Src w0 w' A n cap code g r.2 ∧ Chg g (g + 1) w w'

theorem fleetsD_any (w0 : World) (A : Option Addr) (n cap : Nat) (code : List Int) (hcode : Code0 w0 A n code) (g : Nat) (s : St) (N : Nat) (hN : N ≤ 1000) (K : Int) (hK0 : 0 ≤ K) (hK1 : K ≤ 1000) (w : World) (h : Src w0 w A n cap code g s) :
    Calls Try.prog 80 #[.pointer (some ⟨g, 0, none⟩), .int .i64 (N : Int), .int .i64 K] w (RetO w0 w A n cap code g (fleetsD code K N s)) := by
  have hgl := h.lt
  have hmax : 1 ≤ max 1 K ∧ max 1 K ≤ 1000 := by omega
  obtain ⟨hm1, hm2⟩ := hmax
  unfold fleetsD
  have hlen := fleetsGo_len code K N [] s
  simp only [List.length_nil, Nat.zero_add] at hlen
  generalize hfg : fleetsGo code K N [] s = fg at *
  have HFG := Lib.hid hfg; have HLEN := Lib.hid hlen
  clear hfg hlen
  have hmx : (if (1 : Int) < K then K else 1) = max 1 K := by split <;> omega
  go_enter Try.func80, Try.ntmps80
  go_wp2_with fail
  go_loopw [7, 8] (fun v i wr => ∃ (k c' : Nat) (A' : Option Addr) (out : List Int) (s' : St), k ≤ N ∧ i = .int .i64 k ∧ v = .slice A' k c' ∧ wr.ownsRow w.heap.size 2 1 (.slice A' k c') k (ints out) ∧ fleetsGo code K (N - k) out s' = fg ∧ Src w0 wr A n cap code g s' ∧ Chg g (g + 1) w wr) (fun _ i _ => N - (intOf i).toNat)
  case atStart => exact ⟨0, _, _, [], s, Nat.zero_le _, rfl, rfl, own_empty _ _ _ (Nat.le_refl _), HFG.out, h.alloc _, chg_alloc (Chg.refl _ _ _) _⟩
  case round =>
    obtain ⟨k, c', A', out, s', hk, rfl, rfl, ho, hr, hs, hc⟩ := hrel
    clear HFG
    have HR := Lib.hid hr; clear hr
    have hsz := hc.size
    by_cases hlt : k < N
    · have hnx := next_any w0 A n cap code hcode g s' (max 1 K) (by omega) wr hs
      have hvb := nextF_bd code s' (max 1 K) (by omega)
      have e : N - k = (N - (k + 1)) + 1 := by omega
      rw [e, fleetsGo] at HR
      clear e
      generalize nextF code s' (max 1 K) = r at *
      obtain ⟨v, s1⟩ := r
      simp only at hvb HR
      obtain ⟨hv0, hv1⟩ := hvb
      have HNX := Lib.hid hnx
      have O := Lib.hid ho; have C := Lib.hid hc
      clear hnx ho hc hs
      go_wp2_with fail
      refine HNX.out.mono ?_
      rintro e w4 ⟨rfl, hs4, hc4⟩
      have O4 := Lib.hid (own_ne_chg O.out hc4 (by omega))
      have HS4 := Lib.hid hs4; have HC4 := Lib.hid (C.out.trans hc4)
      have hsz4 := hc4.size
      clear O C hs4 hc4
      have tok1 : True := trivial
      go_wp2_with (first | (at_builtin; have _t := tok1; refine app_i64 _ rfl _ _ rfl rfl (O4.out.alloc _) rfl (cell_new1 _ _ _) (by omega) (by simp; omega) ?_; intro A5 c5 w5 ho5 hgr5; clear tok1))
      have hrow : ∀ q, (Value.slice A' k c').ownBlock = some q → w.heap.size ≤ q := fun q e => (O4.out.lt q e).1
      have S5 := Lib.hid ((HS4.out.alloc (.cells #[.int .i64 v] 2)).grown hgr5 (fun q e => by have := hrow q e; omega))
      have T5 := Lib.hid (chg_grown (chg_alloc HC4.out (.cells #[.int .i64 v] 2)) hgr5 (fun q e => by have := hrow q e; omega))
      have O5 := Lib.hid ho5
      clear ho5 hgr5 hrow
      go_wp2_with fail
      go_roundw
      case rel => exact ⟨k + 1, c5, A5, _, _, by omega, by go_num, rfl, O5.out, HR.out, S5.out, T5.out⟩
      case measure => simp [intOf]; omega
    · obtain rfl : k = N := by omega
      rw [Nat.sub_self, fleetsGo] at HR
      have hfg := HR.out
      subst hfg
      have hl := HLEN.out
      simp only at hl
      clear HR HLEN
      by_cases h0 : k = 0
      · have es : spoilF code K (out, s') = (out, s') := by unfold spoilF; rw [if_pos (by simp only; omega)]
        have ES := Lib.hid es
        clear es
        have hd0 : decide ((0 : Int) < (k : Int)) = false := by simp; omega
        go_wp2_with fail
        go_ret
        exact ⟨_, _, _, rfl, by rw [ES.out]; exact ho, by rw [ES.out]; exact hs, hc⟩
      · have hd0 : decide ((0 : Int) < (k : Int)) = true := by simp; omega
        have hkp : 0 < k := by omega
        have e1 : spoilF code K (out, s') = if (nextF code s' 24).1 = 0 then (out.set 0 (K - (K + 1) * (nextF code (nextF code s' 24).2 2).1), (nextF code (nextF code s' 24).2 2).2) else (out, (nextF code s' 24).2) := by unfold spoilF; rw [if_neg (by simp only; omega)]
        have E1 := Lib.hid e1
        clear e1 h0
        have h3 := fun W hs => next_any w0 A n cap code hcode g s' 24 (by omega) W hs
        generalize nextF code s' 24 = r3 at *
        obtain ⟨v3, s3⟩ := r3
        simp only at E1
        have H3 := Lib.hid h3; clear h3
        by_cases hv3 : v3 = 0
        · subst hv3
          rw [if_pos rfl] at E1
          have h5 := fun W hs => next_any w0 A n cap code hcode g s3 2 (by omega) W hs
          have hb5 := nextF_bd code s3 2 (by omega)
          generalize nextF code s3 2 = r5 at *
          obtain ⟨v5, s5⟩ := r5
          simp only at hb5
          obtain ⟨hb50, hb51⟩ := hb5
          have H5 := Lib.hid h5; clear h5
          have hprod : (K + 1) * v5 = 0 ∨ (K + 1) * v5 = K + 1 := by
            have : v5 = 0 ∨ v5 = 1 := by omega
            rcases this with rfl | rfl
            · exact .inl (Int.mul_zero _)
            · exact .inr (Int.mul_one _)
          have hw1 : IntKind.i64.wrap ((K + 1) * v5) = (K + 1) * v5 := IntWalk.i64_in _ (by omega)
          have hw2 : IntKind.i64.wrap (K - (K + 1) * v5) = K - (K + 1) * v5 := IntWalk.i64_in _ (by omega)
          clear hprod
          have O := Lib.hid ho; have C := Lib.hid hc
          clear ho hc
          simp only at E1
          generalize hq : K - (K + 1) * v5 = q at *
          have HQ := Lib.hid hq; have HW1 := Lib.hid hw1; have HW2 := Lib.hid hw2
          clear hq hw1 hw2
          go_wp2_with fail
          refine (H3.out _ hs).mono ?_
          rintro e w3 ⟨rfl, hs3, hc3⟩
          have O3 := Lib.hid (own_ne_chg O.out hc3 hgl)
          go_wp2_with fail
          refine (H5.out _ hs3).mono ?_
          rintro e w5 ⟨rfl, hs5, hc5⟩
          have ho5 := own_ne_chg O3.out hc5 hgl
          obtain ⟨g2, x, rfl, hgb, hgl2, _, hcx, hfx⟩ := own_int_at ho5 (k := 0) hkp
          have ho6 := own_set (k := 0) ho5 q
          have hgr6 : w5.grownBy (w5.setCell ⟨g2, 0, none⟩ (.int .i64 q)) (some g2) := grown_set (World.grownBy.refl _ _) 0 _
          have hs6 := hs5.grown hgr6 (fun q e => by injection e with e; omega)
          have hc6 : Chg g (g + 1) w (w5.setCell ⟨g2, 0, none⟩ (.int .i64 q)) := chg_grown ((C.out.trans hc3).trans hc5) hgr6 (fun q e => by injection e with e; omega)
          have O6 := Lib.hid ho6; have S6 := Lib.hid hs6; have C6 := Lib.hid hc6
          clear ho5 ho6 hgr6 hs6 hc6 hs3 hs5 hc3 hc5 O3
          have hw1 := HW1.out
          have hq := HQ.out
          have hw2 := HW2.out
          go_wp2_with fail
          go_ret
          exact ⟨_, _, _, rfl, by rw [E1.out]; exact O6.out, by rw [E1.out]; exact S6.out, C6.out⟩
        · rw [if_neg hv3] at E1
          have hne : (v3 == 0) = false := by simpa using hv3
          clear hv3
          have O := Lib.hid ho; have C := Lib.hid hc
          clear ho hc
          go_wp2_with fail
          refine (H3.out _ hs).mono ?_
          rintro e w3 ⟨rfl, hs3, hc3⟩
          have O3 := Lib.hid (own_ne_chg O.out hc3 hgl)
          go_wp2_with fail
          go_ret
          exact ⟨_, _, _, rfl, by rw [E1.out]; exact O3.out, by rw [E1.out]; exact hs3, C.out.trans hc3⟩
end Go.Proofs.Ytdldcjnidajmpaa

/- Walks: the library's stable sort of few integers. -/
import Derived.Test.YtfkllgnenbbccaaMs
import Derived.Test.YtfkllgnenbbccaaWx
import Derived.BigRegion
namespace Go.Proofs.Ytfkllgnenbbccaa
open Go.RowKit
set_option linter.unusedVariables false
set_option maxRecDepth 100000

theorem chg_dN {lo hi : Nat} {w w' : World} (h : Chg lo hi w w') (q : Nat) : Chg lo hi w (w'.drewN q) := ⟨h.os, h.tape, h.output, h.size, h.block⟩

theorem chg_sC {lo hi : Nat} {w w' : World} (h : Chg lo hi w w') {g i : Nat} (h1 : lo ≤ g) (h2 : g < hi) (v : Value) : Chg lo hi w (w'.setCell ⟨g, i, none⟩ v) :=
  h.trans ⟨rfl, rfl, rfl, by simp [World.setCell], fun k hk hn => Below.heap_setCell _ _ _ _ (by simp; omega)⟩
theorem swap_mem {xs o2 : List Int} {p : Nat} {x y : Int} (h : ∀ z ∈ o2, z ∈ xs) (hx : x ∈ xs) (hy : y ∈ xs) : ∀ z ∈ (o2.set (p + 1) y).set p x, z ∈ xs := by
  intro z hz
  rcases List.mem_or_eq_of_mem_set hz with hz | rfl
  · rcases List.mem_or_eq_of_mem_set hz with hz | rfl
    · exact h z hz
    · exact hy
  · exact hx
theorem insertion_any (g c n base : Nat) (xs : List Int) (P : Option Addr) (cf : Int → Int → Int) (lt : Int → Int → Bool) (hcf : ∀ a b, decide (cf a b < 0) = lt a b) (w : World) (hn16 : n ≤ 16)
    (hown : w.ownsRow base 2 1 (.slice (some ⟨g, 0, none⟩) n c) n (ints xs))
    (hc : ∀ W, Chg g (g + 1) w W → ∀ a b : Int, a ∈ xs → b ∈ xs → Calls Try.prog 76 #[.int .i64 a, .int .i64 b, .pointer P] W fun e w' => e = .returned (.int .i64 (cf a b)) ∧ Drawn W w') :
    Calls Try.prog 80 #[.slice (some ⟨g, 0, none⟩) n c, .int .i64 0, .int .i64 (n : Int), .func (.func 76) #[] #[.pointer P]] w
      fun e w' => e = .returned (.tuple #[]) ∧ w'.ownsRow base 2 1 (.slice (some ⟨g, 0, none⟩) n c) n (ints (insSort lt xs)) ∧ Chg g (g + 1) w w' := by
  have HLT := Lib.hid hcf; have HC := Lib.hid hc
  have HN := Lib.hid (own_len hown)
  have hg := hown.lt g rfl
  clear hcf hc
  go_enter Try.func80, Try.ntmps80
  go_wp2_with fail
  go_loopw [8] (fun i wr => ∃ (k : Nat) (out : List Int), 1 ≤ k ∧ k ≤ n + 1 ∧ k ≤ 17 ∧ i = .int .i64 k ∧ insOut lt (n - k) k out = insSort lt xs ∧ (∀ x ∈ out, x ∈ xs) ∧ wr.ownsRow base 2 1 (.slice (some ⟨g, 0, none⟩) n c) n (ints out) ∧ Chg g (g + 1) w wr) (fun i _ => 17 - (intOf i).toNat)
  case atStart => exact ⟨1, xs, by omega, by omega, by omega, rfl, by unfold insSort; rw [HN.out], fun x h => h, hown, Chg.refl _ _ _⟩
  case round =>
    obtain ⟨k, out, hk1, hkn, hk17, rfl, hr, hm, ho, hch⟩ := hrel
    clear hown
    have HR := Lib.hid hr; have HM := Lib.hid hm
    clear hr hm
    by_cases hlt : k < n
    · have e : n - k = (n - (k + 1)) + 1 := by omega
      rw [e, insOut] at HR
      clear e
      go_wp2_with fail
      go_loopw [9] (fun i wr => ∃ (j : Nat) (o2 : List Int), j ≤ k ∧ i = .int .i64 j ∧ Hid (insIn lt j o2 = insIn lt k out) ∧ (∀ x ∈ o2, x ∈ xs) ∧ wr.ownsRow base 2 1 (.slice (some ⟨g, 0, none⟩) n c) n (ints o2) ∧ Chg g (g + 1) w wr) (fun i _ => (intOf i).toNat)
      case atStart => exact ⟨k, out, Nat.le_refl _, rfl, rfl, HM.out, ho, hch⟩
      case round =>
        clear ho hch
        obtain ⟨j, o2, hjk, rfl, HI, hm2, ho, hch⟩ := hrel
        have HM2 := Lib.hid hm2; clear hm2
        by_cases hj : j = 0
        · subst hj
          go_wp2_with fail
          go_quiet (fail)
          go_wp2_with fail
          go_roundw
          case rel => exact ⟨k + 1, o2, by omega, by omega, by omega, by go_num, by rw [← HR.out, ← HI.out, insIn], HM2.out, (Drawn.refl _).own ho, chg_dN hch _⟩
          case measure => simp [intOf]; omega
        · obtain ⟨p, rfl⟩ : ∃ p, j = p + 1 := ⟨j - 1, by omega⟩
          obtain ⟨g1, x, hg1, _, _, hx, hcx, hfx⟩ := own_int_at ho (k := p + 1) (by omega)
          obtain rfl : g = g1 := by injection hg1 with e; injection e
          obtain ⟨g2, y, hg2, _, _, hy, hcy, hfy⟩ := own_int_at ho (k := p) (by omega)
          obtain rfl : g = g2 := by injection hg2 with e; injection e
          have hxm := HM2.out x (List.mem_of_getElem? hx)
          have hym := HM2.out y (List.mem_of_getElem? hy)
          have hcall := fun W h => HC.out W h x y hxm hym
          have hstep : insIn lt (p + 1) o2 = if lt x y then insIn lt p ((o2.set (p + 1) y).set p x) else o2 := by
            rw [insIn, swapAt, List.getD_eq_getElem?_getD, List.getD_eq_getElem?_getD, hx, hy]; rfl
          have hltb := HLT.out x y
          have HST := Lib.hid hstep
          have HX := Lib.hid hx; have HY := Lib.hid hy
          clear hg1 hg2 hstep hx hy
          have hw1 : IntKind.i64.wrap (((p + 1 : Nat) : Int) - 1) = (p : Int) := by rw [IntWalk.i64_in _ (by omega)]; omega
          by_cases hb : lt x y = true
          · rw [hb] at hltb HST
            rw [if_pos rfl] at HST
            generalize cf x y = v at *
            have HCALL := Lib.hid (fun q => hcall (wr.drewN q) (chg_dN hch q)); clear hcall
            go_wp2_with fail
            go_quiet ((go_at_call 76; exact Calls.quiet_of (HCALL.out _)))
            go_wp2_with fail
            obtain ⟨wq, hwq⟩ : ∃ wq, wq = wr.drewN nq := ⟨_, rfl⟩
            have hoq : wq.ownsRow base 2 1 (.slice (some ⟨g, 0, none⟩) n c) n (ints o2) := by rw [hwq]; exact ho
            have hchq : Chg g (g + 1) w wq := by rw [hwq]; exact chg_dN hch nq
            have hcx' : wq.cell? ⟨g, p + 1, none⟩ = some (.int .i64 x) := by rw [hwq]; exact hcx
            have hcy' : wq.cell? ⟨g, p, none⟩ = some (.int .i64 y) := by rw [hwq]; exact hcy
            have hfx' : wq.frozen? ⟨g, p + 1, none⟩ = false := by rw [hwq]; exact hfx
            have hfy' : wq.frozen? ⟨g, p, none⟩ = false := by rw [hwq]; exact hfy
            rw [← hwq]
            have HO := Lib.hid hoq; have HCH := Lib.hid hchq
            clear hwq hoq hchq hcx hcy hfx hfy ho hch
            go_region
            have ho3 := own_set (k := p) (own_set (k := p + 1) HO.out y) x
            have hc3 := chg_dN (chg_sC (i := p) (chg_sC (i := p + 1) HCH.out (Nat.le_refl _) (Nat.lt_succ_self _) (.int .i64 y)) (Nat.le_refl _) (Nat.lt_succ_self _) (.int .i64 x)) 1
            have O3 := Lib.hid ho3; have C3 := Lib.hid hc3
            clear ho3 hc3
            go_wp2_with fail
            go_roundw
            case rel => exact ⟨p, _, by omega, by go_num, by unfold Hid; rw [← HI.out, HST.out], swap_mem HM2.out hxm hym, (Drawn.refl _).own O3.out, C3.out⟩
            case measure => simp [intOf]
          · have hb' : lt x y = false := by simpa using hb
            rw [hb'] at hltb HST
            rw [if_neg (by simp)] at HST
            clear hb hb'
            generalize cf x y = v at *
            have HCALL := Lib.hid (fun q => hcall (wr.drewN q) (chg_dN hch q)); clear hcall
            go_wp2_with fail
            go_quiet ((go_at_call 76; exact Calls.quiet_of (HCALL.out _)))
            go_wp2_with fail
            go_roundw
            case rel => exact ⟨k + 1, o2, by omega, by omega, by omega, by go_num, by rw [← HR.out, ← HI.out, HST.out], HM2.out, (Drawn.refl _).own ho, chg_dN hch _⟩
            case measure => simp [intOf]; omega
    · have e : n - k = 0 := by omega
      rw [e, insOut] at HR
      go_wp2_with fail
      go_end0
      exact ⟨rfl, by rw [← HR.out]; exact ho, hch⟩

theorem stable_any (g c n base : Nat) (xs : List Int) (P : Option Addr) (cf : Int → Int → Int) (lt : Int → Int → Bool) (hcf : ∀ a b, decide (cf a b < 0) = lt a b) (w : World) (hn16 : n ≤ 16)
    (hown : w.ownsRow base 2 1 (.slice (some ⟨g, 0, none⟩) n c) n (ints xs))
    (hc : ∀ W, Chg g (g + 1) w W → ∀ a b : Int, a ∈ xs → b ∈ xs → Calls Try.prog 76 #[.int .i64 a, .int .i64 b, .pointer P] W fun e w' => e = .returned (.int .i64 (cf a b)) ∧ Drawn W w') :
    Calls Try.prog 75 #[.slice (some ⟨g, 0, none⟩) n c, .func (.func 76) #[] #[.pointer P]] w
      fun e w' => e = .returned (.tuple #[]) ∧ w'.ownsRow base 2 1 (.slice (some ⟨g, 0, none⟩) n c) n (ints (insSort lt xs)) ∧ Chg g (g + 1) w w' := by
  have H := Lib.hid (insertion_any g c n base xs P cf lt hcf w hn16 hown hc)
  clear hown hc hcf
  have hst : Calls Try.prog 79 #[.slice (some ⟨g, 0, none⟩) n c, .int .i64 (n : Int), .func (.func 76) #[] #[.pointer P]] w
      fun e w' => e = .returned (.tuple #[]) ∧ w'.ownsRow base 2 1 (.slice (some ⟨g, 0, none⟩) n c) n (ints (insSort lt xs)) ∧ Chg g (g + 1) w w' := by
    have hd1 : decide ((20 : Int) ≤ (n : Int)) = false := by simp; omega
    have hd2 : decide ((20 : Int) < (n : Int)) = false := by simp; omega
    go_enter Try.func79, Try.ntmps79
    go_wp2_with fail
    go_loopw [7, 8] (fun a b wr => a = .int .i64 0 ∧ b = .int .i64 20 ∧ wr = w) (fun _ _ _ => 0)
    case atStart => exact ⟨rfl, rfl, rfl⟩
    case round =>
      obtain ⟨rfl, rfl, rfl⟩ := hrel
      go_wp2_with fail
      refine H.out.mono ?_
      rintro e w1 ⟨rfl, ho1, hc1⟩
      go_wp2_with fail
      go_loopw [6] (fun a wr => a = .int .i64 20 ∧ wr = w1) (fun _ _ => 0)
      case atStart => exact ⟨rfl, rfl⟩
      case round =>
        obtain ⟨rfl, rfl⟩ := hrel
        go_wp2_with fail
        go_end0
        exact ⟨rfl, ho1, hc1⟩
  have HS := Lib.hid hst
  clear hst
  go_enter Try.func75, Try.ntmps75
  go_wp2_with fail
  refine HS.out.mono ?_
  rintro e w1 ⟨rfl, ho1, hc1⟩
  go_wp2_with fail
  go_end0
  exact ⟨rfl, ho1, hc1⟩
end Go.Proofs.Ytfkllgnenbbccaa

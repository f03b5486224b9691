/- Walks: races and series compared by the laws of registers. -/
import Derived.Test.YtdldcjnidajmpaaZmb
import Derived.IntWalk
namespace Go.Proofs.Ytdldcjnidajmpaa
open Go.RowKit Go.Sort
set_option linter.unusedVariables false
set_option maxRecDepth 100000

theorem w6Races_same (A A' : Option Addr) (n c n' c' : Nat) (xs : List FinishT) (w : World) (h : Rd w 3 A n (fins xs)) (h' : Rd w 3 A' n' (fins xs)) :
    Calls Try.prog 115 #[.agg #[.slice A n c], .agg #[.slice A' n' c']] w fun e w' => e = .returned (.bool true) ∧ Below w.heap.size w w' := by
  obtain rfl : n = n' := h.len_fin.symm.trans h'.len_fin
  have hm := h.le
  obtain ⟨w1, hw1, X0, X1, hb1, hs1⟩ := two_boxes w #[.slice A n c] #[.slice A' n c'] 31 31
  have H := Lib.hid (fun w' (hb : Below w1.heap.size w1 w') => (h.below hb1).below hb)
  have H' := Lib.hid (fun w' (hb : Below w1.heap.size w1 w') => (h'.below hb1).below hb)
  have HX0 := Lib.hid X0; have HX1 := Lib.hid X1; have HB1 := Lib.hid hb1
  clear h h' hb1
  have F0 := X0.l1; have F1 := X1.l1
  clear X0 X1
  go_enter Try.func115, Try.ntmps115
  go_wp2_with fail
  rw [← hw1]
  clear hw1
  go_wp2_with fail
  clear F0 F1
  go_loopw [5] (fun i wr => ∃ k : Nat, k ≤ n ∧ i = .int .i64 k ∧ Hid (Below w1.heap.size w1 wr)) (fun i _ => n - (intOf i).toNat)
  case atStart => exact ⟨0, Nat.zero_le _, rfl, Lib.hid (Below.refl _ _)⟩
  case round =>
    obtain ⟨k, hk, rfl, HB⟩ := hrel
    have F0 := (HX0.out.below HB.out).l1
    have F1 := (HX1.out.below HB.out).l1
    by_cases hlt : k < n
    · obtain ⟨b1, o1, x0, x1, x2, rfl, hx, hd, hc0, hc1, hc2⟩ := (H.out _ HB.out).fin hlt
      obtain ⟨b2, o2, y0, y1, y2, rfl, hy, hd', gc0, gc1, gc2⟩ := (H'.out _ HB.out).fin hlt
      rw [hx] at hy
      injection hy with hy
      simp only [Prod.mk.injEq] at hy
      obtain ⟨rfl, rfl, rfl⟩ := hy
      clear hx hd hd'
      go_wp2_with fail
      go_region
      have HB2 := Lib.hid (HB.out.trans ((below_drewN' wr.heap.size wr 1).mono HB.out.size))
      go_wp2_with fail
      go_roundw
      case rel => exact ⟨k + 1, by omega, by go_num, HB2⟩
      case measure => simp [intOf] <;> omega
    · obtain rfl : k = n := by omega
      go_wp2_with fail
      go_ret
      exact ⟨rfl, HB1.out.trans (HB.out.mono HB1.out.size)⟩
theorem w6Series_same (b s : Int) (A : Option Addr) (n c : Nat) (A' : Option Addr) (n' c' : Nat) (xs : List (List FinishT)) (w : World) (h : RdRaces w A n xs) (h' : RdRaces w A' n' xs) :
    Calls Try.prog 61 #[.agg #[.int .i64 b, .int .i64 s, .slice A n c], .agg #[.int .i64 b, .int .i64 s, .slice A' n' c']] w fun e w' => e = .returned (.bool true) ∧ Below w.heap.size w w' := by
  obtain rfl : n = n' := h.len.symm.trans h'.len
  have hm := h.le
  obtain ⟨w1, hw1, X0, X1, hb1, hs1⟩ := two_boxes w #[.int .i64 b, .int .i64 s, .slice A n c] #[.int .i64 b, .int .i64 s, .slice A' n c'] 73 73
  have H := Lib.hid (fun w' (hb : Below w1.heap.size w1 w') => (h.below hb1).below hb)
  have H' := Lib.hid (fun w' (hb : Below w1.heap.size w1 w') => (h'.below hb1).below hb)
  have HX0 := Lib.hid X0; have HX1 := Lib.hid X1; have HB1 := Lib.hid hb1
  clear h h' hb1
  have F0 := X0.f3; have F1 := X1.f3
  clear X0 X1
  go_enter Try.func61, Try.ntmps61
  go_wp2_with fail
  rw [← hw1]
  clear hw1
  go_wp2_with fail
  clear F0 F1
  go_loopw [5] (fun i wr => ∃ k : Nat, k ≤ n ∧ i = .int .i64 k ∧ Hid (Below w1.heap.size w1 wr)) (fun i _ => n - (intOf i).toNat)
  case atStart => exact ⟨0, Nat.zero_le _, rfl, Lib.hid (Below.refl _ _)⟩
  case round =>
    obtain ⟨k, hk, rfl, HB⟩ := hrel
    have F0 := (HX0.out.below HB.out).f3
    have F1 := (HX1.out.below HB.out).f3
    by_cases hlt : k < n
    · obtain ⟨b1, o1, B, cB, x, rfl, hx, _, hc, hrd⟩ := (H.out _ HB.out).row hlt
      obtain ⟨b2, o2, B', cB', x', rfl, hx', _, hc', hrd'⟩ := (H'.out _ HB.out).row hlt
      obtain rfl : x = x' := by rw [hx] at hx'; injection hx'
      have HQ := Lib.hid (fun w' (hb : Below wr.heap.size wr w') => w6Races_same B B' x.length cB x.length cB' x w' (hrd.below hb) (hrd'.below hb))
      have hsz := HB.out.size
      clear hx hx' hrd hrd'
      go_wp2_with fail
      go_still_tail 10, (by kernel_rfl)
      go_wp2_with fail
      refine (HQ.out _ (below_drewN' _ wr 1)).mono ?_
      rintro e w2 ⟨rfl, hb2⟩
      have HB2 := Lib.hid ((HB.out.trans ((below_drewN' w1.heap.size wr 1).mono (Nat.le_refl _))).trans (hb2.mono hsz))
      clear hb2 HB hc hc' F0 F1
      go_wp2_with fail
      go_roundw
      case rel => exact ⟨k + 1, by omega, by go_num, HB2⟩
      case measure => simp [intOf] <;> omega
    · obtain rfl : k = n := by omega
      go_wp2_with fail
      go_ret
      exact ⟨rfl, HB1.out.trans (HB.out.mono HB1.out.size)⟩
end Go.Proofs.Ytdldcjnidajmpaa

/- Walks: the laws' helpers on races: size, copy, compare, mark. -/
import Derived.Test.YtdldcjnidajmpaaFs
import Derived.Test.YtdldcjnidajmpaaBx
namespace Go.Proofs.Ytdldcjnidajmpaa
open Go.RowKit
set_option linter.unusedVariables false
set_option maxRecDepth 100000

theorem Box.l1 {w : World} {b : Nat} {x : Value} {t : TypeId} (h : Box w b #[x] t) : w.cell? ⟨b, 0, none⟩ = some x ∧ w.frozen? ⟨b, 0, none⟩ = false ∧ b < w.heap.size := ⟨h.cell rfl, h.fz, h.lt⟩
/-- The copy of a race. -/
def RetRace (w : World) (fs : List FinishT) (e : Ending) (w' : World) : Prop :=
  ∃ A n c, e = .returned (.agg #[.slice A n c]) ∧ w'.ownsRow w.heap.size 88 3 (.slice A n c) n (fins fs) ∧ n ≤ 1048576 ∧ Below w.heap.size w w'
theorem szRace_any (A : Option Addr) (n c : Nat) (fs : List FinishT) (left : Int) (h0 : 0 ≤ left) (h1 : left ≤ 1048576) (w : World) (hr : Rd w 3 A n (fins fs)) :
    Calls Try.prog 15 #[.agg #[.slice A n c], .int .i64 left] w fun e w' => e = .returned (.int .i64 (if left < (n : Int) then -1 else left - n)) ∧ Below w.heap.size w w' := by
  have hn := hr.le
  have HB := Lib.hid (show ∀ o, Below w.heap.size w (w.alloc o) from fun o => (Below.refl _ _).alloc (Nat.le_refl _) o)
  have HS := Lib.hid (fun w => szFinishS_any A n c left w h0 h1 hn)
  clear hr
  by_cases h : left < n
  · rw [if_pos h] at HS ⊢
    go_enter Try.func15, Try.ntmps15
    go_wp2_with fail
    refine (HS.out _).mono ?_
    rintro e w2 ⟨rfl, rfl⟩
    go_wp2_with fail
    go_ret
    exact ⟨rfl, HB.out _⟩
  · rw [if_neg h] at HS ⊢
    go_enter Try.func15, Try.ntmps15
    go_wp2_with fail
    refine (HS.out _).mono ?_
    rintro e w2 ⟨rfl, rfl⟩
    go_wp2_with fail
    go_ret
    exact ⟨rfl, HB.out _⟩
theorem toRace_any (A : Option Addr) (n c : Nat) (fs : List FinishT) (w : World) (h : Rd w 3 A n (fins fs)) (hn : n ≤ 1048576) :
    Calls Try.prog 17 #[.agg #[.slice A n c]] w (RetRace w fs) := by
  have HC := Lib.hid (fun w' (hb : Below w.heap.size w w') => toFinishS_any A n c fs w' (h.below hb) hn)
  clear h
  obtain ⟨w1, hw1, X0, X1, X2, hb1, hs1⟩ := three_boxes w #[.slice A n c] #[.slice none 0 0] #[.slice none 0 0] 24 31 31
  go_enter Try.func17, Try.ntmps17
  go_wp2_with fail
  rw [← hw1]
  clear hw1
  refine (HC.out _ hb1).mono ?_
  rintro e w2 ⟨A2, n2, c2, rfl, ho, hn2, hb2⟩
  have F1 := (X1.below hb2).l1
  have F2 := (X2.below hb2).l1
  have HO := Lib.hid ho
  have HB2 := Lib.hid (hb1.trans (hb2.mono hb1.size))
  have hsz := hb2.size
  clear ho hb2 HC X0 X1 X2
  go_wp2_with fail
  refine bodyPost_ret (v := .agg #[.slice A2 n2 c2]) (by simp [results, Try.results17, go_sem, F1]) rfl ?_
  have hch := put_chg (g := w.heap.size + 1) [.slice A2 n2 c2] 0 (put_chg (g := w.heap.size + 1 + 1) [.slice A2 n2 c2] 0 (Chg.refl (w.heap.size + 1) (w.heap.size + 1 + 1 + 1) w2) (by omega) (by omega)) (by omega) (by omega)
  exact ⟨A2, n2, c2, rfl, own_base (own_chg HO.out hch (fun b hb => .inr (by have := (HO.out.lt b hb).1; omega))) (by omega), hn2, below_chg HB2.out hch (by omega) (by omega)⟩
theorem eqRace_any (A : Option Addr) (n c : Nat) (A' : Option Addr) (n' c' : Nat) (xs : List FinishT) (w : World) (h : Rd w 3 A n (fins xs)) (h' : Rd w 3 A' n' (fins xs)) :
    Calls Try.prog 21 #[.agg #[.slice A n c], .agg #[.slice A' n' c']] w fun e w' => e = .returned (.bool true) ∧ Below w.heap.size w w' := by
  have HC := Lib.hid (fun w' (hb : Below w.heap.size w w') => eqFinishS_same A A' n c n' c' xs w' (h.below hb) (h'.below hb))
  clear h h'
  obtain ⟨w1, hw1, X0, X1, hb1, hs1⟩ := two_boxes w #[.slice A n c] #[.slice A' n' c'] 31 31
  go_enter Try.func21, Try.ntmps21
  go_wp2_with fail
  rw [← hw1]
  clear hw1
  refine (HC.out _ hb1).mono ?_
  rintro e w2 ⟨rfl, hb2⟩
  have HB2 := Lib.hid (hb1.trans (hb2.mono hb1.size))
  clear hb2 X0 X1
  go_wp2_with fail
  go_ret
  exact ⟨rfl, HB2.out⟩
theorem markRace_any (base lo hi e : Nat) (A : Option Addr) (n c : Nat) (xs : List FinishT) (k : Int) (w : World) (h : w.ownsRow base e 3 (.slice A n c) n (fins xs)) (hv : ∀ b, (Value.slice A n c).ownBlock = some b → lo ≤ b ∧ b < hi)
    (hk0 : 0 ≤ k) (hk1 : k ≤ 1152921504606846976) (hn : n ≤ 1048576) :
    Calls Try.prog 22 #[.agg #[.slice A n c], .int .i64 k] w fun e' w' => e' = .returned (.int .i64 (k + 3 * n)) ∧ Chg lo hi w w' := by
  obtain ⟨w1, hw1, X0, hb1, hs1⟩ := one_box w #[.slice A n c] 31
  have HC := Lib.hid (markFinishS_any base lo hi e A n c xs k w1 (own_below h hb1) hv hk0 hk1 hn)
  clear h hv
  go_enter Try.func22, Try.ntmps22
  go_wp2_with fail
  rw [← hw1]
  clear hw1
  refine HC.out.mono ?_
  rintro e w2 ⟨rfl, hc2⟩
  have HC2 := Lib.hid ((Chg.of_below (lo := lo) (hi := hi) hb1).trans hc2)
  clear hc2
  go_wp2_with fail
  go_ret
  exact ⟨rfl, HC2.out⟩
end Go.Proofs.Ytdldcjnidajmpaa

/- Walks: the laws' helpers on registers: size, copy, compare, mark, held. -/
import Derived.Test.YtdldcjnidajmpaaEs
import Derived.Test.YtdldcjnidajmpaaBx
namespace Go.Proofs.Ytdldcjnidajmpaa
open Go.RowKit
set_option linter.unusedVariables false
set_option maxRecDepth 100000

/-- The copy of a register. -/
def RetReg (w : World) (b s : Int) (xs : List EntryT) (e : Ending) (w' : World) : Prop :=
  ∃ A n c, e = .returned (.agg #[.int .i64 b, .int .i64 s, .slice A n c]) ∧ w'.ownsRow w.heap.size 66 7 (.slice A n c) n (ents xs) ∧ n ≤ 1048576 ∧ Below w.heap.size w w'
theorem szRegister_any (b s : Int) (A : Option Addr) (n c : Nat) (xs : List EntryT) (left : Int) (h0 : 0 ≤ left) (h1 : left ≤ 1048576) (w : World) (hr : Rd w 7 A n (ents xs)) :
    Calls Try.prog 29 #[.agg #[.int .i64 b, .int .i64 s, .slice A n c], .int .i64 left] w fun e w' => e = .returned (.int .i64 (if left < (n : Int) then -1 else left - n)) ∧ Below w.heap.size w w' := by
  have hn := hr.le
  have HB := Lib.hid (show ∀ o, Below w.heap.size w (w.alloc o) from fun o => (Below.refl _ _).alloc (Nat.le_refl _) o)
  have HS := Lib.hid (fun w => szEntryS_any A n c left w h0 h1 hn)
  clear hr
  by_cases h : left < n
  · rw [if_pos h] at HS ⊢
    go_enter Try.func29, Try.ntmps29
    go_wp2_with fail
    refine (HS.out _).mono ?_
    rintro e w2 ⟨rfl, rfl⟩
    go_wp2_with fail
    go_ret
    exact ⟨rfl, HB.out _⟩
  · rw [if_neg h] at HS ⊢
    go_enter Try.func29, Try.ntmps29
    go_wp2_with fail
    refine (HS.out _).mono ?_
    rintro e w2 ⟨rfl, rfl⟩
    go_wp2_with fail
    go_ret
    exact ⟨rfl, HB.out _⟩
theorem toRegister_any (b s : Int) (A : Option Addr) (n c : Nat) (xs : List EntryT) (w : World) (h : Rd w 7 A n (ents xs)) (hn : n ≤ 1048576) :
    Calls Try.prog 31 #[.agg #[.int .i64 b, .int .i64 s, .slice A n c]] w (RetReg w b s xs) := by
  have HC := Lib.hid (fun w' (hb : Below w.heap.size w w') => toEntryS_any A n c xs w' (h.below hb) hn)
  clear h
  obtain ⟨w1, hw1, X0, X1, X2, hb1, hs1⟩ := three_boxes w #[.int .i64 b, .int .i64 s, .slice A n c] #[.int .i64 0, .int .i64 0, .slice none 0 0] #[.int .i64 b, .int .i64 s, .slice none 0 0] 46 51 51
  go_enter Try.func31, Try.ntmps31
  go_wp2_with fail
  rw [← hw1]
  clear hw1
  refine (HC.out _ hb1).mono ?_
  rintro e w2 ⟨A2, n2, c2, rfl, ho, hn2, hb2⟩
  have F1 := (X1.below hb2).f3
  have F2 := (X2.below hb2).f3
  have HO := Lib.hid ho
  have HB2 := Lib.hid (hb1.trans (hb2.mono hb1.size))
  have hsz := hb2.size
  clear ho hb2 HC X0 X1 X2
  go_wp2_with fail
  refine bodyPost_ret (v := .agg #[.int .i64 b, .int .i64 s, .slice A2 n2 c2]) (by simp [results, Try.results31, go_sem, F1]) rfl ?_
  have hch := put_chg (g := w.heap.size + 1) [.int .i64 b, .int .i64 s, .slice A2 n2 c2] 0 (put_chg (g := w.heap.size + 1 + 1) [.slice A2 n2 c2] 2 (Chg.refl (w.heap.size + 1) (w.heap.size + 1 + 1 + 1) w2) (by omega) (by omega)) (by omega) (by omega)
  exact ⟨A2, n2, c2, rfl, own_base (own_chg HO.out hch (fun b hb => .inr (by have := (HO.out.lt b hb).1; omega))) (by omega), hn2, below_chg HB2.out hch (by omega) (by omega)⟩
theorem eqRegister_any (b s : Int) (A : Option Addr) (n c : Nat) (A' : Option Addr) (n' c' : Nat) (xs : List EntryT) (w : World) (h : Rd w 7 A n (ents xs)) (h' : Rd w 7 A' n' (ents xs)) :
    Calls Try.prog 33 #[.agg #[.int .i64 b, .int .i64 s, .slice A n c], .agg #[.int .i64 b, .int .i64 s, .slice A' n' c']] w fun e w' => e = .returned (.bool true) ∧ Below w.heap.size w w' := by
  have HC := Lib.hid (fun w' (hb : Below w.heap.size w w') => eqEntryS_same A A' n c n' c' xs w' (h.below hb) (h'.below hb))
  clear h h'
  obtain ⟨w1, hw1, X0, X1, hb1, hs1⟩ := two_boxes w #[.int .i64 b, .int .i64 s, .slice A n c] #[.int .i64 b, .int .i64 s, .slice A' n' c'] 51 51
  go_enter Try.func33, Try.ntmps33
  go_wp2_with fail
  rw [← hw1]
  clear hw1
  refine (HC.out _ hb1).mono ?_
  rintro e w2 ⟨rfl, hb2⟩
  have HB2 := Lib.hid (hb1.trans (hb2.mono hb1.size))
  clear hb2 X0 X1
  go_wp2_with fail
  go_ret
  exact ⟨rfl, HB2.out⟩
theorem markRegister_any (base lo hi e : Nat) (b s : Int) (A : Option Addr) (n c : Nat) (xs : List EntryT) (k : Int) (w : World) (h : w.ownsRow base e 7 (.slice A n c) n (ents xs)) (hv : ∀ b, (Value.slice A n c).ownBlock = some b → lo ≤ b ∧ b < hi)
    (hk0 : 0 ≤ k) (hk1 : k ≤ 1099511627776) (hn : n ≤ 1048576) :
    Calls Try.prog 37 #[.agg #[.int .i64 b, .int .i64 s, .slice A n c], .int .i64 k] w fun e' w' => e' = .returned (.int .i64 (k + 7 * n)) ∧ w'.ownsRow base e 7 (.slice A n c) n (ents (seqent k n)) ∧ Chg lo hi w w' := by
  obtain ⟨w1, hw1, X0, hb1, hs1⟩ := one_box w #[.int .i64 b, .int .i64 s, .slice A n c] 51
  have HC := Lib.hid (markEntryS_seq base e A n c xs k w1 (own_below h hb1) hk0 hk1 hn)
  clear h
  go_enter Try.func37, Try.ntmps37
  go_wp2_with fail
  rw [← hw1]
  clear hw1
  refine HC.out.mono ?_
  rintro e w2 ⟨rfl, ho2, hc2⟩
  have HC2 := Lib.hid ((Chg.of_below (lo := lo) (hi := hi) hb1).trans (Chg.of_grown hc2 hv))
  have HO2 := Lib.hid ho2
  clear hc2 ho2
  go_wp2_with fail
  go_ret
  exact ⟨rfl, HO2.out, HC2.out⟩
theorem markEntryS_sq (base lo hi e : Nat) (A : Option Addr) (n c : Nat) (xs : List EntryT) (k : Int) (w : World) (h : w.ownsRow base e 7 (.slice A n c) n (ents xs)) (hv : ∀ b, (Value.slice A n c).ownBlock = some b → lo ≤ b ∧ b < hi)
    (hk0 : 0 ≤ k) (hk1 : k ≤ 1099511627776) (hn : n ≤ 1048576) :
    Calls Try.prog 38 #[.slice A n c, .int .i64 k] w fun e' w' => e' = .returned (.int .i64 (k + 7 * n)) ∧ w'.ownsRow base e 7 (.slice A n c) n (ents (seqent k n)) ∧ Chg lo hi w w' :=
  (markEntryS_seq base e A n c xs k w h hk0 hk1 hn).mono fun _ _ ⟨h1, h2, h3⟩ => ⟨h1, h2, Chg.of_grown h3 hv⟩
theorem heldRegister_any (b s : Int) (A : Option Addr) (n c : Nat) (k : Int) (w : World) (h : Rd w 7 A n (ents (seqent k n))) (hk0 : 0 ≤ k) (hk1 : k ≤ 1099511627776) (hn : n ≤ 1048576) :
    Calls Try.prog 45 #[.agg #[.int .i64 b, .int .i64 s, .slice A n c], .int .i64 k] w fun e' w' => e' = .returned (.int .i64 (k + 7 * n)) ∧ Below w.heap.size w w' := by
  obtain ⟨w1, hw1, X0, hb1, hs1⟩ := one_box w #[.int .i64 b, .int .i64 s, .slice A n c] 51
  have HC := Lib.hid (heldEntryS_any A n c k w1 (h.below hb1) hk0 hk1 hn)
  clear h
  go_enter Try.func45, Try.ntmps45
  go_wp2_with fail
  rw [← hw1]
  clear hw1
  refine HC.out.mono ?_
  rintro e w2 ⟨rfl, rfl⟩
  have HB1 := Lib.hid hb1
  clear hb1
  go_wp2_with fail
  go_ret
  exact ⟨rfl, HB1.out⟩
end Go.Proofs.Ytdldcjnidajmpaa

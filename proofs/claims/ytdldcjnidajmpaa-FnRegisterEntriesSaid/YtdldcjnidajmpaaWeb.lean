/- Walks: the source of numbers beside other memory; the drawn number of boats. -/
import Derived.Test.YtdldcjnidajmpaaMe
import Derived.Test.YtdldcjnidajmpaaWd
namespace Go.Proofs.Ytdldcjnidajmpaa
open Go.RowKit
set_option linter.unusedVariables false
set_option maxRecDepth 100000

theorem chg_grown {lo hi : Nat} {a w w' : World} {row : Option Nat} (h : Chg lo hi a w) (hg : w.grownBy w' row) (hr : ∀ k, row = some k → a.heap.size ≤ k) : Chg lo hi a w' :=
  ⟨hg.os.trans h.os, hg.tape.trans h.tape, hg.output.trans h.output, Nat.le_trans h.size hg.size, fun k hk hn => (hg.block k (Nat.lt_of_lt_of_le hk h.size) (fun e => by have := hr k e.symm; omega)).trans (h.block k hk hn)⟩
theorem chg_alloc {lo hi : Nat} {a w : World} (h : Chg lo hi a w) (o : Obj) : Chg lo hi a (w.alloc o) := chg_grown h (World.grownBy_alloc w o none) (fun k e => by cases e)
theorem chg_below {lo hi : Nat} {a w w' : World} (h : Chg lo hi a w) (k : Below w.heap.size w w') : Chg lo hi a w' := h.trans (Chg.of_below k)
theorem Src.grown {w0 w w' : World} {A : Option Addr} {n cap : Nat} {code : List Int} {g : Nat} {s : St} {row : Option Nat} (h : Src w0 w A n cap code g s) (hg : w.grownBy w' row) (hr : ∀ k, row = some k → g < k) : Src w0 w' A n cap code g s :=
  ⟨(hg.block g h.lt (fun e => by have := hr g e.symm; omega)).trans h.blk, h.old, h.bel.grown hg h.bel.size (fun k e => by have := hr k e; have := h.old; omega), h.ok⟩
theorem Src.alloc {w0 w : World} {A : Option Addr} {n cap : Nat} {code : List Int} {g : Nat} {s : St} (h : Src w0 w A n cap code g s) (o : Obj) : Src w0 (w.alloc o) A n cap code g s := h.grown (World.grownBy_alloc w o none) (fun k e => by cases e)
theorem own_ne_chg {g : Nat} {w w' : World} {base e s n : Nat} {v : Value} {xs : List Value} (h : w.ownsRow base e s v n xs) (k : Chg g (g + 1) w w') (hb : g < base) : w'.ownsRow base e s v n xs :=
  own_chg h k (fun b hv => by have := (h.lt b hv).1; omega)

theorem boatsD_any (w0 : World) (A : Option Addr) (n cap : Nat) (code : List Int) (hcode : Code0 w0 A n code) (g : Nat) (s : St) (w : World) (h : Src w0 w A n cap code g s) :
    Calls Try.prog 78 #[.pointer (some ⟨g, 0, none⟩)] w (RetN w0 w A n cap code g (boatsD code s)) := by
  have e1 : boatsD code s = if (nextF code s 24).1 = 0 then (16 * (nextF code (nextF code s 24).2 2).1, (nextF code (nextF code s 24).2 2).2) else (1 + (nextF code (nextF code s 24).2 6).1, (nextF code (nextF code s 24).2 6).2) := rfl
  rw [e1]; clear e1
  have hn := next_any w0 A n cap code hcode g s 24 (by omega) w h
  generalize nextF code s 24 = r at *
  obtain ⟨v, s1⟩ := r
  have HN := Lib.hid hn; clear hn
  simp only
  by_cases hv : v = 0
  · subst hv
    rw [if_pos rfl]
    have hb := nextF_bd code s1 2 (by omega)
    obtain ⟨hb0, hb1⟩ := hb
    go_enter Try.func78, Try.ntmps78
    go_wp2_with fail
    refine HN.out.mono ?_
    rintro e w1 ⟨rfl, hs1, hc1⟩
    go_wp2_with fail
    refine (next_any w0 A n cap code hcode g s1 2 (by omega) _ hs1).mono ?_
    rintro e w2 ⟨rfl, hs2, hc2⟩
    go_wp2_with fail
    go_ret
    exact ⟨rfl, hs2, hc1.trans hc2⟩
  · rw [if_neg hv]
    have hne : (v == 0) = false := by simpa using hv
    have hb := nextF_bd code s1 6 (by omega)
    obtain ⟨hb0, hb1⟩ := hb
    clear hv
    go_enter Try.func78, Try.ntmps78
    go_wp2_with fail
    refine HN.out.mono ?_
    rintro e w1 ⟨rfl, hs1, hc1⟩
    go_wp2_with fail
    refine (next_any w0 A n cap code hcode g s1 6 (by omega) _ hs1).mono ?_
    rintro e w2 ⟨rfl, hs2, hc2⟩
    go_wp2_with fail
    go_ret
    exact ⟨rfl, hs2, hc1.trans hc2⟩
end Go.Proofs.Ytdldcjnidajmpaa

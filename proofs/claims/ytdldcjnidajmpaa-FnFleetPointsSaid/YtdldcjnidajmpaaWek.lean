/- Walks: the drawn number of fleets. -/
import Derived.Test.YtdldcjnidajmpaaWeb
namespace Go.Proofs.Ytdldcjnidajmpaa
open Go.RowKit
set_option linter.unusedVariables false
set_option maxRecDepth 100000

theorem kD_any (w0 : World) (A : Option Addr) (n cap : Nat) (code : List Int) (hcode : Code0 w0 A n code) (g : Nat) (s : St) (w : World) (h : Src w0 w A n cap code g s) :
    Calls Try.prog 77 #[.pointer (some ⟨g, 0, none⟩)] w (RetN w0 w A n cap code g (kD code s)) := by
  have e1 : kD code s = if (nextF code s 24).1 = 0 then (5 * (nextF code (nextF code s 24).2 2).1, (nextF code (nextF code s 24).2 2).2) else (1 + (nextF code (nextF code s 24).2 4).1, (nextF code (nextF code s 24).2 4).2) := rfl
  rw [e1]; clear e1
  have hn := next_any w0 A n cap code hcode g s 24 (by omega) w h
  generalize nextF code s 24 = r at *
  obtain ⟨v, s1⟩ := r
  have HN := Lib.hid hn; clear hn
  simp only
  by_cases hv : v = 0
  · subst hv
    rw [if_pos rfl]
    have hb := nextF_bd code s1 2 (by omega)
    obtain ⟨hb0, hb1⟩ := hb
    go_enter Try.func77, Try.ntmps77
    go_wp2_with fail
    refine HN.out.mono ?_
    rintro e w1 ⟨rfl, hs1, hc1⟩
    go_wp2_with fail
    refine (next_any w0 A n cap code hcode g s1 2 (by omega) _ hs1).mono ?_
    rintro e w2 ⟨rfl, hs2, hc2⟩
    go_wp2_with fail
    go_ret
    exact ⟨rfl, hs2, hc1.trans hc2⟩
  · rw [if_neg hv]
    have hne : (v == 0) = false := by simpa using hv
    have hb := nextF_bd code s1 4 (by omega)
    obtain ⟨hb0, hb1⟩ := hb
    clear hv
    go_enter Try.func77, Try.ntmps77
    go_wp2_with fail
    refine HN.out.mono ?_
    rintro e w1 ⟨rfl, hs1, hc1⟩
    go_wp2_with fail
    refine (next_any w0 A n cap code hcode g s1 4 (by omega) _ hs1).mono ?_
    rintro e w2 ⟨rfl, hs2, hc2⟩
    go_wp2_with fail
    go_ret
    exact ⟨rfl, hs2, hc1.trans hc2⟩
end Go.Proofs.Ytdldcjnidajmpaa

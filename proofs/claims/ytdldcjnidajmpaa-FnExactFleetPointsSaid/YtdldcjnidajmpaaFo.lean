/- What a law is told of a list of finishes, and of a race, that came in. -/
import Derived.Test.YtdldcjnidajmpaaGs
import Derived.Test.YtdldcjnidajmpaaFs
namespace Go.Proofs.Ytdldcjnidajmpaa
open Go.RowKit Go.ChangeShapes Go.WideShapes Go.Deep Go.Joins
set_option linter.unusedVariables false
set_option maxRecDepth 100000

def tripOf (zs : List Int) : FinishT := (zs.getD 0 0, zs.getD 1 0, zs.getD 2 0)
theorem tripOf_fin (zs : List Int) (h : zs.length = 3) : finC (tripOf zs) = ints zs := by
  match zs, h with
  | [x0, x1, x2], _ => rfl
theorem fins_of {H : Type} {enc : TypeId × Value → H} {w : World} {base fuel : Nat} {spare : Nat → Bool} {held : Bool} {A : Option Addr} {len cap : Nat} {x : DataW H × List MemPlace}
    (h : DataW.trod enc Try.prog w base spare held fuel 22 [.slice A len cap] = some x) : ∃ xs, Rd w 3 A len (fins xs) := by
  obtain ⟨zs, hz⟩ := rd_structs (s := 3) Try.underlying22 Try.underlying132 (by kernel_rfl) (by kernel_rfl) rfl (by decide) (fun j f hj => by
    match j, hj with
    | 0, hj => simp at hj; subst hj; exact Try.underlying2
    | 1, hj => simp at hj; subst hj; exact Try.underlying2
    | 2, hj => simp at hj; subst hj; exact Try.underlying2
    | j + 3, hj => simp at hj) h
  have hl : zs.length = len * 3 := by have := hz.len; rwa [ints_length] at this
  exact ⟨groupsOf tripOf 3 len zs, by unfold fins; rw [groupsOf_flat tripOf_fin len zs hl]; exact hz⟩
theorem array1 {α : Type} {cs : Array α} (h : cs.size = 1) : ∃ c0, cs = #[c0] := by
  obtain ⟨l⟩ := cs
  match l, h with
  | [c0], _ => exact ⟨c0, rfl⟩
theorem race_of {H : Type} {enc : TypeId × Value → H} {w : World} {base : Nat} {spare : Nat → Bool} {held : Bool} {r : Reach} {b0 : Nat} {v : Value} {d : DataW H} {p : List MemPlace}
    (hv : Value.okWide Try.prog w r b0 24 v) (h : DataW.Trod enc Try.prog w base spare held 24 v d p) :
    ∃ (A : Option Addr) (n c : Nat) (xs : List FinishT), v = .agg #[.slice A n c] ∧ Rd w 3 A n (fins xs) := by
  obtain ⟨cs, rfl, hsz⟩ := okWide_struct Try.underlying24 hv
  obtain ⟨c0, rfl⟩ := array1 (hsz.trans (by kernel_rfl))
  obtain ⟨fuel, hf⟩ := h
  obtain ⟨xs, n, _, _, hl, hlen, hf⟩ := DataW.trod_struct Try.underlying24 hf
  match xs, hlen with
  | [y0], _ =>
    have h0 := hf 0 _ rfl
    have h1 : DataW.trod enc Try.prog w base spare held n 22 [c0] = some y0 := by simpa [show Try.prog.cellsOf 22 = 1 from by kernel_rfl, Value.cells] using h0
    have h1' := h1
    rcases DataW.trod_slice Try.underlying22 h1 with h3 | h3
    · obtain ⟨e2, _⟩ := h3
      injection e2 with e2
      subst e2
      exact ⟨none, 0, 0, [], rfl, by simp [fins], by omega, fun h => by omega⟩
    · obtain ⟨a, len, cap, _, _, _, _, e2, _⟩ := h3
      injection e2 with e2
      subst e2
      obtain ⟨ys, hy⟩ := fins_of h1'
      exact ⟨some a, len, cap, ys, rfl, hy⟩
end Go.Proofs.Ytdldcjnidajmpaa

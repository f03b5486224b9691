/- What a law is told of an entry, of a list of entries and of a register that came in. -/
import Derived.Test.YtgkflaeaiijhjaaGs
import Derived.Test.YtgkflaeaiijhjaaEs
namespace Go.Proofs.Ytgkflaeaiijhjaa
open Go.RowKit Go.ChangeShapes Go.WideShapes Go.Deep Go.Joins
set_option linter.unusedVariables false
set_option maxRecDepth 100000

def sevenOf (zs : List Int) : EntryT := (zs.getD 0 0, zs.getD 1 0, zs.getD 2 0, zs.getD 3 0, zs.getD 4 0, zs.getD 5 0, zs.getD 6 0)
theorem sevenOf_ent (zs : List Int) (h : zs.length = 7) : entC (sevenOf zs) = ints zs := by
  match zs, h with
  | [x0, x1, x2, x3, x4, x5, x6], _ => rfl
theorem ents_of {H : Type} {enc : TypeId × Value → H} {w : World} {base fuel : Nat} {spare : Nat → Bool} {held : Bool} {A : Option Addr} {len cap : Nat} {x : DataW H × List MemPlace}
    (h : DataW.trod enc Try.prog w base spare held fuel 22 [.slice A len cap] = some x) : ∃ xs, Rd w 7 A len (ents xs) := by
  obtain ⟨zs, hz⟩ := rd_structs (s := 7) Try.underlying22 Try.underlying66 (by kernel_rfl) (by kernel_rfl) rfl (by decide) (fun j f hj => by
    match j, hj with
    | 0, hj => simp at hj; subst hj; exact Try.underlying2
    | 1, hj => simp at hj; subst hj; exact Try.underlying2
    | 2, hj => simp at hj; subst hj; exact Try.underlying2
    | 3, hj => simp at hj; subst hj; exact Try.underlying2
    | 4, hj => simp at hj; subst hj; exact Try.underlying2
    | 5, hj => simp at hj; subst hj; exact Try.underlying2
    | 6, hj => simp at hj; subst hj; exact Try.underlying2
    | j + 7, hj => simp at hj) h
  have hl : zs.length = len * 7 := by have := hz.len; rwa [ints_length] at this
  exact ⟨groupsOf sevenOf 7 len zs, by unfold ents; rw [groupsOf_flat sevenOf_ent len zs hl]; exact hz⟩
theorem entSlice_at {H : Type} {enc : TypeId × Value → H} {w : World} {base fuel : Nat} {spare : Nat → Bool} {held : Bool} {v : Value} {x : DataW H × List MemPlace}
    (h : DataW.trod enc Try.prog w base spare held fuel 22 [v] = some x) : ∃ (A : Option Addr) (len cap : Nat) (zs : List EntryT), v = .slice A len cap ∧ Rd w 7 A len (ents zs) := by
  have h1 := h
  rcases DataW.trod_slice Try.underlying22 h with h3 | h3
  · obtain ⟨e2, _⟩ := h3
    injection e2 with e2
    subst e2
    exact ⟨none, 0, 0, [], rfl, by simp [ents], by omega, fun h => by omega⟩
  · obtain ⟨a, len, cap, _, _, _, _, e2, _⟩ := h3
    injection e2 with e2
    subst e2
    obtain ⟨ys, hy⟩ := ents_of h1
    exact ⟨some a, len, cap, ys, rfl, hy⟩
theorem register_of {H : Type} {enc : TypeId × Value → H} {w : World} {base : Nat} {spare : Nat → Bool} {held : Bool} {r : Reach} {b0 : Nat} {v : Value} {d : DataW H} {p : List MemPlace}
    (hv : Value.okWide Try.prog w r b0 24 v) (h : DataW.Trod enc Try.prog w base spare held 24 v d p) :
    ∃ (b s : Int) (A : Option Addr) (n c : Nat) (xs : List EntryT), v = .agg #[.int .i64 b, .int .i64 s, .slice A n c] ∧ Rd w 7 A n (ents xs) := by
  obtain ⟨v0, v1, v2, y0, y1, y2, m, rfl, _, _, h0, h1, h2⟩ := open_agg3 Try.underlying24 (by kernel_rfl) (by kernel_rfl) hv h
  obtain ⟨B, e0, _, _⟩ := DataW.trod_int Try.underlying2 h0
  injection e0 with e0
  subst e0
  obtain ⟨S, e1, _, _⟩ := DataW.trod_int Try.underlying2 h1
  injection e1 with e1
  subst e1
  obtain ⟨A, n, c, xs, rfl, hx⟩ := entSlice_at h2
  exact ⟨B, S, A, n, c, xs, rfl, hx⟩
theorem array7 {α : Type} {cs : Array α} (h : cs.size = 7) : ∃ c0 c1 c2 c3 c4 c5 c6, cs = #[c0, c1, c2, c3, c4, c5, c6] := by
  obtain ⟨l⟩ := cs
  match l, h with
  | [c0, c1, c2, c3, c4, c5, c6], _ => exact ⟨c0, c1, c2, c3, c4, c5, c6, rfl⟩
theorem entry_of {H : Type} {enc : TypeId × Value → H} {w : World} {base : Nat} {spare : Nat → Bool} {held : Bool} {r : Reach} {b0 : Nat} {v : Value} {d : DataW H} {p : List MemPlace}
    (hv : Value.okWide Try.prog w r b0 66 v) (h : DataW.Trod enc Try.prog w base spare held 66 v d p) :
    ∃ (x0 x1 x2 x3 x4 x5 x6 : Int), v = .agg #[.int .i64 x0, .int .i64 x1, .int .i64 x2, .int .i64 x3, .int .i64 x4, .int .i64 x5, .int .i64 x6] := by
  obtain ⟨cs, rfl, hsz⟩ := okWide_struct Try.underlying66 hv
  obtain ⟨c0, c1, c2, c3, c4, c5, c6, rfl⟩ := array7 (hsz.trans (by kernel_rfl))
  obtain ⟨fuel, hf⟩ := h
  obtain ⟨xs, n, _, _, hl, hlen, hf⟩ := DataW.trod_struct Try.underlying66 hf
  have hC : Try.prog.cellsOf 2 = 1 := by kernel_rfl
  match xs, hlen with
  | [y0, y1, y2, y3, y4, y5, y6], _ =>
    have h0 : DataW.trod enc Try.prog w base spare held n 2 [c0] = some y0 := by simpa [hC, Value.cells] using hf 0 _ rfl
    obtain ⟨x0, e0, _, _⟩ := DataW.trod_int Try.underlying2 h0
    injection e0 with e0
    subst e0
    have h1 : DataW.trod enc Try.prog w base spare held n 2 [c1] = some y1 := by simpa [hC, Value.cells] using hf 1 _ rfl
    obtain ⟨x1, e1, _, _⟩ := DataW.trod_int Try.underlying2 h1
    injection e1 with e1
    subst e1
    have h2 : DataW.trod enc Try.prog w base spare held n 2 [c2] = some y2 := by simpa [hC, Value.cells] using hf 2 _ rfl
    obtain ⟨x2, e2, _, _⟩ := DataW.trod_int Try.underlying2 h2
    injection e2 with e2
    subst e2
    have h3 : DataW.trod enc Try.prog w base spare held n 2 [c3] = some y3 := by simpa [hC, Value.cells] using hf 3 _ rfl
    obtain ⟨x3, e3, _, _⟩ := DataW.trod_int Try.underlying2 h3
    injection e3 with e3
    subst e3
    have h4 : DataW.trod enc Try.prog w base spare held n 2 [c4] = some y4 := by simpa [hC, Value.cells] using hf 4 _ rfl
    obtain ⟨x4, e4, _, _⟩ := DataW.trod_int Try.underlying2 h4
    injection e4 with e4
    subst e4
    have h5 : DataW.trod enc Try.prog w base spare held n 2 [c5] = some y5 := by simpa [hC, Value.cells] using hf 5 _ rfl
    obtain ⟨x5, e5, _, _⟩ := DataW.trod_int Try.underlying2 h5
    injection e5 with e5
    subst e5
    have h6 : DataW.trod enc Try.prog w base spare held n 2 [c6] = some y6 := by simpa [hC, Value.cells] using hf 6 _ rfl
    obtain ⟨x6, e6, _, _⟩ := DataW.trod_int Try.underlying2 h6
    injection e6 with e6
    subst e6
    exact ⟨x0, x1, x2, x3, x4, x5, x6, rfl⟩
end Go.Proofs.Ytgkflaeaiijhjaa

/- An entry: copied by the laws' helper; read out of the input. -/
import Derived.Test.YthlnoahjfllhfaaDoorBx
import Derived.ProofKit
import Derived.OpenShut
import Derived.ShutString
import Derived.ChangeOld
import Derived.Lib.SmallJoins
import Derived.Deep.Slices
import Derived.Deep.Fields
namespace Go.Proofs.YthlnoahjfllhfaaDoor
open Go.RowKit Go.ChangeShapes Go.WideShapes
set_option linter.unusedVariables false
set_option maxRecDepth 100000

theorem toEntry_any (x0 x1 x2 x3 x4 x5 x6 : Int) (w : World) :
    Calls Tryd.prog 6 #[.agg #[.int .i64 x0, .int .i64 x1, .int .i64 x2, .int .i64 x3, .int .i64 x4, .int .i64 x5, .int .i64 x6]] w fun e w' => e = .returned (.agg #[.int .i64 x0, .int .i64 x1, .int .i64 x2, .int .i64 x3, .int .i64 x4, .int .i64 x5, .int .i64 x6]) ∧ Below w.heap.size w w' := by
  go_enter Tryd.func6, Tryd.ntmps6
  go_wp2_with fail
  refine bodyPost_ret (v := .agg #[.int .i64 x0, .int .i64 x1, .int .i64 x2, .int .i64 x3, .int .i64 x4, .int .i64 x5, .int .i64 x6]) (by simp [results, Tryd.results6, go_sem]) rfl ⟨rfl, ?_⟩
  exact (((Below.refl _ _).alloc (Nat.le_refl _) _).alloc (by simp) _).alloc (by simp; omega) _
theorem array7 {α : Type} {cs : Array α} (h : cs.size = 7) : ∃ c0 c1 c2 c3 c4 c5 c6, cs = #[c0, c1, c2, c3, c4, c5, c6] := by
  obtain ⟨l⟩ := cs
  match l, h with
  | [c0, c1, c2, c3, c4, c5, c6], _ => exact ⟨c0, c1, c2, c3, c4, c5, c6, rfl⟩
theorem entry_of {H : Type} {enc : TypeId × Value → H} {w : World} {base : Nat} {spare : Nat → Bool} {held : Bool} {r : Reach} {b0 : Nat} {v : Value} {d : DataW H} {p : List MemPlace}
    (hv : Value.okWide Tryd.prog w r b0 23 v) (h : DataW.Trod enc Tryd.prog w base spare held 23 v d p) :
    ∃ (x0 x1 x2 x3 x4 x5 x6 : Int), v = .agg #[.int .i64 x0, .int .i64 x1, .int .i64 x2, .int .i64 x3, .int .i64 x4, .int .i64 x5, .int .i64 x6] := by
  obtain ⟨cs, rfl, hsz⟩ := okWide_struct Tryd.underlying23 hv
  obtain ⟨c0, c1, c2, c3, c4, c5, c6, rfl⟩ := array7 (hsz.trans (by kernel_rfl))
  obtain ⟨fuel, hf⟩ := h
  obtain ⟨xs, n, _, _, hl, hlen, hf⟩ := DataW.trod_struct Tryd.underlying23 hf
  have hC : Tryd.prog.cellsOf 2 = 1 := by kernel_rfl
  match xs, hlen with
  | [y0, y1, y2, y3, y4, y5, y6], _ =>
    have h0 : DataW.trod enc Tryd.prog w base spare held n 2 [c0] = some y0 := by simpa [hC, Value.cells] using hf 0 _ rfl
    obtain ⟨x0, e0, _, _⟩ := DataW.trod_int Tryd.underlying2 h0
    injection e0 with e0
    subst e0
    have h1 : DataW.trod enc Tryd.prog w base spare held n 2 [c1] = some y1 := by simpa [hC, Value.cells] using hf 1 _ rfl
    obtain ⟨x1, e1, _, _⟩ := DataW.trod_int Tryd.underlying2 h1
    injection e1 with e1
    subst e1
    have h2 : DataW.trod enc Tryd.prog w base spare held n 2 [c2] = some y2 := by simpa [hC, Value.cells] using hf 2 _ rfl
    obtain ⟨x2, e2, _, _⟩ := DataW.trod_int Tryd.underlying2 h2
    injection e2 with e2
    subst e2
    have h3 : DataW.trod enc Tryd.prog w base spare held n 2 [c3] = some y3 := by simpa [hC, Value.cells] using hf 3 _ rfl
    obtain ⟨x3, e3, _, _⟩ := DataW.trod_int Tryd.underlying2 h3
    injection e3 with e3
    subst e3
    have h4 : DataW.trod enc Tryd.prog w base spare held n 2 [c4] = some y4 := by simpa [hC, Value.cells] using hf 4 _ rfl
    obtain ⟨x4, e4, _, _⟩ := DataW.trod_int Tryd.underlying2 h4
    injection e4 with e4
    subst e4
    have h5 : DataW.trod enc Tryd.prog w base spare held n 2 [c5] = some y5 := by simpa [hC, Value.cells] using hf 5 _ rfl
    obtain ⟨x5, e5, _, _⟩ := DataW.trod_int Tryd.underlying2 h5
    injection e5 with e5
    subst e5
    have h6 : DataW.trod enc Tryd.prog w base spare held n 2 [c6] = some y6 := by simpa [hC, Value.cells] using hf 6 _ rfl
    obtain ⟨x6, e6, _, _⟩ := DataW.trod_int Tryd.underlying2 h6
    injection e6 with e6
    subst e6
    exact ⟨x0, x1, x2, x3, x4, x5, x6, rfl⟩
end Go.Proofs.YthlnoahjfllhfaaDoor

/- Walks: what FnRoutes draws (chapter 32). -/
import Derived.Test.YtpaamhkgokkgpaaHn
namespace Go.Proofs.Ytpaamhkgokkgpaa
open Go.RowKit
set_option linter.unusedVariables false
set_option maxRecDepth 100000

def RetR3 (w : World) (e : Ending) (w' : World) : Prop :=
  ∃ (W H : Int) (A1 : Option Addr) (m c1 : Nat) (xs : List (Int × Int)) (fr : Int) (A2 : Option Addr) (k c2 : Nat) (route : List Int), e = .returned (.tuple #[.agg #[.int .i64 W, .int .i64 H, .slice A1 m c1], .int .i64 fr, .slice A2 k c2]) ∧ m ≤ 25 ∧ k ≤ 1048576 ∧
    Rd w' 2 A1 m (winds xs) ∧ Rd w' 1 A2 k (ints route) ∧ Below w.heap.size w w'
set_option maxHeartbeats 4000000 in
theorem drawRouteT_any (A : Option Addr) (n cap : Nat) (code : List Int) (w0 : World) (hcode : Code0 w0 A n code) (w : World) (hb : Below w0.heap.size w0 w) :
    Calls Try.prog 40 #[.slice A n cap] w (RetR3 w) := by
  have HFR := Lib.hid (fun w' hb => from_any w0 A n cap code hcode w' hb)
  have HAN := Lib.hid (fun g w' h => drawRoute_any w0 A n cap code hcode g w' h)
  go_enter Try.func40, Try.ntmps40
  go_wp2_with fail
  have hb0 : Below w.heap.size w (w.alloc (.cells #[.int .i64 0, .int .i64 0, .slice none 0 0] 29)) := (Below.refl _ _).alloc (Nat.le_refl _) _
  have hv0 : Var3 (w.alloc (.cells #[.int .i64 0, .int .i64 0, .slice none 0 0] 29)) w.heap.size 29 (.int .i64 0) (.int .i64 0) (.slice none 0 0) := heap_alloc_new _ _
  refine (HFR.out _ (hb.trans (hb0.mono hb.size))).mono ?_
  rintro e w1 ⟨g, rfl, hs1, hg1, hb1⟩
  simp only [World.size_alloc] at hg1
  have hv1 := hv0.chg (Chg.of_below hb1) (lo := g) (hi := g + 1) (.inl (by omega))
  have hs1' : Sx w0 w1 A n cap code g := ⟨_, hs1⟩
  have hb01 : Below w.heap.size w w1 := hb0.trans (hb1.mono (by simp))
  have hwl1 := hb01.size
  have hw1s : w.heap.size < w1.heap.size := by have := hs1'.lt; omega
  clear hs1 hv0 hb0 hb1
  go_wp2_with fail
  refine (HAN.out g _ hs1').mono ?_
  rintro e w2 ⟨W, H, A1, m, c1, xs, fr, A2, k, c2, route, rfl, hm, hk, hrd, hrr, hA1, hA2, hs2, hc2⟩
  have hv2 := hv1.chg hc2 (.inl (by omega))
  have hb2 : Below w.heap.size w w2 := below_chg hb01 hc2 (by omega) hwl1
  obtain ⟨r0, r1, r2, y0, y1, y2, hrl⟩ := hv2.facts
  have hA1' : ∀ b o, A1 = some ⟨b, o, none⟩ → b ≠ w.heap.size := fun b o e => by have := hA1 b o e; omega
  have hA2' : ∀ b o, A2 = some ⟨b, o, none⟩ → b ≠ w.heap.size := fun b o e => by have := hA2 b o e; omega
  have e4 := hv2.set (.int .i64 W) (.int .i64 H) (.slice A1 m c1)
  have e2 := ((hb2.setCell (p := ⟨w.heap.size, 0, none⟩) (Nat.le_refl _) (.int .i64 W)).setCell (p := ⟨w.heap.size, 1, none⟩) (Nat.le_refl _) (.int .i64 H)).setCell (p := ⟨w.heap.size, 2, none⟩) (Nat.le_refl _) (.slice A1 m c1)
  have e5 := ((hrd.other (i := 0) hA1' (.int .i64 W)).other (i := 1) hA1' (.int .i64 H)).other (i := 2) hA1' (.slice A1 m c1)
  have e6 := ((hrr.other (i := 0) hA2' (.int .i64 W)).other (i := 1) hA2' (.int .i64 H)).other (i := 2) hA2' (.slice A1 m c1)
  have HE := Lib.hid (And.intro e4 (And.intro e2 (And.intro e5 e6)))
  clear hv1 hv2 hb01 hb2 hs1' hc2 hrd hrr hA1 hA2 hs2 e4 e2 e5 e6 hb HFR HAN
  go_wp2_with fail
  obtain ⟨e4, e2, e5, e6⟩ := HE.out
  obtain ⟨wf, hwf⟩ : ∃ x, x = ((w2.setCell ⟨w.heap.size, 0, none⟩ (.int .i64 W)).setCell ⟨w.heap.size, 1, none⟩ (.int .i64 H)).setCell ⟨w.heap.size, 2, none⟩ (.slice A1 m c1) := ⟨_, rfl⟩
  rw [← hwf] at e2 e4 e5 e6
  rw [← hwf]
  clear hwf HE r0 r1 r2 y0 y1 y2
  obtain ⟨f0, f1, f2, _, _, _, _⟩ := e4.facts
  refine bodyPost_ret (v := .tuple #[.agg #[.int .i64 W, .int .i64 H, .slice A1 m c1], .int .i64 fr, .slice A2 k c2]) (by simp [results, Try.results40, go_sem, f0, f1, f2]) rfl ?_
  exact ⟨W, H, A1, m, c1, xs, fr, A2, k, c2, route, rfl, hm, hk, e5, e6, e2⟩
end Go.Proofs.Ytpaamhkgokkgpaa

/- Walks: what FnPotential draws (chapter 32). -/
import Derived.Test.YtpaamhkgokkgpaaHq
namespace Go.Proofs.Ytpaamhkgokkgpaa
open Go.RowKit
set_option linter.unusedVariables false
set_option maxRecDepth 100000

def RetR4 (w : World) (e : Ending) (w' : World) : Prop :=
  ∃ (W H : Int) (A1 : Option Addr) (m c1 : Nat) (xs : List (Int × Int)) (fr : Int) (A2 : Option Addr) (k c2 : Nat) (route : List Int) (A3 : Option Addr) (k3 c3 : Nat) (L : List Int), e = .returned (.tuple #[.agg #[.int .i64 W, .int .i64 H, .slice A1 m c1], .int .i64 fr, .slice A2 k c2, .slice A3 k3 c3]) ∧ m ≤ 25 ∧ k ≤ 1048576 ∧ k3 ≤ 1048576 ∧
    Rd w' 2 A1 m (winds xs) ∧ Rd w' 1 A2 k (ints route) ∧ Rd w' 1 A3 k3 (ints L) ∧ Below w.heap.size w w'
/-- How the drawing stands. -/
structure Dst (w0 w X : World) (A : Option Addr) (n cap : Nat) (code : List Int) (g bg : Nat) (W H : Int) (A1 : Option Addr) (m c1 : Nat) (xs : List (Int × Int)) (A2 : Option Addr) (k : Nat) (route : List Int) : Prop where
  v : Var3 X bg 29 (.int .i64 W) (.int .i64 H) (.slice A1 m c1)
  rv : Var3 X w.heap.size 29 (.int .i64 0) (.int .i64 0) (.slice none 0 0)
  rd : Rd X 2 A1 m (winds xs)
  rr : Rd X 1 A2 k (ints route)
  sx : Sx w0 X A n cap code g
  bl : Below w.heap.size w X
  lt : w.heap.size < g ∧ g < bg
  hA : ∀ b o, A1 = some ⟨b, o, none⟩ → g < b
  hA2 : ∀ b o, A2 = some ⟨b, o, none⟩ → g < b
section
variable {w0 w X Y : World} {A : Option Addr} {n cap : Nat} {code : List Int} {g bg : Nat} {W H : Int} {A1 : Option Addr} {m c1 : Nat} {xs : List (Int × Int)} {A2 : Option Addr} {k : Nat} {route : List Int}
theorem Dst.turn (h : Dst w0 w X A n cap code g bg W H A1 m c1 xs A2 k route) (hc : Chg g (g + 1) X Y) (hs : Sx w0 Y A n cap code g) : Dst w0 w Y A n cap code g bg W H A1 m c1 xs A2 k route := by
  have hl := h.lt
  exact ⟨h.v.chg hc (.inr (by omega)), h.rv.chg hc (.inl (by omega)), h.rd.chg hc (fun b o e => by have := h.hA b o e; omega), h.rr.chg hc (fun b o e => by have := h.hA2 b o e; omega), hs, below_chg h.bl hc (by omega) h.bl.size, hl, h.hA, h.hA2⟩
theorem Dst.drewN (h : Dst w0 w X A n cap code g bg W H A1 m c1 xs A2 k route) (q : Nat) : Dst w0 w (X.drewN q) A n cap code g bg W H A1 m c1 xs A2 k route := h.turn (chg_drewN (Chg.refl _ _ _) q) (h.sx.drewN q)
theorem Dst.fin (h : Dst w0 w X A n cap code g bg W H A1 m c1 xs A2 k route) {A3 : Option Addr} {k3 : Nat} {L : List Int} (hL : Rd X 1 A3 k3 (ints L)) (hA3 : ∀ b o, A3 = some ⟨b, o, none⟩ → g < b) (x y z : Value) : Var3 (((X.setCell ⟨w.heap.size, 0, none⟩ x).setCell ⟨w.heap.size, 1, none⟩ y).setCell ⟨w.heap.size, 2, none⟩ z) w.heap.size 29 x y z ∧
    Below w.heap.size w (((X.setCell ⟨w.heap.size, 0, none⟩ x).setCell ⟨w.heap.size, 1, none⟩ y).setCell ⟨w.heap.size, 2, none⟩ z) ∧ Rd (((X.setCell ⟨w.heap.size, 0, none⟩ x).setCell ⟨w.heap.size, 1, none⟩ y).setCell ⟨w.heap.size, 2, none⟩ z) 2 A1 m (winds xs) ∧
    Rd (((X.setCell ⟨w.heap.size, 0, none⟩ x).setCell ⟨w.heap.size, 1, none⟩ y).setCell ⟨w.heap.size, 2, none⟩ z) 1 A2 k (ints route) ∧ Rd (((X.setCell ⟨w.heap.size, 0, none⟩ x).setCell ⟨w.heap.size, 1, none⟩ y).setCell ⟨w.heap.size, 2, none⟩ z) 1 A3 k3 (ints L) := by
  have hl := h.lt
  have hA : ∀ b o, A1 = some ⟨b, o, none⟩ → b ≠ w.heap.size := fun b o e => by have := h.hA b o e; omega
  have hB : ∀ b o, A2 = some ⟨b, o, none⟩ → b ≠ w.heap.size := fun b o e => by have := h.hA2 b o e; omega
  have hC : ∀ b o, A3 = some ⟨b, o, none⟩ → b ≠ w.heap.size := fun b o e => by have := hA3 b o e; omega
  exact ⟨h.rv.set x y z, ((h.bl.setCell (p := ⟨w.heap.size, 0, none⟩) (Nat.le_refl _) x).setCell (p := ⟨w.heap.size, 1, none⟩) (Nat.le_refl _) y).setCell (p := ⟨w.heap.size, 2, none⟩) (Nat.le_refl _) z, ((h.rd.other hA x).other hA y).other hA z, ((h.rr.other hB x).other hB y).other hB z, ((hL.other hC x).other hC y).other hC z⟩
end
set_option maxHeartbeats 8000000 in
theorem drawRouteP_any (A : Option Addr) (n cap : Nat) (code : List Int) (w0 : World) (hcode : Code0 w0 A n code) (w : World) (hb : Below w0.heap.size w0 w) :
    Calls Try.prog 43 #[.slice A n cap] w (RetR4 w) := by
  have HFR := Lib.hid (fun w' hb => from_any w0 A n cap code hcode w' hb)
  have HAN := Lib.hid (fun g w' h => drawRoute_any w0 A n cap code hcode g w' h)
  have HPO := Lib.hid (fun g W H A1 m c1 xs fr hm w' h hr => drawPot_any w0 A n cap code hcode g W H A1 m c1 xs fr hm w' h hr)
  go_enter Try.func43, Try.ntmps43
  go_wp2_with fail
  have hb0 : Below w.heap.size w (w.alloc (.cells #[.int .i64 0, .int .i64 0, .slice none 0 0] 29)) := (Below.refl _ _).alloc (Nat.le_refl _) _
  have hv0 : Var3 (w.alloc (.cells #[.int .i64 0, .int .i64 0, .slice none 0 0] 29)) w.heap.size 29 (.int .i64 0) (.int .i64 0) (.slice none 0 0) := heap_alloc_new _ _
  refine (HFR.out _ (hb.trans (hb0.mono hb.size))).mono ?_
  rintro e w1 ⟨g, rfl, hs1, hg1, hb1⟩
  simp only [World.size_alloc] at hg1
  have hv1 := hv0.chg (Chg.of_below hb1) (lo := g) (hi := g + 1) (.inl (by omega))
  have hgl := hs1.lt
  have hs1' : Sx w0 w1 A n cap code g := ⟨_, hs1⟩
  have hb01 : Below w.heap.size w w1 := hb0.trans (hb1.mono (by simp))
  have hwl1 := hb01.size
  clear hs1 hv0 hb0 hb1
  go_wp2_with fail
  refine (HAN.out g _ hs1').mono ?_
  rintro e w2 ⟨W, H, A1, m, c1, xs, fr, A2, k, c2, route, rfl, hm, hk, hrd, hrr, hA1, hA2, hs2, hc2⟩
  have hv2 := hv1.chg hc2 (.inl (by omega))
  have hz2 := hc2.size
  have hb2 : Below w.heap.size w w2 := below_chg hb01 hc2 (by omega) hwl1
  clear hv1 hb01 hs1' hc2
  obtain ⟨bg, hbg⟩ : ∃ b, b = w2.heap.size := ⟨_, rfl⟩
  have hb3 : Below w2.heap.size w2 (w2.alloc (.cells #[.int .i64 W, .int .i64 H, .slice A1 m c1] 29)) := (Below.refl _ _).alloc (Nat.le_refl _) _
  have hv3 : Var3 (w2.alloc (.cells #[.int .i64 W, .int .i64 H, .slice A1 m c1] 29)) bg 29 (.int .i64 W) (.int .i64 H) (.slice A1 m c1) := by rw [hbg]; exact heap_alloc_new _ _
  go_wp2_with fail
  obtain ⟨w3, hw3⟩ : ∃ x, x = w2.alloc (.cells #[.int .i64 W, .int .i64 H, .slice A1 m c1] 29) := ⟨_, rfl⟩
  rw [← hw3] at hv3 hb3
  rw [← hw3]
  try rw [← hbg]
  have hst : Dst w0 w w3 A n cap code g bg W H A1 m c1 xs A2 k route := ⟨hv3, hv2.chg (Chg.of_below hb3) (lo := g) (hi := g + 1) (.inl (by omega)), hrd.below hb3, hrr.below hb3, hs2.below hb3, hb2.trans (hb3.mono hb2.size), ⟨by omega, by omega⟩, fun b o e => by have := hA1 b o e; omega, fun b o e => by have := hA2 b o e; omega⟩
  have HST := Lib.hid (hst.drewN 1)
  obtain ⟨p0, p1, p2, _, _, _, hbl3⟩ := hst.v.facts
  obtain ⟨r0, r1, r2, y0, y1, y2, _⟩ := hst.rv.facts
  have hlt := hst.lt
  have hg3 : g < w3.heap.size := hst.sx.lt
  clear hw3 hbg hv3 hb3 hv2 hrd hrr hs2 hb2 hst
  go_region_with (go_at_call 71; (refine (HPO.out g W H A1 m c1 xs fr hm _ HST.out.sx HST.out.rd).mono ?_); (rintro e wq ⟨A3, k3, c3, L, rfl, hk3, hLq, hA3q, hsq, hcq⟩); (have hst1 := HST.out.turn hcq hsq); (obtain ⟨p0q, p1q, p2q, _, _, _, _⟩ := hst1.v.facts); (obtain ⟨r0q, r1q, r2q, y0q, y1q, y2q, _⟩ := hst1.rv.facts))
  all_goals
    go_wp2_with fail
    obtain ⟨e4, e2, e5, e6, e7⟩ := hst1.fin hLq (fun b o e => by have := hA3q b o e; simp at this; omega) (.int .i64 W) (.int .i64 H) (.slice A1 m c1)
    obtain ⟨wf, hwf⟩ : ∃ x, x = ((wq.setCell ⟨w.heap.size, 0, none⟩ (.int .i64 W)).setCell ⟨w.heap.size, 1, none⟩ (.int .i64 H)).setCell ⟨w.heap.size, 2, none⟩ (.slice A1 m c1) := ⟨_, rfl⟩
    rw [← hwf] at e2 e4 e5 e6 e7
    rw [← hwf]
    clear hwf p0 p1 p2 r0 r1 r2 y0 y1 y2 p0q p1q p2q r0q r1q r2q y0q y1q y2q
    obtain ⟨f0, f1, f2, _, _, _, _⟩ := e4.facts
    refine bodyPost_ret (v := .tuple #[.agg #[.int .i64 W, .int .i64 H, .slice A1 m c1], .int .i64 fr, .slice A2 k c2, .slice A3 k3 c3]) (by simp [results, Try.results43, go_sem, f0, f1, f2]) rfl ?_
    exact ⟨W, H, A1, m, c1, xs, fr, A2, k, c2, route, A3, k3, c3, L, rfl, hm, hk, hk3, e5, e6, e7, e2⟩
end Go.Proofs.Ytpaamhkgokkgpaa

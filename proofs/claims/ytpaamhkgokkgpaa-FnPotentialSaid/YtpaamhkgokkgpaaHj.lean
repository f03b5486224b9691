/- Walks: drawn grids that are rarely not valid; drawn cells (chapter 32). -/
import Derived.Test.YtpaamhkgokkgpaaHi
namespace Go.Proofs.Ytpaamhkgokkgpaa
open Go.RowKit
set_option linter.unusedVariables false
set_option maxRecDepth 100000

theorem Rd.chg {lo hi : Nat} {w w' : World} {s n : Nat} {A : Option Addr} {xs : List Value} (h : Rd w s A n xs) (k : Chg lo hi w w') (hA : ∀ b o, A = some ⟨b, o, none⟩ → b < lo ∨ hi ≤ b) : Rd w' s A n xs :=
  ⟨h.len, h.le, fun h0 => by
    obtain ⟨b, o, e, hc⟩ := h.pos h0
    exact ⟨b, o, e, fun i u hu => chg_cell k (hA b o e) (hc i u hu)⟩⟩
theorem own_addr {w : World} {base e s n c : Nat} {A : Option Addr} {xs : List Value} (h : w.ownsRow base e s (.slice A n c) n xs) : ∀ b o, A = some ⟨b, o, none⟩ → base ≤ b := by
  intro b o e0
  rcases h.2 with ⟨hv, hn⟩ | ⟨g, cap, cur, hv, hb, _⟩
  · injection hv with hv; rw [hv] at e0; cases e0
  · injection hv with hv; rw [hv] at e0; injection e0 with e0; injection e0 with e0 _; omega
theorem Rd.other {w : World} {s n r i : Nat} {A : Option Addr} {xs : List Value} (h : Rd w s A n xs) (hA : ∀ b o, A = some ⟨b, o, none⟩ → b ≠ r) (v : Value) : Rd (w.setCell ⟨r, i, none⟩ v) s A n xs :=
  h.chg (chg_set (Chg.refl r (r + 1) w) (Nat.le_refl _) (by omega) v) (fun b o e => by have := hA b o e; omega)
theorem Rd.tail2 {w : World} {n : Nat} {A : Option Addr} {xs : List (Int × Int)} (h : Rd w 2 A n (winds xs)) (hn : 1 ≤ n) : Rd w 2 (Option.map (fun x => { block := x.block, off := x.off + 2 }) A) (n - 1) (winds (xs.drop 1)) := by
  have hl := h.len_wind
  refine ⟨?_, by have := h.le; omega, fun h0 => ?_⟩
  · unfold winds; rw [flat_len windC_len, List.length_drop, hl]
  · obtain ⟨b, o, e, hc⟩ := h.pos (by omega)
    refine ⟨b, o + 2, by rw [e]; rfl, fun i u hu => ?_⟩
    have hd := flat_drop windC_len xs 1
    rw [Nat.one_mul] at hd
    unfold winds at hu hc
    rw [← hd, List.getElem?_drop] at hu
    have := hc (2 + i) u hu
    rwa [show o + (2 + i) = o + 2 + i by omega] at this
theorem Rd.nil2 (w : World) (A : Option Addr) : Rd w 2 A 0 (winds []) := ⟨rfl, by omega, fun h => by omega⟩
/-- The result is written at last. -/
theorem fin3 {w0 w wq : World} {A : Option Addr} {n cap : Nat} {code : List Int} {g r : Nat} {t : TypeId} {a b c : Value} (hr : Var3 wq r t a b c) (hs : Sx w0 wq A n cap code g) (hc : Chg g (g + 1) w wq) (hrw : w.heap.size ≤ r) (hg : g < r)
    {m : Nat} {A1 : Option Addr} {xs : List Value} (hrd : Rd wq 2 A1 m xs) (hA : ∀ b o, A1 = some ⟨b, o, none⟩ → b ≠ r) (x y z : Value) :
    Var3 (((wq.setCell ⟨r, 0, none⟩ x).setCell ⟨r, 1, none⟩ y).setCell ⟨r, 2, none⟩ z) r t x y z ∧ Sx w0 (((wq.setCell ⟨r, 0, none⟩ x).setCell ⟨r, 1, none⟩ y).setCell ⟨r, 2, none⟩ z) A n cap code g ∧
      Chg g (g + 1) w (((wq.setCell ⟨r, 0, none⟩ x).setCell ⟨r, 1, none⟩ y).setCell ⟨r, 2, none⟩ z) ∧ Rd (((wq.setCell ⟨r, 0, none⟩ x).setCell ⟨r, 1, none⟩ y).setCell ⟨r, 2, none⟩ z) 2 A1 m xs :=
  ⟨hr.set x y z, hs.kept ((((Below.refl (g + 1) wq).setCell (p := ⟨r, 0, none⟩) (by show g + 1 ≤ r; omega) x).setCell (p := ⟨r, 1, none⟩) (by show g + 1 ≤ r; omega) y).setCell (p := ⟨r, 2, none⟩) (by show g + 1 ≤ r; omega) z),
    chg_put (chg_put (chg_put hc hrw x) hrw y) hrw z, ((hrd.other hA x).other hA y).other hA z⟩
theorem Var3.set0 {w : World} {b : Nat} {t : TypeId} {x y z : Value} (h : Var3 w b t x y z) (x' : Value) : Var3 (w.setCell ⟨b, 0, none⟩ x') b t x' y z := by
  unfold Var3 at h ⊢
  simp [World.setCell, Array.getElem?_modify, h]
theorem Var3.set2 {w : World} {b : Nat} {t : TypeId} {x y z : Value} (h : Var3 w b t x y z) (z' : Value) : Var3 (w.setCell ⟨b, 2, none⟩ z') b t x y z' := by
  unfold Var3 at h ⊢
  simp [World.setCell, Array.getElem?_modify, h]
/-- A drawn grid: some grid. -/
def RetAny (w0 w : World) (A : Option Addr) (n cap : Nat) (code : List Int) (g : Nat) (e : Ending) (w' : World) : Prop :=
  ∃ (W H : Int) (A1 : Option Addr) (m c1 : Nat) (xs : List (Int × Int)), e = .returned (.agg #[.int .i64 W, .int .i64 H, .slice A1 m c1]) ∧ 0 ≤ W ∧ W ≤ 11 ∧ 0 ≤ H ∧ H ≤ 11 ∧ m ≤ 25 ∧ Rd w' 2 A1 m (winds xs) ∧ (∀ b o, A1 = some ⟨b, o, none⟩ → w.heap.size ≤ b) ∧ Sx w0 w' A n cap code g ∧ Chg g (g + 1) w w'
/-- How the drawing stands behind the first grid. -/
structure Ast (w0 w X : World) (A : Option Addr) (n cap : Nat) (code : List Int) (g bg : Nat) (W H : Int) (A1 : Option Addr) (m c1 : Nat) (xs : List (Int × Int)) : Prop where
  v : Var3 X bg 29 (.int .i64 W) (.int .i64 H) (.slice A1 m c1)
  rv : Var3 X w.heap.size 29 (.int .i64 0) (.int .i64 0) (.slice none 0 0)
  rd : Rd X 2 A1 m (winds xs)
  sx : Sx w0 X A n cap code g
  ch : Chg g (g + 1) w X
  lt : g < w.heap.size ∧ w.heap.size < bg
  hA : ∀ b o, A1 = some ⟨b, o, none⟩ → w.heap.size < b ∧ b < bg
section
variable {w0 w X Y : World} {A : Option Addr} {n cap : Nat} {code : List Int} {g bg : Nat} {W H : Int} {A1 : Option Addr} {m c1 : Nat} {xs : List (Int × Int)}
theorem Ast.turn (h : Ast w0 w X A n cap code g bg W H A1 m c1 xs) (hc : Chg g (g + 1) X Y) (hs : Sx w0 Y A n cap code g) : Ast w0 w Y A n cap code g bg W H A1 m c1 xs := by
  have hl := h.lt
  exact ⟨h.v.chg hc (.inr (by omega)), h.rv.chg hc (.inr (by omega)), h.rd.chg hc (fun b o e => by have := h.hA b o e; omega), hs, h.ch.trans hc, hl, h.hA⟩
theorem Ast.below (h : Ast w0 w X A n cap code g bg W H A1 m c1 xs) (hb : Below X.heap.size X Y) : Ast w0 w Y A n cap code g bg W H A1 m c1 xs := h.turn (Chg.of_below hb) (h.sx.below hb)
theorem Ast.put0 (h : Ast w0 w X A n cap code g bg W H A1 m c1 xs) (W' : Int) : Ast w0 w (X.setCell ⟨bg, 0, none⟩ (.int .i64 W')) A n cap code g bg W' H A1 m c1 xs := by
  have hl := h.lt
  exact ⟨h.v.set0 _, h.rv.other (by omega), h.rd.other (fun b o e => by have := h.hA b o e; omega) _, h.sx.kept ((Below.refl (g + 1) X).setCell (p := ⟨bg, 0, none⟩) (by show g + 1 ≤ bg; omega) _), chg_put h.ch (by omega) _, hl, h.hA⟩
theorem Ast.put2 (h : Ast w0 w X A n cap code g bg W H A1 m c1 xs) {A2 : Option Addr} {m2 : Nat} {xs2 : List (Int × Int)} (hr : Rd X 2 A2 m2 (winds xs2)) (hA : ∀ b o, A2 = some ⟨b, o, none⟩ → w.heap.size < b ∧ b < bg) (c2 : Nat) :
    Ast w0 w (X.setCell ⟨bg, 2, none⟩ (.slice A2 m2 c2)) A n cap code g bg W H A2 m2 c2 xs2 := by
  have hl := h.lt
  exact ⟨h.v.set2 _, h.rv.other (by omega), hr.other (fun b o e => by have := hA b o e; omega) _, h.sx.kept ((Below.refl (g + 1) X).setCell (p := ⟨bg, 2, none⟩) (by show g + 1 ≤ bg; omega) _), chg_put h.ch (by omega) _, hl, hA⟩
theorem Ast.putw {g4 k : Nat} (h : Ast w0 w X A n cap code g bg W H (some ⟨g4, 0, none⟩) m c1 xs) {base : Nat} (ho : X.ownsRow base 65 2 (.slice (some ⟨g4, 0, none⟩) m c1) m (winds xs)) (hk : k < m) (x y : Int) :
    Ast w0 w ((X.setCell ⟨g4, k * 2, none⟩ (.int .i64 x)).setCell ⟨g4, k * 2 + 1, none⟩ (.int .i64 y)) A n cap code g bg W H (some ⟨g4, 0, none⟩) m c1 (xs.set k (x, y)) := by
  have hl := h.lt
  have ha := h.hA g4 0 rfl
  exact ⟨(h.v.other (by omega)).other (by omega), (h.rv.other (by omega)).other (by omega), own_rd (own_wind_set ho hk x y), h.sx.kept (((Below.refl (g + 1) X).setCell (p := ⟨g4, k * 2, none⟩) (by show g + 1 ≤ g4; omega) _).setCell (p := ⟨g4, k * 2 + 1, none⟩) (by show g + 1 ≤ g4; omega) _),
    chg_put (chg_put h.ch (by omega) _) (by omega) _, hl, h.hA⟩
theorem own_cap {w : World} {base e s n c : Nat} {A : Option Addr} {xs : List Value} (h : w.ownsRow base e s (.slice A n c) n xs) : n ≤ c := by
  rcases h.2 with ⟨hv, hn⟩ | ⟨g, cap, cur, hv, hb, hg, hnc, _⟩
  · omega
  · injection hv with _ _ hc; omega
theorem Ast.fin (h : Ast w0 w X A n cap code g bg W H A1 m c1 xs) : Var3 (((X.setCell ⟨w.heap.size, 0, none⟩ (.int .i64 W)).setCell ⟨w.heap.size, 1, none⟩ (.int .i64 H)).setCell ⟨w.heap.size, 2, none⟩ (.slice A1 m c1)) w.heap.size 29 (.int .i64 W) (.int .i64 H) (.slice A1 m c1) ∧
    Sx w0 (((X.setCell ⟨w.heap.size, 0, none⟩ (.int .i64 W)).setCell ⟨w.heap.size, 1, none⟩ (.int .i64 H)).setCell ⟨w.heap.size, 2, none⟩ (.slice A1 m c1)) A n cap code g ∧
    Chg g (g + 1) w (((X.setCell ⟨w.heap.size, 0, none⟩ (.int .i64 W)).setCell ⟨w.heap.size, 1, none⟩ (.int .i64 H)).setCell ⟨w.heap.size, 2, none⟩ (.slice A1 m c1)) ∧
    Rd (((X.setCell ⟨w.heap.size, 0, none⟩ (.int .i64 W)).setCell ⟨w.heap.size, 1, none⟩ (.int .i64 H)).setCell ⟨w.heap.size, 2, none⟩ (.slice A1 m c1)) 2 A1 m (winds xs) :=
  fin3 h.rv h.sx h.ch (Nat.le_refl _) h.lt.1 h.rd (fun b o e => by have := h.hA b o e; omega) _ _ _
end
set_option maxHeartbeats 4000000 in
theorem drawAny_any (w0 : World) (A : Option Addr) (n cap : Nat) (code : List Int) (hcode : Code0 w0 A n code) (g : Nat) (w : World) (h : Sx w0 w A n cap code g) :
    Calls Try.prog 72 #[.pointer (some ⟨g, 0, none⟩)] w (RetAny w0 w A n cap code g) := by
  have HN := Lib.hid (fun k h1 hk w' h => nextX_any w0 A n cap code hcode g k h1 hk w' h)
  have HG := Lib.hid (fun w' h => drawGrid_any w0 A n cap code hcode g w' h)
  have hgl := h.lt
  go_enter Try.func72, Try.ntmps72
  go_wp2_with fail
  have hv0 : Var3 (w.alloc (.cells #[.int .i64 0, .int .i64 0, .slice none 0 0] 29)) w.heap.size 29 (.int .i64 0) (.int .i64 0) (.slice none 0 0) := heap_alloc_new _ _
  have hc0 := chg_alloc (Chg.refl g (g + 1) w) (.cells #[.int .i64 0, .int .i64 0, .slice none 0 0] 29)
  have hs0 := h.below ((Below.refl _ _).alloc (Nat.le_refl _) (.cells #[.int .i64 0, .int .i64 0, .slice none 0 0] 29))
  have hz0 : (w.alloc (.cells #[.int .i64 0, .int .i64 0, .slice none 0 0] 29)).heap.size = w.heap.size + 1 := by simp
  refine (HG.out _ hs0).mono ?_
  rintro e w1 ⟨W, H, A1, m, c1, xs, rfl, hW1, hW5, hH1, hH5, hm, ho, hs1, hc1⟩
  rw [hz0] at ho
  have hr1 := hv0.chg hc1 (.inr (by omega))
  have hc01 := hc0.trans hc1
  have hz1 := hc01.size
  have hz2 := hc1.size
  rw [hz0] at hz2
  have hab1 : ∀ b o, A1 = some ⟨b, o, none⟩ → b < w1.heap.size := fun b o e => (ho.lt b (by rw [e]; rfl)).2
  clear hv0 hc0 hs0 hz0 hc1
  obtain ⟨bg, hbg⟩ : ∃ b, b = w1.heap.size := ⟨_, rfl⟩
  have hv2 : Var3 (w1.alloc (.cells #[.int .i64 W, .int .i64 H, .slice A1 m c1] 29)) bg 29 (.int .i64 W) (.int .i64 H) (.slice A1 m c1) := by rw [hbg]; exact heap_alloc_new _ _
  have hb2 : Below w1.heap.size w1 (w1.alloc (.cells #[.int .i64 W, .int .i64 H, .slice A1 m c1] 29)) := (Below.refl _ _).alloc (Nat.le_refl _) _
  have hz3 : (w1.alloc (.cells #[.int .i64 W, .int .i64 H, .slice A1 m c1] 29)).heap.size = bg + 1 := by rw [hbg]; simp
  go_wp2_with fail
  obtain ⟨w2, hw2⟩ : ∃ x, x = w1.alloc (.cells #[.int .i64 W, .int .i64 H, .slice A1 m c1] 29) := ⟨_, rfl⟩
  rw [← hw2] at hv2 hb2 hz3
  rw [← hw2, ← hbg]
  have hr2 := hr1.chg (Chg.of_below hb2) (lo := g) (hi := g + 1) (.inr (by omega))
  have ho2 := own_below ho hb2
  have hs2 := hs1.below hb2
  have hc2 := hc01.trans (Chg.of_below hb2)
  have hwbg : w.heap.size < bg := by omega
  have hab : ∀ b o, A1 = some ⟨b, o, none⟩ → b < bg := fun b o e => by have := hab1 b o e; omega
  clear hw2 hb2 hr1 ho hs1 hc01 hbg
  refine (HN.out 30 (by omega) (by omega) _ hs2).mono ?_
  rintro e w3 ⟨v, rfl, v0, v1, hs3, hc3⟩
  have hv3 := hv2.chg hc3 (.inr (by omega))
  have hr3 := hr2.chg hc3 (.inr (by omega))
  have hao := own_addr ho2
  have ho3 := own_chg ho2 hc3 (fun b hv => by have := (ho2.lt b hv).1; omega)
  have hc03 := hc2.trans hc3
  have hz4 := hc3.size
  rw [hz3] at hz4
  clear hv2 hr2 ho2 hs2 hc2 hc3 hz3
  obtain ⟨p0, p1, p2, q0, q1, q2, _⟩ := hv3.facts
  obtain ⟨r0, r1, r2, y0, y1, y2, _⟩ := hr3.facts
  have hne1 : w.heap.size ≠ bg := by omega
  have hne2 : bg ≠ w.heap.size := by omega
  have hmm : 1 ≤ m ∧ m ≤ 25 := by
    have h1 := mul_bd (show 0 ≤ W by omega) hW5 (show 0 ≤ H by omega) hH5
    have h2 : 1 * 1 ≤ W * H := Int.mul_le_mul hW1 hH1 (by omega) (by omega)
    omega
  obtain ⟨hm1, hm25⟩ := hmm
  have hB : ∀ b o, A1 = some ⟨b, o, none⟩ → w.heap.size < b ∧ b < bg := fun b o e => by have h1 := hao b o e; have h2 := hab b o e; omega
  have hst : Ast w0 w w3 A n cap code g bg W H A1 m c1 xs := ⟨hv3, hr3, own_rd ho3, hs3, hc03, ⟨hgl, hwbg⟩, hB⟩
  have HST := Lib.hid hst
  have HO3 := Lib.hid ho3
  clear hv3 hr3 ho3 hs3 hc03 hst hao hab hab1
  by_cases hv0 : v = 0
  · subst hv0
    obtain ⟨s, hsrc⟩ := HST.out.sx
    have hbd := nextF_bd code s 3 (by omega)
    have hnx := fun w' h => next_any w0 A n cap code hcode g s 3 (by omega) w' h
    generalize nextF code s 3 = rr at *
    obtain ⟨j, s'⟩ := rr
    simp only at hbd
    have HNX := Lib.hid hnx
    have HSB := Lib.hid (show ∀ Y, Below w3.heap.size w3 Y → Src w0 Y A n cap code g s from fun Y hb => hsrc.below hb)
    have HVG := Lib.hid (show ∀ Y Z, Below w3.heap.size w3 Y → Chg g (g + 1) Y Z → Src w0 Z A n cap code g s' → Ast w0 w Z A n cap code g bg W H A1 m c1 xs from fun Y Z hb hc hs => (HST.out.below hb).turn hc ⟨_, hs⟩)
    clear hnx hsrc
    have hwr : IntKind.i64.wrap (W + 1) = W + 1 := IntWalk.i64_in _ (by omega)
    go_wp2_with fail
    obtain ⟨j0, j1⟩ := hbd
    rcases (by omega : j = 0 ∨ j = 1 ∨ j = 2) with rfl | rfl | rfl
    · clear j0 j1
      go_region_with (go_at_call 87; (refine (HNX.out _ ?_).mono ?_); (first | exact HSB.out _ (by (repeat (first | exact Below.refl _ _ | refine below_drewN ?_ 1 | refine Below.alloc ?_ (by simp <;> omega) _)))); (rintro e wq ⟨rfl, hsq, hcq⟩); (have hstq := HVG.out _ _ (by (repeat (first | exact Below.refl _ _ | refine below_drewN ?_ 1 | refine Below.alloc ?_ (by simp <;> omega) _))) hcq hsq); (obtain ⟨p0q, p1q, p2q, q0q, q1q, q2q, hbq⟩ := hstq.v.facts); (obtain ⟨r0q, r1q, r2q, y0q, y1q, y2q, hrq⟩ := hstq.rv.facts); (try have hlit := chg_cell hcq (b := w3.heap.size) (i := 0) (v := .int .i64 (0)) (.inr (by omega)) (cell_top _ _ _ (by simp) rfl)))
      all_goals
        go_wp2_with fail
        have hst := hstq.put0 (0)
        obtain ⟨e4, e2, e3, e5⟩ := hst.fin
        have hAA := hst.hA
        obtain ⟨wf, hwf⟩ : ∃ x, x = (((wq.setCell ⟨bg, 0, none⟩ (Value.int .i64 (0))).setCell ⟨w.heap.size, 0, none⟩ (.int .i64 (0))).setCell ⟨w.heap.size, 1, none⟩ (.int .i64 H)).setCell ⟨w.heap.size, 2, none⟩ (.slice (A1) (m) (c1)) := ⟨_, rfl⟩
        rw [← hwf] at e2 e3 e4 e5
        rw [← hwf]
        clear hwf
        obtain ⟨f0, f1, f2, _, _, _, hfl⟩ := e4.facts
        first
         | (refine bodyPost_ret (v := .agg #[.int .i64 (0), .int .i64 H, .slice (A1) (m) (c1)]) (by simp [results, Try.results72, go_sem, f0, f1, f2]) rfl ?_
            exact ⟨_, _, _, _, _, xs, rfl, by omega, by omega, by omega, by omega, by omega, e5, (fun b o e => by have := hAA b o e; omega), e2, e3⟩)
         | (have k0 := cell_under wf (.cells #[.int .i64 0, .int .i64 11, .int .i64 (W + 1)] 2) hfl f0
            have k1 := cell_under wf (.cells #[.int .i64 0, .int .i64 11, .int .i64 (W + 1)] 2) hfl f1
            have k2 := cell_under wf (.cells #[.int .i64 0, .int .i64 11, .int .i64 (W + 1)] 2) hfl f2
            have hbz : Below wf.heap.size wf (wf.alloc (.cells #[.int .i64 0, .int .i64 11, .int .i64 (W + 1)] 2)) := (Below.refl _ _).alloc (Nat.le_refl _) _
            refine bodyPost_ret (v := .agg #[.int .i64 (0), .int .i64 H, .slice (A1) (m) (c1)]) (by simp [results, Try.results72, go_sem, k0, k1, k2]) rfl ?_
            exact ⟨_, _, _, _, _, xs, rfl, by omega, by omega, by omega, by omega, by omega, e5.below hbz, (fun b o e => by have := hAA b o e; omega), e2.below hbz, chg_below e3 hbz⟩)
    · clear j0 j1
      go_region_with (go_at_call 87; (refine (HNX.out _ ?_).mono ?_); (first | exact HSB.out _ (by (repeat (first | exact Below.refl _ _ | refine below_drewN ?_ 1 | refine Below.alloc ?_ (by simp <;> omega) _)))); (rintro e wq ⟨rfl, hsq, hcq⟩); (have hstq := HVG.out _ _ (by (repeat (first | exact Below.refl _ _ | refine below_drewN ?_ 1 | refine Below.alloc ?_ (by simp <;> omega) _))) hcq hsq); (obtain ⟨p0q, p1q, p2q, q0q, q1q, q2q, hbq⟩ := hstq.v.facts); (obtain ⟨r0q, r1q, r2q, y0q, y1q, y2q, hrq⟩ := hstq.rv.facts); (try have hlit := chg_cell hcq (b := w3.heap.size) (i := 1) (v := .int .i64 (11)) (.inr (by omega)) (cell_top _ _ _ (by simp) rfl)))
      all_goals
        go_wp2_with fail
        have hst := hstq.put0 (11)
        obtain ⟨e4, e2, e3, e5⟩ := hst.fin
        have hAA := hst.hA
        obtain ⟨wf, hwf⟩ : ∃ x, x = (((wq.setCell ⟨bg, 0, none⟩ (Value.int .i64 (11))).setCell ⟨w.heap.size, 0, none⟩ (.int .i64 (11))).setCell ⟨w.heap.size, 1, none⟩ (.int .i64 H)).setCell ⟨w.heap.size, 2, none⟩ (.slice (A1) (m) (c1)) := ⟨_, rfl⟩
        rw [← hwf] at e2 e3 e4 e5
        rw [← hwf]
        clear hwf
        obtain ⟨f0, f1, f2, _, _, _, hfl⟩ := e4.facts
        first
         | (refine bodyPost_ret (v := .agg #[.int .i64 (11), .int .i64 H, .slice (A1) (m) (c1)]) (by simp [results, Try.results72, go_sem, f0, f1, f2]) rfl ?_
            exact ⟨_, _, _, _, _, xs, rfl, by omega, by omega, by omega, by omega, by omega, e5, (fun b o e => by have := hAA b o e; omega), e2, e3⟩)
         | (have k0 := cell_under wf (.cells #[.int .i64 0, .int .i64 11, .int .i64 (W + 1)] 2) hfl f0
            have k1 := cell_under wf (.cells #[.int .i64 0, .int .i64 11, .int .i64 (W + 1)] 2) hfl f1
            have k2 := cell_under wf (.cells #[.int .i64 0, .int .i64 11, .int .i64 (W + 1)] 2) hfl f2
            have hbz : Below wf.heap.size wf (wf.alloc (.cells #[.int .i64 0, .int .i64 11, .int .i64 (W + 1)] 2)) := (Below.refl _ _).alloc (Nat.le_refl _) _
            refine bodyPost_ret (v := .agg #[.int .i64 (11), .int .i64 H, .slice (A1) (m) (c1)]) (by simp [results, Try.results72, go_sem, k0, k1, k2]) rfl ?_
            exact ⟨_, _, _, _, _, xs, rfl, by omega, by omega, by omega, by omega, by omega, e5.below hbz, (fun b o e => by have := hAA b o e; omega), e2.below hbz, chg_below e3 hbz⟩)
    · clear j0 j1
      go_region_with (go_at_call 87; (refine (HNX.out _ ?_).mono ?_); (first | exact HSB.out _ (by (repeat (first | exact Below.refl _ _ | refine below_drewN ?_ 1 | refine Below.alloc ?_ (by simp <;> omega) _)))); (rintro e wq ⟨rfl, hsq, hcq⟩); (have hstq := HVG.out _ _ (by (repeat (first | exact Below.refl _ _ | refine below_drewN ?_ 1 | refine Below.alloc ?_ (by simp <;> omega) _))) hcq hsq); (obtain ⟨p0q, p1q, p2q, q0q, q1q, q2q, hbq⟩ := hstq.v.facts); (obtain ⟨r0q, r1q, r2q, y0q, y1q, y2q, hrq⟩ := hstq.rv.facts); (try have hlit := chg_cell hcq (b := w3.heap.size) (i := 2) (v := .int .i64 (W + 1)) (.inr (by omega)) (cell_top _ _ _ (by simp) rfl)))
      all_goals
        go_wp2_with fail
        have hst := hstq.put0 (W + 1)
        obtain ⟨e4, e2, e3, e5⟩ := hst.fin
        have hAA := hst.hA
        obtain ⟨wf, hwf⟩ : ∃ x, x = (((wq.setCell ⟨bg, 0, none⟩ (Value.int .i64 (W + 1))).setCell ⟨w.heap.size, 0, none⟩ (.int .i64 (W + 1))).setCell ⟨w.heap.size, 1, none⟩ (.int .i64 H)).setCell ⟨w.heap.size, 2, none⟩ (.slice (A1) (m) (c1)) := ⟨_, rfl⟩
        rw [← hwf] at e2 e3 e4 e5
        rw [← hwf]
        clear hwf
        obtain ⟨f0, f1, f2, _, _, _, hfl⟩ := e4.facts
        first
         | (refine bodyPost_ret (v := .agg #[.int .i64 (W + 1), .int .i64 H, .slice (A1) (m) (c1)]) (by simp [results, Try.results72, go_sem, f0, f1, f2]) rfl ?_
            exact ⟨_, _, _, _, _, xs, rfl, by omega, by omega, by omega, by omega, by omega, e5, (fun b o e => by have := hAA b o e; omega), e2, e3⟩)
         | (have k0 := cell_under wf (.cells #[.int .i64 0, .int .i64 11, .int .i64 (W + 1)] 2) hfl f0
            have k1 := cell_under wf (.cells #[.int .i64 0, .int .i64 11, .int .i64 (W + 1)] 2) hfl f1
            have k2 := cell_under wf (.cells #[.int .i64 0, .int .i64 11, .int .i64 (W + 1)] 2) hfl f2
            have hbz : Below wf.heap.size wf (wf.alloc (.cells #[.int .i64 0, .int .i64 11, .int .i64 (W + 1)] 2)) := (Below.refl _ _).alloc (Nat.le_refl _) _
            refine bodyPost_ret (v := .agg #[.int .i64 (W + 1), .int .i64 H, .slice (A1) (m) (c1)]) (by simp [results, Try.results72, go_sem, k0, k1, k2]) rfl ?_
            exact ⟨_, _, _, _, _, xs, rfl, by omega, by omega, by omega, by omega, by omega, e5.below hbz, (fun b o e => by have := hAA b o e; omega), e2.below hbz, chg_below e3 hbz⟩)
  · have hb0 : (v == 0) = false := by simpa using hv0
    by_cases hv1 : v = 1
    · subst hv1
      obtain ⟨s, hsrc⟩ := HST.out.sx
      have hbd := nextF_bd code s m (by omega)
      have hnx := fun w' h => next_any w0 A n cap code hcode g s m (by omega) w' h
      generalize nextF code s m = rr at *
      obtain ⟨j, s'⟩ := rr
      simp only at hbd
      obtain ⟨j0, j1⟩ := hbd
      obtain ⟨jn, rfl⟩ := int_up j j0
      have hjm : jn < m := by omega
      obtain ⟨g4, xx, yy, rfl, hg4, _, _, _, hx4, hy4, fx4, fy4⟩ := own_wind_at HO3.out hjm
      have hg4b := hB g4 0 rfl
      have HNX := Lib.hid hnx
      have HSB := Lib.hid (show ∀ Y, Below w3.heap.size w3 Y → Src w0 Y A n cap code g s from fun Y hb => hsrc.below hb)
      have HVG := Lib.hid (show ∀ Y Z, Below w3.heap.size w3 Y → Chg g (g + 1) Y Z → Src w0 Z A n cap code g s' → Ast w0 w Z A n cap code g bg W H (some ⟨g4, 0, none⟩) m c1 xs ∧ Z.ownsRow (w.heap.size + 1) 65 2 (.slice (some ⟨g4, 0, none⟩) m c1) m (winds xs) from fun Y Z hb hc hs => ⟨(HST.out.below hb).turn hc ⟨_, hs⟩, own_chg (own_below HO3.out hb) hc (fun b hv => by have := (HO3.out.lt b hv).1; omega)⟩)
      clear hnx hsrc j0
      go_wp2_with fail
      go_region_with (go_at_call 87; (refine (HNX.out _ ?_).mono ?_); (first | exact HSB.out _ (by (repeat (first | exact Below.refl _ _ | refine below_drewN ?_ 1 | refine Below.alloc ?_ (by simp <;> omega) _)))); (rintro e wq ⟨rfl, hsq, hcq⟩); (obtain ⟨hstq, hoq⟩ := HVG.out _ _ (by (repeat (first | exact Below.refl _ _ | refine below_drewN ?_ 1 | refine Below.alloc ?_ (by simp <;> omega) _))) hcq hsq); (obtain ⟨p0q, p1q, p2q, q0q, q1q, q2q, hbq⟩ := hstq.v.facts); (obtain ⟨r0q, r1q, r2q, y0q, y1q, y2q, hrq⟩ := hstq.rv.facts); (obtain ⟨g4', xx', yy', e4', _, _, _, _, hx4q, hy4q, fx4q, fy4q⟩ := own_wind_at hoq hjm); (obtain rfl : g4 = g4' := by injection e4' with e4'; injection e4'))
      all_goals
        have hne3 : g4 ≠ bg := by omega
        have hne4 : g4 ≠ w.heap.size := by omega
        go_wp2_with fail
        have hst := hstq.putw hoq hjm 0 0
        obtain ⟨e4, e2, e3, e5⟩ := hst.fin
        have hAA := hst.hA
        obtain ⟨wf, hwf⟩ : ∃ x, x = ((((wq.setCell ⟨g4, jn * 2, none⟩ (Value.int .i64 0)).setCell ⟨g4, jn * 2 + 1, none⟩ (Value.int .i64 0)).setCell ⟨w.heap.size, 0, none⟩ (.int .i64 (W))).setCell ⟨w.heap.size, 1, none⟩ (.int .i64 H)).setCell ⟨w.heap.size, 2, none⟩ (.slice (some ⟨g4, 0, none⟩) (m) (c1)) := ⟨_, rfl⟩
        rw [← hwf] at e2 e3 e4 e5
        rw [← hwf]
        clear hwf
        obtain ⟨f0, f1, f2, _, _, _, hfl⟩ := e4.facts
        refine bodyPost_ret (v := .agg #[.int .i64 (W), .int .i64 H, .slice (some ⟨g4, 0, none⟩) (m) (c1)]) (by simp [results, Try.results72, go_sem, f0, f1, f2]) rfl ?_
        exact ⟨_, _, _, _, _, xs.set jn (0, 0), rfl, by omega, by omega, by omega, by omega, by omega, e5, (fun b o e => by have := hAA b o e; omega), e2, e3⟩
    · have hb1 : (v == 1) = false := by simpa using hv1
      by_cases hv2 : v = 2
      · subst hv2
        by_cases hc1 : c1 = 1
        · subst hc1
          go_wp2_with fail
          have hm1' : m = 1 := by have := own_cap HO3.out; omega
          subst hm1'
          have hst := (HST.out.put2 (A2 := A1) (m2 := 1 - 1) (xs2 := []) (Rd.nil2 _ _) hB 0)
          obtain ⟨e4, e2, e3, e5⟩ := hst.fin
          have hAA := hst.hA
          obtain ⟨wf, hwf⟩ : ∃ x, x = (((w3.setCell ⟨bg, 2, none⟩ (Value.slice A1 (1 - 1) 0)).setCell ⟨w.heap.size, 0, none⟩ (.int .i64 (W))).setCell ⟨w.heap.size, 1, none⟩ (.int .i64 H)).setCell ⟨w.heap.size, 2, none⟩ (.slice (A1) (1 - 1) (0)) := ⟨_, rfl⟩
          rw [← hwf] at e2 e3 e4 e5
          rw [← hwf]
          clear hwf
          obtain ⟨f0, f1, f2, _, _, _, hfl⟩ := e4.facts
          refine bodyPost_ret (v := .agg #[.int .i64 (W), .int .i64 H, .slice (A1) (1 - 1) (0)]) (by simp [results, Try.results72, go_sem, f0, f1, f2]) rfl ?_
          exact ⟨_, _, _, _, _, [], rfl, by omega, by omega, by omega, by omega, by omega, e5, (fun b o e => by have := hAA b o e; omega), e2, e3⟩
        · go_wp2_with fail
          have hst := (HST.out.put2 (HST.out.rd.tail2 hm1) (fun b o e => by (obtain ⟨b1, o1, eA, _⟩ := HST.out.rd.pos (by omega); rw [eA] at e; simp at e; obtain ⟨e1, _⟩ := e; subst e1; exact hB b1 o1 eA)) (c1 - 1))
          obtain ⟨e4, e2, e3, e5⟩ := hst.fin
          have hAA := hst.hA
          obtain ⟨wf, hwf⟩ : ∃ x, x = (((w3.setCell ⟨bg, 2, none⟩ (Value.slice (Option.map (fun x => { block := x.block, off := x.off + 2 }) A1) (m - 1) (c1 - 1))).setCell ⟨w.heap.size, 0, none⟩ (.int .i64 (W))).setCell ⟨w.heap.size, 1, none⟩ (.int .i64 H)).setCell ⟨w.heap.size, 2, none⟩ (.slice (Option.map (fun x => { block := x.block, off := x.off + 2 }) A1) (m - 1) (c1 - 1)) := ⟨_, rfl⟩
          rw [← hwf] at e2 e3 e4 e5
          rw [← hwf]
          clear hwf
          obtain ⟨f0, f1, f2, _, _, _, hfl⟩ := e4.facts
          refine bodyPost_ret (v := .agg #[.int .i64 (W), .int .i64 H, .slice (Option.map (fun x => { block := x.block, off := x.off + 2 }) A1) (m - 1) (c1 - 1)]) (by simp [results, Try.results72, go_sem, f0, f1, f2]) rfl ?_
          exact ⟨_, _, _, _, _, xs.drop 1, rfl, by omega, by omega, by omega, by omega, by omega, e5, (fun b o e => by have := hAA b o e; omega), e2, e3⟩
      · have hb2 : (v == 2) = false := by simpa using hv2
        go_wp2_with fail
        have hst := HST.out
        obtain ⟨e4, e2, e3, e5⟩ := hst.fin
        have hAA := hst.hA
        obtain ⟨wf, hwf⟩ : ∃ x, x = ((w3.setCell ⟨w.heap.size, 0, none⟩ (.int .i64 (W))).setCell ⟨w.heap.size, 1, none⟩ (.int .i64 H)).setCell ⟨w.heap.size, 2, none⟩ (.slice (A1) (m) (c1)) := ⟨_, rfl⟩
        rw [← hwf] at e2 e3 e4 e5
        rw [← hwf]
        clear hwf
        obtain ⟨f0, f1, f2, _, _, _, hfl⟩ := e4.facts
        refine bodyPost_ret (v := .agg #[.int .i64 (W), .int .i64 H, .slice (A1) (m) (c1)]) (by simp [results, Try.results72, go_sem, f0, f1, f2]) rfl ?_
        exact ⟨_, _, _, _, _, xs, rfl, by omega, by omega, by omega, by omega, by omega, e5, (fun b o e => by have := hAA b o e; omega), e2, e3⟩
end Go.Proofs.Ytpaamhkgokkgpaa

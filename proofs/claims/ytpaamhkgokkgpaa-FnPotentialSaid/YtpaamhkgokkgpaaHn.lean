/- Walks: drawn routes (chapter 32). -/
import Derived.Test.YtpaamhkgokkgpaaHk
import Derived.Test.YtpaamhkgokkgpaaHh
import Derived.Test.YtpaamhkgokkgpaaGi
import Derived.Deep.RegionHeld3
namespace Go.Proofs.Ytpaamhkgokkgpaa
open Go.RowKit
set_option linter.unusedVariables false
set_option maxRecDepth 100000

theorem Rd.chgp {lo hi : Nat} {w w' : World} {s n : Nat} {A : Option Addr} {xs : List Value} (h : Rd w s A n xs) (k : Chg lo hi w w') (hA : 0 < n → ∀ b o, A = some ⟨b, o, none⟩ → b < lo ∨ hi ≤ b) : Rd w' s A n xs :=
  ⟨h.len, h.le, fun h0 => by
    obtain ⟨b, o, e, hc⟩ := h.pos h0
    exact ⟨b, o, e, fun i u hu => chg_cell k (hA h0 b o e) (hc i u hu)⟩⟩
theorem chg_of_grown {base : Nat} {w w' : World} {row : Option Nat} (hg : w.grownBy w' row) (hr : ∀ k, row = some k → base ≤ k) : Chg base (max base (w'.heap.size + w.heap.size)) w w' :=
  ⟨hg.os, hg.tape, hg.output, hg.size, fun k hk hn => hg.block k hk (fun e => by have := hr k e.symm; have := hg.size; omega)⟩
/-- How the drawing of a route stands. -/
structure Cst (w0 w X : World) (A : Option Addr) (n cap : Nat) (code : List Int) (g bg : Nat) (W H : Int) (A1 : Option Addr) (m c1 : Nat) (xs : List (Int × Int)) : Prop where
  v : Var3 X bg 29 (.int .i64 W) (.int .i64 H) (.slice A1 m c1)
  rv : Var3 X w.heap.size 29 (.int .i64 0) (.int .i64 0) (.slice none 0 0)
  rd : Rd X 2 A1 m (winds xs)
  sx : Sx w0 X A n cap code g
  ch : Chg g (g + 1) w X
  lt : g < w.heap.size ∧ w.heap.size < bg
  hA : ∀ b o, A1 = some ⟨b, o, none⟩ → w.heap.size < b
  hB : 0 < m → ∀ b o, A1 = some ⟨b, o, none⟩ → b < bg
section
variable {w0 w X Y : World} {A : Option Addr} {n cap : Nat} {code : List Int} {g bg : Nat} {W H : Int} {A1 : Option Addr} {m c1 : Nat} {xs : List (Int × Int)}
theorem Cst.turn (h : Cst w0 w X A n cap code g bg W H A1 m c1 xs) (hc : Chg g (g + 1) X Y) (hs : Sx w0 Y A n cap code g) : Cst w0 w Y A n cap code g bg W H A1 m c1 xs := by
  have hl := h.lt
  exact ⟨h.v.chg hc (.inr (by omega)), h.rv.chg hc (.inr (by omega)), h.rd.chgp hc (fun _ b o e => by have := h.hA b o e; omega), hs, h.ch.trans hc, hl, h.hA, h.hB⟩
theorem Cst.below (h : Cst w0 w X A n cap code g bg W H A1 m c1 xs) (hb : Below X.heap.size X Y) : Cst w0 w Y A n cap code g bg W H A1 m c1 xs := h.turn (Chg.of_below hb) (h.sx.below hb)
theorem Cst.drewN (h : Cst w0 w X A n cap code g bg W H A1 m c1 xs) (q : Nat) : Cst w0 w (X.drewN q) A n cap code g bg W H A1 m c1 xs := h.turn (chg_drewN (Chg.refl _ _ _) q) (h.sx.drewN q)
theorem Cst.cells (h : Cst w0 w X A n cap code g bg W H A1 m c1 xs) : X.cell? ⟨bg, 0, none⟩ = some (.int .i64 W) ∧ X.cell? ⟨bg, 1, none⟩ = some (.int .i64 H) ∧ X.cell? ⟨bg, 2, none⟩ = some (.slice A1 m c1) := by
  obtain ⟨h1, h2, h3, _⟩ := h.v.facts
  exact ⟨h1, h2, h3⟩
theorem Cst.app (h : Cst w0 w X A n cap code g bg W H A1 m c1 xs) {base e s len c7 : Nat} {A7 : Option Addr} {vs : List Value} (ho : X.ownsRow base e s (.slice A7 len c7) len vs) (hbase : bg < base) {ob : Obj} (hg : (X.alloc ob).grownBy Y (Value.slice A7 len c7).ownBlock) : Cst w0 w Y A n cap code g bg W H A1 m c1 xs := by
  have hl := h.lt
  have hb := (Below.refl X.heap.size X).alloc (Nat.le_refl _) ob
  have hr : ∀ b, (Value.slice A7 len c7).ownBlock = some b → base ≤ b := fun b e => (ho.lt b e).1
  have h2 := h.below hb
  exact ⟨h2.v.grown hg (fun b e => by have := hr b e; omega), h2.rv.grown hg (fun b e => by have := hr b e; omega), h2.rd.chgp (chg_of_grown hg hr) (fun h0 b o e => by have := h.hB h0 b o e; omega),
    h2.sx.grown hg (fun b e => by have := hr b e; omega), chg_grown h2.ch hg (fun b e => by have := hr b e; omega), hl, h.hA, h.hB⟩
theorem Cst.fin (h : Cst w0 w X A n cap code g bg W H A1 m c1 xs) : Var3 (((X.setCell ⟨w.heap.size, 0, none⟩ (.int .i64 W)).setCell ⟨w.heap.size, 1, none⟩ (.int .i64 H)).setCell ⟨w.heap.size, 2, none⟩ (.slice A1 m c1)) w.heap.size 29 (.int .i64 W) (.int .i64 H) (.slice A1 m c1) ∧ Sx w0 (((X.setCell ⟨w.heap.size, 0, none⟩ (.int .i64 W)).setCell ⟨w.heap.size, 1, none⟩ (.int .i64 H)).setCell ⟨w.heap.size, 2, none⟩ (.slice A1 m c1)) A n cap code g ∧ Chg g (g + 1) w (((X.setCell ⟨w.heap.size, 0, none⟩ (.int .i64 W)).setCell ⟨w.heap.size, 1, none⟩ (.int .i64 H)).setCell ⟨w.heap.size, 2, none⟩ (.slice A1 m c1)) ∧ Rd (((X.setCell ⟨w.heap.size, 0, none⟩ (.int .i64 W)).setCell ⟨w.heap.size, 1, none⟩ (.int .i64 H)).setCell ⟨w.heap.size, 2, none⟩ (.slice A1 m c1)) 2 A1 m (winds xs) :=
  fin3 h.rv h.sx h.ch (Nat.le_refl _) h.lt.1 h.rd (fun b o e => by have := h.hA b o e; omega) _ _ _
theorem Cst.fin2 (h : Cst w0 w X A n cap code g bg W H A1 m c1 xs) {A2 : Option Addr} {k : Nat} {route : List Int} (hr : Rd X 1 A2 k (ints route)) (hA2 : ∀ b o, A2 = some ⟨b, o, none⟩ → w.heap.size < b) : Rd (((X.setCell ⟨w.heap.size, 0, none⟩ (.int .i64 W)).setCell ⟨w.heap.size, 1, none⟩ (.int .i64 H)).setCell ⟨w.heap.size, 2, none⟩ (.slice A1 m c1)) 1 A2 k (ints route) := by
  have hA : ∀ b o, A2 = some ⟨b, o, none⟩ → b ≠ w.heap.size := fun b o e => by have := hA2 b o e; omega
  exact ((hr.other hA _).other hA _).other hA _
end
/-- .. and the list that is being made. -/
structure Rst (w0 w X : World) (A : Option Addr) (n cap : Nat) (code : List Int) (g bg : Nat) (W H : Int) (A1 : Option Addr) (m c1 : Nat) (xs : List (Int × Int)) (b0 : Nat) (A7 : Option Addr) (len c7 : Nat) (cs : List Int) : Prop where
  st : Cst w0 w X A n cap code g bg W H A1 m c1 xs
  ow : X.ownsRow b0 2 1 (.slice A7 len c7) len (ints cs)
  sz : b0 ≤ X.heap.size
  hb : bg < b0
section
variable {w0 w X Y : World} {A : Option Addr} {n cap : Nat} {code : List Int} {g bg : Nat} {W H : Int} {A1 : Option Addr} {m c1 : Nat} {xs : List (Int × Int)} {b0 len c7 : Nat} {A7 : Option Addr} {cs : List Int}
theorem Rst.turn (h : Rst w0 w X A n cap code g bg W H A1 m c1 xs b0 A7 len c7 cs) (hc : Chg g (g + 1) X Y) (hs : Sx w0 Y A n cap code g) : Rst w0 w Y A n cap code g bg W H A1 m c1 xs b0 A7 len c7 cs := by
  have hl := h.st.lt
  have hb := h.hb
  exact ⟨h.st.turn hc hs, own_chg h.ow hc (fun b hv => by have := (h.ow.lt b hv).1; omega), Nat.le_trans h.sz hc.size, hb⟩
theorem Rst.below (h : Rst w0 w X A n cap code g bg W H A1 m c1 xs b0 A7 len c7 cs) (hb : Below X.heap.size X Y) : Rst w0 w Y A n cap code g bg W H A1 m c1 xs b0 A7 len c7 cs := ⟨h.st.below hb, own_below h.ow hb, Nat.le_trans h.sz hb.size, h.hb⟩
theorem Rst.drewN (h : Rst w0 w X A n cap code g bg W H A1 m c1 xs b0 A7 len c7 cs) (q : Nat) : Rst w0 w (X.drewN q) A n cap code g bg W H A1 m c1 xs b0 A7 len c7 cs := ⟨h.st.drewN q, own_drewN h.ow q, h.sz, h.hb⟩
theorem Rst.app (h : Rst w0 w X A n cap code g bg W H A1 m c1 xs b0 A7 len c7 cs) {ob : Obj} (hg : (X.alloc ob).grownBy Y (Value.slice A7 len c7).ownBlock) {A8 : Option Addr} {len8 c8 : Nat} {cs8 : List Int} (ho : Y.ownsRow b0 2 1 (.slice A8 len8 c8) len8 (ints cs8)) : Rst w0 w Y A n cap code g bg W H A1 m c1 xs b0 A8 len8 c8 cs8 :=
  ⟨h.st.app h.ow h.hb hg, ho, by have h1 := h.sz; have h2 := hg.size; simp at h2; omega, h.hb⟩
end
/-- A grid, a cell and a route were drawn. -/
def RetRD (w0 w : World) (A : Option Addr) (n cap : Nat) (code : List Int) (g : Nat) (e : Ending) (w' : World) : Prop :=
  ∃ (W H : Int) (A1 : Option Addr) (m c1 : Nat) (xs : List (Int × Int)) (fr : Int) (A2 : Option Addr) (k c2 : Nat) (route : List Int), e = .returned (.tuple #[.agg #[.int .i64 W, .int .i64 H, .slice A1 m c1], .int .i64 fr, .slice A2 k c2]) ∧ m ≤ 25 ∧ k ≤ 1048576 ∧
    Rd w' 2 A1 m (winds xs) ∧ Rd w' 1 A2 k (ints route) ∧ (∀ b o, A1 = some ⟨b, o, none⟩ → w.heap.size ≤ b) ∧ (∀ b o, A2 = some ⟨b, o, none⟩ → w.heap.size ≤ b) ∧ Sx w0 w' A n cap code g ∧ Chg g (g + 1) w w'
set_option maxHeartbeats 4000000 in
theorem drawRoute_any (w0 : World) (A : Option Addr) (n cap : Nat) (code : List Int) (hcode : Code0 w0 A n code) (g : Nat) (w : World) (h : Sx w0 w A n cap code g) :
    Calls Try.prog 68 #[.pointer (some ⟨g, 0, none⟩)] w (RetRD w0 w A n cap code g) := by
  have HN := Lib.hid (fun k h1 hk w' h => nextX_any w0 A n cap code hcode g k h1 hk w' h)
  have HAN := Lib.hid (fun w' h => drawAny_any w0 A n cap code hcode g w' h)
  have HDC := Lib.hid (fun W H A1 m c1 h1 h2 h3 h4 w' h => drawCell_any w0 A n cap code hcode g W H A1 m c1 h1 h2 h3 h4 w' h)
  have hgl := h.lt
  go_enter Try.func68, Try.ntmps68
  go_wp2_with fail
  have hv0 : Var3 (w.alloc (.cells #[.int .i64 0, .int .i64 0, .slice none 0 0] 29)) w.heap.size 29 (.int .i64 0) (.int .i64 0) (.slice none 0 0) := heap_alloc_new _ _
  have hc0 := chg_alloc (Chg.refl g (g + 1) w) (.cells #[.int .i64 0, .int .i64 0, .slice none 0 0] 29)
  have hs0 := h.below ((Below.refl _ _).alloc (Nat.le_refl _) (.cells #[.int .i64 0, .int .i64 0, .slice none 0 0] 29))
  have hz0 : (w.alloc (.cells #[.int .i64 0, .int .i64 0, .slice none 0 0] 29)).heap.size = w.heap.size + 1 := by simp
  refine (HAN.out _ hs0).mono ?_
  rintro e w1 ⟨W, H, A1, m, c1, xs, rfl, hW0, hW, hH0, hH, hm25, hrd, hA1, hs1, hc1⟩
  rw [hz0] at hA1
  have hr1 := hv0.chg hc1 (.inr (by omega))
  have hc01 := hc0.trans hc1
  have hz2 := hc1.size
  rw [hz0] at hz2
  clear hv0 hc0 hs0 hz0 hc1
  obtain ⟨bg, hbg⟩ : ∃ b, b = w1.heap.size := ⟨_, rfl⟩
  have hv2 : Var3 (w1.alloc (.cells #[.int .i64 W, .int .i64 H, .slice A1 m c1] 29)) bg 29 (.int .i64 W) (.int .i64 H) (.slice A1 m c1) := by rw [hbg]; exact heap_alloc_new _ _
  have hb2 : Below w1.heap.size w1 (w1.alloc (.cells #[.int .i64 W, .int .i64 H, .slice A1 m c1] 29)) := (Below.refl _ _).alloc (Nat.le_refl _) _
  have hz3 : (w1.alloc (.cells #[.int .i64 W, .int .i64 H, .slice A1 m c1] 29)).heap.size = bg + 1 := by rw [hbg]; simp
  go_wp2_with fail
  obtain ⟨w2, hw2⟩ : ∃ x, x = w1.alloc (.cells #[.int .i64 W, .int .i64 H, .slice A1 m c1] 29) := ⟨_, rfl⟩
  rw [← hw2] at hv2 hb2 hz3
  rw [← hw2]
  try rw [← hbg]
  have hab : 0 < m → ∀ b o, A1 = some ⟨b, o, none⟩ → b < bg := fun hm0 b o e => by
    obtain ⟨b', o', e', hcc⟩ := hrd.pos hm0
    rw [e] at e'; injection e' with e'; injection e' with e1 e2
    have hlt : (0 : Nat) < (winds xs).length := by rw [hrd.len]; omega
    have hcell := cell_lt (hcc 0 _ (List.getElem?_eq_getElem hlt))
    simp only at hcell
    omega
  have hlx := hrd.len_wind
  have hst : Cst w0 w w2 A n cap code g bg W H A1 m c1 xs := ⟨hv2, hr1.chg (Chg.of_below hb2) (lo := g) (hi := g + 1) (.inr (by omega)), hrd.below hb2, hs1.below hb2, hc01.trans (Chg.of_below hb2), ⟨hgl, by omega⟩, fun b o e => by have := hA1 b o e; omega, hab⟩
  have hbg2 : bg < w2.heap.size := by omega
  clear hw2 hb2 hv2 hr1 hrd hs1 hc01 hz3 hz2 hbg hab hA1
  refine (HDC.out W H A1 m c1 hW0 hW hH0 hH _ hst.sx).mono ?_
  rintro e w3 ⟨fr, rfl, fr0, fr1, hs3, hc3⟩
  replace hst := hst.turn hc3 hs3
  have hz3 := hc3.size
  clear hs3 hc3
  obtain ⟨x0, x1, x2⟩ := hst.cells
  have hbl3 : bg < w3.heap.size := by omega
  have HG := Lib.hid (fun X hr => specIsWindGrid_any W H A1 m c1 xs X hr)
  have hoe := own_empty w3 w3.heap.size 2 (Nat.le_refl _)
  have hbe : Below w3.heap.size w3 (w3.alloc (.cells #[] 2)) := (Below.refl _ _).alloc (Nat.le_refl _) _
  have hze : (w3.alloc (.cells #[] 2)).heap.size = w3.heap.size + 1 := by simp
  have hst4 := hst.below hbe
  have HST4 := Lib.hid hst4
  have HOE := Lib.hid hoe
  have HBE := Lib.hid hbe
  clear hst hoe hbe hst4
  go_wp2_with fail
  obtain ⟨x0, x1, x2⟩ := HST4.out.cells
  obtain ⟨b0, hb0⟩ : ∃ b, b = w3.heap.size := ⟨_, rfl⟩
  have hb3 : bg < b0 := by omega
  obtain ⟨w4, hw4⟩ : ∃ x, x = w3.alloc (.cells #[] 2) := ⟨_, rfl⟩
  rw [← hw4] at HST4 HOE HBE x0 x1 x2 hze
  rw [← hw4]
  rw [← hb0] at HOE hze
  try rw [← hb0]
  clear hw4 hb0 HBE hz3 hbg2
  refine (HG.out _ HST4.out.rd).mono ?_
  rintro e w5 ⟨rfl, hb5⟩
  have HR5 := Lib.hid (show Rst w0 w w5 A n cap code g bg W H A1 m c1 xs b0 (some ⟨b0, 0, none⟩) 0 0 [] from ⟨HST4.out.below hb5, own_below HOE.out hb5, by have := hb5.size; omega, hb3⟩)
  clear hb5 HST4 HOE hze hbl3
  obtain ⟨x0, x1, x2⟩ := HR5.out.st.cells
  have hgw : w.heap.size < bg := HR5.out.st.lt.2
  have hne1 : w.heap.size ≠ bg := by omega
  have hne2 : bg ≠ w.heap.size := by omega
  cases hgb : gridB W H xs with
  | false =>
    clear HG HN HAN HDC
    obtain ⟨r0, r1, r2, y0, y1, y2, hrl⟩ := HR5.out.st.rv.facts
    go_wp2_with fail
    obtain ⟨e4, e2, e3, e5⟩ := HR5.out.st.fin
    have hAA := HR5.out.st.hA
    have hszf : (((w5.setCell ⟨w.heap.size, 0, none⟩ (.int .i64 W)).setCell ⟨w.heap.size, 1, none⟩ (.int .i64 H)).setCell ⟨w.heap.size, 2, none⟩ (.slice A1 m c1)).heap.size = w5.heap.size := by simp
    obtain ⟨wf, hwf⟩ : ∃ x, x = ((w5.setCell ⟨w.heap.size, 0, none⟩ (.int .i64 W)).setCell ⟨w.heap.size, 1, none⟩ (.int .i64 H)).setCell ⟨w.heap.size, 2, none⟩ (.slice A1 m c1) := ⟨_, rfl⟩
    rw [← hwf] at e2 e3 e4 e5 hszf
    rw [← hwf]
    clear hwf
    obtain ⟨f0, f1, f2, _, _, _, hfl⟩ := e4.facts
    have k0 := cell_under wf (.cells #[.int .i64 1] 2) hfl f0
    have k1 := cell_under wf (.cells #[.int .i64 1] 2) hfl f1
    have k2 := cell_under wf (.cells #[.int .i64 1] 2) hfl f2
    have hbz : Below wf.heap.size wf (wf.alloc (.cells #[.int .i64 1] 2)) := (Below.refl _ _).alloc (Nat.le_refl _) _
    have hrd1 := rd_lit 1 wf
    rw [hszf] at hrd1
    have hwl := HR5.out.st.ch.size
    refine bodyPost_ret (v := .tuple #[.agg #[.int .i64 W, .int .i64 H, .slice A1 m c1], .int .i64 fr, .slice (some ⟨w5.heap.size, 0, none⟩) 1 1]) (by simp [results, Try.results68, go_sem, k0, k1, k2]) rfl ?_
    exact ⟨W, H, A1, m, c1, xs, fr, _, _, _, [1], rfl, hm25, by omega, e5.below hbz, hrd1, (fun b o e => by have := hAA b o e; omega), (fun b o e => by injection e with e; injection e with e; omega), e2.below hbz, chg_below e3 hbz⟩
  | true =>
    have hk := gridB_ok hgb
    have hNm : W * H = m := by have := hk.len; omega
    have hm1 : 1 ≤ m := by have := hk.n100.1; omega
    have HCL := Lib.hid (fun X => l32Cell_any W H A1 m c1 xs fr X hk)
    go_wp2_with fail
    refine (HCL.out _).mono ?_
    rintro e w6 ⟨rfl, hb6⟩
    have HR6 := Lib.hid (HR5.out.below hb6)
    clear hb6 HR5 x0 x1 x2 HG HAN HDC HCL hgb
    obtain ⟨x0, x1, x2⟩ := HR6.out.st.cells
    cases hwb : withinB fr 0 ((xs.length : Int) - 1) with
    | false =>
      clear HN
      obtain ⟨r0, r1, r2, y0, y1, y2, hrl⟩ := HR6.out.st.rv.facts
      go_wp2_with fail
      obtain ⟨e4, e2, e3, e5⟩ := HR6.out.st.fin
      have hAA := HR6.out.st.hA
      have hszf : (((w6.setCell ⟨w.heap.size, 0, none⟩ (.int .i64 W)).setCell ⟨w.heap.size, 1, none⟩ (.int .i64 H)).setCell ⟨w.heap.size, 2, none⟩ (.slice A1 m c1)).heap.size = w6.heap.size := by simp
      obtain ⟨wf, hwf⟩ : ∃ x, x = ((w6.setCell ⟨w.heap.size, 0, none⟩ (.int .i64 W)).setCell ⟨w.heap.size, 1, none⟩ (.int .i64 H)).setCell ⟨w.heap.size, 2, none⟩ (.slice A1 m c1) := ⟨_, rfl⟩
      rw [← hwf] at e2 e3 e4 e5 hszf
      rw [← hwf]
      clear hwf
      obtain ⟨f0, f1, f2, _, _, _, hfl⟩ := e4.facts
      have k0 := cell_under wf (.cells #[.int .i64 1] 2) hfl f0
      have k1 := cell_under wf (.cells #[.int .i64 1] 2) hfl f1
      have k2 := cell_under wf (.cells #[.int .i64 1] 2) hfl f2
      have hbz : Below wf.heap.size wf (wf.alloc (.cells #[.int .i64 1] 2)) := (Below.refl _ _).alloc (Nat.le_refl _) _
      have hrd1 := rd_lit 1 wf
      rw [hszf] at hrd1
      have hwl := HR6.out.st.ch.size
      refine bodyPost_ret (v := .tuple #[.agg #[.int .i64 W, .int .i64 H, .slice A1 m c1], .int .i64 fr, .slice (some ⟨w6.heap.size, 0, none⟩) 1 1]) (by simp [results, Try.results68, go_sem, k0, k1, k2]) rfl ?_
      exact ⟨W, H, A1, m, c1, xs, fr, _, _, _, [1], rfl, hm25, by omega, e5.below hbz, hrd1, (fun b o e => by have := hAA b o e; omega), (fun b o e => by injection e with e; injection e with e; omega), e2.below hbz, chg_below e3 hbz⟩
    | true =>
      obtain ⟨u0, u1⟩ := withinB_iff.1 hwb
      rw [hlx] at u1
      clear hwb
      go_wp2_with fail
      refine (HN.out 2 (by omega) (by omega) _ HR6.out.st.sx).mono ?_
      rintro e w7 ⟨v, rfl, v0, v1, hs7, hc7⟩
      have HR7 := Lib.hid (HR6.out.turn hc7 hs7)
      clear hs7 hc7 HR6 x0 x1 x2
      obtain ⟨x0, x1, x2⟩ := HR7.out.st.cells
      have HSR := Lib.hid (show ∀ w1, Rst w0 w w1 A n cap code g bg W H A1 m c1 xs b0 (some ⟨b0, 0, none⟩) 0 0 [] → (w1.cell? ⟨bg, 0, none⟩ = some (.int .i64 W) ∧ w1.cell? ⟨bg, 1, none⟩ = some (.int .i64 H) ∧ w1.cell? ⟨bg, 2, none⟩ = some (.slice A1 m c1) ∧ Rst w0 w w1 A n cap code g bg W H A1 m c1 xs b0 (some ⟨b0, 0, none⟩) 0 0 []) from fun w1 h => ⟨h.st.cells.1, h.st.cells.2.1, h.st.cells.2.2, h⟩)
      go_upto_if 36 with fail
      go_cut [] (fun w1 => Rst w0 w w1 A n cap code g bg W H A1 m c1 xs b0 (some ⟨b0, 0, none⟩) 0 0 [])
      case first =>
        by_cases hv0 : v = 0
        · subst hv0
          have hwr : IntKind.i64.wrap (m : Int) = m := IntWalk.i64_in _ (by omega)
          have HFRT := Lib.hid (fun v X hr => specFastR_any W H A1 m c1 xs fr v X hr)
          go_wp2_with fail
          go_region_held3 (fun w1 => w1.cell? ⟨bg, 0, none⟩ = some (.int .i64 W) ∧ w1.cell? ⟨bg, 1, none⟩ = some (.int .i64 H) ∧ w1.cell? ⟨bg, 2, none⟩ = some (.slice A1 m c1) ∧ Rst w0 w w1 A n cap code g bg W H A1 m c1 xs b0 (some ⟨b0, 0, none⟩) 0 0 []) (first | exact HSR.out _ HBq | exact HSR.out _ (HR7.out.drewN 1) | assumption) (first | (go_at_call 87; (have hq := (‹_ ∧ _ ∧ _ ∧ Rst _ _ _ _ _ _ _ _ _ _ _ _ _ _ _ _ _ _ _ _›).2.2.2); (refine (HN.out m (by omega) (by omega) _ hq.st.sx).mono ?_); (rintro e wq ⟨vq, rfl, vq0, vq1, hsq, hcq⟩); (have HBq := hq.turn hcq hsq)) | (go_at_call 41; (have hq := (‹_ ∧ _ ∧ _ ∧ Rst _ _ _ _ _ _ _ _ _ _ _ _ _ _ _ _ _ _ _ _›).2.2.2); (refine (HFRT.out vq _ hq.st.rd).mono ?_); (rintro e wz ⟨A8, n8, c8, rfl, o8, hn8, hb8⟩); (have HBq := hq.below hb8)))
          generalize fastRF W H xs fr vq = R at *
          obtain ⟨r1', r2', r3'⟩ := R
          simp only at o8
          have HRZ := Lib.hid HBq
          have hqs := hq.sz
          have hqb := hq.hb
          have O8 := Lib.hid o8
          have hol := own_len o8
          clear o8 hb8 HBq hq HSR HN HFRT x0 x1 x2
          obtain ⟨x0, x1, x2⟩ := HRZ.out.st.cells
          by_cases hr3 : r3' = 0
          · subst hr3
            obtain ⟨r0, r1, r2, y0, y1, y2, hrl⟩ := HRZ.out.st.rv.facts
            go_wp2_with fail
            obtain ⟨e4, e2, e3, e5⟩ := HRZ.out.st.fin
            have hA2 : ∀ b o, (A8 : Option Addr) = some ⟨b, o, none⟩ → w.heap.size < b := fun b o e => by have := own_addr O8.out b o e; omega
            have e6 := HRZ.out.st.fin2 (own_rd O8.out) hA2
            have hAA := HRZ.out.st.hA
            obtain ⟨wf, hwf⟩ : ∃ x, x = ((wz.setCell ⟨w.heap.size, 0, none⟩ (.int .i64 W)).setCell ⟨w.heap.size, 1, none⟩ (.int .i64 H)).setCell ⟨w.heap.size, 2, none⟩ (.slice A1 m c1) := ⟨_, rfl⟩
            rw [← hwf] at e2 e3 e4 e5 e6
            rw [← hwf]
            clear hwf
            obtain ⟨f0, f1, f2, _, _, _, hfl⟩ := e4.facts
            refine bodyPost_ret (v := .tuple #[.agg #[.int .i64 W, .int .i64 H, .slice A1 m c1], .int .i64 fr, .slice (A8) (n8) (c8)]) (by simp [results, Try.results68, go_sem, f0, f1, f2]) rfl ?_
            exact ⟨W, H, A1, m, c1, xs, fr, _, _, _, _, rfl, hm25, by omega, e5, e6, (fun b o e => by have := hAA b o e; omega), (fun b o e => by have := hA2 b o e; omega), e2, e3⟩
          · have hrb : (r3' == 0) = false := by simpa using hr3
            go_wp2_with fail
            go_meet
            exact HRZ.out
        · have hvb : (v == 0) = false := by simpa using hv0
          go_wp2_with fail
          go_meet
          exact HR7.out
      case rest =>
        have HRC := Lib.hid hcut
        clear hcut HR7 HSR x0 x1 x2 v0 v1
        obtain ⟨x0, x1, x2⟩ := HRC.out.st.cells
        have HTI := Lib.hid (fun c' d (g1 : 0 ≤ c') (g2 : c' < W * H) (d1 : 0 ≤ d) (d2 : d ≤ 7) X hr => l32Time_any W H A1 m c1 xs c' d hk g1 g2 d1 d2 X hr)
        have HNB := Lib.hid (fun c' d (g1 : 0 ≤ c') (g2 : c' < W * H) (d1 : 0 ≤ d) (d2 : d ≤ 7) X => specNb_any W H A1 m c1 c' d hk.w1 hk.w2 hk.h1 hk.h2 g1 g2 d1 d2 X)
        have HCL := Lib.hid (fun c' d (hh : moveB W H xs c' d = true) => nb_cell (cell := c') (d := d) hk.w1 hk.h1 (moveB_nb hh))
        have HNV := Lib.hid (show ∀ c' d, moveB W H xs c' d = true → nbV W H c' d = nbF W H c' d from fun c' d hh => by unfold nbV; rw [if_pos (moveB_nb hh)])
        rw [hNm] at HTI HNB HCL
        clear hk hNm
        go_wp2_with fail
        refine (HN.out 8 (by omega) (by omega) _ HRC.out.st.sx).mono ?_
        rintro e w8 ⟨k0, rfl, k00, k01, hs8, hc8⟩
        obtain ⟨kn, rfl⟩ := int_up k0 k00
        have HR8 := Lib.hid (HRC.out.turn hc8 hs8)
        clear hs8 hc8 HRC x0 x1 x2
        go_wp2_with fail
        go_loopg [7, 11, 12] kn (fun q s7 s11 s12 wr => ∃ (A7 : Option Addr) (len c7 : Nat) (cs : List Int) (cell : Int), s7 = .slice A7 len c7 ∧ s11 = .int .i64 cell ∧ s12 = .int .i64 q ∧ 0 ≤ cell ∧ cell < m ∧ len + q ≤ 8 ∧ Rst w0 w wr A n cap code g bg W H A1 m c1 xs b0 A7 len c7 cs)
        case atStart => exact ⟨_, 0, 0, [], fr, rfl, rfl, rfl, u0, by omega, by omega, HR8.out⟩
        case round =>
          clear HR8
          obtain ⟨A7, len, c7, cs, cell, rfl, rfl, rfl, ce0, ce1, hlen, hrst⟩ := hrel
          obtain ⟨wo, rfl⟩ : ∃ wo : World, wo = wr := ⟨_, rfl⟩
          have HRO := Lib.hid hrst
          clear hrst
          obtain ⟨x0, x1, x2⟩ := HRO.out.st.cells
          by_cases hq0 : gk = 0
          · subst hq0
            go_wp2_with fail
            refine (HN.out 40 (by omega) (by omega) _ HRO.out.st.sx).mono ?_
            rintro e w9 ⟨t, rfl, t0, t1, hs9, hc9⟩
            have HR9 := Lib.hid (HRO.out.turn hc9 hs9)
            clear hs9 hc9 HRO x0 x1 x2
            obtain ⟨x0, x1, x2⟩ := HR9.out.st.cells
            by_cases ht0 : t = 0
            · subst ht0
              clear HTI HNB HCL HNV HN
              have hsz9 := HR9.out.sz
              go_wp2_with (at_builtin; refine app_i64 (base := b0) _ rfl _ _ rfl rfl (own_below HR9.out.ow ((Below.refl _ _).alloc (Nat.le_refl _) _)) rfl (cell_new1 _ _ _) (by omega) (by simp <;> omega) ?_; intro A' c4 wa hoa hgra; have hra := HR9.out.app hgra hoa; obtain ⟨x0a, x1a, x2a⟩ := hra.st.cells; obtain ⟨r0a, r1a, r2a, y0a, y1a, y2a, hrla⟩ := hra.st.rv.facts)
              have HRA := Lib.hid hra
              clear hoa hgra hra x0 x1 x2 x0a x1a x2a r0a r1a r2a y0a y1a y2a hrla
              have hbA := HRA.out.hb
              obtain ⟨e4, e2, e3, e5⟩ := HRA.out.st.fin
              have hA2 : ∀ b o, (A' : Option Addr) = some ⟨b, o, none⟩ → w.heap.size < b := fun b o e => by have := own_addr HRA.out.ow b o e; omega
              have e6 := HRA.out.st.fin2 (own_rd HRA.out.ow) hA2
              have hAA := HRA.out.st.hA
              obtain ⟨wf, hwf⟩ : ∃ x, x = ((wa.setCell ⟨w.heap.size, 0, none⟩ (.int .i64 W)).setCell ⟨w.heap.size, 1, none⟩ (.int .i64 H)).setCell ⟨w.heap.size, 2, none⟩ (.slice A1 m c1) := ⟨_, rfl⟩
              rw [← hwf] at e2 e3 e4 e5 e6
              rw [← hwf]
              clear hwf
              obtain ⟨f0, f1, f2, _, _, _, hfl⟩ := e4.facts
              refine bodyPost_ret (v := .tuple #[.agg #[.int .i64 W, .int .i64 H, .slice A1 m c1], .int .i64 fr, .slice (A') (len + 1) (c4)]) (by simp [results, Try.results68, go_sem, f0, f1, f2]) rfl ?_
              exact ⟨W, H, A1, m, c1, xs, fr, _, _, _, _, rfl, hm25, by omega, e5, e6, (fun b o e => by have := hAA b o e; omega), (fun b o e => by have := hA2 b o e; omega), e2, e3⟩
            · have htb : (t == 0) = false := by simpa using ht0
              by_cases ht1 : t = 1
              · subst ht1
                go_wp2_with fail
                refine (HN.out 2 (by omega) (by omega) _ HR9.out.st.sx).mono ?_
                rintro e wa ⟨z, rfl, z0, z1, hsa, hca⟩
                obtain ⟨zn, rfl⟩ := int_up z z0
                have HRA := Lib.hid (HR9.out.turn hca hsa)
                clear hsa hca x0 x1 x2 HR9 HTI HNB HCL HNV HN
                obtain ⟨x0, x1, x2⟩ := HRA.out.st.cells
                have hbla : bg < wa.heap.size := by have h1 := HRA.out.sz; have h2 := HRA.out.hb; omega
                have hwla : w.heap.size < wa.heap.size := by omega
                have hmk := run_make_i64 (100 + zn) (by omega)
                have hca : ((100 + zn : Nat) : Int) = 100 + (zn : Int) := by omega
                rw [hca] at hmk
                obtain ⟨r0, r1, r2, y0, y1, y2, hrl⟩ := HRA.out.st.rv.facts
                go_wp2_with fail
                obtain ⟨e4, e2, e3, e5⟩ := HRA.out.st.fin
                have hAA := HRA.out.st.hA
                have hszf : (((wa.setCell ⟨w.heap.size, 0, none⟩ (.int .i64 W)).setCell ⟨w.heap.size, 1, none⟩ (.int .i64 H)).setCell ⟨w.heap.size, 2, none⟩ (.slice A1 m c1)).heap.size = wa.heap.size := by simp
                obtain ⟨wf, hwf⟩ : ∃ x, x = ((wa.setCell ⟨w.heap.size, 0, none⟩ (.int .i64 W)).setCell ⟨w.heap.size, 1, none⟩ (.int .i64 H)).setCell ⟨w.heap.size, 2, none⟩ (.slice A1 m c1) := ⟨_, rfl⟩
                rw [← hwf] at e2 e3 e4 e5 hszf
                rw [← hwf]
                clear hwf
                obtain ⟨f0, f1, f2, _, _, _, hfl⟩ := e4.facts
                have k0 := cell_under wf (.cells (madeCells #[.int .i64 0] (100 + zn)) 2) hfl f0
                have k1 := cell_under wf (.cells (madeCells #[.int .i64 0] (100 + zn)) 2) hfl f1
                have k2 := cell_under wf (.cells (madeCells #[.int .i64 0] (100 + zn)) 2) hfl f2
                have hbz : Below wf.heap.size wf (wf.alloc (.cells (madeCells #[.int .i64 0] (100 + zn)) 2)) := (Below.refl _ _).alloc (Nat.le_refl _) _
                have hrd1 := own_rd (own_made wf wf.heap.size 2 (100 + zn) (.int .i64 0) (Nat.le_refl _) (by omega))
                rw [hszf] at hrd1
                rw [← ints_replicate] at hrd1
                have hwl := HRA.out.st.ch.size
                refine bodyPost_ret (v := .tuple #[.agg #[.int .i64 W, .int .i64 H, .slice A1 m c1], .int .i64 fr, .slice (some ⟨wa.heap.size, 0, none⟩) (100 + zn) (100 + zn)]) (by simp [results, Try.results68, go_sem, k0, k1, k2]) rfl ?_
                exact ⟨W, H, A1, m, c1, xs, fr, _, _, _, List.replicate (100 + zn) 0, rfl, hm25, by omega, e5.below hbz, hrd1, (fun b o e => by have := hAA b o e; omega), (fun b o e => by injection e with e; injection e with e; omega), e2.below hbz, chg_below e3 hbz⟩
              · have htb1 : (t == 1) = false := by simpa using ht1
                clear HTI HNB HCL HNV HN
                have hbA := HR9.out.hb
                obtain ⟨r0, r1, r2, y0, y1, y2, hrl⟩ := HR9.out.st.rv.facts
                go_wp2_with fail
                obtain ⟨e4, e2, e3, e5⟩ := HR9.out.st.fin
                have hA2 : ∀ b o, (A7 : Option Addr) = some ⟨b, o, none⟩ → w.heap.size < b := fun b o e => by have := own_addr HR9.out.ow b o e; omega
                have e6 := HR9.out.st.fin2 (own_rd HR9.out.ow) hA2
                have hAA := HR9.out.st.hA
                obtain ⟨wf, hwf⟩ : ∃ x, x = ((w9.setCell ⟨w.heap.size, 0, none⟩ (.int .i64 W)).setCell ⟨w.heap.size, 1, none⟩ (.int .i64 H)).setCell ⟨w.heap.size, 2, none⟩ (.slice A1 m c1) := ⟨_, rfl⟩
                rw [← hwf] at e2 e3 e4 e5 e6
                rw [← hwf]
                clear hwf
                obtain ⟨f0, f1, f2, _, _, _, hfl⟩ := e4.facts
                refine bodyPost_ret (v := .tuple #[.agg #[.int .i64 W, .int .i64 H, .slice A1 m c1], .int .i64 fr, .slice (A7) (len) (c7)]) (by simp [results, Try.results68, go_sem, f0, f1, f2]) rfl ?_
                exact ⟨W, H, A1, m, c1, xs, fr, _, _, _, _, rfl, hm25, by omega, e5, e6, (fun b o e => by have := hAA b o e; omega), (fun b o e => by have := hA2 b o e; omega), e2, e3⟩
          · obtain ⟨q, rfl⟩ : ∃ q, gk = q + 1 := ⟨gk - 1, by omega⟩
            have hcq : ((q + 1 : Nat) : Int) = (q : Int) + 1 := by omega
            rw [hcq]
            go_wp2_with fail
            refine (HN.out 8 (by omega) (by omega) _ HRO.out.st.sx).mono ?_
            rintro e w9 ⟨d, rfl, d0, d1, hs9, hc9⟩
            have HR9 := Lib.hid (HRO.out.turn hc9 hs9)
            clear hs9 hc9 HRO x0 x1 x2
            obtain ⟨x0, x1, x2⟩ := HR9.out.st.cells
            have HTI1 := Lib.hid (fun X hr => HTI.out cell d ce0 ce1 d0 (by omega) X hr)
            have HNB1 := Lib.hid (fun X => HNB.out cell d ce0 ce1 d0 (by omega) X)
            generalize moveV W H xs cell d = mv at *
            cases hmb : moveB W H xs cell d with
            | false =>
              rw [hmb] at HTI1
              clear hmb
              go_wp2_with fail
              refine (HTI1.out _ HR9.out.st.rd).mono ?_
              rintro e wa ⟨rfl, hba⟩
              have HRA := Lib.hid (HR9.out.below hba)
              clear hba x0 x1 x2 HR9
              go_wp2_with fail
              refine (HN.out 24 (by omega) (by omega) _ HRA.out.st.sx).mono ?_
              rintro e wb ⟨t, rfl, t0, t1, hsb, hcb⟩
              have HRB := Lib.hid (HRA.out.turn hcb hsb)
              clear hsb hcb HRA
              have hszb := HRB.out.sz
              by_cases ht0 : t = 0
              · subst ht0
                go_wp2_with (at_builtin; refine app_i64 (base := b0) _ rfl _ _ rfl rfl (own_below HRB.out.ow ((Below.refl _ _).alloc (Nat.le_refl _) _)) rfl (cell_new1 _ _ _) (by omega) (by simp <;> omega) ?_; intro A' c4 wd hod hgrd)
                have HRD := Lib.hid (HRB.out.app hgrd hod)
                clear hod hgrd
                go_wp2_with fail
                go_roundg q
                case measure => omega
                case rel => exact ⟨A', len + 1, c4, _, cell, rfl, rfl, by go_num, by omega, by omega, by omega, HRD.out⟩
              · have htb : (t == 0) = false := by simpa using ht0
                go_wp2_with fail
                go_roundg q
                case measure => omega
                case rel => exact ⟨A7, len, c7, cs, cell, rfl, rfl, by go_num, ce0, ce1, by omega, HRB.out⟩
            | true =>
              rw [hmb] at HTI1
              obtain ⟨n1, n2⟩ := HCL.out cell d hmb
              have hnv := HNV.out cell d hmb
              rw [hnv] at HNB1
              generalize nbF W H cell d = nf at *
              clear hmb hnv
              go_wp2_with fail
              refine (HTI1.out _ HR9.out.st.rd).mono ?_
              rintro e wa ⟨rfl, hba⟩
              have HRA := Lib.hid (HR9.out.below hba)
              clear hba x0 x1 x2 HR9
              obtain ⟨x0, x1, x2⟩ := HRA.out.st.cells
              go_wp2_with fail
              refine (HNB1.out _).mono ?_
              rintro e wb ⟨rfl, hbb⟩
              have HRB := Lib.hid (HRA.out.below hbb)
              clear hbb x0 x1 x2 HRA
              have hszb := HRB.out.sz
              go_wp2_with (at_builtin; refine app_i64 (base := b0) _ rfl _ _ rfl rfl (own_below HRB.out.ow ((Below.refl _ _).alloc (Nat.le_refl _) _)) rfl (cell_new1 _ _ _) (by omega) (by simp <;> omega) ?_; intro A' c4 wd hod hgrd)
              have HRD := Lib.hid (HRB.out.app hgrd hod)
              clear hod hgrd
              go_wp2_with fail
              go_roundg q
              case measure => omega
              case rel => exact ⟨A', len + 1, c4, _, nf, rfl, rfl, by go_num, by omega, by omega, by omega, HRD.out⟩
end Go.Proofs.Ytpaamhkgokkgpaa

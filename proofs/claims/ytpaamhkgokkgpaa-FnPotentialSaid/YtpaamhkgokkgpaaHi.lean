/- Walks: drawn grids (chapter 32). -/
import Derived.Test.YtpaamhkgokkgpaaWd
import Derived.Test.YtpaamhkgokkgpaaGm
import Derived.Test.YtpaamhkgokkgpaaGa
import Derived.Test.YtpaamhkgokkgpaaHb
import Derived.Deep.RegionWith
import Derived.Deep.LoopGhost
import Derived.Outline
namespace Go.Proofs.Ytpaamhkgokkgpaa
open Go.RowKit
set_option linter.unusedVariables false
set_option maxRecDepth 100000

theorem chg_grown {lo hi : Nat} {a w w' : World} {row : Option Nat} (h : Chg lo hi a w) (hg : w.grownBy w' row) (hr : ∀ k, row = some k → a.heap.size ≤ k) : Chg lo hi a w' :=
  ⟨hg.os.trans h.os, hg.tape.trans h.tape, hg.output.trans h.output, Nat.le_trans h.size hg.size, fun k hk hn => (hg.block k (Nat.lt_of_lt_of_le hk h.size) (fun e => by have := hr k e.symm; omega)).trans (h.block k hk hn)⟩
theorem chg_alloc {lo hi : Nat} {a w : World} (h : Chg lo hi a w) (o : Obj) : Chg lo hi a (w.alloc o) := chg_grown h (World.grownBy_alloc w o none) (fun k e => by cases e)
theorem chg_below {lo hi : Nat} {a w w' : World} (h : Chg lo hi a w) (k : Below w.heap.size w w') : Chg lo hi a w' := h.trans (Chg.of_below k)
theorem chg_put {lo hi : Nat} {w w' : World} (h : Chg lo hi w w') {g i : Nat} (h1 : w.heap.size ≤ g) (v : Value) : Chg lo hi w (w'.setCell ⟨g, i, none⟩ v) :=
  ⟨h.os, h.tape, h.output, by simpa [World.setCell] using h.size, fun k hk hn => (Below.heap_setCell _ _ _ _ (by simp; omega)).trans (h.block k hk hn)⟩
/-- A source, whatever its state. -/
def Sx (w0 w : World) (A : Option Addr) (n cap : Nat) (code : List Int) (g : Nat) : Prop := ∃ s, Src w0 w A n cap code g s
theorem Sx.below {w0 w w' : World} {A : Option Addr} {n cap : Nat} {code : List Int} {g : Nat} (h : Sx w0 w A n cap code g) (k : Below w.heap.size w w') : Sx w0 w' A n cap code g := by
  obtain ⟨s, h⟩ := h; exact ⟨s, h.below k⟩
theorem Sx.lt {w0 w : World} {A : Option Addr} {n cap : Nat} {code : List Int} {g : Nat} (h : Sx w0 w A n cap code g) : g < w.heap.size := by obtain ⟨s, h⟩ := h; exact h.lt
theorem Sx.old {w0 w : World} {A : Option Addr} {n cap : Nat} {code : List Int} {g : Nat} (h : Sx w0 w A n cap code g) : w0.heap.size ≤ g := by obtain ⟨s, h⟩ := h; exact h.old
theorem Sx.bel {w0 w : World} {A : Option Addr} {n cap : Nat} {code : List Int} {g : Nat} (h : Sx w0 w A n cap code g) : Below w0.heap.size w0 w := by obtain ⟨s, h⟩ := h; exact h.bel
/-- Only blocks behind the source have turned. -/
theorem Sx.kept {w0 w w' : World} {A : Option Addr} {n cap : Nat} {code : List Int} {g : Nat} (h : Sx w0 w A n cap code g) (k : Below (g + 1) w w') : Sx w0 w' A n cap code g := by
  obtain ⟨s, h⟩ := h
  exact ⟨s, (k.block g (by omega)).trans h.blk, h.old, h.bel.trans (k.mono (by have := h.old; omega)), h.ok⟩
theorem nextX_any (w0 : World) (A : Option Addr) (n cap : Nat) (code : List Int) (hcode : Code0 w0 A n code) (g : Nat) (k : Int) (h1 : 1 ≤ k) (hk : k ≤ 1099511627776) (w : World) (h : Sx w0 w A n cap code g) :
    Calls Try.prog 87 #[.pointer (some ⟨g, 0, none⟩), .int .i64 k] w fun e w' => ∃ v, e = .returned (.int .i64 v) ∧ 0 ≤ v ∧ v < k ∧ Sx w0 w' A n cap code g ∧ Chg g (g + 1) w w' := by
  obtain ⟨s, h⟩ := h
  refine (next_any w0 A n cap code hcode g s k hk w h).mono ?_
  rintro e w' ⟨rfl, h2, h3⟩
  have := nextF_bd code s k h1
  exact ⟨_, rfl, this.1, this.2, ⟨_, h2⟩, h3⟩
/-- A struct variable of two or three cells. -/
def Var2 (w : World) (b : Nat) (t : TypeId) (x y : Value) : Prop := w.heap[b]? = some (.cells #[x, y] t (0, 0))
def Var3 (w : World) (b : Nat) (t : TypeId) (x y z : Value) : Prop := w.heap[b]? = some (.cells #[x, y, z] t (0, 0))
theorem Var2.facts {w : World} {b : Nat} {t : TypeId} {x y : Value} (h : Var2 w b t x y) : w.cell? ⟨b, 0, none⟩ = some x ∧ w.cell? ⟨b, 1, none⟩ = some y ∧ w.frozen? ⟨b, 0, none⟩ = false ∧ w.frozen? ⟨b, 1, none⟩ = false ∧ b < w.heap.size := by
  unfold Var2 at h
  refine ⟨by simp [World.cell?, h], by simp [World.cell?, h], by simp [World.frozen?, h], by simp [World.frozen?, h], (Array.getElem?_eq_some_iff.1 h).1⟩
theorem Var3.facts {w : World} {b : Nat} {t : TypeId} {x y z : Value} (h : Var3 w b t x y z) : w.cell? ⟨b, 0, none⟩ = some x ∧ w.cell? ⟨b, 1, none⟩ = some y ∧ w.cell? ⟨b, 2, none⟩ = some z ∧ w.frozen? ⟨b, 0, none⟩ = false ∧ w.frozen? ⟨b, 1, none⟩ = false ∧ w.frozen? ⟨b, 2, none⟩ = false ∧ b < w.heap.size := by
  unfold Var3 at h
  refine ⟨by simp [World.cell?, h], by simp [World.cell?, h], by simp [World.cell?, h], by simp [World.frozen?, h], by simp [World.frozen?, h], by simp [World.frozen?, h], (Array.getElem?_eq_some_iff.1 h).1⟩
theorem Var2.chg {lo hi : Nat} {w w' : World} {b : Nat} {t : TypeId} {x y : Value} (h : Var2 w b t x y) (k : Chg lo hi w w') (hb : b < lo ∨ hi ≤ b) : Var2 w' b t x y :=
  (k.block b (Array.getElem?_eq_some_iff.1 h).1 hb).trans h
theorem Var3.chg {lo hi : Nat} {w w' : World} {b : Nat} {t : TypeId} {x y z : Value} (h : Var3 w b t x y z) (k : Chg lo hi w w') (hb : b < lo ∨ hi ≤ b) : Var3 w' b t x y z :=
  (k.block b (Array.getElem?_eq_some_iff.1 h).1 hb).trans h
theorem own_emptyS (w : World) (base e s : Nat) (hb : base ≤ w.heap.size) : (w.alloc (.cells #[] e)).ownsRow base e s (.slice (some ⟨w.heap.size, 0, none⟩) 0 0) 0 [] := by
  have := World.ownsRow_lit (base := base) (e := e) (size := s) w #[] 0 hb (by unfold maxLen; omega) (by simp)
  simpa using this
theorem Sx.drewN {w0 w : World} {A : Option Addr} {n cap : Nat} {code : List Int} {g : Nat} (h : Sx w0 w A n cap code g) (q : Nat) : Sx w0 (w.drewN q) A n cap code g := by
  obtain ⟨s, h⟩ := h; exact ⟨s, h.drewN q⟩
theorem Sx.out {w0 w : World} {A : Option Addr} {n cap : Nat} {code : List Int} {g : Nat} (h : Sx w0 w A n cap code g) : ∃ s, Src w0 w A n cap code g s := h
theorem Var2.set {w : World} {b : Nat} {t : TypeId} {x y : Value} (h : Var2 w b t x y) (x' y' : Value) : Var2 ((w.setCell ⟨b, 0, none⟩ x').setCell ⟨b, 1, none⟩ y') b t x' y' := by
  unfold Var2 at h ⊢
  simp [World.setCell, Array.getElem?_modify, h]
theorem Var3.set {w : World} {b : Nat} {t : TypeId} {x y z : Value} (h : Var3 w b t x y z) (x' y' z' : Value) : Var3 (((w.setCell ⟨b, 0, none⟩ x').setCell ⟨b, 1, none⟩ y').setCell ⟨b, 2, none⟩ z') b t x' y' z' := by
  unfold Var3 at h ⊢
  simp [World.setCell, Array.getElem?_modify, h]

theorem Var2.set1 {w : World} {b : Nat} {t : TypeId} {x y : Value} (h : Var2 w b t x y) (y' : Value) : Var2 (w.setCell ⟨b, 1, none⟩ y') b t x y' := by
  unfold Var2 at h ⊢
  simp [World.setCell, Array.getElem?_modify, h]
theorem Var3.other {w : World} {b c i : Nat} {t : TypeId} {x y z v : Value} (h : Var3 w b t x y z) (hb : b ≠ c) : Var3 (w.setCell ⟨c, i, none⟩ v) b t x y z := by
  unfold Var3 at h ⊢
  rw [← h]; exact Below.heap_setCell _ _ _ _ (by simpa using hb)
theorem Var2.grown {w w' : World} {b : Nat} {t : TypeId} {x y : Value} {row : Option Nat} (h : Var2 w b t x y) (hg : w.grownBy w' row) (hr : ∀ k, row = some k → b < k) : Var2 w' b t x y :=
  (hg.block b (Array.getElem?_eq_some_iff.1 h).1 (fun e => by have := hr b e.symm; omega)).trans h
theorem Var3.grown {w w' : World} {b : Nat} {t : TypeId} {x y z : Value} {row : Option Nat} (h : Var3 w b t x y z) (hg : w.grownBy w' row) (hr : ∀ k, row = some k → b < k) : Var3 w' b t x y z :=
  (hg.block b (Array.getElem?_eq_some_iff.1 h).1 (fun e => by have := hr b e.symm; omega)).trans h
theorem Sx.grown {w0 w w' : World} {A : Option Addr} {n cap : Nat} {code : List Int} {g : Nat} {row : Option Nat} (h : Sx w0 w A n cap code g) (hg : w.grownBy w' row) (hr : ∀ k, row = some k → g < k) : Sx w0 w' A n cap code g := by
  obtain ⟨s, h⟩ := h
  exact ⟨s, (hg.block g h.lt (fun e => by have := hr g e.symm; omega)).trans h.blk, h.old, h.bel.grown hg h.bel.size (fun k e => by have := hr k e; have := h.old; omega), h.ok⟩
/-- How the drawing of a grid stands. -/
structure Gst (w0 w wr : World) (A : Option Addr) (n cap : Nat) (code : List Int) (g bg bw : Nat) (W H : Int) (k c1 : Nat) (A1 : Option Addr) (xs : List (Int × Int)) (X Y M : Int) : Prop where
  own : wr.ownsRow (bw + 1) 65 2 (.slice A1 k c1) k (winds xs)
  v : Var2 wr bw 65 (.int .i64 X) (.int .i64 Y)
  gv : Var3 wr bg 29 (.int .i64 W) (.int .i64 H) (.slice none 0 0)
  rv : Var3 wr w.heap.size 29 (.int .i64 0) (.int .i64 0) (.slice none 0 0)
  src : Sx w0 wr A n cap code g
  chg : Chg g (g + 1) w wr
  bx : -M ≤ X ∧ X ≤ M ∧ -M ≤ Y ∧ Y ≤ M
  sz : bw + 2 ≤ wr.heap.size
  lt : g < w.heap.size ∧ w.heap.size < bg ∧ bg < bw
section
variable {w0 w wr w' : World} {A : Option Addr} {n cap : Nat} {code : List Int} {g bg bw : Nat} {W H : Int} {k c1 : Nat} {A1 : Option Addr} {xs : List (Int × Int)} {X Y M : Int}
theorem Gst.turn (h : Gst w0 w wr A n cap code g bg bw W H k c1 A1 xs X Y M) (hc : Chg g (g + 1) wr w') (hs : Sx w0 w' A n cap code g) : Gst w0 w w' A n cap code g bg bw W H k c1 A1 xs X Y M := by
  have hl := h.lt
  exact ⟨own_chg h.own hc (fun b hv => by have := (h.own.lt b hv).1; omega), h.v.chg hc (.inr (by omega)), h.gv.chg hc (.inr (by omega)), h.rv.chg hc (.inr (by omega)), hs, h.chg.trans hc, h.bx, Nat.le_trans h.sz hc.size, hl⟩
theorem Gst.drewN (h : Gst w0 w wr A n cap code g bg bw W H k c1 A1 xs X Y M) (q : Nat) : Gst w0 w (wr.drewN q) A n cap code g bg bw W H k c1 A1 xs X Y M :=
  h.turn (chg_drewN (Chg.refl _ _ _) q) (h.src.drewN q)
theorem Gst.put (h : Gst w0 w wr A n cap code g bg bw W H k c1 A1 xs X Y M) (X' Y' M' : Int) (hb : -M' ≤ X' ∧ X' ≤ M' ∧ -M' ≤ Y' ∧ Y' ≤ M') : Gst w0 w ((wr.setCell ⟨bw, 0, none⟩ (.int .i64 X')).setCell ⟨bw, 1, none⟩ (.int .i64 Y')) A n cap code g bg bw W H k c1 A1 xs X' Y' M' := by
  have hl := h.lt
  have ho : (Value.slice A1 k c1).ownBlock ≠ some bw := fun e => by have := (h.own.lt bw e).1; omega
  exact ⟨own_other (own_other h.own _ _ ho) _ _ ho, h.v.set _ _, (h.gv.other (by omega)).other (by omega), (h.rv.other (by omega)).other (by omega), h.src.kept (((Below.refl (g + 1) wr).setCell (p := ⟨bw, 0, none⟩) (by show g + 1 ≤ bw; omega) _).setCell (p := ⟨bw, 1, none⟩) (by show g + 1 ≤ bw; omega) _),
    chg_put (chg_put h.chg (by omega) _) (by omega) _, hb, by rw [size_set, size_set]; exact h.sz, hl⟩
theorem Gst.put1 (h : Gst w0 w wr A n cap code g bg bw W H k c1 A1 xs X Y M) (Y' M' : Int) (hb : -M' ≤ X ∧ X ≤ M' ∧ -M' ≤ Y' ∧ Y' ≤ M') : Gst w0 w (wr.setCell ⟨bw, 1, none⟩ (.int .i64 Y')) A n cap code g bg bw W H k c1 A1 xs X Y' M' := by
  have hl := h.lt
  have ho : (Value.slice A1 k c1).ownBlock ≠ some bw := fun e => by have := (h.own.lt bw e).1; omega
  exact ⟨own_other h.own _ _ ho, h.v.set1 _, h.gv.other (by omega), h.rv.other (by omega), h.src.kept ((Below.refl (g + 1) wr).setCell (p := ⟨bw, 1, none⟩) (by show g + 1 ≤ bw; omega) _),
    chg_put h.chg (by omega) _, hb, by rw [size_set]; exact h.sz, hl⟩
theorem Gst.wide (h : Gst w0 w wr A n cap code g bg bw W H k c1 A1 xs X Y M) (M' : Int) (hM : M ≤ M') : Gst w0 w wr A n cap code g bg bw W H k c1 A1 xs X Y M' :=
  ⟨h.own, h.v, h.gv, h.rv, h.src, h.chg, by have := h.bx; omega, h.sz, h.lt⟩
theorem Gst.grown (h : Gst w0 w wr A n cap code g bg bw W H k c1 A1 xs X Y M) {o : Obj} (hg : (wr.alloc o).grownBy w' (Value.slice A1 k c1).ownBlock) {k' c' : Nat} {A' : Option Addr} {xs' : List (Int × Int)} (ho : w'.ownsRow (bw + 1) 65 2 (.slice A' k' c') k' (winds xs')) :
    Gst w0 w w' A n cap code g bg bw W H k' c' A' xs' X Y M := by
  have hl := h.lt
  have hb := (Below.refl wr.heap.size wr).alloc (Nat.le_refl _) o
  have hr : ∀ b, (Value.slice A1 k c1).ownBlock = some b → bw + 1 ≤ b := fun b e => (h.own.lt b e).1
  have h2 := h.turn (Chg.of_below hb) (h.src.below hb)
  exact ⟨ho, h2.v.grown hg (fun b e => by have := hr b e; omega), h2.gv.grown hg (fun b e => by have := hr b e; omega), h2.rv.grown hg (fun b e => by have := hr b e; omega), h2.src.grown hg (fun b e => by have := hr b e; omega),
    chg_grown h2.chg hg (fun b e => by have := hr b e; omega), h.bx, Nat.le_trans h2.sz hg.size, hl⟩
end
/-- An element of two cells is appended to an own row. -/
theorem app_wind {ops : Array Oper} {rest : List Oper} {o : Oper} {a : Act} {Q : Exit → Act → World → Prop} (w : World) (hgd : o.guard = none) (s x : Operand)
    (ho : o.op = .call { callee := .builtin .append, args := #[s, x], argTypes := #[27, 27] }) {base n c : Nat} {A : Option Addr} {xs : List (Int × Int)}
    (hs : a.eval s = .slice A n c) (hown : w.ownsRow base 65 2 (.slice A n c) n (winds xs)) {ad : Addr} {x0 y0 : Int} (hx : a.eval x = .slice (some ad) 1 1)
    (hc0 : w.cell? ad = some (.int .i64 x0)) (hc1 : w.cell? (ad.add 1) = some (.int .i64 y0)) (hn : n ≤ 1099511627776) (hbase : base ≤ w.heap.size)
    (h : ∀ A' c' w', w'.ownsRow base 65 2 (.slice A' (n + 1) c') (n + 1) (winds (xs ++ [(x0, y0)])) → w.grownBy w' (Value.slice A n c).ownBlock → wpList Try.prog ops Q rest (a.put o.dst (.slice A' (n + 1) c')) w') :
    wpList Try.prog ops Q (o :: rest) a w := by
  obtain ⟨i, hi, hz, hs1, hb1⟩ := info_parts Try.info_wind
  refine wpList_append_own w hgd s x 27 ho base 65 i (.agg #[.int .i64 0, .int .i64 0]) 2 16 Try.underlying27 hi hz hs1 hb1 rfl (by decide) (.slice A n c) n (winds xs) hs hown ad 1 1 [.int .i64 x0, .int .i64 y0] hx rfl ?_ ?_ (by unfold maxLen; omega) (by omega) hbase ?_
  · intro j u hu
    rcases j with _ | _ | j
    · have hadd : ad.add 0 = ad := by simp [Addr.add]
      rw [hadd, hc0]; simpa using hu
    · rw [hc1]; simpa using hu
    · simp at hu
  · intro u hu
    simp at hu
    rcases hu with rfl | rfl <;> rfl
  · intro v' w' h1 h2 _
    rcases h1.2 with ⟨rfl, h0⟩ | ⟨g, cap, cur, rfl, _⟩
    · omega
    · refine h _ _ w' ?_ h2
      have e : winds (xs ++ [(x0, y0)]) = winds xs ++ [.int .i64 x0, .int .i64 y0] := by unfold winds; rw [List.flatMap_append]; rfl
      rw [e]
      exact h1
/-- A drawn grid that is valid in its sizes. -/
def RetDrawn (w0 w : World) (A : Option Addr) (n cap : Nat) (code : List Int) (g : Nat) (e : Ending) (w' : World) : Prop :=
  ∃ (W H : Int) (A1 : Option Addr) (m c1 : Nat) (xs : List (Int × Int)), e = .returned (.agg #[.int .i64 W, .int .i64 H, .slice A1 m c1]) ∧ 1 ≤ W ∧ W ≤ 5 ∧ 1 ≤ H ∧ H ≤ 5 ∧ W * H = m ∧ w'.ownsRow w.heap.size 65 2 (.slice A1 m c1) m (winds xs) ∧ Sx w0 w' A n cap code g ∧ Chg g (g + 1) w w'
set_option maxHeartbeats 4000000 in
theorem drawGrid_any (w0 : World) (A : Option Addr) (n cap : Nat) (code : List Int) (hcode : Code0 w0 A n code) (g : Nat) (w : World) (h : Sx w0 w A n cap code g) :
    Calls Try.prog 88 #[.pointer (some ⟨g, 0, none⟩)] w (RetDrawn w0 w A n cap code g) := by
  have HN := Lib.hid (fun k h1 hk w' h => nextX_any w0 A n cap code hcode g k h1 hk w' h)
  go_enter Try.func88, Try.ntmps88
  go_wp2_with fail
  have hs0 := h.below ((Below.refl _ _).alloc (Nat.le_refl _) (.cells #[.int .i64 0, .int .i64 0, .slice none 0 0] 29))
  refine (HN.out 5 (by omega) (by omega) _ hs0).mono ?_
  rintro e w1 ⟨a, rfl, a0, a1, hs1, hc1⟩
  go_wp2_with fail
  refine (HN.out 5 (by omega) (by omega) _ hs1).mono ?_
  rintro e w2 ⟨b, rfl, b0, b1, hs2, hc2⟩
  have hgl := h.lt
  obtain ⟨bg, hbg⟩ : ∃ b, b = w2.heap.size := ⟨_, rfl⟩
  have hv3 : Var3 (w2.alloc (.cells #[.int .i64 (1 + a), .int .i64 (1 + b), .slice none 0 0] 29)) bg 29 (.int .i64 (1 + a)) (.int .i64 (1 + b)) (.slice none 0 0) := by rw [hbg]; exact heap_alloc_new _ _
  have hs3 := hs2.below ((Below.refl _ _).alloc (Nat.le_refl _) (.cells #[.int .i64 (1 + a), .int .i64 (1 + b), .slice none 0 0] 29))
  have hc3 := chg_alloc ((chg_alloc (Chg.refl g (g + 1) w) (.cells #[.int .i64 0, .int .i64 0, .slice none 0 0] 29)).trans (hc1.trans hc2)) (.cells #[.int .i64 (1 + a), .int .i64 (1 + b), .slice none 0 0] 29)
  have hsz2 : w.heap.size < w2.heap.size := by have h1 := hc1.size; have h2 := hc2.size; simp only [World.size_alloc] at h1; omega
  have hv0 : Var3 (w.alloc (.cells #[.int .i64 0, .int .i64 0, .slice none 0 0] 29)) w.heap.size 29 (.int .i64 0) (.int .i64 0) (.slice none 0 0) := heap_alloc_new _ _
  have hr3 := ((hv0.chg hc1 (.inr (by omega))).chg hc2 (.inr (by omega))).chg (Chg.of_below ((Below.refl _ _).alloc (Nat.le_refl _) (.cells #[.int .i64 (1 + a), .int .i64 (1 + b), .slice none 0 0] 29))) (lo := g) (hi := g + 1) (.inr (by omega))
  have hrb : w.heap.size < bg := by omega
  go_wp2_with fail
  obtain ⟨w3, hw3⟩ : ∃ x, x = w2.alloc (.cells #[.int .i64 (1 + a), .int .i64 (1 + b), .slice none 0 0] 29) := ⟨_, rfl⟩
  have hsz3 : w3.heap.size = bg + 1 := by rw [hw3, hbg]; simp
  rw [← hw3] at hv3 hs3 hc3 hr3
  rw [← hw3, ← hbg]
  have hbg1 : bg < w3.heap.size := by omega
  clear hw3 hbg hs2 hc1 hc2 hv0 hs1 hs0 hsz2
  refine (HN.out 13 (by omega) (by omega) _ hs3).mono ?_
  rintro e w4 ⟨x, rfl, x0, x1, hs4, hc4⟩
  go_wp2_with fail
  refine (HN.out 13 (by omega) (by omega) _ hs4).mono ?_
  rintro e w5 ⟨y, rfl, y0, y1, hs5, hc5⟩
  have hc35 := hc4.trans hc5
  have hv5 := hv3.chg hc35 (.inr (by omega))
  have hr5 := hr3.chg hc35 (.inr (by omega))
  have hc05 := hc3.trans hc35
  have hsz5 := hc35.size
  clear hv3 hr3 hc3 hc4 hc5 hs3 hs4 hc35
  go_wp2_with fail
  obtain ⟨bw, hbw⟩ : ∃ b, b = w5.heap.size := ⟨_, rfl⟩
  have hv6 : Var2 (w5.alloc (.cells #[.int .i64 (x - 6), .int .i64 (y - 6)] 65)) bw 65 (.int .i64 (x - 6)) (.int .i64 (y - 6)) := by rw [hbw]; exact heap_alloc_new _ _
  have hb6 : Below w5.heap.size w5 (w5.alloc (.cells #[.int .i64 (x - 6), .int .i64 (y - 6)] 65)) := (Below.refl _ _).alloc (Nat.le_refl _) _
  have hz6 : (w5.alloc (.cells #[.int .i64 (x - 6), .int .i64 (y - 6)] 65)).heap.size = bw + 1 := by rw [hbw]; simp
  obtain ⟨w6, hw6⟩ : ∃ x', x' = w5.alloc (.cells #[.int .i64 (x - 6), .int .i64 (y - 6)] 65) := ⟨_, rfl⟩
  rw [← hw6] at hv6 hb6 hz6
  rw [← hw6, ← hbw]
  have hoe := own_emptyS w6 (bw + 1) 65 2 (by omega)
  have hb7 : Below w6.heap.size w6 (w6.alloc (.cells #[] 65)) := (Below.refl _ _).alloc (Nat.le_refl _) _
  rw [hz6] at hoe
  have hz7 : (w6.alloc (.cells #[] 65)).heap.size = bw + 2 := by simp [hz6]
  obtain ⟨w7, hw7⟩ : ∃ x', x' = w6.alloc (.cells #[] 65) := ⟨_, rfl⟩
  rw [← hw7] at hoe hb7 hz7
  rw [← hw7]
  have hgw : g < w.heap.size := h.lt
  have hv7 := hv6.chg (Chg.of_below hb7) (lo := g) (hi := g + 1) (.inr (by omega))
  have hg7 := (hv5.chg (Chg.of_below hb6) (lo := g) (hi := g + 1) (.inr (by omega))).chg (Chg.of_below hb7) (lo := g) (hi := g + 1) (.inr (by omega))
  have hr7 := (hr5.chg (Chg.of_below hb6) (lo := g) (hi := g + 1) (.inr (by omega))).chg (Chg.of_below hb7) (lo := g) (hi := g + 1) (.inr (by omega))
  have hs7 := (hs5.below hb6).below hb7
  have hc7 := (hc05.trans (Chg.of_below hb6)).trans (Chg.of_below hb7)
  have hbgw : bg < bw := by omega
  have hsw : w.heap.size < bw := by omega
  clear hv6 hb6 hw6 hb7 hw7 hv5 hr5 hs5 hc05 hbw hz6 w6 hsz5 hsz3 hbg1
  obtain ⟨W, hW⟩ : ∃ W, W = 1 + a := ⟨_, rfl⟩
  obtain ⟨H, hH⟩ : ∃ H, H = 1 + b := ⟨_, rfl⟩
  rw [← hW, ← hH] at hg7
  have hW1 : 1 ≤ W := by omega
  have hW5 : W ≤ 5 := by omega
  have hH1 : 1 ≤ H := by omega
  have hH5 : H ≤ 5 := by omega
  clear hW hH a0 a1 b0 b1
  obtain ⟨hN0, hN1⟩ := mul_bd (show 0 ≤ W by omega) hW5 (show 0 ≤ H by omega) hH5
  obtain ⟨N, hN⟩ := int_up (W * H) hN0
  have hN25 : N ≤ 25 := by omega
  have hgs : Gst w0 w w7 A n cap code g bg bw W H 0 0 (some ⟨bw + 1, 0, none⟩) [] (x - 6) (y - 6) 6 := ⟨hoe, hv7, hg7, hr7, hs7, hc7, by omega, by omega, hgw, hrb, hbgw⟩
  have HA := Lib.hid hgs
  clear hgs
  clear hoe hv7 hg7 hr7 hs7 hc7
  go_loopg [5, 6] N (fun q s5 s6 wr => ∃ (k c1 : Nat) (A1 : Option Addr) (xs : List (Int × Int)) (X Y : Int), s6 = .int .i64 k ∧ s5 = .slice A1 k c1 ∧ k + q = N ∧ Gst w0 w wr A n cap code g bg bw W H k c1 A1 xs X Y (6 + 2 * k))
  case atStart => exact ⟨0, 0, _, [], x - 6, y - 6, rfl, rfl, by omega, HA.out⟩
  case round =>
    clear HA
    obtain ⟨k, c1, A1, xs, X, Y, rfl, rfl, hk, hst⟩ := hrel
    obtain ⟨wo, rfl⟩ : ∃ wo : World, wo = wr := ⟨_, rfl⟩
    obtain ⟨p0, p1, p2, q0, q1, q2, _⟩ := hst.gv.facts
    have HST := Lib.hid hst
    by_cases hlt : k < N
    · obtain ⟨fx, fy, zx, zy, hbwl⟩ := hst.v.facts
      have hs := hst.src
      clear hst
      go_wp2_with fail
      refine (HN.out 3 (by omega) (by omega) _ hs).mono ?_
      rintro e wa ⟨v, rfl, v0, v1, hsa, hca⟩
      have HSTa := Lib.hid (HST.out.turn hca hsa)
      clear fx fy zx zy hs hsa hca p0 p1 p2 q0 q1 q2 HST
      have hbx := HSTa.out.bx
      by_cases hv0 : v = 0
      · subst hv0
        obtain ⟨fx, fy, zx, zy, _⟩ := HSTa.out.v.facts
        have HW2 := Lib.hid (show ∀ a b : Int, (-100 ≤ a ∧ a ≤ 100 ∧ 0 ≤ b ∧ b < 5) → IntKind.i64.wrap (IntKind.i64.wrap (a + b) - 2) = a + b - 2 from fun a b h => by rw [IntWalk.i64_in (a + b) (by omega), IntWalk.i64_in _ (by omega)])
        have HCD := Lib.hid (chg_drewN (Chg.refl g (g + 1) wa) 1)
        have HSD := Lib.hid (HSTa.out.src.drewN 1)
        have HVQ := Lib.hid (show ∀ w', Chg g (g + 1) wa w' → w'.cell? ⟨bw, 0, none⟩ = some (.int .i64 X) ∧ w'.cell? ⟨bw, 1, none⟩ = some (.int .i64 Y) ∧ w'.frozen? ⟨bw, 0, none⟩ = false ∧ w'.frozen? ⟨bw, 1, none⟩ = false from fun w' hc => by
          have hl := HSTa.out.lt
          obtain ⟨e1, e2, e3, e4, _⟩ := (HSTa.out.v.chg hc (.inr (by omega))).facts
          exact ⟨e1, e2, e3, e4⟩)
        go_wp2_with fail
        go_cut [] (fun wc => ∃ X' Y' : Int, Gst w0 w wc A n cap code g bg bw W H k c1 A1 xs X' Y' (6 + 2 * ((k : Int) + 1)))
        case first =>
          go_region_with (go_at_call 87; (refine (HN.out 5 (by omega) (by omega) _ ?_).mono ?_); (first | exact hsq | exact HSD.out); (rintro e wq ⟨vq, rfl, vq0, vq1, hsq, hcq⟩); (first | (have hcc2 := hcc1.trans hcq; obtain ⟨gx, gy, sx, sy⟩ := HVQ.out _ hcc2) | (have hcc1 := HCD.out.trans hcq; obtain ⟨gx, gy, sx, sy⟩ := HVQ.out _ hcc1)))
          all_goals
            go_wp2_with fail
            go_meet
            refine ⟨_, _, (HSTa.out.turn hcc2 hsq).put _ _ _ ?_⟩
            rw [HW2.out X, HW2.out Y] <;> omega
        case rest =>
          obtain ⟨X', Y', hst'⟩ := hcut
          have HSTc := Lib.hid hst'
          clear hst' fx fy zx zy HSTa HCD HSD HVQ
          have hbx' := HSTc.out.bx
          have hsz2 := HSTc.out.sz
          by_cases hx0 : X' = 0
          · rw [hx0] at HSTc
            by_cases hy0 : Y' = 0
            · rw [hy0] at HSTc
              obtain ⟨fx, fy, zx, zy, _⟩ := HSTc.out.v.facts
              go_wp2_with (at_builtin; refine app_wind (base := bw + 1) _ rfl _ _ rfl rfl (own_below (HSTc.out.put1 (-6) (6 + 2 * ((k : Int) + 1)) (by omega)).own ((Below.refl _ _).alloc (Nat.le_refl _) _)) rfl (cell_top _ _ _ (by simp) rfl) (cell_top _ _ _ (by simp) rfl) (by omega) (by simp <;> omega) ?_; intro A' c4 w9 ho9 hgr9)
              have h9 := (HSTc.out.put1 (-6) (6 + 2 * ((k : Int) + 1)) (by omega)).grown hgr9 ho9
              have H9 := Lib.hid h9
              clear ho9 hgr9 h9
              go_wp2_with fail
              go_roundg (gk - 1)
              case measure => omega
              case rel => exact ⟨k + 1, c4, A', _, _, _, by go_num, rfl, by omega, H9.out.wide _ (by omega)⟩
            · obtain ⟨fx, fy, zx, zy, _⟩ := HSTc.out.v.facts
              go_wp2_with (at_builtin; refine app_wind (base := bw + 1) _ rfl _ _ rfl rfl (own_below (HSTc.out).own ((Below.refl _ _).alloc (Nat.le_refl _) _)) rfl (cell_top _ _ _ (by simp) rfl) (cell_top _ _ _ (by simp) rfl) (by omega) (by simp <;> omega) ?_; intro A' c4 w9 ho9 hgr9)
              have h9 := (HSTc.out).grown hgr9 ho9
              have H9 := Lib.hid h9
              clear ho9 hgr9 h9
              go_wp2_with fail
              go_roundg (gk - 1)
              case measure => omega
              case rel => exact ⟨k + 1, c4, A', _, _, _, by go_num, rfl, by omega, H9.out.wide _ (by omega)⟩
          · obtain ⟨fx, fy, zx, zy, _⟩ := HSTc.out.v.facts
            go_wp2_with (at_builtin; refine app_wind (base := bw + 1) _ rfl _ _ rfl rfl (own_below (HSTc.out).own ((Below.refl _ _).alloc (Nat.le_refl _) _)) rfl (cell_top _ _ _ (by simp) rfl) (cell_top _ _ _ (by simp) rfl) (by omega) (by simp <;> omega) ?_; intro A' c4 w9 ho9 hgr9)
            have h9 := (HSTc.out).grown hgr9 ho9
            have H9 := Lib.hid h9
            clear ho9 hgr9 h9
            go_wp2_with fail
            go_roundg (gk - 1)
            case measure => omega
            case rel => exact ⟨k + 1, c4, A', _, _, _, by go_num, rfl, by omega, H9.out.wide _ (by omega)⟩
      · have hvb : (v == 0) = false := by simpa using hv0
        have hsz2 := HSTa.out.sz
        by_cases hx0 : X = 0
        · rw [hx0] at HSTa
          by_cases hy0 : Y = 0
          · rw [hy0] at HSTa
            obtain ⟨fx, fy, zx, zy, _⟩ := HSTa.out.v.facts
            go_wp2_with (at_builtin; refine app_wind (base := bw + 1) _ rfl _ _ rfl rfl (own_below (HSTa.out.put1 (-6) (6 + 2 * (k : Int)) (by omega)).own ((Below.refl _ _).alloc (Nat.le_refl _) _)) rfl (cell_top _ _ _ (by simp) rfl) (cell_top _ _ _ (by simp) rfl) (by omega) (by simp <;> omega) ?_; intro A' c4 w9 ho9 hgr9)
            have h9 := (HSTa.out.put1 (-6) (6 + 2 * (k : Int)) (by omega)).grown hgr9 ho9
            have H9 := Lib.hid h9
            clear ho9 hgr9 h9
            go_wp2_with fail
            go_roundg (gk - 1)
            case measure => omega
            case rel => exact ⟨k + 1, c4, A', _, _, _, by go_num, rfl, by omega, H9.out.wide _ (by omega)⟩
          · obtain ⟨fx, fy, zx, zy, _⟩ := HSTa.out.v.facts
            go_wp2_with (at_builtin; refine app_wind (base := bw + 1) _ rfl _ _ rfl rfl (own_below (HSTa.out).own ((Below.refl _ _).alloc (Nat.le_refl _) _)) rfl (cell_top _ _ _ (by simp) rfl) (cell_top _ _ _ (by simp) rfl) (by omega) (by simp <;> omega) ?_; intro A' c4 w9 ho9 hgr9)
            have h9 := (HSTa.out).grown hgr9 ho9
            have H9 := Lib.hid h9
            clear ho9 hgr9 h9
            go_wp2_with fail
            go_roundg (gk - 1)
            case measure => omega
            case rel => exact ⟨k + 1, c4, A', _, _, _, by go_num, rfl, by omega, H9.out.wide _ (by omega)⟩
        · obtain ⟨fx, fy, zx, zy, _⟩ := HSTa.out.v.facts
          go_wp2_with (at_builtin; refine app_wind (base := bw + 1) _ rfl _ _ rfl rfl (own_below (HSTa.out).own ((Below.refl _ _).alloc (Nat.le_refl _) _)) rfl (cell_top _ _ _ (by simp) rfl) (cell_top _ _ _ (by simp) rfl) (by omega) (by simp <;> omega) ?_; intro A' c4 w9 ho9 hgr9)
          have h9 := (HSTa.out).grown hgr9 ho9
          have H9 := Lib.hid h9
          clear ho9 hgr9 h9
          go_wp2_with fail
          go_roundg (gk - 1)
          case measure => omega
          case rel => exact ⟨k + 1, c4, A', _, _, _, by go_num, rfl, by omega, H9.out.wide _ (by omega)⟩
    · obtain ⟨r0, r1, r2, y0', y1', y2', _⟩ := hst.rv.facts
      clear hst
      have hne1 : w.heap.size ≠ bg := by omega
      have hne2 : bg ≠ w.heap.size := by omega
      go_wp2_with fail
      have hl := HST.out.lt
      have hkN : k = N := by omega
      have ho1 : (Value.slice A1 k c1).ownBlock ≠ some bg := fun e => by have := (HST.out.own.lt bg e).1; omega
      have ho2 : (Value.slice A1 k c1).ownBlock ≠ some w.heap.size := fun e => by have := (HST.out.own.lt w.heap.size e).1; omega
      have e1 := own_other (own_other (own_other (own_other HST.out.own 2 (.slice A1 k c1) ho1) 0 (.int .i64 W) ho2) 1 (.int .i64 H) ho2) 2 (.slice A1 k c1) ho2
      have e2 := HST.out.src.kept (((((Below.refl (g + 1) wo).setCell (p := ⟨bg, 2, none⟩) (by show g + 1 ≤ bg; omega) (.slice A1 k c1)).setCell (p := ⟨w.heap.size, 0, none⟩) (by show g + 1 ≤ w.heap.size; omega) (.int .i64 W)).setCell (p := ⟨w.heap.size, 1, none⟩) (by show g + 1 ≤ w.heap.size; omega) (.int .i64 H)).setCell (p := ⟨w.heap.size, 2, none⟩) (by show g + 1 ≤ w.heap.size; omega) (.slice A1 k c1))
      have e3 := chg_put (chg_put (chg_put (chg_put HST.out.chg (g := bg) (i := 2) (by omega) (.slice A1 k c1)) (Nat.le_refl w.heap.size) (i := 0) (.int .i64 W)) (Nat.le_refl w.heap.size) (i := 1) (.int .i64 H)) (Nat.le_refl w.heap.size) (i := 2) (.slice A1 k c1)
      have e4 := (HST.out.rv.other (c := bg) (i := 2) (v := .slice A1 k c1) (by omega)).set (.int .i64 W) (.int .i64 H) (.slice A1 k c1)
      obtain ⟨wf, hwf⟩ : ∃ x, x = (((wo.setCell ⟨bg, 2, none⟩ (.slice A1 k c1)).setCell ⟨w.heap.size, 0, none⟩ (.int .i64 W)).setCell ⟨w.heap.size, 1, none⟩ (.int .i64 H)).setCell ⟨w.heap.size, 2, none⟩ (.slice A1 k c1) := ⟨_, rfl⟩
      rw [← hwf] at e1 e2 e3 e4
      rw [← hwf]
      clear hwf r0 r1 r2 y0' y1' y2' p0 p1 p2 q0 q1 q2
      obtain ⟨f0, f1, f2, _, _, _, _⟩ := e4.facts
      refine bodyPost_ret (v := .agg #[.int .i64 W, .int .i64 H, .slice A1 k c1]) (by simp [results, Try.results88, go_sem, f0, f1, f2]) rfl ?_
      exact ⟨W, H, A1, k, c1, xs, rfl, hW1, hW5, hH1, hH5, by rw [hkN]; exact hN, own_base e1 (by omega), e2, e3⟩
end Go.Proofs.Ytpaamhkgokkgpaa

/- General and plain lemmas, and light walks (merged): Mq Web Ds Wek Wib Fu Yp Mw Co. -/
import Derived.Test.YtalgdeieejpelaaGreatZmg
import Derived.Test.YtalgdeieejpelaaGreatZmb
import Derived.Test.YtalgdeieejpelaaGreatWd
import Derived.Test.YtalgdeieejpelaaGreatZma
import Derived.Below
import Derived.IntWalk
/- Plain functions: drawn entries and registers: no Go in sight. -/
namespace Go.Proofs.YtalgdeieejpelaaGreat
open Go.RowKit
set_option linter.unusedVariables false

/-- One entry is drawn. -/
def entX (code : List Int) (b : Int) (s : St) : EntryT × St :=
  if (nextF code (nextF code (nextF code (nextF code (nextF code s 4).2 (max 1 b)).2 3).2 12).2 5).1 = 0 then (((nextF code s 4).1, (nextF code (nextF code s 4).2 (max 1 b)).1, 1 + (nextF code (nextF code (nextF code s 4).2 (max 1 b)).2 3).1, 1 + (nextF code (nextF code (nextF code (nextF code (nextF code (nextF code s 4).2 (max 1 b)).2 3).2 12).2 5).2 8).1, 0, 0, 0), (nextF code (nextF code (nextF code (nextF code (nextF code (nextF code s 4).2 (max 1 b)).2 3).2 12).2 5).2 8).2) else if (nextF code (nextF code (nextF code (nextF code (nextF code s 4).2 (max 1 b)).2 3).2 12).2 5).1 = 1 then (if (nextF code (nextF code (nextF code (nextF code (nextF code (nextF code s 4).2 (max 1 b)).2 3).2 12).2 5).2 4).1 = 3 then (((nextF code s 4).1, (nextF code (nextF code s 4).2 (max 1 b)).1, 1 + (nextF code (nextF code (nextF code s 4).2 (max 1 b)).2 3).1, 9, 0, (nextF code (nextF code (nextF code (nextF code (nextF code (nextF code s 4).2 (max 1 b)).2 3).2 12).2 5).2 4).1, 5 * (nextF code (nextF code (nextF code (nextF code (nextF code (nextF code (nextF code s 4).2 (max 1 b)).2 3).2 12).2 5).2 4).2 20).1), (nextF code (nextF code (nextF code (nextF code (nextF code (nextF code (nextF code s 4).2 (max 1 b)).2 3).2 12).2 5).2 4).2 20).2) else (((nextF code s 4).1, (nextF code (nextF code s 4).2 (max 1 b)).1, 1 + (nextF code (nextF code (nextF code s 4).2 (max 1 b)).2 3).1, 9, 0, (nextF code (nextF code (nextF code (nextF code (nextF code (nextF code s 4).2 (max 1 b)).2 3).2 12).2 5).2 4).1, 0), (nextF code (nextF code (nextF code (nextF code (nextF code (nextF code s 4).2 (max 1 b)).2 3).2 12).2 5).2 4).2)) else (((nextF code s 4).1, (nextF code (nextF code s 4).2 (max 1 b)).1, 1 + (nextF code (nextF code (nextF code s 4).2 (max 1 b)).2 3).1, 0, 1 + (nextF code (nextF code (nextF code (nextF code s 4).2 (max 1 b)).2 3).2 12).1, 0, 0), (nextF code (nextF code (nextF code (nextF code (nextF code s 4).2 (max 1 b)).2 3).2 12).2 5).2)
theorem entX_bd (code : List Int) (b : Int) (s : St) : StOk code s → StOk code (entX code b s).2 := by
  intro h
  unfold entX
  split
  · exact nextF_ok _ _ _ (nextF_ok _ _ _ (nextF_ok _ _ _ (nextF_ok _ _ _ (nextF_ok _ _ _ (nextF_ok _ _ _ h)))))
  · split
    · split
      · exact nextF_ok _ _ _ (nextF_ok _ _ _ (nextF_ok _ _ _ (nextF_ok _ _ _ (nextF_ok _ _ _ (nextF_ok _ _ _ (nextF_ok _ _ _ h))))))
      · exact nextF_ok _ _ _ (nextF_ok _ _ _ (nextF_ok _ _ _ (nextF_ok _ _ _ (nextF_ok _ _ _ (nextF_ok _ _ _ h)))))
    · exact nextF_ok _ _ _ (nextF_ok _ _ _ (nextF_ok _ _ _ (nextF_ok _ _ _ (nextF_ok _ _ _ h))))
/-- Entries are drawn; one whose key is there already is rarely kept. -/
def entsD (code : List Int) (b : Int) : Nat → List EntryT → St → List EntryT × St
  | 0, out, s => (out, s)
  | m + 1, out, s =>
    if hasB out (entX code b s).1 = true then
      entsD code b m (if (nextF code (entX code b s).2 60).1 = 0 then out ++ [(entX code b s).1] else out) (nextF code (entX code b s).2 60).2
    else entsD code b m (out ++ [(entX code b s).1]) (entX code b s).2
theorem entsD_len (code : List Int) (b : Int) : ∀ (m : Nat) (out : List EntryT) (s : St), (entsD code b m out s).1.length ≤ out.length + m := by
  intro m
  induction m with
  | zero => intro out s; exact Nat.le_refl _
  | succ m ih =>
    intro out s
    unfold entsD
    split
    · split
      · have := ih (out ++ [(entX code b s).1]) (nextF code (entX code b s).2 60).2; simp at this ⊢; omega
      · have := ih out (nextF code (entX code b s).2 60).2; omega
    · have := ih (out ++ [(entX code b s).1]) (entX code b s).2; simp at this ⊢; omega
/-- A register: boats, scheme, entries. -/
abbrev RegT := Int × Int × List EntryT
def spoilE (t v b : Int) (x : EntryT) : EntryT :=
  if t = 0 then (E.race x, b, E.rev x, E.code x, E.time x, E.kind x, E.points x)
  else if t = 1 then (E.race x, E.boat x, E.rev x, E.code x, -1, E.kind x, E.points x)
  else if t = 2 then (E.race x, E.boat x, E.rev x, E.code x, E.time x, 4, E.points x)
  else (E.race x, E.boat x, 1001 * v, E.code x, E.time x, E.kind x, E.points x)
/-- One entry of a register is rarely spoiled. -/
def spoilR (code : List Int) (b : Int) (r : List EntryT × St) : List EntryT × St :=
  if r.1.length = 0 then r
  else if (nextF code r.2 16).1 = 0 then (r.1.set (nextF code (nextF code r.2 16).2 (r.1.length : Int)).1.toNat (spoilE (nextF code (nextF code (nextF code r.2 16).2 (r.1.length : Int)).2 4).1 (nextF code (nextF code (nextF code (nextF code r.2 16).2 (r.1.length : Int)).2 4).2 2).1 b (r.1.getD (nextF code (nextF code r.2 16).2 (r.1.length : Int)).1.toNat (0, 0, 0, 0, 0, 0, 0))), if (nextF code (nextF code (nextF code r.2 16).2 (r.1.length : Int)).2 4).1 = 3 then (nextF code (nextF code (nextF code (nextF code r.2 16).2 (r.1.length : Int)).2 4).2 2).2 else (nextF code (nextF code (nextF code r.2 16).2 (r.1.length : Int)).2 4).2) else (r.1, (nextF code r.2 16).2)
def regD (code : List Int) (s : St) : RegT × St :=
  (((boatsD code s).1, (nextF code (boatsD code s).2 2).1, (spoilR code (boatsD code s).1 (entsD code (boatsD code s).1 (nextF code (nextF code (boatsD code s).2 2).2 20).1.toNat [] (nextF code (nextF code (boatsD code s).2 2).2 20).2)).1), (spoilR code (boatsD code s).1 (entsD code (boatsD code s).1 (nextF code (nextF code (boatsD code s).2 2).2 20).1.toNat [] (nextF code (nextF code (boatsD code s).2 2).2 20).2)).2)
theorem entX_eq (code : List Int) (b : Int) (s : St) : entX code b s = if (nextF code (nextF code (nextF code (nextF code (nextF code s 4).2 (max 1 b)).2 3).2 12).2 5).1 = 0 then (((nextF code s 4).1, (nextF code (nextF code s 4).2 (max 1 b)).1, 1 + (nextF code (nextF code (nextF code s 4).2 (max 1 b)).2 3).1, 1 + (nextF code (nextF code (nextF code (nextF code (nextF code (nextF code s 4).2 (max 1 b)).2 3).2 12).2 5).2 8).1, 0, 0, 0), (nextF code (nextF code (nextF code (nextF code (nextF code (nextF code s 4).2 (max 1 b)).2 3).2 12).2 5).2 8).2) else if (nextF code (nextF code (nextF code (nextF code (nextF code s 4).2 (max 1 b)).2 3).2 12).2 5).1 = 1 then (if (nextF code (nextF code (nextF code (nextF code (nextF code (nextF code s 4).2 (max 1 b)).2 3).2 12).2 5).2 4).1 = 3 then (((nextF code s 4).1, (nextF code (nextF code s 4).2 (max 1 b)).1, 1 + (nextF code (nextF code (nextF code s 4).2 (max 1 b)).2 3).1, 9, 0, (nextF code (nextF code (nextF code (nextF code (nextF code (nextF code s 4).2 (max 1 b)).2 3).2 12).2 5).2 4).1, 5 * (nextF code (nextF code (nextF code (nextF code (nextF code (nextF code (nextF code s 4).2 (max 1 b)).2 3).2 12).2 5).2 4).2 20).1), (nextF code (nextF code (nextF code (nextF code (nextF code (nextF code (nextF code s 4).2 (max 1 b)).2 3).2 12).2 5).2 4).2 20).2) else (((nextF code s 4).1, (nextF code (nextF code s 4).2 (max 1 b)).1, 1 + (nextF code (nextF code (nextF code s 4).2 (max 1 b)).2 3).1, 9, 0, (nextF code (nextF code (nextF code (nextF code (nextF code (nextF code s 4).2 (max 1 b)).2 3).2 12).2 5).2 4).1, 0), (nextF code (nextF code (nextF code (nextF code (nextF code (nextF code s 4).2 (max 1 b)).2 3).2 12).2 5).2 4).2)) else (((nextF code s 4).1, (nextF code (nextF code s 4).2 (max 1 b)).1, 1 + (nextF code (nextF code (nextF code s 4).2 (max 1 b)).2 3).1, 0, 1 + (nextF code (nextF code (nextF code (nextF code s 4).2 (max 1 b)).2 3).2 12).1, 0, 0), (nextF code (nextF code (nextF code (nextF code (nextF code s 4).2 (max 1 b)).2 3).2 12).2 5).2) := rfl
theorem spoilR_eq (code : List Int) (b : Int) (r : List EntryT × St) (h : ¬ r.1.length = 0) : spoilR code b r = if (nextF code r.2 16).1 = 0 then (r.1.set (nextF code (nextF code r.2 16).2 (r.1.length : Int)).1.toNat (spoilE (nextF code (nextF code (nextF code r.2 16).2 (r.1.length : Int)).2 4).1 (nextF code (nextF code (nextF code (nextF code r.2 16).2 (r.1.length : Int)).2 4).2 2).1 b (r.1.getD (nextF code (nextF code r.2 16).2 (r.1.length : Int)).1.toNat (0, 0, 0, 0, 0, 0, 0))), if (nextF code (nextF code (nextF code r.2 16).2 (r.1.length : Int)).2 4).1 = 3 then (nextF code (nextF code (nextF code (nextF code r.2 16).2 (r.1.length : Int)).2 4).2 2).2 else (nextF code (nextF code (nextF code r.2 16).2 (r.1.length : Int)).2 4).2) else (r.1, (nextF code r.2 16).2) := by
  unfold spoilR; rw [if_neg h]
theorem regD_eq (code : List Int) (s : St) : regD code s = (((boatsD code s).1, (nextF code (boatsD code s).2 2).1, (spoilR code (boatsD code s).1 (entsD code (boatsD code s).1 (nextF code (nextF code (boatsD code s).2 2).2 20).1.toNat [] (nextF code (nextF code (boatsD code s).2 2).2 20).2)).1), (spoilR code (boatsD code s).1 (entsD code (boatsD code s).1 (nextF code (nextF code (boatsD code s).2 2).2 20).1.toNat [] (nextF code (nextF code (boatsD code s).2 2).2 20).2)).2) := rfl
theorem spoilR_len (code : List Int) (b : Int) (r : List EntryT × St) : (spoilR code b r).1.length = r.1.length := by
  unfold spoilR
  split
  · rfl
  · split
    · split <;> simp
    · rfl
theorem regD_len (code : List Int) (s : St) : (regD code s).1.2.2.length ≤ 20 := by
  rw [regD_eq]
  simp only
  rw [spoilR_len]
  have h := nextF_bd code (nextF code (boatsD code s).2 2).2 20 (by omega)
  have h2 := entsD_len code (boatsD code s).1 (nextF code (nextF code (boatsD code s).2 2).2 20).1.toNat [] (nextF code (nextF code (boatsD code s).2 2).2 20).2
  simp only [List.length_nil] at h2
  omega
end Go.Proofs.YtalgdeieejpelaaGreat

/- Walks: the source of numbers beside other memory; the drawn number of boats. -/
namespace Go.Proofs.YtalgdeieejpelaaGreat
open Go.RowKit
set_option linter.unusedVariables false
set_option maxRecDepth 100000

theorem chg_grown {lo hi : Nat} {a w w' : World} {row : Option Nat} (h : Chg lo hi a w) (hg : w.grownBy w' row) (hr : ∀ k, row = some k → a.heap.size ≤ k) : Chg lo hi a w' :=
  ⟨hg.os.trans h.os, hg.tape.trans h.tape, hg.output.trans h.output, Nat.le_trans h.size hg.size, fun k hk hn => (hg.block k (Nat.lt_of_lt_of_le hk h.size) (fun e => by have := hr k e.symm; omega)).trans (h.block k hk hn)⟩
theorem chg_alloc {lo hi : Nat} {a w : World} (h : Chg lo hi a w) (o : Obj) : Chg lo hi a (w.alloc o) := chg_grown h (World.grownBy_alloc w o none) (fun k e => by cases e)
theorem chg_below {lo hi : Nat} {a w w' : World} (h : Chg lo hi a w) (k : Below w.heap.size w w') : Chg lo hi a w' := h.trans (Chg.of_below k)
theorem Src.grown {w0 w w' : World} {A : Option Addr} {n cap : Nat} {code : List Int} {g : Nat} {s : St} {row : Option Nat} (h : Src w0 w A n cap code g s) (hg : w.grownBy w' row) (hr : ∀ k, row = some k → g < k) : Src w0 w' A n cap code g s :=
  ⟨(hg.block g h.lt (fun e => by have := hr g e.symm; omega)).trans h.blk, h.old, h.bel.grown hg h.bel.size (fun k e => by have := hr k e; have := h.old; omega), h.ok⟩
theorem Src.alloc {w0 w : World} {A : Option Addr} {n cap : Nat} {code : List Int} {g : Nat} {s : St} (h : Src w0 w A n cap code g s) (o : Obj) : Src w0 (w.alloc o) A n cap code g s := h.grown (World.grownBy_alloc w o none) (fun k e => by cases e)
theorem own_ne_chg {g : Nat} {w w' : World} {base e s n : Nat} {v : Value} {xs : List Value} (h : w.ownsRow base e s v n xs) (k : Chg g (g + 1) w w') (hb : g < base) : w'.ownsRow base e s v n xs :=
  own_chg h k (fun b hv => by have := (h.lt b hv).1; omega)

theorem boatsD_any (w0 : World) (A : Option Addr) (n cap : Nat) (code : List Int) (hcode : Code0 w0 A n code) (g : Nat) (s : St) (w : World) (h : Src w0 w A n cap code g s) :
    Calls Tryz.prog 83 #[.pointer (some ⟨g, 0, none⟩)] w (RetN w0 w A n cap code g (boatsD code s)) := by
  have e1 : boatsD code s = if (nextF code s 24).1 = 0 then (16 * (nextF code (nextF code s 24).2 2).1, (nextF code (nextF code s 24).2 2).2) else (1 + (nextF code (nextF code s 24).2 6).1, (nextF code (nextF code s 24).2 6).2) := rfl
  rw [e1]; clear e1
  have hn := next_any w0 A n cap code hcode g s 24 (by omega) w h
  generalize nextF code s 24 = r at *
  obtain ⟨v, s1⟩ := r
  have HN := Lib.hid hn; clear hn
  simp only
  by_cases hv : v = 0
  · subst hv
    rw [if_pos rfl]
    have hb := nextF_bd code s1 2 (by omega)
    obtain ⟨hb0, hb1⟩ := hb
    go_enter Tryz.func83, Tryz.ntmps83
    go_wp2_with fail
    refine HN.out.mono ?_
    rintro e w1 ⟨rfl, hs1, hc1⟩
    go_wp2_with fail
    refine (next_any w0 A n cap code hcode g s1 2 (by omega) _ hs1).mono ?_
    rintro e w2 ⟨rfl, hs2, hc2⟩
    go_wp2_with fail
    go_ret
    exact ⟨rfl, hs2, hc1.trans hc2⟩
  · rw [if_neg hv]
    have hne : (v == 0) = false := by simpa using hv
    have hb := nextF_bd code s1 6 (by omega)
    obtain ⟨hb0, hb1⟩ := hb
    clear hv
    go_enter Tryz.func83, Tryz.ntmps83
    go_wp2_with fail
    refine HN.out.mono ?_
    rintro e w1 ⟨rfl, hs1, hc1⟩
    go_wp2_with fail
    refine (next_any w0 A n cap code hcode g s1 6 (by omega) _ hs1).mono ?_
    rintro e w2 ⟨rfl, hs2, hc2⟩
    go_wp2_with fail
    go_ret
    exact ⟨rfl, hs2, hc1.trans hc2⟩
end Go.Proofs.YtalgdeieejpelaaGreat

/- Walks: what stands while something is drawn. -/
namespace Go.Proofs.YtalgdeieejpelaaGreat
open Go.RowKit
set_option linter.unusedVariables false

/-- What stands while something is drawn: the source at g, all else new. -/
structure DS (w0 w W : World) (A : Option Addr) (n cap : Nat) (code : List Int) (g : Nat) (s : St) : Prop where
  src : Src w0 W A n cap code g s
  ch : Chg g (g + 1) w W
  gl : g < w.heap.size
section
variable {w0 w W W' : World} {A : Option Addr} {n cap g : Nat} {code : List Int} {s s' : St}
theorem DS.turn (h : DS w0 w W A n cap code g s) (hs : Src w0 W' A n cap code g s') (hc : Chg g (g + 1) W W') : DS w0 w W' A n cap code g s' := ⟨hs, h.ch.trans hc, h.gl⟩
theorem DS.below (h : DS w0 w W A n cap code g s) (k : Below W.heap.size W W') : DS w0 w W' A n cap code g s := ⟨h.src.below k, h.ch.trans (Chg.of_below k), h.gl⟩
theorem DS.put (h : DS w0 w W A n cap code g s) {b : Nat} (hb : w.heap.size ≤ b) (i : Nat) (v : Value) : DS w0 w (W.setCell ⟨b, i, none⟩ v) A n cap code g s := by
  have hg := h.gl
  refine ⟨h.src.grown (row := some b) (grown_set ⟨rfl, rfl, rfl, Nat.le_refl _, fun _ _ _ => rfl⟩ i v) (fun k e => by injection e with e; omega), ?_, h.gl⟩
  exact ⟨h.ch.os, h.ch.tape, h.ch.output, by simpa [World.setCell] using h.ch.size, fun k hk hn => (Below.heap_setCell _ _ _ _ (by simp; omega)).trans (h.ch.block k hk hn)⟩
theorem DS.puts (vs : List Value) : ∀ {W : World} (h : DS w0 w W A n cap code g s) {b : Nat} (hb : w.heap.size ≤ b) (i : Nat), DS w0 w (putW W b i vs) A n cap code g s := by
  induction vs with
  | nil => intro W h b hb i; exact h
  | cons v r ih => intro W h b hb i; exact ih (h.put hb i v) hb (i + 1)
theorem DS.grown {base e sz m c : Nat} {A1 : Option Addr} {vs : List Value} (h : DS w0 w W A n cap code g s) (ho : W.ownsRow base e sz (.slice A1 m c) m vs) (hb : w.heap.size ≤ base) (hg : W.grownBy W' (Value.slice A1 m c).ownBlock) : DS w0 w W' A n cap code g s :=
  ⟨h.src.grown hg (fun k e => by have := (ho.lt k e).1; have := h.gl; omega), chg_grown h.ch hg (fun k e => by have := (ho.lt k e).1; omega), h.gl⟩
end
theorem Box.z7 {w : World} {b : Nat} {vs : Array Value} {t : TypeId} (h : Box w b vs t) : w.frozen? ⟨b, 0, none⟩ = false ∧ w.frozen? ⟨b, 1, none⟩ = false ∧ w.frozen? ⟨b, 2, none⟩ = false ∧ w.frozen? ⟨b, 3, none⟩ = false ∧ w.frozen? ⟨b, 4, none⟩ = false ∧ w.frozen? ⟨b, 5, none⟩ = false ∧ w.frozen? ⟨b, 6, none⟩ = false :=
  ⟨h.fz, h.fz, h.fz, h.fz, h.fz, h.fz, h.fz⟩
/-- The first k rows of own memory. -/
theorem own_take {w : World} {base e s n c k : Nat} {A : Option Addr} {xs : List Value} (h : w.ownsRow base e s (.slice A n c) n xs) (hk : k ≤ n) : w.ownsRow base e s (.slice A k c) k (xs.take (k * s)) := by
  have hl := h.1
  have hm : k * s ≤ n * s := Nat.mul_le_mul_right s hk
  rcases h.2 with ⟨e1, _⟩ | ⟨g, cap, cur, e1, h1, h2, h3, h4, h5, h6⟩
  · injection e1 with e1 e2 e3
    subst e1; subst e2; subst e3
    obtain rfl : k = 0 := by omega
    simpa using World.ownsRow_nil w base e s
  · injection e1 with e1 e2 e3
    subst e1; subst e3
    refine ⟨by rw [List.length_take, hl]; exact Nat.min_eq_left hm, .inr ⟨g, c, cur, rfl, h1, h2, by omega, h4, h5, ?_⟩⟩
    rw [← h6, List.take_take, Nat.min_eq_left hm]
end Go.Proofs.YtalgdeieejpelaaGreat

/- Walks: the drawn number of fleets. -/
namespace Go.Proofs.YtalgdeieejpelaaGreat
open Go.RowKit
set_option linter.unusedVariables false
set_option maxRecDepth 100000

end Go.Proofs.YtalgdeieejpelaaGreat

/- Walks: drawn fleets. -/
namespace Go.Proofs.YtalgdeieejpelaaGreat
open Go.RowKit
set_option linter.unusedVariables false
set_option maxRecDepth 100000

/-- New integers are drawn (nil, too). -/
def RetO (w0 w : World) (A : Option Addr) (n cap : Nat) (code : List Int) (g : Nat) (r : List Int × St) (e : Ending) (w' : World) : Prop :=
  ∃ A' m c, e = .returned (.slice A' m c) ∧ w'.ownsRow w.heap.size 2 1 (.slice A' m c) m (ints r.1) ∧ Src w0 w' A n cap code g r.2 ∧ Chg g (g + 1) w w'

end Go.Proofs.YtalgdeieejpelaaGreat

/- Plain: the points of a race in fleets, boat by boat. -/
namespace Go.Proofs.YtalgdeieejpelaaGreat
open Go.RowKit
set_option linter.unusedVariables false

def ptF (L : Int) (fs : List FinishT) (list : List Int) (i : Nat) : Int := pointF L (ofFleet (list.getD i 0) fs list) (fs.getD i (0, 0, 0))
def pointsL (L : Int) (fs : List FinishT) (list : List Int) : List Int := (List.range list.length).map (ptF L fs list)
/-- The points of the fleets below fl and of the boats in S. -/
def partG (L : Int) (fs : List FinishT) (list : List Int) (fl : Int) (S : List Int) : List Int :=
  (List.range list.length).map fun i => if list.getD i 0 < fl ∨ (i : Int) ∈ S then ptF L fs list i else 0
def fleetPointsL (fs : List FinishT) (list : List Int) (k : Int) : List Int × Int :=
  if fleetsCodeF list k = 0 then (if raceB (list.length : Int) fs = true then (pointsL (largestF (countF list (List.replicate k.toNat 0))) fs list, 0) else ([], 5)) else ([], fleetsCodeF list k)
theorem partG_len (L : Int) (fs : List FinishT) (list : List Int) (fl : Int) (S : List Int) : (partG L fs list fl S).length = list.length := by unfold partG; simp
theorem getD_mem {α : Type} {xs : List α} {i : Nat} {d : α} (h : i < xs.length) : xs.getD i d ∈ xs := by
  rw [List.getD_eq_getElem?_getD, List.getElem?_eq_getElem h]; exact List.getElem_mem _
theorem partG_zero (L : Int) (fs : List FinishT) {list : List Int} (h : ∀ x ∈ list, 0 ≤ x) : partG L fs list 0 [] = List.replicate list.length 0 := by
  apply List.ext_getElem
  · simp [partG]
  · intro i h1 h2
    simp only [partG, List.length_map, List.length_range] at h1
    have := h _ (getD_mem (d := 0) h1)
    simp only [partG, List.getElem_map, List.getElem_range, List.getElem_replicate, List.not_mem_nil, or_false]
    rw [if_neg (by omega)]
theorem partG_end (L : Int) (fs : List FinishT) {list : List Int} {k : Int} (h : ∀ x ∈ list, x < k) : partG L fs list k [] = pointsL L fs list := by
  apply List.ext_getElem
  · simp [partG, pointsL]
  · intro i h1 h2
    simp only [partG, List.length_map, List.length_range] at h1
    have := h _ (getD_mem (d := 0) h1)
    simp only [partG, pointsL, List.getElem_map, List.getElem_range]
    rw [if_pos (.inl this)]
theorem partG_set (L : Int) (fs : List FinishT) (list : List Int) (fl : Int) (S : List Int) (b : Nat) : (partG L fs list fl S).set b (ptF L fs list b) = partG L fs list fl (S ++ [(b : Int)]) := by
  apply List.ext_getElem
  · simp [partG]
  · intro i h1 h2
    rw [List.getElem_set]
    simp only [partG, List.getElem_map, List.getElem_range, List.mem_append, List.mem_singleton]
    by_cases hb : b = i
    · subst hb
      rw [if_pos rfl, if_pos (.inr (.inr rfl))]
    · rw [if_neg hb]
      have : ¬ (i : Int) = (b : Int) := by omega
      simp [this]
theorem boatsF_mem {fl : Int} : ∀ {xs : List Int} {i : Nat} {y : Int}, y ∈ boatsF fl i xs ↔ ∃ j : Nat, y = ((i + j : Nat) : Int) ∧ xs[j]? = some fl := by
  intro xs
  induction xs with
  | nil => intro i y; simp [boatsF]
  | cons x r ih =>
    intro i y
    unfold boatsF
    constructor
    · intro h
      split at h
      · rename_i hx
        rcases List.mem_cons.1 h with h | h
        · exact ⟨0, by simpa using h, by simp [hx]⟩
        · obtain ⟨j, h1, h2⟩ := ih.1 h
          exact ⟨j + 1, by rw [h1]; congr 1; omega, by simpa using h2⟩
      · obtain ⟨j, h1, h2⟩ := ih.1 h
        exact ⟨j + 1, by rw [h1]; congr 1; omega, by simpa using h2⟩
    · rintro ⟨j, h1, h2⟩
      cases j with
      | zero => simp at h2; rw [if_pos h2]; exact List.mem_cons.2 (.inl (by simpa using h1))
      | succ j =>
        have hm : y ∈ boatsF fl (i + 1) r := ih.2 ⟨j, by rw [h1]; congr 1; omega, by simpa using h2⟩
        split
        · exact List.mem_cons_of_mem _ hm
        · exact hm
theorem boatsF_at {fl : Int} {xs : List Int} {t : Nat} {y : Int} (h : (boatsF fl 0 xs)[t]? = some y) : ∃ j : Nat, y = (j : Int) ∧ j < xs.length ∧ xs[j]? = some fl := by
  obtain ⟨j, h1, h2⟩ := boatsF_mem.1 (List.mem_of_getElem? h)
  exact ⟨j, by simpa using h1, (List.getElem?_eq_some_iff.1 h2).1, h2⟩
theorem boatsF_len (fl : Int) : ∀ (xs : List Int) (i : Nat), (boatsF fl i xs).length ≤ xs.length := by
  intro xs
  induction xs with
  | nil => intro i; simp [boatsF]
  | cons x r ih => intro i; have := ih (i + 1); unfold boatsF; split <;> simp <;> omega
theorem partG_next (L : Int) (fs : List FinishT) (list : List Int) (fl : Int) : partG L fs list fl (boatsF fl 0 list) = partG L fs list (fl + 1) [] := by
  apply List.ext_getElem
  · simp [partG]
  · intro i h1 h2
    simp only [partG, List.length_map, List.length_range] at h1
    simp only [partG, List.getElem_map, List.getElem_range, List.not_mem_nil, or_false]
    have e : (i : Int) ∈ boatsF fl 0 list ↔ list.getD i 0 = fl := by
      rw [boatsF_mem, List.getD_eq_getElem?_getD, List.getElem?_eq_getElem h1]
      constructor
      · rintro ⟨j, e1, e2⟩
        obtain rfl : i = j := by omega
        rw [List.getElem?_eq_getElem h1] at e2; injection e2
      · intro e1
        exact ⟨i, by simp, by rw [List.getElem?_eq_getElem h1]; simpa using e1⟩
    by_cases hc : list.getD i 0 < fl + 1
    · rw [if_pos hc, if_pos (by rw [e]; omega)]
    · rw [if_neg hc, if_neg (by rw [e]; omega)]
theorem boats_fins_go (fl : Int) (all : List FinishT) : ∀ (xs : List Int) (fs : List FinishT) (i : Nat), all.drop i = fs → fs.length = xs.length →
    (boatsF fl i xs).map (fun y => all.getD y.toNat (0, 0, 0)) = ofFleet fl fs xs := by
  intro xs
  induction xs with
  | nil => intro fs i h hl; cases fs with
    | nil => rfl
    | cons f r => simp at hl
  | cons x r ih =>
    intro fs i h hl
    cases fs with
    | nil => simp at hl
    | cons f q =>
      have h2 : all.drop (i + 1) = q := by rw [← List.drop_drop, h]; rfl
      have hg : all.getD i (0, 0, 0) = f := by
        have : (all.drop i)[0]? = some f := by rw [h]; rfl
        rw [List.getElem?_drop] at this
        rw [List.getD_eq_getElem?_getD]
        simp at this
        rw [this]; rfl
      have := ih q (i + 1) h2 (by simpa using hl)
      unfold boatsF ofFleet
      split
      · rw [List.map_cons, this]; congr 1
      · exact this
theorem boats_fins (fl : Int) {xs : List Int} {fs : List FinishT} (h : fs.length = xs.length) : (boatsF fl 0 xs).map (fun y => fs.getD y.toNat (0, 0, 0)) = ofFleet fl fs xs :=
  boats_fins_go fl fs xs fs 0 rfl h
theorem ofFleet_at {fl : Int} {xs : List Int} {fs : List FinishT} (h : fs.length = xs.length) {t : Nat} {y : Nat} (hy : (boatsF fl 0 xs)[t]? = some (y : Int)) : (ofFleet fl fs xs)[t]? = some (fs.getD y (0, 0, 0)) := by
  rw [← boats_fins fl h, List.getElem?_map, hy]; rfl
/-- What a boat of the fleet gets. -/
theorem ptF_at {L fl : Int} {xs : List Int} {fs : List FinishT} {y : Nat} (hy : xs[y]? = some fl) : ptF L fs xs y = pointF L (ofFleet fl fs xs) (fs.getD y (0, 0, 0)) := by
  unfold ptF
  rw [List.getD_eq_getElem?_getD, hy]; rfl
theorem partG_skip {L : Int} {fs : List FinishT} {list : List Int} {fl : Int} {S : List Int} {b : Nat} (hz : ptF L fs list b = 0) : partG L fs list fl S = partG L fs list fl (S ++ [(b : Int)]) := by
  rw [← partG_set]
  apply List.ext_getElem
  · simp
  · intro i h1 h2
    rw [List.getElem_set]
    split
    · rename_i hb
      subst hb
      simp only [partG, List.getElem_map, List.getElem_range]
      rw [hz]
      split <;> rfl
    · rfl
theorem largest_snoc (xs : List Int) (x : Int) : largestF (xs ++ [x]) = max (largestF xs) x := by unfold largestF; rw [List.foldl_append]; rfl
theorem largest_le {xs : List Int} (h : ∀ x ∈ xs, x ≤ 16) : 0 ≤ largestF xs ∧ largestF xs ≤ 16 := by
  unfold largestF
  have : ∀ (ys : List Int) (a : Int), 0 ≤ a → a ≤ 16 → (∀ x ∈ ys, x ≤ 16) → 0 ≤ ys.foldl max a ∧ ys.foldl max a ≤ 16 := by
    intro ys
    induction ys with
    | nil => intro a h0 h1 _; exact ⟨h0, h1⟩
    | cons y r ih => intro a h0 h1 h2; exact ih _ (by omega) (by have := h2 y (by simp); omega) (fun x hx => h2 x (by simp [hx]))
  exact this xs 0 (by omega) (by omega) h
theorem filter_of_fleet (fl t : Int) (p : FinishT → Bool) : ∀ (fs : List FinishT) (l : List Int), fs.length = l.length →
    ((ofFleet fl fs l).filter p).length = (((fs.zip l).filter fun q => p q.1 && (q.2 == fl)).length) := by
  intro fs
  induction fs with
  | nil => intro l h; simp [ofFleet]
  | cons f r ih =>
    intro l h
    cases l with
    | nil => simp at h
    | cons x l =>
      have := ih l (by simpa using h)
      unfold ofFleet
      rw [List.zip_cons_cons, List.filter_cons]
      by_cases hx : x = fl
      · subst hx
        rw [if_pos rfl, List.filter_cons]
        by_cases hp : p f = true
        · rw [if_pos hp, if_pos (by simp [hp])]; simp [this]
        · rw [if_neg hp, if_neg (by simp [hp])]; exact this
      · rw [if_neg hx, if_neg (by simp [hx])]; exact this
end Go.Proofs.YtalgdeieejpelaaGreat

/- Plain memory: a row is appended to both columns of a table of one's own: the second row lay there before. -/
namespace Go.Proofs.YtalgdeieejpelaaGreat
open Go.RowKit
set_option linter.unusedVariables false

/-- A row is appended to own rows: where all lies; the row may be old. -/
structure PushedW (wr w' : World) (base : Nat) (A : Option Addr) (n c : Nat) (vs : List Value) (rows : List (List Int)) (ga ca g1 c1 : Nat) (p : List Int) : Prop where
  own : OwnRows w' base 25 2 (some ⟨ga, 0, none⟩) (n + 1) ca (vs ++ [.slice (some ⟨g1, 0, none⟩) p.length c1]) (rows ++ [p])
  lies : (Value.slice A n c).ownBlock = some ga ∨ wr.heap.size ≤ ga
  ltA : ga < w'.heap.size
  size : wr.heap.size ≤ w'.heap.size
  keep : ∀ b, b < wr.heap.size → (Value.slice A n c).ownBlock ≠ some b → w'.heap[b]? = wr.heap[b]?
  frame : w'.os = wr.os ∧ w'.tape = wr.tape ∧ w'.output = wr.output
/-- .. the world ahead of the append however it came about. -/
theorem push_row1 {wr wd w5 : World} {base b1 n c ga ca g1 c1 : Nat} {A : Option Addr} {vs : List Value} {rows : List (List Int)} {p : List Int} (h : OwnRows wr base 25 2 A n c vs rows) (hbs : base ≤ wr.heap.size)
    (hb : Below wr.heap.size wr wd) (og : wd.ownsRow b1 2 1 (.slice (some ⟨g1, 0, none⟩) p.length c1) p.length (ints p)) (hg1 : ∀ u ∈ vs, ∀ b, u.ownBlock = some b → b ≠ g1) (hb1 : base ≤ b1)
    (hga : wd.grownBy w5 (Value.slice A n c).ownBlock) (ho : w5.ownsRow base 25 1 (.slice (some ⟨ga, 0, none⟩) (n + 1) ca) (n + 1) (vs ++ [.slice (some ⟨g1, 0, none⟩) p.length c1]))
    (hla : (Value.slice A n c).ownBlock = some ga ∨ ga = wd.heap.size) : PushedW wr w5 base A n c vs rows ga ca g1 c1 p := by
  have hin := h.in_
  have hs := hb.size
  have hs5 := hga.size
  have hlt := (og.lt g1 rfl).2
  have hW := h.below hb
  have og0 := own_base og hb1
  refine ⟨⟨ho, by simp [h.len], ?_, ?_⟩, ?_, (ho.lt ga rfl).2, by omega, fun b hbl hne => ?_, ⟨hga.os.trans hb.os, hga.tape.trans hb.tape, hga.output.trans hb.output⟩⟩
  · have keep : ∀ (u : Value) (m : Nat) (zs : List Value), wd.ownsRow base 2 1 u m zs → w5.ownsRow base 2 1 u m zs := by
      intro u m zs hu
      refine hu.kept hga ?_
      rcases hb : u.ownBlock with _ | b
      · exact .inl rfl
      · exact .inr (fun he => own_type_ne hW.outer hu (by decide) b he.symm hb)
    intro i u zs h1 h2
    by_cases hi : i < n
    · rw [List.getElem?_append_left (by rw [h.vlen]; exact hi)] at h1
      rw [List.getElem?_append_left (by rw [h.len]; exact hi)] at h2
      obtain ⟨A'', c'', e, hr⟩ := hW.row i u zs h1 h2
      exact ⟨A'', c'', e, keep _ _ _ hr⟩
    · rw [List.getElem?_append_right (by rw [h.vlen]; omega), h.vlen] at h1
      rw [List.getElem?_append_right (by rw [h.len]; omega), h.len] at h2
      have h0 : i - n = 0 := by
        rcases Nat.eq_zero_or_pos (i - n) with h | h
        · exact h
        · rw [List.getElem?_eq_none (by simp; omega)] at h1; cases h1
      rw [h0] at h1 h2
      simp at h1 h2
      subst h1; subst h2
      exact ⟨_, c1, rfl, keep _ _ _ og0⟩
  · intro i j u v hij h1 h2 b hb hb'
    have split : ∀ (q : Nat) (x : Value), (vs ++ [Value.slice (some ⟨g1, 0, none⟩) p.length c1])[q]? = some x → (q < n ∧ vs[q]? = some x) ∨ (q = n ∧ x = .slice (some ⟨g1, 0, none⟩) p.length c1) := by
      intro q x hx
      by_cases hq : q < n
      · rw [List.getElem?_append_left (by rw [h.vlen]; exact hq)] at hx; exact .inl ⟨hq, hx⟩
      · rw [List.getElem?_append_right (by rw [h.vlen]; omega), h.vlen] at hx
        have h0 : q - n = 0 := by
          rcases Nat.eq_zero_or_pos (q - n) with h | h
          · exact h
          · rw [List.getElem?_eq_none (by simp; omega)] at hx; cases hx
        rw [h0] at hx
        simp at hx
        exact .inr ⟨by omega, hx.symm⟩
    have isg : ∀ b, (Value.slice (some ⟨g1, 0, none⟩) p.length c1).ownBlock = some b → b = g1 := fun b e => by simp [Value.ownBlock] at e; exact e.symm
    rcases split i u h1 with ⟨hi, hu⟩ | ⟨hi, rfl⟩ <;> rcases split j v h2 with ⟨hj, hv⟩ | ⟨hj, rfl⟩
    · exact h.apart i j u v hij hu hv b hb hb'
    · exact absurd (isg b hb') (hg1 u (List.mem_of_getElem? hu) b hb)
    · exact absurd (isg b hb) (hg1 v (List.mem_of_getElem? hv) b hb')
    · omega
  · rcases hla with hla | hla
    · exact .inl hla
    · right; omega
  · have h2 := hga.block b (by omega) (fun e => hne e.symm)
    rw [h2]
    exact hb.block b hbl
/-- Both columns, one behind the other. -/
theorem push_pair {wr w5 w9 : World} {base n c d ga ca gb cb g1 c1 g2 c2 : Nat} {A C : Option Addr} {vs us : List Value} {pts cds : List (List Int)} {B : Int} {p q : List Int}
    (h : OwnT wr base A n c vs C n d us ⟨B, pts, cds⟩) (hbs : base ≤ wr.heap.size)
    (h1 : Pushed wr w5 base A n c vs pts ga ca g1 c1 p)
    (h2 : OwnRows w5 base 25 2 C n d us cds → PushedW w5 w9 base C n d us cds gb cb g2 c2 q) (hn2 : wr.heap.size ≤ g2) (hn12 : g1 ≠ g2) :
    OwnT w9 base (some ⟨ga, 0, none⟩) (n + 1) ca (vs ++ [.slice (some ⟨g1, 0, none⟩) p.length c1]) (some ⟨gb, 0, none⟩) (n + 1) cb (us ++ [.slice (some ⟨g2, 0, none⟩) q.length c2]) ⟨B, pts ++ [p], cds ++ [q]⟩ := by
  have hpi := h.pts.in_
  have hci := h.cds.in_
  have hg5 : wr.grownBy w5 (Value.slice A n c).ownBlock := ⟨h1.frame.1, h1.frame.2.1, h1.frame.2.2, h1.size, fun k hk hn => h1.keep k hk (fun e => hn e.symm)⟩
  have hcd5 : OwnRows w5 base 25 2 C n d us cds := h.cds.grown hg5 (fun b hb e => h.apO b e hb) (fun v hv b hb e => by
    obtain ⟨m, zs, ho⟩ := h.cds.row_ty hv
    exact own_type_ne h.pts.outer ho (by decide) b e hb)
  have h2 := h2 hcd5
  have hg9 : w5.grownBy w9 (Value.slice C n d).ownBlock := ⟨h2.frame.1, h2.frame.2.1, h2.frame.2.2, h2.size, fun k hk hn => h2.keep k hk (fun e => hn e.symm)⟩
  have hne : ∀ b, (Value.slice C n d).ownBlock = some b → ga ≠ b := by
    rintro b hb rfl
    rcases h1.lies with e | e
    · exact h.apO ga e hb
    · have := (hci.1 ga hb).2; omega
  refine ⟨h1.own.grown hg9 (fun b hb e => ?_) (fun v hv b hb e => ?_), h2.own, ?_, ?_⟩
  · have e2 : ga = b := by simp [Value.ownBlock] at hb; exact hb
    exact hne b e e2
  · obtain ⟨m, zs, ho⟩ := h1.own.row_ty hv
    exact own_type_ne hcd5.outer ho (by decide) b e hb
  · intro g hg hg'
    have e1 : ga = g := by simpa [Value.ownBlock] using hg
    have e2 : gb = g := by simpa [Value.ownBlock] using hg'
    rcases h2.lies with e | e
    · exact hne gb e (by omega)
    · have := h1.ltA; omega
  · intro v hv u hu g hg hg'
    rcases List.mem_append.1 hu with hu | hu
    · rcases List.mem_append.1 hv with hv | hv
      · exact h.apR v hv u hu g hg hg'
      · simp at hv; subst hv
        have e1 : g1 = g := by simpa [Value.ownBlock] using hg
        have := (hci.2 u hu g hg').2
        have := h1.new.1
        omega
    · simp at hu; subst hu
      have e1 : g2 = g := by simpa [Value.ownBlock] using hg'
      rcases List.mem_append.1 hv with hv | hv
      · have := (hpi.2 v hv g hg).2
        omega
      · simp at hv; subst hv
        have e2 : g1 = g := by simpa [Value.ownBlock] using hg
        omega
theorem PushedW.below {wr w' : World} {base n c ga ca g1 c1 : Nat} {A : Option Addr} {vs : List Value} {rows : List (List Int)} {p : List Int} (h : PushedW wr w' base A n c vs rows ga ca g1 c1 p) (ho : OwnRows wr base 25 2 A n c vs rows) (hb : base ≤ wr.heap.size) : Below base wr w' :=
  ⟨h.frame.1, h.frame.2.1, h.frame.2.2, h.size, fun k hk => h.keep k (by omega) (fun e => by have := (ho.in_.1 k e).1; omega)⟩
end Go.Proofs.YtalgdeieejpelaaGreat

/- Walks: races and series compared by the laws of registers. -/
namespace Go.Proofs.YtalgdeieejpelaaGreat
open Go.RowKit Go.Sort
set_option linter.unusedVariables false
set_option maxRecDepth 100000

theorem w6Races_same (A A' : Option Addr) (n c n' c' : Nat) (xs : List FinishT) (w : World) (h : Rd w 3 A n (fins xs)) (h' : Rd w 3 A' n' (fins xs)) :
    Calls Tryz.prog 51 #[.agg #[.slice A n c], .agg #[.slice A' n' c']] w fun e w' => e = .returned (.bool true) ∧ Below w.heap.size w w' := by
  obtain rfl : n = n' := h.len_fin.symm.trans h'.len_fin
  have hm := h.le
  obtain ⟨w1, hw1, X0, X1, hb1, hs1⟩ := two_boxes w #[.slice A n c] #[.slice A' n c'] 90 90
  have H := Lib.hid (fun w' (hb : Below w1.heap.size w1 w') => (h.below hb1).below hb)
  have H' := Lib.hid (fun w' (hb : Below w1.heap.size w1 w') => (h'.below hb1).below hb)
  have HX0 := Lib.hid X0; have HX1 := Lib.hid X1; have HB1 := Lib.hid hb1
  clear h h' hb1
  have F0 := X0.l1; have F1 := X1.l1
  clear X0 X1
  go_enter Tryz.func51, Tryz.ntmps51
  go_wp2_with fail
  rw [← hw1]
  clear hw1
  go_wp2_with fail
  clear F0 F1
  go_loopw [5] (fun i wr => ∃ k : Nat, k ≤ n ∧ i = .int .i64 k ∧ Hid (Below w1.heap.size w1 wr)) (fun i _ => n - (intOf i).toNat)
  case atStart => exact ⟨0, Nat.zero_le _, rfl, Lib.hid (Below.refl _ _)⟩
  case round =>
    obtain ⟨k, hk, rfl, HB⟩ := hrel
    have F0 := (HX0.out.below HB.out).l1
    have F1 := (HX1.out.below HB.out).l1
    by_cases hlt : k < n
    · obtain ⟨b1, o1, x0, x1, x2, rfl, hx, hd, hc0, hc1, hc2⟩ := (H.out _ HB.out).fin hlt
      obtain ⟨b2, o2, y0, y1, y2, rfl, hy, hd', gc0, gc1, gc2⟩ := (H'.out _ HB.out).fin hlt
      rw [hx] at hy
      injection hy with hy
      simp only [Prod.mk.injEq] at hy
      obtain ⟨rfl, rfl, rfl⟩ := hy
      clear hx hd hd'
      go_wp2_with fail
      go_region
      have HB2 := Lib.hid (HB.out.trans ((below_drewN' wr.heap.size wr 1).mono HB.out.size))
      go_wp2_with fail
      go_roundw
      case rel => exact ⟨k + 1, by omega, by go_num, HB2⟩
      case measure => simp [intOf] <;> omega
    · obtain rfl : k = n := by omega
      go_wp2_with fail
      go_ret
      exact ⟨rfl, HB1.out.trans (HB.out.mono HB1.out.size)⟩
theorem w6Series_same (b s : Int) (A : Option Addr) (n c : Nat) (A' : Option Addr) (n' c' : Nat) (xs : List (List FinishT)) (w : World) (h : RdRaces w A n xs) (h' : RdRaces w A' n' xs) :
    Calls Tryz.prog 26 #[.agg #[.int .i64 b, .int .i64 s, .slice A n c], .agg #[.int .i64 b, .int .i64 s, .slice A' n' c']] w fun e w' => e = .returned (.bool true) ∧ Below w.heap.size w w' := by
  obtain rfl : n = n' := h.len.symm.trans h'.len
  have hm := h.le
  obtain ⟨w1, hw1, X0, X1, hb1, hs1⟩ := two_boxes w #[.int .i64 b, .int .i64 s, .slice A n c] #[.int .i64 b, .int .i64 s, .slice A' n c'] 58 58
  have H := Lib.hid (fun w' (hb : Below w1.heap.size w1 w') => (h.below hb1).below hb)
  have H' := Lib.hid (fun w' (hb : Below w1.heap.size w1 w') => (h'.below hb1).below hb)
  have HX0 := Lib.hid X0; have HX1 := Lib.hid X1; have HB1 := Lib.hid hb1
  clear h h' hb1
  have F0 := X0.f3; have F1 := X1.f3
  clear X0 X1
  go_enter Tryz.func26, Tryz.ntmps26
  go_wp2_with fail
  rw [← hw1]
  clear hw1
  go_wp2_with fail
  clear F0 F1
  go_loopw [5] (fun i wr => ∃ k : Nat, k ≤ n ∧ i = .int .i64 k ∧ Hid (Below w1.heap.size w1 wr)) (fun i _ => n - (intOf i).toNat)
  case atStart => exact ⟨0, Nat.zero_le _, rfl, Lib.hid (Below.refl _ _)⟩
  case round =>
    obtain ⟨k, hk, rfl, HB⟩ := hrel
    have F0 := (HX0.out.below HB.out).f3
    have F1 := (HX1.out.below HB.out).f3
    by_cases hlt : k < n
    · obtain ⟨b1, o1, B, cB, x, rfl, hx, _, hc, hrd⟩ := (H.out _ HB.out).row hlt
      obtain ⟨b2, o2, B', cB', x', rfl, hx', _, hc', hrd'⟩ := (H'.out _ HB.out).row hlt
      obtain rfl : x = x' := by rw [hx] at hx'; injection hx'
      have HQ := Lib.hid (fun w' (hb : Below wr.heap.size wr w') => w6Races_same B B' x.length cB x.length cB' x w' (hrd.below hb) (hrd'.below hb))
      have hsz := HB.out.size
      clear hx hx' hrd hrd'
      go_wp2_with fail
      go_still_tail 10, (by kernel_rfl)
      go_wp2_with fail
      refine (HQ.out _ (below_drewN' _ wr 1)).mono ?_
      rintro e w2 ⟨rfl, hb2⟩
      have HB2 := Lib.hid ((HB.out.trans ((below_drewN' w1.heap.size wr 1).mono (Nat.le_refl _))).trans (hb2.mono hsz))
      clear hb2 HB hc hc' F0 F1
      go_wp2_with fail
      go_roundw
      case rel => exact ⟨k + 1, by omega, by go_num, HB2⟩
      case measure => simp [intOf] <;> omega
    · obtain rfl : k = n := by omega
      go_wp2_with fail
      go_ret
      exact ⟨rfl, HB1.out.trans (HB.out.mono HB1.out.size)⟩
end Go.Proofs.YtalgdeieejpelaaGreat

/- The code of a drawn law, as it came in. -/
namespace Go.Proofs.YtalgdeieejpelaaGreat
open Go.RowKit
set_option linter.unusedVariables false

theorem IsRow.u8 {w : World} {a : Option Addr} {len cap : Nat} {zs : List Int} (h : IsRow .u8 w a len cap zs) : Rd w 1 a len (u8s (zs.take len)) ∧ ∀ c ∈ zs.take len, 0 ≤ c ∧ c ≤ 255 := by
  rcases h with ⟨rfl, rfl, rfl, rfl⟩ | ⟨x, rfl, h1, h2, h3, h4, h5⟩
  · exact ⟨⟨rfl, by omega, fun h => by omega⟩, fun c hc => by simp at hc⟩
  · unfold maxLen at h2
    refine ⟨⟨by simp [u8s]; omega, by omega, fun hn => ?_⟩, ?_⟩
    · have h0 := h4 0 (by omega)
      have hadd0 : x.add 0 = x := by simp [Addr.add]
      rw [hadd0] at h0
      obtain ⟨b, o, sp⟩ := x
      obtain rfl : sp = none := spot_none h0
      refine ⟨b, o, rfl, fun i u hu => ?_⟩
      have hlen : i < (u8s (zs.take len)).length := by
        rcases Nat.lt_or_ge i (u8s (zs.take len)).length with h | h
        · exact h
        · rw [List.getElem?_eq_none h] at hu; cases hu
      have hi : i < len := by simp [u8s] at hlen; omega
      have hc := h4 i (by omega)
      have hadd : (⟨b, o, none⟩ : Addr).add i = ⟨b, o + i, none⟩ := by unfold Addr.add; split <;> simp_all
      rw [hadd] at hc
      rw [hc, ← hu]
      simp [u8s, hi, List.getElem?_eq_getElem (show i < zs.length by omega)]
    · intro c hc
      have hw := h5 c (List.mem_of_mem_take hc)
      simp [Lit.wf, IntKind.min, IntKind.max, IntKind.signed, IntKind.bits] at hw
      omega
theorem code0_of {w : World} {a : Option Addr} {len cap : Nat} {zs : List Int} (h : IsRow .u8 w a len cap zs) (hl : len ≤ 4096) : Code0 w a len (zs.take len) := ⟨h.u8.1, by omega, h.u8.2⟩
theorem IsRow.addr {k : IntKind} {w : World} {a : Option Addr} {len cap : Nat} {zs : List Int} (h : IsRow k w a len cap zs) : (a = none ∧ len = 0 ∧ cap = 0) ∨ ∃ ad, a = some ad := by
  rcases h with ⟨rfl, rfl, rfl, rfl⟩ | ⟨x, rfl, _⟩
  · exact .inl ⟨rfl, rfl, rfl⟩
  · exact .inr ⟨x, rfl⟩
theorem IsRow.lenle {k : IntKind} {w : World} {a : Option Addr} {len cap : Nat} {zs : List Int} (h : IsRow k w a len cap zs) : len ≤ 9223372036854775807 := by
  rcases h with ⟨rfl, rfl, rfl, rfl⟩ | ⟨x, rfl, h1, h2, _⟩
  · omega
  · unfold maxLen at h2; omega
theorem big_any (A : Option Addr) (n c : Nat) (hn : n ≤ 9223372036854775807) (w : World) :
    Calls Tryz.prog 16 #[.slice A n c] w fun e w' => e = .returned (.bool (decide (4096 < n))) ∧ w = w' := by
  go_enter Tryz.func16, Tryz.ntmps16
  go_wp2_with fail
  go_ret
  refine ⟨?_, rfl⟩
  refine ret_bool ?_
  rw [Bool.eq_iff_iff]
  simp only [decide_eq_true_eq]
  omega
end Go.Proofs.YtalgdeieejpelaaGreat

/- General and plain lemmas, and light walks (merged): Lib Wx St Mf Bx Wn Wr Rt Ss. -/
import Derived.Test.YtmgkoldipchljaaRows
import Derived.WalkKit
import Derived.WalkSpells
import Derived.WalkLawsBesides
import Derived.Lib.Hide
import Derived.Deep.QuietTactic
import Derived.BigQuiet
import Derived.Deep.LoopGhost
import Derived.Deep.DeepCutAuto
import Derived.Below
import Derived.OrdersHeld
import Derived.StillTail
import Derived.RegionTactic
import Derived.Tactics
import Derived.Tactics2
import Derived.KernelRfl
/- General lemmas of this work: reading slices, own rows, results. No Go function in sight. -/
namespace Go.Proofs.Ytmgkoldipchljaa
open Go.RowKit
set_option linter.unusedVariables false

/-! ### Reading memory -/
/-- Cells of w stay in w'. -/
def Keeps (w w' : World) : Prop := ∀ a v, w.cell? a = some v → w'.cell? a = some v
theorem Keeps.refl (w : World) : Keeps w w := fun _ _ h => h
theorem Keeps.trans {a b c : World} (h : Keeps a b) (k : Keeps b c) : Keeps a c := fun _ _ e => k _ _ (h _ _ e)
theorem cell_lt {w : World} {a : Addr} {v : Value} (h : w.cell? a = some v) : a.block < w.heap.size := World.block_lt_of_cell? w a h
theorem Keeps.below {w w' : World} (h : Below w.heap.size w w') : Keeps w w' := fun a _ e => (h.cell (p := a) (cell_lt e)).trans e

/-- A slice that reads as the cells xs, s cells an element. -/
structure Rd (w : World) (s : Nat) (A : Option Addr) (n : Nat) (xs : List Value) : Prop where
  len : xs.length = n * s
  le : n ≤ 9223372036854775807
  pos : 0 < n → ∃ b o, A = some ⟨b, o, none⟩ ∧ ∀ i u, xs[i]? = some u → w.cell? ⟨b, o + i, none⟩ = some u

theorem Rd.keep {w w' : World} {s n : Nat} {A : Option Addr} {xs : List Value} (h : Rd w s A n xs) (k : Keeps w w') : Rd w' s A n xs :=
  ⟨h.len, h.le, fun hn => by
    obtain ⟨b, o, e, hc⟩ := h.pos hn
    exact ⟨b, o, e, fun i u hu => k _ _ (hc i u hu)⟩⟩
theorem Rd.below {w w' : World} {s n : Nat} {A : Option Addr} {xs : List Value} (h : Rd w s A n xs) (k : Below w.heap.size w w') : Rd w' s A n xs := h.keep (Keeps.below k)

theorem Rd.drewN {w : World} {s n : Nat} {A : Option Addr} {xs : List Value} (h : Rd w s A n xs) (q : Nat) : Rd (w.drewN q) s A n xs := ⟨h.len, h.le, h.pos⟩
theorem below_drewN {B : Nat} {a w : World} (h : Below B a w) (n : Nat) : Below B a (w.drewN n) := ⟨h.os, h.tape, h.output, h.size, h.block⟩
theorem below_drewN' (B : Nat) (w : World) (n : Nat) : Below B w (w.drewN n) := below_drewN (Below.refl _ _) n
theorem own_drewN {w : World} {base e s n : Nat} {v : Value} {xs : List Value} (h : w.ownsRow base e s v n xs) (q : Nat) : (w.drewN q).ownsRow base e s v n xs := h

/-- w' is w behind some draws. -/
def Drawn (w w' : World) : Prop := ∃ q, w' = w.drewN q
theorem Drawn.refl (w : World) : Drawn w w := ⟨0, rfl⟩
theorem Drawn.step {w w' : World} (h : Drawn w w') (n : Nat) : Drawn w (w'.drewN n) := by obtain ⟨q, rfl⟩ := h; exact ⟨_, World.drewN_drewN _ _ _⟩
theorem Drawn.out {w w' : World} (h : Drawn w w') : ∃ q, w' = w.drewN q := h
theorem Drawn.below {w w' : World} (h : Drawn w w') : Below w.heap.size w w' := by obtain ⟨q, rfl⟩ := h; exact below_drewN' _ _ _
theorem Drawn.size {w w' : World} (h : Drawn w w') : w'.heap.size = w.heap.size := by obtain ⟨q, rfl⟩ := h; rfl
theorem Drawn.own {w w' : World} {base e s n : Nat} {v : Value} {xs : List Value} (h : Drawn w w') (ho : w.ownsRow base e s v n xs) : w'.ownsRow base e s v n xs := by obtain ⟨q, rfl⟩ := h; exact ho
theorem Rd.drawn {w w' : World} {s n : Nat} {A : Option Addr} {xs : List Value} (h : Rd w s A n xs) (k : Drawn w w') : Rd w' s A n xs := h.below k.below

def ints (xs : List Int) : List Value := xs.map (Value.int .i64)
theorem ints_length (xs : List Int) : (ints xs).length = xs.length := by simp [ints]
theorem ints_get {xs : List Int} {k : Nat} {x : Int} (h : xs[k]? = some x) : (ints xs)[k]? = some (.int .i64 x) := by simp [ints, h]
theorem ints_append (xs ys : List Int) : ints (xs ++ ys) = ints xs ++ ints ys := by simp [ints]
theorem ints_set (xs : List Int) (k : Nat) (x : Int) : ints (xs.set k x) = (ints xs).set k (.int .i64 x) := by simp [ints, List.map_set]
theorem ints_inj {xs ys : List Int} (h : ints xs = ints ys) : xs = ys := by
  induction xs generalizing ys with
  | nil => cases ys with
    | nil => rfl
    | cons y r => simp [ints] at h
  | cons x r ih => cases ys with
    | nil => simp [ints] at h
    | cons y q =>
      simp only [ints, List.map_cons, List.cons.injEq, Value.int.injEq, true_and] at h
      rw [h.1, ih h.2]

theorem drop_cons {α : Type} {xs : List α} {k : Nat} (hk : k < xs.length) : ∃ x, xs[k]? = some x ∧ xs.drop k = x :: xs.drop (k + 1) :=
  ⟨xs[k], List.getElem?_eq_getElem hk, List.drop_eq_getElem_cons hk⟩

theorem take_snoc_get {α : Type} {xs : List α} {k : Nat} {x : α} (h : xs[k]? = some x) : xs.take (k + 1) = xs.take k ++ [x] := by
  obtain ⟨hk, he⟩ := List.getElem?_eq_some_iff.1 h
  rw [List.take_succ_eq_append_getElem hk, he]

theorem Rd.int {w : World} {A : Option Addr} {n k : Nat} {xs : List Int} (h : Rd w 1 A n (ints xs)) (hk : k < n) :
    ∃ b o x, A = some ⟨b, o, none⟩ ∧ xs[k]? = some x ∧ xs.drop k = x :: xs.drop (k + 1) ∧ w.cell? ⟨b, o + k, none⟩ = some (.int .i64 x) := by
  obtain ⟨b, o, e, hc⟩ := h.pos (by omega)
  have hl := h.len
  rw [ints_length, Nat.mul_one] at hl
  obtain ⟨x, h1, h2⟩ := drop_cons (xs := xs) (k := k) (by omega)
  exact ⟨b, o, x, e, h1, h2, hc k _ (ints_get h1)⟩
theorem Rd.len_int {w : World} {A : Option Addr} {n : Nat} {xs : List Int} (h : Rd w 1 A n (ints xs)) : xs.length = n := by
  have hl := h.len
  rwa [ints_length, Nat.mul_one] at hl

/-! ### Own rows -/
theorem own_rd {w : World} {base e s n c : Nat} {A : Option Addr} {xs : List Value} (h : w.ownsRow base e s (.slice A n c) n xs) : Rd w s A n xs := by
  rcases h.2 with ⟨hv, hn⟩ | ⟨g, cap, cur, hv, hb, hg, hnc, hcm, hcs, htake⟩
  · exact ⟨h.1, by omega, fun h0 => by omega⟩
  · injection hv with hA _ hc
    subst hA hc
    refine ⟨h.1, by simp only [maxLen] at hcm; omega, fun _ => ⟨g, 0, rfl, fun i u hu => ?_⟩⟩
    have := h.cells (g := g) rfl i u hu
    have hadd : (⟨g, 0, none⟩ : Addr).add i = ⟨g, 0 + i, none⟩ := by unfold Addr.add; split <;> simp_all
    rwa [hadd] at this

/-- What an own row gives at an index. -/
theorem own_at {w : World} {base e n c k : Nat} {A : Option Addr} {xs : List Value} (h : w.ownsRow base e 1 (.slice A n c) n xs) (hk : k < n) :
    ∃ g u, A = some ⟨g, 0, none⟩ ∧ base ≤ g ∧ g < w.heap.size ∧ xs[k]? = some u ∧ w.cell? ⟨g, k, none⟩ = some u ∧ w.frozen? ⟨g, k, none⟩ = false := by
  rcases h.2 with ⟨hv, hn⟩ | ⟨g, cap, cur, hv, hb, hg, hnc, hcm, hcs, htake⟩
  · omega
  · have hv' := hv
    injection hv with hA _ hc
    subst hA hc
    have hl := h.1
    have hx : xs[k]? = some (xs[k]'(by omega)) := List.getElem?_eq_getElem _
    exact ⟨g, _, rfl, hb, (Array.getElem?_eq_some_iff.1 hg).1, hx, (h.cellAt k (by omega)).trans hx, h.frozenAt k⟩
theorem own_int_at {w : World} {base e n c k : Nat} {A : Option Addr} {xs : List Int} (h : w.ownsRow base e 1 (.slice A n c) n (ints xs)) (hk : k < n) :
    ∃ g x, A = some ⟨g, 0, none⟩ ∧ base ≤ g ∧ g < w.heap.size ∧ xs[k]? = some x ∧ w.cell? ⟨g, k, none⟩ = some (.int .i64 x) ∧ w.frozen? ⟨g, k, none⟩ = false := by
  obtain ⟨g, u, h1, h2, h3, h4, h5, h6⟩ := own_at h hk
  have hl := h.1
  rw [ints_length, Nat.mul_one] at hl
  have hx : xs[k]? = some (xs[k]'(by omega)) := List.getElem?_eq_getElem _
  rw [ints_get hx] at h4
  injection h4 with h4
  subst h4
  exact ⟨g, _, h1, h2, h3, hx, h5, h6⟩
theorem own_len {w : World} {base e n : Nat} {v : Value} {xs : List Int} (h : w.ownsRow base e 1 v n (ints xs)) : xs.length = n := by
  have hl := h.1
  rwa [ints_length, Nat.mul_one] at hl
theorem own_set {w : World} {base e g n c k : Nat} {xs : List Int} (h : w.ownsRow base e 1 (.slice (some ⟨g, 0, none⟩) n c) n (ints xs)) (x : Int) :
    (w.setCell ⟨g, k, none⟩ (.int .i64 x)).ownsRow base e 1 (.slice (some ⟨g, 0, none⟩) n c) n (ints (xs.set k x)) := by
  rw [ints_set]; exact (h.stored k _).1
theorem own_below {w w' : World} {base e s n : Nat} {v : Value} {xs : List Value} (h : w.ownsRow base e s v n xs) (k : Below w.heap.size w w') : w'.ownsRow base e s v n xs :=
  h.kept ⟨k.os, k.tape, k.output, k.size, fun i hi _ => k.block i hi⟩ (row := none) (by cases v.ownBlock <;> simp)
theorem own_base {w : World} {base base' e s n : Nat} {v : Value} {xs : List Value} (h : w.ownsRow base e s v n xs) (hb : base' ≤ base) : w.ownsRow base' e s v n xs := by
  refine ⟨h.1, ?_⟩
  rcases h.2 with h1 | ⟨g, cap, cur, a, b, r⟩
  · exact .inl h1
  · exact .inr ⟨g, cap, cur, a, by omega, r⟩
theorem own_made (w : World) (base e n : Nat) (z : Value) (hb : base ≤ w.heap.size) (hm : n ≤ 9223372036854775807) :
    (w.alloc (.cells (madeCells #[z] n) e)).ownsRow base e 1 (.slice (some ⟨w.heap.size, 0, none⟩) n n) n (List.replicate n z) := by
  have := World.ownsRow_lit (base := base) (e := e) (size := 1) w (madeCells #[z] n) n hb (by unfold maxLen; omega) (by simp [size_madeCells])
  rwa [toList_madeCells_one] at this
theorem own_empty (w : World) (base e : Nat) (hb : base ≤ w.heap.size) : (w.alloc (.cells #[] e)).ownsRow base e 1 (.slice (some ⟨w.heap.size, 0, none⟩) 0 0) 0 [] := by
  have := World.ownsRow_lit (base := base) (e := e) (size := 1) w #[] 0 hb (by unfold maxLen; omega) (by simp)
  simpa using this
theorem cell_new1 (w : World) (v : Value) (e : TypeId) : (w.alloc (.cells #[v] e)).cell? ⟨w.heap.size, 0, none⟩ = some v := by simp
theorem ints_replicate (n : Nat) (x : Int) : ints (List.replicate n x) = List.replicate n (.int .i64 x) := by simp [ints]

/-- One step of a copy. -/
theorem copy_stepG {α : Type} (d : α) (xs : List α) (n k : Nat) (x : α) (hl : xs.length = n) (hx : xs[k]? = some x) (hk : k < n) :
    (xs.take k ++ List.replicate (n - k) d).set k x = xs.take (k + 1) ++ List.replicate (n - (k + 1)) d := by
  subst hl
  have hx' : xs[k] = x := by rw [List.getElem?_eq_getElem hk] at hx; exact Option.some.inj hx
  rw [List.set_append, if_neg (by simp; omega), List.take_succ_eq_append_getElem hk, hx']
  have e : xs.length - k = (xs.length - (k + 1)) + 1 := by omega
  rw [e, List.replicate_succ]
  have e2 : k - (List.take k xs).length = 0 := by simp; omega
  rw [e2]
  simp
theorem copy_step (xs : List Int) (n k : Nat) (x : Int) (hl : xs.length = n) (hx : xs[k]? = some x) (hk : k < n) :
    (xs.take k ++ List.replicate (n - k) 0).set k x = xs.take (k + 1) ++ List.replicate (n - (k + 1)) 0 := copy_stepG 0 xs n k x hl hx hk

def bools (xs : List Bool) : List Value := xs.map Value.bool
theorem bools_length (xs : List Bool) : (bools xs).length = xs.length := by simp [bools]
theorem bools_replicate (n : Nat) (x : Bool) : bools (List.replicate n x) = List.replicate n (.bool x) := by simp [bools]
theorem own_bool_at {w : World} {base e n c k : Nat} {A : Option Addr} {xs : List Bool} (h : w.ownsRow base e 1 (.slice A n c) n (bools xs)) (hk : k < n) :
    ∃ g x, A = some ⟨g, 0, none⟩ ∧ base ≤ g ∧ g < w.heap.size ∧ xs[k]? = some x ∧ w.cell? ⟨g, k, none⟩ = some (.bool x) ∧ w.frozen? ⟨g, k, none⟩ = false := by
  obtain ⟨g, u, h1, h2, h3, h4, h5, h6⟩ := own_at h hk
  have hl := h.1
  rw [bools_length, Nat.mul_one] at hl
  have hx : xs[k]? = some (xs[k]'(by omega)) := List.getElem?_eq_getElem _
  have h4' : (bools xs)[k]? = some (.bool (xs[k]'(by omega))) := by simp [bools, hx]
  rw [h4'] at h4
  injection h4 with h4
  subst h4
  exact ⟨g, _, h1, h2, h3, hx, h5, h6⟩
theorem own_set_bool {w : World} {base e g n c k : Nat} {xs : List Bool} (h : w.ownsRow base e 1 (.slice (some ⟨g, 0, none⟩) n c) n (bools xs)) (x : Bool) :
    (w.setCell ⟨g, k, none⟩ (.bool x)).ownsRow base e 1 (.slice (some ⟨g, 0, none⟩) n c) n (bools (xs.set k x)) := by
  have e : bools (xs.set k x) = (bools xs).set k (.bool x) := by simp [bools, List.map_set]
  rw [e]; exact (h.stored k _).1

/-! ### A slice of integers that came in (the shells' IsRow) -/
def IsRow (k : IntKind) (w : World) (a : Option Addr) (len cap : Nat) (zs : List Int) : Prop :=
  (a = none ∧ len = 0 ∧ cap = 0 ∧ zs = []) ∨
  ∃ x, a = some x ∧ len ≤ cap ∧ cap ≤ maxLen ∧ zs.length = cap ∧ (∀ i, i < zs.length → w.cell? (x.add i) = some (.int k (zs.getD i 0))) ∧ ∀ n ∈ zs, (Lit.int k n).wf = true

theorem spot_none {w : World} {x : Addr} {v : Value} (h : w.cell? x = some v) : x.spot = none := by
  unfold World.cell? at h
  split at h
  · split at h
    · cases h
    · rename_i hs; simpa using hs
  · cases h
theorem IsRow.rd {w : World} {a : Option Addr} {len cap : Nat} {zs : List Int} (h : IsRow .i64 w a len cap zs) : Rd w 1 a len (ints (zs.take len)) := by
  rcases h with ⟨rfl, rfl, rfl, rfl⟩ | ⟨x, rfl, h1, h2, h3, h4, h5⟩
  · exact ⟨rfl, by omega, fun h => by omega⟩
  · unfold maxLen at h2
    refine ⟨by simp [ints]; omega, by omega, fun hn => ?_⟩
    have h0 := h4 0 (by omega)
    have hadd0 : x.add 0 = x := by simp [Addr.add]
    rw [hadd0] at h0
    obtain ⟨b, o, sp⟩ := x
    obtain rfl : sp = none := spot_none h0
    refine ⟨b, o, rfl, fun i u hu => ?_⟩
    have hlen : i < (ints (zs.take len)).length := by
      rcases Nat.lt_or_ge i (ints (zs.take len)).length with h | h
      · exact h
      · rw [List.getElem?_eq_none h] at hu; cases hu
    have hi : i < len := by simp [ints] at hlen; omega
    have hc := h4 i (by omega)
    have hadd : (⟨b, o, none⟩ : Addr).add i = ⟨b, o + i, none⟩ := by unfold Addr.add; split <;> simp_all
    rw [hadd] at hc
    rw [hc, ← hu]
    simp [ints, hi, List.getElem?_eq_getElem (show i < zs.length by omega)]

/-! ### Only one row is written -/
theorem grown_set {a w : World} {g : Nat} (h : a.grownBy w (some g)) (k : Nat) (u : Value) : a.grownBy (w.setCell ⟨g, k, none⟩ u) (some g) :=
  ⟨h.os, h.tape, h.output, by simpa [World.setCell] using h.size, fun i hi hne => (Below.heap_setCell w _ u i (by rintro rfl; exact hne rfl)).trans (h.block i hi hne)⟩
theorem size_set (w : World) (p : Addr) (u : Value) : (w.setCell p u).heap.size = w.heap.size := by simp [World.setCell]

/-- Blocks from lo to below hi may have been written; all others of w are as they were. -/
structure Chg (lo hi : Nat) (w w' : World) : Prop where
  os : w'.os = w.os
  tape : w'.tape = w.tape
  output : w'.output = w.output
  size : w.heap.size ≤ w'.heap.size
  block : ∀ k, k < w.heap.size → (k < lo ∨ hi ≤ k) → w'.heap[k]? = w.heap[k]?
theorem Chg.of_below {lo hi : Nat} {w w' : World} (h : Below w.heap.size w w') : Chg lo hi w w' := ⟨h.os, h.tape, h.output, h.size, fun k hk _ => h.block k hk⟩
theorem Chg.refl (lo hi : Nat) (w : World) : Chg lo hi w w := Chg.of_below (Below.refl _ _)
theorem Chg.trans {lo hi : Nat} {a b c : World} (h : Chg lo hi a b) (k : Chg lo hi b c) : Chg lo hi a c :=
  ⟨k.os.trans h.os, k.tape.trans h.tape, k.output.trans h.output, Nat.le_trans h.size k.size, fun i hi hn => (k.block i (Nat.lt_of_lt_of_le hi h.size) hn).trans (h.block i hi hn)⟩
theorem Chg.mono {lo hi lo' hi' : Nat} {a b : World} (h : Chg lo hi a b) (h1 : lo' ≤ lo) (h2 : hi ≤ hi') : Chg lo' hi' a b :=
  ⟨h.os, h.tape, h.output, h.size, fun i hi hn => h.block i hi (by omega)⟩
theorem Chg.of_grown {lo hi : Nat} {w w' : World} {row : Option Nat} (h : w.grownBy w' row) (hr : ∀ k, row = some k → lo ≤ k ∧ k < hi) : Chg lo hi w w' :=
  ⟨h.os, h.tape, h.output, h.size, fun k hk hn => h.block k hk (fun e => by have := hr k e.symm; omega)⟩
theorem below_chg {B lo hi : Nat} {a w w' : World} (h : Below B a w) (k : Chg lo hi w w') (h1 : B ≤ lo) (h2 : B ≤ w.heap.size) : Below B a w' :=
  ⟨k.os.trans h.os, k.tape.trans h.tape, k.output.trans h.output, Nat.le_trans h.size k.size, fun i hi => (k.block i (by omega) (by omega)).trans (h.block i hi)⟩
theorem own_chg {lo hi : Nat} {w w' : World} {base e s n : Nat} {v : Value} {xs : List Value} (h : w.ownsRow base e s v n xs) (k : Chg lo hi w w')
    (hv : ∀ b, v.ownBlock = some b → b < lo ∨ hi ≤ b) : w'.ownsRow base e s v n xs := by
  refine ⟨h.1, ?_⟩
  rcases h.2 with hn | ⟨g, cap, cur, rfl, hb, hgg, rest⟩
  · exact .inl hn
  · exact .inr ⟨g, cap, cur, rfl, hb, (k.block g (Array.getElem?_eq_some_iff.1 hgg).1 (hv g rfl)).trans hgg, rest⟩

/-! ### Four results -/
theorem results_tmp4 {fn : Func} {t u v x : Tmp} (h : fn.results = #[.tmp t, .tmp u, .tmp v, .tmp x]) (tmps : Array Value) (P : Program) (w : World) :
    (results fn tmps).run P w = .ok (.tuple #[tmps.getD t undef, tmps.getD u undef, tmps.getD v undef, tmps.getD x undef]) w := by simp [results, h]

/-! ### Spelling -/
theorem ret_int {k : IntKind} {a b : Int} (h : a = b) : Ending.returned (.int k a) = .returned (.int k b) := by rw [h]
theorem ret_bool {a b : Bool} (h : a = b) : Ending.returned (.bool a) = .returned (.bool b) := by rw [h]
theorem int_up (x : Int) (h : 0 ≤ x) : ∃ n : Nat, x = n := ⟨x.toNat, by omega⟩

def withinB (n a b : Int) : Bool := decide (a ≤ n) && decide (n ≤ b)
theorem withinB_iff {n a b : Int} : withinB n a b = true ↔ a ≤ n ∧ n ≤ b := by simp [withinB]
theorem withinB_not {n a b : Int} : withinB n a b = false ↔ ¬ (a ≤ n ∧ n ≤ b) := by rw [← withinB_iff]; simp
end Go.Proofs.Ytmgkoldipchljaa

/- Walks: the laws' helpers on []int64: copy, compare, mark, hold. -/
namespace Go.Proofs.Ytmgkoldipchljaa
open Go.RowKit
set_option linter.unusedVariables false

theorem Try.info_i64 : (Try.prog.info? 2).map (fun i => (i.zero, i.size, i.bytes)) = some (some (.int .i64 0), 1, 8) := by kernel_rfl

theorem run_make_i64 (n : Nat) (h : n ≤ 1048576) (w : World) :
    (Instr.makeSlice 31 (.int .i64 (n : Int)) (.int .i64 (n : Int))).run Try.prog w = .ok (.slice (some ⟨w.heap.size, 0, none⟩) n n) (w.alloc (.cells (madeCells #[.int .i64 0] n) 2)) := by
  obtain ⟨i, hi, hz, hs, hb⟩ := info_parts Try.info_i64
  have hr := run_make (P := Try.prog) w 31 2 i (.int .i64 0) Try.underlying31 hi hz .i64 .i64 n n (by omega) (by omega) (by rw [hb]; omega) (by omega)
  rw [hs, Nat.mul_one, Int.toNat_natCast] at hr
  exact hr

/-- The copy of a slice: what it returns. -/
def RetCopy (w : World) (xs : List Int) (e : Ending) (w' : World) : Prop :=
  ∃ A n c, e = .returned (.slice A n c) ∧ w'.ownsRow w.heap.size 2 1 (.slice A n c) n (ints xs) ∧ n ≤ 1048576 ∧ Below w.heap.size w w'

theorem toInt64S_any (A : Option Addr) (n c : Nat) (xs : List Int) (w : World) (h : Rd w 1 A n (ints xs)) (hn : n ≤ 1048576) :
    Calls Try.prog 22 #[.slice A n c] w (RetCopy w xs) := by
  have HN := Lib.hid h.len_int
  have hmk := run_make_i64 n hn
  have hown := own_made w w.heap.size 2 n (.int .i64 0) (Nat.le_refl _) (by omega)
  rw [← ints_replicate] at hown
  have hb0 : Below w.heap.size w (w.alloc (.cells (madeCells #[.int .i64 0] n) 2)) := (Below.refl _ _).alloc (Nat.le_refl _) _
  go_enter Try.func22, Try.ntmps22
  go_wp2
  go_loopw [4] (fun i wr => ∃ k : Nat, k ≤ n ∧ i = .int .i64 k ∧ wr.ownsRow w.heap.size 2 1 (.slice (some ⟨w.heap.size, 0, none⟩) n n) n (ints (xs.take k ++ List.replicate (n - k) 0)) ∧ Below w.heap.size w wr) (fun i _ => n - (intOf i).toNat)
  case atStart => exact ⟨0, Nat.zero_le _, rfl, by simpa using hown, hb0⟩
  case round =>
    obtain ⟨k, hk, rfl, ho, hb⟩ := hrel
    clear hown hb0 hmk
    by_cases hlt : k < n
    · obtain ⟨b, o, x, rfl, hx, hd, hc⟩ := (h.below hb).int hlt
      have HX := Lib.hid hx; clear hx hd
      obtain ⟨g, y, hg, hg1, hg2, hy, hcy, hfy⟩ := own_int_at ho hlt
      obtain rfl : w.heap.size = g := by injection hg with hg; injection hg
      have ho' := own_set (k := k) ho x
      have hb' := hb.setCell (p := ⟨w.heap.size, k, none⟩) (Nat.le_refl _) (.int .i64 x)
      clear hy hg
      go_wp2
      go_roundw
      case rel =>
        refine ⟨k + 1, by omega, by go_num, ?_, hb'⟩
        rw [← copy_step xs n k x HN.out HX.out hlt]
        exact ho'
      case measure => simp [intOf]; omega
    · obtain rfl : k = n := by omega
      go_wp2
      go_ret
      refine ⟨_, _, _, rfl, ?_, hn, hb⟩
      have hl := HN.out
      simpa [← hl] using ho

theorem eqInt64S_any (A A' : Option Addr) (n c n' c' : Nat) (xs ys : List Int) (w : World) (h : Rd w 1 A n (ints xs)) (h' : Rd w 1 A' n' (ints ys)) :
    Calls Try.prog 26 #[.slice A n c, .slice A' n' c'] w fun e w' => e = .returned (.bool (decide (xs = ys))) ∧ ∃ q, w' = w.drewN q := by
  have HN := Lib.hid h.len_int
  have HN' := Lib.hid h'.len_int
  have hm := h.le
  by_cases hl : n = n'
  · subst hl
    go_enter Try.func26, Try.ntmps26
    go_wp2
    go_loopw [5] (fun i wr => ∃ k : Nat, k ≤ n ∧ i = .int .i64 k ∧ (xs = ys ↔ xs.drop k = ys.drop k) ∧ ∃ q, wr = w.drewN q) (fun i _ => n - (intOf i).toNat)
    case atStart => exact ⟨0, Nat.zero_le _, rfl, by simp, 0, rfl⟩
    case round =>
      obtain ⟨k, hk, rfl, hall, q, rfl⟩ := hrel
      have HA := Lib.hid hall; clear hall
      by_cases hlt : k < n
      · obtain ⟨b, o, x, rfl, hx, hd, hc⟩ := h.int hlt
        obtain ⟨b', o', x', rfl, hx', hd', hc'⟩ := h'.int hlt
        clear hx hx'
        have HD := Lib.hid hd; clear hd
        have HD' := Lib.hid hd'; clear hd'
        by_cases hxx : x = x'
        · subst hxx
          go_wp2
          go_quiet (fail)
          go_wp2
          go_roundw
          case rel => exact ⟨k + 1, by omega, by go_num, by rw [HA.out, HD.out, HD'.out]; simp, _, rfl⟩
          case measure => simp [intOf]; omega
        · have hne : (x != x') = true := by simp [hxx]
          go_wp2
          go_quiet (fail)
          go_wp2
          go_ret
          exact ⟨ret_bool (by rw [eq_comm, decide_eq_false_iff_not, HA.out, HD.out, HD'.out]; simp [hxx]), _, World.drewN_drewN _ _ _⟩
      · obtain rfl : k = n := by omega
        go_wp2
        go_ret
        exact ⟨ret_bool (by rw [eq_comm, decide_eq_true_iff, HA.out, List.drop_eq_nil_of_le (by rw [HN.out]; omega), List.drop_eq_nil_of_le (by rw [HN'.out]; omega)]), _, rfl⟩
  · have hne : ((n : Int) != n') = true := by simp; omega
    go_enter Try.func26, Try.ntmps26
    go_wp2
    go_ret
    exact ⟨ret_bool (by rw [eq_comm, decide_eq_false_iff_not]; rintro rfl; exact hl (HN.out.symm.trans HN'.out)), 0, rfl⟩

/-- marking: the slice holds k, k+1, .. -/
def seqFrom (k : Int) : Nat → List Int
  | 0 => []
  | n + 1 => k :: seqFrom (k + 1) n
theorem seqFrom_length (k : Int) (n : Nat) : (seqFrom k n).length = n := by
  induction n generalizing k with
  | zero => rfl
  | succ n ih => simp [seqFrom, ih]
theorem seqFrom_get (k : Int) (n i : Nat) (h : i < n) : (seqFrom k n)[i]? = some (k + i) := by
  induction n generalizing k i with
  | zero => omega
  | succ n ih =>
    cases i with
    | zero => simp [seqFrom]
    | succ i => simp only [seqFrom, List.getElem?_cons_succ]; rw [ih _ _ (by omega)]; simp; omega

theorem seqFrom_snoc (k : Int) (j : Nat) : seqFrom k (j + 1) = seqFrom k j ++ [k + j] := by
  induction j generalizing k with
  | zero => simp [seqFrom]
  | succ j ih => rw [seqFrom, ih, seqFrom]; simp; omega
theorem seq_step (k : Int) (j : Nat) (xs : List Int) (h : j < xs.length) : (seqFrom k j ++ xs.drop j).set j (k + j) = seqFrom k (j + 1) ++ xs.drop (j + 1) := by
  rw [List.set_append, if_neg (by simp [seqFrom_length]), seqFrom_snoc, List.drop_eq_getElem_cons h, seqFrom_length, Nat.sub_self, List.set_cons_zero, List.append_assoc]
  rfl
/-- Held: are the marks still there? -/
def heldF (k : Int) : List Int → Int
  | [] => k
  | x :: r => if x = k then heldF (k + 1) r else -1
theorem heldF_seq (k : Int) (n : Nat) : heldF k (seqFrom k n) = k + n := by
  induction n generalizing k with
  | zero => simp [seqFrom, heldF]
  | succ n ih => simp only [seqFrom, heldF, if_true]; rw [ih]; omega

/-- One number is appended to an own row. -/
theorem app_i64 {ops : Array Oper} {rest : List Oper} {o : Oper} {a : Act} {Q : Exit → Act → World → Prop} (w : World) (hgd : o.guard = none) (s x : Operand)
    (ho : o.op = .call { callee := .builtin .append, args := #[s, x], argTypes := #[31, 31] }) {base n c : Nat} {A : Option Addr} {xs : List Int}
    (hs : a.eval s = .slice A n c) (hown : w.ownsRow base 2 1 (.slice A n c) n (ints xs)) {ad : Addr} {x0 : Int} (hx : a.eval x = .slice (some ad) 1 1)
    (hc : w.cell? ad = some (.int .i64 x0)) (hn : n ≤ 1099511627776) (hbase : base ≤ w.heap.size)
    (h : ∀ A' c' w', w'.ownsRow base 2 1 (.slice A' (n + 1) c') (n + 1) (ints (xs ++ [x0])) → w.grownBy w' (Value.slice A n c).ownBlock → wpList Try.prog ops Q rest (a.put o.dst (.slice A' (n + 1) c')) w') :
    wpList Try.prog ops Q (o :: rest) a w := by
  obtain ⟨i, hi, hz, hs1, hb1⟩ := info_parts Try.info_i64
  refine wpList_append_own w hgd s x 31 ho base 2 i (.int .i64 0) 1 8 Try.underlying31 hi hz hs1 hb1 rfl (by decide) (.slice A n c) n (ints xs) hs hown ad 1 1 [.int .i64 x0] hx rfl ?_ ?_ (by unfold maxLen; omega) (by omega) hbase ?_
  · intro j u hu
    have hj : j = 0 := by
      rcases j with _ | j
      · rfl
      · simp at hu
    subst hj
    have hadd : ad.add 0 = ad := by simp [Addr.add]
    rw [hadd, hc]
    simpa using hu
  · intro u hu
    simp at hu
    subst hu
    rfl
  · intro v' w' h1 h2 _
    rcases h1.2 with ⟨rfl, h0⟩ | ⟨g, cap, cur, rfl, _⟩
    · omega
    · refine h _ _ w' ?_ h2
      rw [ints_append]
      exact h1
theorem below_app {B base n c e : Nat} {w wr w1 : World} {A : Option Addr} {xs : List Value} {o : Obj} (hb : Below B w wr) (hB : B ≤ wr.heap.size) (hbase : B ≤ base) (hown : wr.ownsRow base e 1 (.slice A n c) n xs)
    (hg : (wr.alloc o).grownBy w1 (Value.slice A n c).ownBlock) : Below B w w1 :=
  (hb.alloc hB o).grown hg (by simp; omega) (fun k hk => Nat.le_trans hbase (hown.lt k hk).1)
theorem eqInt64S_below (A A' : Option Addr) (n c n' c' : Nat) (xs ys : List Int) (w : World) (h : Rd w 1 A n (ints xs)) (h' : Rd w 1 A' n' (ints ys)) :
    Calls Try.prog 26 #[.slice A n c, .slice A' n' c'] w fun e w' => e = .returned (.bool (decide (xs = ys))) ∧ Below w.heap.size w w' :=
  (eqInt64S_any A A' n c n' c' xs ys w h h').mono fun _ _ ⟨h1, q, h2⟩ => ⟨h1, by rw [h2]; exact below_drewN' _ _ _⟩
/-- Result: new integers and a code. -/
def RetI (w : World) (r : List Int × Int) (e : Ending) (w' : World) : Prop :=
  ∃ A n c, e = .returned (.tuple #[.slice A n c, .int .i64 r.2]) ∧ w'.ownsRow w.heap.size 2 1 (.slice A n c) n (ints r.1) ∧ n ≤ 1048576 ∧ Below w.heap.size w w'
theorem RetI.nil (w w' : World) (code : Int) (h : Below w.heap.size w w') : RetI w ([], code) (.returned (.tuple #[.slice none 0 0, .int .i64 code])) w' :=
  ⟨none, 0, 0, rfl, World.ownsRow_nil _ _ _ _, by omega, h⟩

end Go.Proofs.Ytmgkoldipchljaa

/- Plain memory: slices of structs (s cells an element): no Go function in sight. -/
namespace Go.Proofs.Ytmgkoldipchljaa
open Go.RowKit
set_option linter.unusedVariables false

section
variable {α : Type} {f : α → List Value} {s : Nat} (hf : ∀ x, (f x).length = s)
include hf
theorem flat_len (xs : List α) : (xs.flatMap f).length = xs.length * s := by
  induction xs with
  | nil => simp
  | cons x r ih => rw [List.flatMap_cons, List.length_append, ih, hf, List.length_cons, Nat.add_mul]; omega
theorem flat_get {xs : List α} {k : Nat} {x : α} (h : xs[k]? = some x) {j : Nat} (hj : j < s) : (xs.flatMap f)[k * s + j]? = (f x)[j]? := by
  induction xs generalizing k with
  | nil => simp at h
  | cons y r ih =>
    rw [List.flatMap_cons]
    cases k with
    | zero =>
      simp only [List.getElem?_cons_zero, Option.some.injEq] at h
      subst h
      rw [List.getElem?_append_left (by rw [hf]; omega), Nat.zero_mul, Nat.zero_add]
    | succ k =>
      simp only [List.getElem?_cons_succ] at h
      rw [List.getElem?_append_right (by rw [hf, Nat.add_mul]; omega), hf, ← ih h]
      congr 1
      rw [Nat.add_mul]; omega
theorem flat_take (xs : List α) (k : Nat) : (xs.flatMap f).take (k * s) = (xs.take k).flatMap f := by
  induction xs generalizing k with
  | nil => simp
  | cons y r ih =>
    cases k with
    | zero => simp
    | succ k =>
      rw [List.flatMap_cons, List.take_append, hf, List.take_of_length_le (by rw [hf, Nat.add_mul]; omega), List.take_succ_cons, List.flatMap_cons, ← ih k]
      congr 2
      rw [Nat.add_mul]; omega
theorem flat_drop (xs : List α) (k : Nat) : (xs.flatMap f).drop (k * s) = (xs.drop k).flatMap f := by
  induction xs generalizing k with
  | nil => simp
  | cons y r ih =>
    cases k with
    | zero => simp
    | succ k =>
      rw [List.flatMap_cons, List.drop_append, hf, List.drop_of_length_le (by rw [hf, Nat.add_mul]; omega), List.drop_succ_cons, ← ih k, List.nil_append]
      congr 1
      rw [Nat.add_mul]; omega
/-- Cells are stored from a place on. -/
def putL (cs : List Value) (i : Nat) : List Value → List Value
  | [] => cs
  | v :: r => putL (cs.set i v) (i + 1) r
omit hf in
theorem putL_eq (vs : List Value) : ∀ (cs : List Value) (i : Nat), i + vs.length ≤ cs.length → putL cs i vs = cs.take i ++ vs ++ cs.drop (i + vs.length) := by
  induction vs with
  | nil => intro cs i h; simp [putL]
  | cons v r ih =>
    intro cs i h
    rw [List.length_cons] at h
    rw [putL, ih _ _ (by rw [List.length_set]; omega), List.length_cons]
    have h1 : (cs.set i v).take (i + 1) = cs.take i ++ [v] := by
      rw [List.take_succ_eq_append_getElem (by rw [List.length_set]; omega), List.getElem_set_self]
      congr 1
      rw [List.take_set, List.set_eq_of_length_le (by rw [List.length_take]; omega)]
    have h2 : (cs.set i v).drop (i + 1 + r.length) = cs.drop (i + (r.length + 1)) := by
      rw [List.drop_set, if_pos (by omega), show i + 1 + r.length = i + (r.length + 1) from by omega]
    rw [h1, h2]
    simp
theorem flat_put (xs : List α) (k : Nat) (x : α) (hk : k < xs.length) : putL (xs.flatMap f) (k * s) (f x) = (xs.set k x).flatMap f := by
  have hle : k * s + s ≤ xs.length * s := by
    have := Nat.mul_le_mul_right s (show k + 1 ≤ xs.length by omega)
    rw [Nat.add_mul] at this; omega
  rw [putL_eq _ _ _ (by rw [hf, flat_len hf]; exact hle), hf, flat_take hf, show k * s + s = (k + 1) * s from by rw [Nat.add_mul]; omega, flat_drop hf, List.set_eq_take_append_cons_drop, if_pos hk]
  simp
omit hf in
theorem flat_replicate (n : Nat) (x : α) (v : Value) (h : f x = List.replicate s v) : (List.replicate n x).flatMap f = List.replicate (n * s) v := by
  induction n with
  | zero => simp
  | succ n ih => rw [List.replicate_succ, List.flatMap_cons, ih, h, List.replicate_append_replicate]; congr 1; rw [Nat.add_mul]; omega
end
/-- The world behind such a store. -/
def putW (w : World) (g i : Nat) : List Value → World
  | [] => w
  | v :: r => putW (w.setCell ⟨g, i, none⟩ v) g (i + 1) r
theorem own_put {base e s g n c : Nat} (vs : List Value) : ∀ {w : World} {xs : List Value} (i : Nat), w.ownsRow base e s (.slice (some ⟨g, 0, none⟩) n c) n xs → (putW w g i vs).ownsRow base e s (.slice (some ⟨g, 0, none⟩) n c) n (putL xs i vs) := by
  induction vs with
  | nil => intro w xs i h; exact h
  | cons v r ih => intro w xs i h; exact ih (i + 1) (h.stored i v).1
theorem put_grown {g : Nat} (vs : List Value) : ∀ {a w : World} (i : Nat), a.grownBy w (some g) → a.grownBy (putW w g i vs) (some g) := by
  induction vs with
  | nil => intro a w i h; exact h
  | cons v r ih => intro a w i h; exact ih (i + 1) (grown_set h i v)
theorem put_below {B g : Nat} (vs : List Value) : ∀ {a w : World} (i : Nat), Below B a w → B ≤ g → Below B a (putW w g i vs) := by
  induction vs with
  | nil => intro a w i h _; exact h
  | cons v r ih => intro a w i h hg; exact ih (i + 1) (h.setCell hg v) hg
theorem put_size {g : Nat} (vs : List Value) : ∀ {w : World} (i : Nat), (putW w g i vs).heap.size = w.heap.size := by
  induction vs with
  | nil => intro w i; rfl
  | cons v r ih => intro w i; exact (ih (i + 1)).trans (size_set _ _ _)
theorem put_chg {lo hi g : Nat} (vs : List Value) : ∀ {a w : World} (i : Nat), Chg lo hi a w → lo ≤ g → g < hi → Chg lo hi a (putW w g i vs) := by
  induction vs with
  | nil => intro a w i h _ _; exact h
  | cons v r ih =>
    intro a w i h h1 h2
    refine ih (i + 1) ?_ h1 h2
    exact h.trans (Chg.of_grown (grown_set (World.grownBy.refl w (some g)) i v) (fun k e => by injection e with e; omega))

/-- What is read of an element. -/
theorem Rd.flat {α : Type} {f : α → List Value} {s : Nat} (hf : ∀ x, (f x).length = s) (hs : 0 < s) {w : World} {A : Option Addr} {n k : Nat} {xs : List α} (h : Rd w s A n (xs.flatMap f)) (hk : k < n) :
    ∃ b o x, A = some ⟨b, o, none⟩ ∧ xs[k]? = some x ∧ xs.drop k = x :: xs.drop (k + 1) ∧ ∀ j u, (f x)[j]? = some u → w.cell? ⟨b, o + (k * s + j), none⟩ = some u := by
  obtain ⟨b, o, e, hc⟩ := h.pos (by omega)
  have hl := h.len
  rw [flat_len hf] at hl
  have hl := Nat.eq_of_mul_eq_mul_right hs hl
  obtain ⟨x, h1, h2⟩ := drop_cons (xs := xs) (k := k) (by omega)
  refine ⟨b, o, x, e, h1, h2, fun j u hu => hc _ _ ?_⟩
  rw [flat_get hf h1 (by have := (List.getElem?_eq_some_iff.1 hu).1; rw [hf] at this; exact this)]
  exact hu
theorem Rd.len_flat {α : Type} {f : α → List Value} {s : Nat} (hf : ∀ x, (f x).length = s) (hs : 0 < s) {w : World} {A : Option Addr} {n : Nat} {xs : List α} (h : Rd w s A n (xs.flatMap f)) : xs.length = n := by
  have hl := h.len
  rw [flat_len hf] at hl
  exact Nat.eq_of_mul_eq_mul_right hs hl
theorem own_len_flat {α : Type} {f : α → List Value} {s : Nat} (hf : ∀ x, (f x).length = s) (hs : 0 < s) {w : World} {base e n : Nat} {v : Value} {xs : List α} (h : w.ownsRow base e s v n (xs.flatMap f)) : xs.length = n := by
  have hl := h.1
  rw [flat_len hf] at hl
  exact Nat.eq_of_mul_eq_mul_right hs hl
/-- What an own row of structs gives at an index. -/
theorem own_flat {α : Type} {f : α → List Value} {s : Nat} (hf : ∀ x, (f x).length = s) (hs : 0 < s) {w : World} {base e n c k : Nat} {A : Option Addr} {xs : List α} (h : w.ownsRow base e s (.slice A n c) n (xs.flatMap f)) (hk : k < n) :
    ∃ g x, A = some ⟨g, 0, none⟩ ∧ base ≤ g ∧ g < w.heap.size ∧ xs[k]? = some x ∧ xs.drop k = x :: xs.drop (k + 1) ∧ (∀ j u, (f x)[j]? = some u → w.cell? ⟨g, k * s + j, none⟩ = some u) ∧ (∀ j, w.frozen? ⟨g, j, none⟩ = false) := by
  have hl := own_len_flat hf hs h
  rcases h.2 with ⟨hv, hn⟩ | ⟨g, cap, cur, hv, hb, hg, hnc, hcm, hcs, htake⟩
  · omega
  · injection hv with hA _ hc
    subst hA hc
    obtain ⟨x, h1, h2⟩ := drop_cons (xs := xs) (k := k) (by omega)
    refine ⟨g, x, rfl, hb, (Array.getElem?_eq_some_iff.1 hg).1, h1, h2, fun j u hu => ?_, fun j => h.frozenAt j⟩
    have hj : j < s := by have := (List.getElem?_eq_some_iff.1 hu).1; rw [hf] at this; exact this
    have hlt : k * s + j < n * s := by
      have := Nat.mul_le_mul_right s (show k + 1 ≤ n by omega)
      rw [Nat.add_mul] at this; omega
    rw [h.cellAt _ hlt, flat_get hf h1 hj, hu]
/-- A new row of zeros. -/
theorem made_zero (z : Array Value) (v : Value) (m : Nat) (hz : 0 < z.size) (h : ∀ i, i < z.size → z[i]! = v) : (madeCells z m).toList = List.replicate m v := by
  unfold madeCells
  refine List.ext_getElem? (fun i => ?_)
  by_cases hi : i < m
  · simp [hi, h _ (Nat.mod_lt i hz)]
  · simp [hi]
theorem own_madeS (w : World) (base e n s : Nat) (z : Array Value) (v : Value) (hz : 0 < z.size) (h : ∀ i, i < z.size → z[i]! = v) (hb : base ≤ w.heap.size) (hm : n ≤ 9223372036854775807) :
    (w.alloc (.cells (madeCells z (n * s)) e)).ownsRow base e s (.slice (some ⟨w.heap.size, 0, none⟩) n n) n (List.replicate (n * s) v) := by
  have := World.ownsRow_lit (base := base) (e := e) (size := s) w (madeCells z (n * s)) n hb (by unfold maxLen; omega) (by simp [size_madeCells])
  rwa [made_zero z v (n * s) hz h] at this

theorem cell_top (w : World) (cs : Array Value) (t : TypeId) {b j : Nat} {v : Value} (hb : b = w.heap.size) (hv : cs[j]? = some v) : (w.alloc (.cells cs t)).cell? ⟨b, j, none⟩ = some v := by
  subst hb
  have h : (w.alloc (.cells cs t)).heap[w.heap.size]? = some (.cells cs t) := by show (w.heap.push _)[w.heap.size]? = _; simp
  simp only [World.cell?, h]
  simpa using hv
theorem cell_under (w : World) (o : Obj) {b j : Nat} {v : Value} (hb : b < w.heap.size) (h : w.cell? ⟨b, j, none⟩ = some v) : (w.alloc o).cell? ⟨b, j, none⟩ = some v :=
  (((Below.refl _ w).alloc (Nat.le_refl _) o).cell (p := ⟨b, j, none⟩) hb).trans h
theorem fz_top (w : World) (cs : Array Value) (t : TypeId) {b j : Nat} (hb : b = w.heap.size) : (w.alloc (.cells cs t)).frozen? ⟨b, j, none⟩ = false := by
  subst hb
  have h : (w.alloc (.cells cs t)).heap[w.heap.size]? = some (.cells cs t) := by show (w.heap.push _)[w.heap.size]? = _; simp
  unfold World.frozen?
  simp only [h]
  simp
theorem fz_under (w : World) (o : Obj) {b j : Nat} (hb : b < w.heap.size) (h : w.frozen? ⟨b, j, none⟩ = false) : (w.alloc o).frozen? ⟨b, j, none⟩ = false :=
  (((Below.refl _ w).alloc (Nat.le_refl _) o).frozen (p := ⟨b, j, none⟩) hb).trans h
theorem chg_cell {lo hi : Nat} {W W' : World} (h : Chg lo hi W W') {b i : Nat} {v : Value} (hb : b < lo ∨ hi ≤ b) (hc : W.cell? ⟨b, i, none⟩ = some v) : W'.cell? ⟨b, i, none⟩ = some v := by
  have hlt : b < W.heap.size := by
    rcases Nat.lt_or_ge b W.heap.size with h | h
    · exact h
    · exfalso
      unfold World.cell? at hc
      rw [Array.getElem?_eq_none h] at hc
      cases hc
  rw [← hc]
  exact World.cell?_of_block (h.block b hlt (by omega))
theorem zero2 (v : Value) (i : Nat) (h : i < (#[v, v] : Array Value).size) : (#[v, v] : Array Value)[i]! = v := by
  have : i = 0 ∨ i = 1 := by simp at h; omega
  rcases this with rfl | rfl <;> rfl
/-! ### Winds -/
def windC (p : Int × Int) : List Value := [.int .i64 p.1, .int .i64 p.2]
theorem windC_len (p : Int × Int) : (windC p).length = 2 := rfl
def winds (xs : List (Int × Int)) : List Value := xs.flatMap windC
theorem Rd.wind {w : World} {A : Option Addr} {n k : Nat} {xs : List (Int × Int)} (h : Rd w 2 A n (winds xs)) (hk : k < n) :
    ∃ b o x y, A = some ⟨b, o, none⟩ ∧ xs[k]? = some (x, y) ∧ xs.drop k = (x, y) :: xs.drop (k + 1) ∧ w.cell? ⟨b, o + k * 2, none⟩ = some (.int .i64 x) ∧ w.cell? ⟨b, o + k * 2 + 1, none⟩ = some (.int .i64 y) := by
  obtain ⟨b, o, ⟨x, y⟩, e, h1, h2, h3⟩ := Rd.flat windC_len (by decide) h hk
  exact ⟨b, o, x, y, e, h1, h2, h3 0 _ rfl, h3 1 _ rfl⟩
theorem Rd.len_wind {w : World} {A : Option Addr} {n : Nat} {xs : List (Int × Int)} (h : Rd w 2 A n (winds xs)) : xs.length = n := Rd.len_flat windC_len (by decide) h
theorem own_wind_at {w : World} {base e n c k : Nat} {A : Option Addr} {xs : List (Int × Int)} (h : w.ownsRow base e 2 (.slice A n c) n (winds xs)) (hk : k < n) :
    ∃ g x y, A = some ⟨g, 0, none⟩ ∧ base ≤ g ∧ g < w.heap.size ∧ xs[k]? = some (x, y) ∧ xs.drop k = (x, y) :: xs.drop (k + 1) ∧ w.cell? ⟨g, k * 2, none⟩ = some (.int .i64 x) ∧ w.cell? ⟨g, k * 2 + 1, none⟩ = some (.int .i64 y) ∧
      w.frozen? ⟨g, k * 2, none⟩ = false ∧ w.frozen? ⟨g, k * 2 + 1, none⟩ = false := by
  obtain ⟨g, ⟨x, y⟩, e, h1, h2, h3, h4, h5, h6⟩ := own_flat windC_len (by decide) h hk
  exact ⟨g, x, y, e, h1, h2, h3, h4, h5 0 _ rfl, h5 1 _ rfl, h6 _, h6 _⟩
theorem own_wind_set {w : World} {base e g n c k : Nat} {xs : List (Int × Int)} (h : w.ownsRow base e 2 (.slice (some ⟨g, 0, none⟩) n c) n (winds xs)) (hk : k < n) (x y : Int) :
    ((w.setCell ⟨g, k * 2, none⟩ (.int .i64 x)).setCell ⟨g, k * 2 + 1, none⟩ (.int .i64 y)).ownsRow base e 2 (.slice (some ⟨g, 0, none⟩) n c) n (winds (xs.set k (x, y))) := by
  have h1 := own_put (windC (x, y)) (k * 2) h
  unfold winds at h1
  rw [flat_put windC_len xs k (x, y) (by rw [own_len_flat windC_len (by decide) h]; exact hk)] at h1
  exact h1
end Go.Proofs.Ytmgkoldipchljaa

/- Plain functions and facts of the fleets chapter: no Go in sight. -/
namespace Go.Proofs.Ytmgkoldipchljaa
open Go.RowKit
set_option linter.unusedVariables false

def rowB (xs : List Int) (many most : Int) : Bool := xs.all (fun x => withinB x 0 most) && ((xs.length : Int) == many)

/-- Is the list a permutation of low .. low + n - 1 (seen: which ones have been met)? -/
def permF (low : Int) (n : Nat) : List Int → List Bool → Bool
  | [], _ => true
  | x :: r, seen => if withinB x low (low + n - 1) then (if seen.getD (x - low).toNat false then false else permF low n r (seen.set (x - low).toNat true)) else false
def isPermB (low : Int) (xs : List Int) : Bool := permF low xs.length xs (List.replicate xs.length false)
theorem permF_mem {low : Int} {n : Nat} {xs : List Int} {seen : List Bool} (h : permF low n xs seen = true) : ∀ x ∈ xs, low ≤ x ∧ x ≤ low + n - 1 := by
  induction xs generalizing seen with
  | nil => intro x hx; cases hx
  | cons y r ih =>
    unfold permF at h
    split at h
    · rename_i h1
      split at h
      · cases h
      · intro x hx
        rcases List.mem_cons.1 hx with rfl | hx
        · exact withinB_iff.1 h1
        · exact ih h x hx
    · cases h

def orderB (xs : List Int) : Bool := withinB (xs.length : Int) 1 16 && isPermB 0 xs
theorem orderB_len {xs : List Int} (h : orderB xs = true) : 1 ≤ xs.length ∧ xs.length ≤ 16 := by
  unfold orderB at h
  simp only [Bool.and_eq_true, withinB_iff] at h
  omega
theorem orderB_mem {xs : List Int} (h : orderB xs = true) {i : Nat} {x : Int} (hx : xs[i]? = some x) : ∃ j : Nat, x = j ∧ j < xs.length := by
  unfold orderB at h
  simp only [Bool.and_eq_true] at h
  have := permF_mem h.2 x (List.mem_of_getElem? hx)
  exact ⟨x.toNat, by omega, by omega⟩

def orderCodeF (xs : List Int) (k : Int) : Int := if withinB k 1 4 then (if orderB xs then 0 else 1) else 2

/-- Element x gets f i, i its place. -/
def scatterF (f : Nat → Int) : Nat → List Int → List Int → List Int
  | _, [], out => out
  | i, x :: r, out => scatterF f (i + 1) r (out.set x.toNat (f i))
theorem scatterF_congr (f g : Nat → Int) (h : ∀ i, f i = g i) (i : Nat) (xs out : List Int) : scatterF f i xs out = scatterF g i xs out := by
  rw [show f = g from funext h]
theorem scatterF_length (f : Nat → Int) (i : Nat) (xs out : List Int) : (scatterF f i xs out).length = out.length := by
  induction xs generalizing i out with
  | nil => rfl
  | cons x r ih => simp [scatterF, ih]

def snakeImpl (k : Int) (i : Nat) : Int := if ((i : Int) / k % 2 == 1) = true then k - 1 - (i : Int) % k else (i : Int) % k
def snakeSpec (k : Int) (i : Nat) : Int := if k ≤ (i : Int) % (2 * k) then 2 * k - 1 - (i : Int) % (2 * k) else (i : Int) % (2 * k)
theorem snake_same (k : Int) (h1 : 1 ≤ k) (h2 : k ≤ 4) (i : Nat) : snakeImpl k i = snakeSpec k i := by
  unfold snakeImpl snakeSpec
  have hk : k = 1 ∨ k = 2 ∨ k = 3 ∨ k = 4 := by omega
  rcases hk with rfl | rfl | rfl | rfl <;> simp only [beq_iff_eq] <;> split <;> split <;> omega

def snakeF (xs : List Int) (k : Int) : List Int × Int :=
  if orderCodeF xs k = 0 then (scatterF (snakeSpec k) 0 xs (List.replicate xs.length 0), 0) else ([], orderCodeF xs k)

/-- How many boats each fleet has. -/
def countF : List Int → List Int → List Int
  | [], out => out
  | x :: r, out => countF r (out.set x.toNat (wrap64 (out.getD x.toNat 0 + 1)))
def fleetsB (xs : List Int) (k : Int) : Bool := withinB (xs.length : Int) 1 16 && xs.all (fun x => withinB x 0 (k - 1))
def isFleetsB (xs : List Int) (k : Int) : Bool := withinB k 1 4 && fleetsB xs k
def fleetsCodeF (xs : List Int) (k : Int) : Int := if withinB k 1 4 then (if fleetsB xs k then 0 else 1) else 2
def sizesF (xs : List Int) (k : Int) : List Int × Int :=
  if fleetsCodeF xs k = 0 then (countF xs (List.replicate k.toNat 0), 0) else ([], fleetsCodeF xs k)

/-- The places of x in the list. -/
def boatsF (fleet : Int) : Nat → List Int → List Int
  | _, [] => []
  | i, x :: r => if x = fleet then (i : Int) :: boatsF fleet (i + 1) r else boatsF fleet (i + 1) r
def fleetBoatsF (xs : List Int) (k fleet : Int) : List Int × Int :=
  if withinB k 1 4 && withinB fleet 0 (k - 1) then (if fleetsCodeF xs k = 0 then (boatsF fleet 0 xs, 0) else ([], 1)) else ([], 2)

/-! ### Blocks -/
def fillF (xs : List Int) (f : Int) : Nat → Nat → List Int → List Int
  | _, 0, out => out
  | at_, m + 1, out => fillF xs f (at_ + 1) m (out.set (xs.getD at_ 0).toNat f)
def goBlock (xs : List Int) : Nat → List Int → Nat → List Int → Option (Nat × List Int)
  | _, [], at_, out => some (at_, out)
  | f, s :: r, at_, out => if withinB s 0 ((xs.length : Int) - at_) then goBlock xs (f + 1) r (at_ + s.toNat) (fillF xs f at_ s.toNat out) else none
def leftF : Int → List Int → Option Int
  | left, [] => some left
  | left, s :: r => if withinB s 0 left then leftF (left - s) r else none
def fillsF (xs : List Int) : Nat → List Int → Nat → List Int → List Int
  | _, [], _, out => out
  | f, s :: r, at_, out => fillsF xs (f + 1) r (at_ + s.toNat) (fillF xs f at_ s.toNat out)
def endBlock (n : Nat) : Option (Nat × List Int) → List Int × Int
  | none => ([], 5)
  | some (at_, out) => if at_ < n then ([], 5) else (out, 0)
def blockF (xs sizes : List Int) : List Int × Int :=
  if orderCodeF xs sizes.length = 0 then endBlock xs.length (goBlock xs 0 sizes 0 (List.replicate xs.length 0)) else ([], orderCodeF xs sizes.length)
theorem leftF_nonneg {left l : Int} {sizes : List Int} (h0 : 0 ≤ left) (h : leftF left sizes = some l) : 0 ≤ l ∧ l ≤ left := by
  induction sizes generalizing left with
  | nil => simp [leftF] at h; omega
  | cons s r ih =>
    unfold leftF at h
    split at h
    · rename_i hw
      have := withinB_iff.1 hw
      have := ih (by omega) h
      omega
    · cases h
theorem goBlock_none (xs sizes : List Int) (f at_ : Nat) (out : List Int) (hat : at_ ≤ xs.length) (h : leftF ((xs.length : Int) - at_) sizes = none) : goBlock xs f sizes at_ out = none := by
  induction sizes generalizing f at_ out with
  | nil => simp [leftF] at h
  | cons s r ih =>
    unfold leftF at h
    unfold goBlock
    split
    · rename_i hw
      rw [if_pos hw] at h
      have := withinB_iff.1 hw
      exact ih _ _ _ (by omega) (by rw [← h]; congr 1; omega)
    · rfl
theorem goBlock_some (xs sizes : List Int) (f at_ : Nat) (out : List Int) (l : Int) (hat : at_ ≤ xs.length) (h : leftF ((xs.length : Int) - at_) sizes = some l) :
    goBlock xs f sizes at_ out = some (((xs.length : Int) - l).toNat, fillsF xs f sizes at_ out) := by
  induction sizes generalizing f at_ out with
  | nil =>
    simp only [leftF, Option.some.injEq] at h
    simp only [goBlock, fillsF, Option.some.injEq, Prod.mk.injEq, and_true]
    omega
  | cons s r ih =>
    unfold leftF at h
    unfold goBlock
    split
    · rename_i hw
      rw [if_pos hw] at h
      have := withinB_iff.1 hw
      exact ih _ _ _ (by omega) (by rw [← h]; congr 1; omega)
    · rename_i hw
      rw [if_neg hw] at h
      cases h
theorem fillF_len (xs : List Int) (f : Int) (at_ m : Nat) (out : List Int) : (fillF xs f at_ m out).length = out.length := by
  induction m generalizing at_ out with
  | zero => rfl
  | succ m ih => simp [fillF, ih]
end Go.Proofs.Ytmgkoldipchljaa

/- General lemmas: a struct variable's box. No Go function in sight. -/
namespace Go.Proofs.Ytmgkoldipchljaa
open Go.RowKit
set_option linter.unusedVariables false

def Box (w : World) (b : Nat) (vs : Array Value) (t : TypeId) : Prop := w.heap[b]? = some (.cells vs t (0, 0))
section
variable {w w' : World} {b c i : Nat} {vs : Array Value} {t : TypeId} {v x y z x0 x1 x2 x3 x4 x5 x6 : Value}
theorem Box.new (w : World) (vs : Array Value) (t : TypeId) : Box (w.alloc (.cells vs t)) w.heap.size vs t := by
  show (w.heap.push (.cells vs t))[w.heap.size]? = _
  simp
theorem Box.lt (h : Box w b vs t) : b < w.heap.size := (Array.getElem?_eq_some_iff.1 h).1
theorem Box.below (h : Box w b vs t) (k : Below w.heap.size w w') : Box w' b vs t := (k.block b h.lt).trans h
theorem Box.kept {B : Nat} (h : Box w b vs t) (k : Below B w w') (hb : b < B) : Box w' b vs t := (k.block b hb).trans h
theorem Box.chg {lo hi : Nat} (h : Box w b vs t) (k : Chg lo hi w w') (hb : b < lo ∨ hi ≤ b) : Box w' b vs t := (k.block b h.lt hb).trans h
theorem Box.other (h : Box w b vs t) (hb : b ≠ c) (v : Value) : Box (w.setCell ⟨c, i, none⟩ v) b vs t := by
  unfold Box at h ⊢
  rw [← h]; exact Below.heap_setCell _ _ _ _ (by simpa using hb)
theorem Box.grown {row : Option Nat} (h : Box w b vs t) (hg : w.grownBy w' row) (hr : row ≠ some b) : Box w' b vs t :=
  (hg.block b h.lt (fun e => hr e.symm)).trans h
theorem Box.cell (h : Box w b vs t) (hv : vs[i]? = some v) : w.cell? ⟨b, i, none⟩ = some v := by
  unfold Box at h
  simp [World.cell?, h, hv]
theorem Box.fz (h : Box w b vs t) : w.frozen? ⟨b, i, none⟩ = false := by
  unfold Box at h
  simp [World.frozen?, h]
theorem Box.set (h : Box w b vs t) (i : Nat) (v : Value) : Box (w.setCell ⟨b, i, none⟩ v) b (vs.setIfInBounds i v) t := by
  unfold Box at h ⊢
  simp [World.setCell, Array.getElem?_modify, h]
theorem Box.c1 (h : Box w b #[x] t) : w.cell? ⟨b, 0, none⟩ = some x := h.cell rfl
theorem Box.f3 (h : Box w b #[x, y, z] t) : w.cell? ⟨b, 0, none⟩ = some x ∧ w.cell? ⟨b, 1, none⟩ = some y ∧ w.cell? ⟨b, 2, none⟩ = some z ∧ w.frozen? ⟨b, 0, none⟩ = false ∧ w.frozen? ⟨b, 1, none⟩ = false ∧ w.frozen? ⟨b, 2, none⟩ = false ∧ b < w.heap.size :=
  ⟨h.cell rfl, h.cell rfl, h.cell rfl, h.fz, h.fz, h.fz, h.lt⟩
theorem Box.f4 (h : Box w b #[x0, x1, x2, x3] t) : w.cell? ⟨b, 0, none⟩ = some x0 ∧ w.cell? ⟨b, 1, none⟩ = some x1 ∧ w.cell? ⟨b, 2, none⟩ = some x2 ∧ w.cell? ⟨b, 3, none⟩ = some x3 ∧ w.frozen? ⟨b, 0, none⟩ = false ∧ w.frozen? ⟨b, 1, none⟩ = false ∧ w.frozen? ⟨b, 2, none⟩ = false ∧ w.frozen? ⟨b, 3, none⟩ = false ∧ b < w.heap.size :=
  ⟨h.cell rfl, h.cell rfl, h.cell rfl, h.cell rfl, h.fz, h.fz, h.fz, h.fz, h.lt⟩
theorem Box.f7 (h : Box w b #[x0, x1, x2, x3, x4, x5, x6] t) : w.cell? ⟨b, 0, none⟩ = some x0 ∧ w.cell? ⟨b, 1, none⟩ = some x1 ∧ w.cell? ⟨b, 2, none⟩ = some x2 ∧ w.cell? ⟨b, 3, none⟩ = some x3 ∧ w.cell? ⟨b, 4, none⟩ = some x4 ∧ w.cell? ⟨b, 5, none⟩ = some x5 ∧ w.cell? ⟨b, 6, none⟩ = some x6 ∧ b < w.heap.size :=
  ⟨h.cell rfl, h.cell rfl, h.cell rfl, h.cell rfl, h.cell rfl, h.cell rfl, h.cell rfl, h.lt⟩
end
theorem one_box (w : World) (vs : Array Value) (t : TypeId) : ∃ w1, w1 = w.alloc (.cells vs t) ∧ Box w1 w.heap.size vs t ∧ Below w.heap.size w w1 ∧ w1.heap.size = w.heap.size + 1 :=
  ⟨_, rfl, Box.new _ _ _, (Below.refl _ _).alloc (Nat.le_refl _) _, by simp⟩
theorem two_boxes (w : World) (vs us : Array Value) (t u : TypeId) : ∃ w1, w1 = (w.alloc (.cells vs t)).alloc (.cells us u) ∧ Box w1 w.heap.size vs t ∧ Box w1 (w.heap.size + 1) us u ∧ Below w.heap.size w w1 ∧ w1.heap.size = w.heap.size + 1 + 1 := by
  obtain ⟨w1, h1, h2, h3, h4⟩ := one_box w vs t
  obtain ⟨w2, k1, k2, k3, k4⟩ := one_box w1 us u
  rw [h4] at k2
  exact ⟨w2, by rw [k1, h1], h2.below k3, k2, h3.trans (k3.mono h3.size), by rw [k4, h4]⟩
theorem three_boxes (w : World) (vs us xs : Array Value) (t u x : TypeId) : ∃ w1, w1 = ((w.alloc (.cells vs t)).alloc (.cells us u)).alloc (.cells xs x) ∧ Box w1 w.heap.size vs t ∧ Box w1 (w.heap.size + 1) us u ∧ Box w1 (w.heap.size + 1 + 1) xs x ∧ Below w.heap.size w w1 ∧ w1.heap.size = w.heap.size + 1 + 1 + 1 := by
  obtain ⟨w1, h1, h2, h2', h3, h4⟩ := two_boxes w vs us t u
  obtain ⟨w2, k1, k2, k3, k4⟩ := one_box w1 xs x
  rw [h4] at k2
  exact ⟨w2, by rw [k1, h1], h2.below k3, h2'.below k3, k2, h3.trans (k3.mono h3.size), by rw [k4, h4]⟩
end Go.Proofs.Ytmgkoldipchljaa

/- Walks: a number within bounds. -/
namespace Go.Proofs.Ytmgkoldipchljaa
open Go.RowKit
set_option linter.unusedVariables false

theorem within_any (n a b : Int) (w : World) :
    Calls Try.prog 31 #[.int .i64 n, .int .i64 a, .int .i64 b] w fun e w' => e = .returned (.bool (withinB n a b)) ∧ w = w' := by
  have e1 : withinB n a b = (decide (a ≤ n) && decide (n ≤ b)) := rfl
  have E := Lib.hid e1; clear e1
  by_cases h : a ≤ n
  · go_enter Try.func31, Try.ntmps31
    go_wp2
    go_ret
    exact ⟨by rw [E.out]; simp [h], rfl⟩
  · go_enter Try.func31, Try.ntmps31
    go_wp2
    go_ret
    exact ⟨by rw [E.out]; simp; omega, rfl⟩

theorem l01In_any (n a b : Int) (w : World) :
    Calls Try.prog 34 #[.int .i64 n, .int .i64 a, .int .i64 b] w fun e w' => e = .returned (.bool (withinB n a b)) ∧ w = w' := by
  have e1 : withinB n a b = (decide (a ≤ n) && decide (n ≤ b)) := rfl
  have E := Lib.hid e1; clear e1
  by_cases h : a ≤ n
  · go_enter Try.func34, Try.ntmps34
    go_wp2
    go_ret
    exact ⟨by rw [E.out]; simp [h], rfl⟩
  · go_enter Try.func34, Try.ntmps34
    go_wp2
    go_ret
    exact ⟨by rw [E.out]; simp; omega, rfl⟩

end Go.Proofs.Ytmgkoldipchljaa

/- Walks: a row of numbers. -/
namespace Go.Proofs.Ytmgkoldipchljaa
open Go.RowKit
set_option linter.unusedVariables false

theorem areRow_any (A : Option Addr) (n c : Nat) (xs : List Int) (many most : Int) (w : World) (h : Rd w 1 A n (ints xs)) :
    Calls Try.prog 45 #[.slice A n c, .int .i64 many, .int .i64 most] w fun e w' => e = .returned (.bool (rowB xs many most)) ∧ w = w' := by
  have HN := Lib.hid h.len_int
  have hm := h.le
  go_enter Try.func45, Try.ntmps45
  go_wp2
  go_loop [8, 11] (fun _ i => ∃ k : Nat, k ≤ n ∧ i = .int .i64 k ∧ (xs.drop k).all (fun x => withinB x 0 most) = xs.all (fun x => withinB x 0 most)) (fun _ i => n - (intOf i).toNat)
  case atStart => exact ⟨0, Nat.zero_le _, rfl, rfl⟩
  case round =>
    obtain ⟨k, hk, rfl, hall⟩ := hrel
    have HA := Lib.hid hall; clear hall
    by_cases hlt : k < n
    · obtain ⟨b, o, x, rfl, hx, hd, hc⟩ := h.int hlt
      have HX := Lib.hid hx; clear hx
      have HD := Lib.hid hd; clear hd
      go_wp2_with (go_at_call 31; refine (within_any _ _ _ _).mono ?_; rintro e w' ⟨rfl, rfl⟩)
      · have hw : (!withinB x 0 most) = true := by assumption
        go_ret
        exact ⟨ret_bool (by unfold rowB; rw [← HA.out, HD.out]; simp at hw; simp [hw]), rfl⟩
      · have hw : (!withinB x 0 most) = false := by assumption
        go_round
        case rel => exact ⟨k + 1, by omega, by go_num, by rw [← HA.out, HD.out]; simp at hw; simp [hw]⟩
        case measure => simp [intOf]; omega
    · obtain rfl : k = n := by omega
      go_wp2
      go_ret
      exact ⟨ret_bool (by unfold rowB; rw [← HA.out, List.drop_eq_nil_of_le (by rw [HN.out]; omega), HN.out]; simp), rfl⟩


end Go.Proofs.Ytmgkoldipchljaa

/- A region that draws its order, reads cells, and writes them at its end: the reads are taken first, a condition S holds till the writes begin. No Go function in sight. -/
namespace Go.Proofs.Ytmgkoldipchljaa
open Go.RowKit
set_option linter.unusedVariables false

section
variable {P : Program} {ops : Array Oper} {Q : Exit → Act → World → Prop} {md : Region.Mode} {S : World → Prop} {late : Nat → Bool}

/-- Number j waits for number i, directly or through others. -/
def reachB (md : Region.Mode) (ops : Array Oper) : Nat → Nat → Nat → Bool
  | 0, _, _ => false
  | f + 1, j, i => Region.waitsFor md ops j i || (List.range j).any fun p => Region.waitsFor md ops j p && reachB md ops f p i
/-- What has come up came up behind what it waits for. -/
def Closed (md : Region.Mode) (ops : Array Oper) (listed : Array Bool) : Prop :=
  ∀ j oj, ops[j]? = some oj → listed.getD j false = true → ∀ e ∈ oj.after, Region.binds md e = true → listed.getD e.on false = true
def closedB (md : Region.Mode) (ops : Array Oper) (listed : Array Bool) : Bool :=
  (List.range ops.size).all fun j => !listed.getD j false || ((ops[j]?).map (·.after.all fun e => !Region.binds md e || listed.getD e.on false)).getD true
theorem closed_of {listed : Array Bool} (h : closedB md ops listed = true) : Closed md ops listed := by
  intro j oj hj hl e he hb
  unfold closedB at h
  rw [List.all_eq_true] at h
  have hjl : j < ops.size := (Array.getElem?_eq_some_iff.1 hj).1
  have h1 := h j (List.mem_range.2 hjl)
  rw [hl, hj] at h1
  simp only [Bool.not_true, Bool.false_or, Option.map_some, Option.getD_some] at h1
  have h2 := (Array.all_eq_true'.1 h1) e he
  rw [hb] at h2
  simpa using h2
theorem Closed.set {listed : Array Bool} {i : Nat} (h : Closed md ops listed) (hi : i ∈ Region.ready md ops listed) : Closed md ops (listed.setIfInBounds i true) := by
  intro j oj hj hl e he hb
  obtain ⟨hun, oi, hoi, hall⟩ := mem_ready.1 hi
  have up : ∀ k, listed.getD k false = true → (listed.setIfInBounds i true).getD k false = true := by
    intro k hk
    by_cases hik : i = k
    · subst hik
      have := getD_both hun
      rw [this] at hk; cases hk
    · rw [getD_set_ne false hik]; exact hk
  by_cases hij : i = j
  · subst hij
    obtain rfl : oi = oj := Option.some.inj (hoi.symm.trans hj)
    exact up _ (hall e he hb)
  · rw [getD_set_ne false hij] at hl
    exact up _ (h j oj hj hl e he hb)
theorem reach_unlisted {listed : Array Bool} (hc : Closed md ops listed) : ∀ (f j i : Nat), reachB md ops f j i = true → listed.getD i true = false → listed.getD j false = false ∧ j ∉ Region.ready md ops listed := by
  intro f
  induction f with
  | zero => intro j i h; cases h
  | succ f ih =>
    intro j i h hi
    unfold reachB at h
    have key : ∀ p, Region.waitsFor md ops j p = true → listed.getD p false = false → listed.getD j false = false ∧ j ∉ Region.ready md ops listed := by
      intro p hw hp
      obtain ⟨oj, hoj, e, he, hb, hon⟩ := Region.waitsFor_spec hw
      refine ⟨?_, fun hr => ?_⟩
      · cases hl : listed.getD j false with
        | false => rfl
        | true =>
          have := hc j oj hoj hl e he hb
          rw [hon, hp] at this; cases this
      · obtain ⟨_, oj', hoj', hall⟩ := mem_ready.1 hr
        obtain rfl : oj = oj' := Option.some.inj (hoj.symm.trans hoj')
        have := hall e he hb
        rw [hon, hp] at this; cases this
    rw [Bool.or_eq_true] at h
    rcases h with h | h
    · exact key i h (getD_both hi)
    · obtain ⟨p, _, hp⟩ := List.any_eq_true.1 h
      rw [Bool.and_eq_true] at hp
      exact key p hp.1 (ih p i hp.2 hi).1

/-- Whatever order is picked from here on; behind each operation that is not late, S holds. -/
def wpAnyT (P : Program) (md : Region.Mode) (ops : Array Oper) (Q : Exit → Act → World → Prop) (S : World → Prop) (late : Nat → Bool) : Nat → Array Bool → Act → World → Prop
  | 0, listed, a, w => Region.ready md ops listed = [] ∧ Q .normal a w
  | fuel + 1, listed, a, w =>
    (Region.ready md ops listed = [] → Q .normal a w) ∧
    ∀ i ∈ Region.ready md ops listed, wpOp P ops Q i (fun a' w' => (late i = true ∨ S w') ∧ wpAnyT P md ops Q S late fuel (listed.setIfInBounds i true) a' w') a w
theorem wpAny_of_T : ∀ (fuel : Nat) (listed : Array Bool) (a : Act) (w : World), wpAnyT P md ops Q S late fuel listed a w → wpAny P md ops Q fuel listed a w
  | 0, _, _, _, h => h
  | fuel + 1, _, _, _, h => ⟨h.1, fun i hi => wpOp_mono (fun a' w' h' => wpAny_of_T fuel _ a' w' h'.2) (h.2 i hi)⟩
theorem wpAnyT_first {i : Nat} {oi : Oper} {v : Value} (hi : ops[i]? = some oi) (hsel : ∀ (j : Nat) (o : Oper) cs b, ops[j]? = some o → o.op ≠ .select cs b)
    (hQ : ∀ c a w, Q (.panic c) (a.put oi.dst v) w → Q (.panic c) a w) (hlate : ∀ j oj, ops[j]? = some oj → late j = true → reachB md ops ops.size j i = true) :
    ∀ (fuel : Nat) (listed : Array Bool) (a : Act) (w : World), Closed md ops listed →
      (∀ j oj, ops[j]? = some oj → j ≠ i → listed.getD j true = false → (∀ e ∈ oj.after, Region.binds md e = true → e.on ≠ i) → oi.apart ops oj = true) →
      i ∈ Region.ready md ops listed → YieldsIf P ops S oi v a → S w →
      wpAnyT P md ops Q S late fuel (listed.setIfInBounds i true) (a.put oi.dst v) w → wpAnyT P md ops Q S late (fuel + 1) listed a w := by
  intro fuel
  induction fuel with
  | zero =>
    intro listed a w hc _ hr hy hS H
    refine ⟨fun h => (by rw [h] at hr; cases hr), fun j hj => ?_⟩
    by_cases hji : j = i
    · subst hji; exact hy.wpOp hi hS ⟨.inr hS, H⟩
    · have := ready_mono hj hji
      rw [H.1] at this
      cases this
  | succ fuel ih =>
    intro listed a w hc hfree hr hy hS H
    refine ⟨fun h => (by rw [h] at hr; cases hr), fun j hj => ?_⟩
    by_cases hji : j = i
    · subst hji; exact hy.wpOp hi hS ⟨.inr hS, H⟩
    · have h1 := H.2 j (ready_mono hj hji)
      have hun := (mem_ready.1 hr).1
      obtain ⟨hjun, oj, hoj, hall⟩ := mem_ready.1 hj
      have hnl : late j = false := by
        cases hl : late j with
        | false => rfl
        | true => exact absurd hj (reach_unlisted hc _ j i (hlate j oj hoj hl) hun).2
      have hnot : ∀ e ∈ oj.after, Region.binds md e = true → e.on ≠ i := fun e he hb heq => by
        have h1 := hall e he hb
        rw [heq, getD_both hun] at h1
        cases h1
      have h2 := wpOp_putIf hoj (hfree j oj hoj hji hjun hnot) (fun cs b => hsel i oi cs b hi) (fun cs b => hsel j oj cs b hoj) hQ hy h1
      have hfree' : ∀ k ok, ops[k]? = some ok → k ≠ i → (listed.setIfInBounds j true).getD k true = false →
          (∀ e ∈ ok.after, Region.binds md e = true → e.on ≠ i) → oi.apart ops ok = true := fun k ok hk hki hun hno => by
        refine hfree k ok hk hki ?_ hno
        by_cases hjk : j = k
        · subst hjk; exact hjun
        · rw [getD_set_ne true hjk] at hun; exact hun
      refine wpOp_mono (fun a' w' h3 => ?_) h2
      have hSw : S w' := by
        rcases h3.2.1 with h | h
        · rw [hnl] at h; cases h
        · exact h
      refine ⟨.inr hSw, ih (listed.setIfInBounds j true) a' w' (hc.set hj) hfree' (ready_mono hr (Ne.symm hji)) h3.1 hSw ?_⟩
      rw [Array.setIfInBounds_comm _ _ hji]
      exact h3.2.2
def lateB (md : Region.Mode) (ops : Array Oper) (late : Nat → Bool) (i : Nat) : Bool := (List.range ops.size).all fun j => !late j || reachB md ops ops.size j i
theorem lateB_spec {i : Nat} (h : lateB md ops late i = true) : ∀ j oj, ops[j]? = some oj → late j = true → reachB md ops ops.size j i = true := by
  intro j oj hj hl
  unfold lateB at h
  rw [List.all_eq_true] at h
  have := h j (List.mem_range.2 (Array.getElem?_eq_some_iff.1 hj).1)
  rw [hl] at this
  simpa using this
/-- Number i reads or reckons: it is taken first. -/
theorem wpAnyT_take (i : Nat) {oi : Oper} (v : Value) {fuel : Nat} {listed : Array Bool} {a : Act} {w : World} (hi : ops[i]? = some oi)
    (hB : (Region.noSelect ops && Region.free md ops listed i && (Region.ready md ops listed).contains i && lateB md ops late i && closedB md ops listed) = true)
    (hQ : ∀ c a w, Q (.panic c) (a.put oi.dst v) w → Q (.panic c) a w) (hg : oi.guard = none) (hy : ∀ w, S w → (execOp a.eval oi).run P w = .ok (.value v) w) (hS : S w)
    (h : wpAnyT P md ops Q S late fuel (listed.setIfInBounds i true) (a.put oi.dst v) w) : wpAnyT P md ops Q S late (fuel + 1) listed a w := by
  simp only [Bool.and_eq_true] at hB
  obtain ⟨⟨⟨⟨hs, hf⟩, hr⟩, hl⟩, hc⟩ := hB
  exact wpAnyT_first hi (Region.noSelect_spec hs) hQ (lateB_spec hl) fuel listed a w (closed_of hc) (Region.free_spec hi hf) (by simpa using hr) (.inl ⟨by simp [Region.wanted, hg], hy⟩) hS h
/-- Number i alone may come up. -/
theorem wpAnyT_one (i : Nat) {oi : Oper} {fuel : Nat} {listed : Array Bool} {a : Act} {w : World} (hi : ops[i]? = some oi) (hr : Region.ready md ops listed = [i])
    (h : ∀ K' : Act → World → Prop, (∀ a w, (late i = true ∨ S w) → wpAnyT P md ops Q S late fuel (listed.setIfInBounds i true) a w → K' a w) → if Region.wanted oi (yielded ops a.tmps) = true then Oper.wp P oi a w K' Q else K' (a.put oi.dst undef) w) :
    wpAnyT P md ops Q S late (fuel + 1) listed a w := by
  refine ⟨fun h0 => (by rw [hr] at h0; cases h0), fun j hj => ?_⟩
  rw [hr] at hj
  obtain rfl : j = i := by simpa using hj
  exact wpOp_step hi (fun K' hK => h K' (fun a w hs hW => hK a w ⟨hs, hW⟩))
/-- Two numbers may come up. -/
theorem wpAnyT_two (i j : Nat) {oi oj : Oper} {fuel : Nat} {listed : Array Bool} {a : Act} {w : World} (hi : ops[i]? = some oi) (hj : ops[j]? = some oj) (hr : Region.ready md ops listed = [i, j])
    (h1 : ∀ K' : Act → World → Prop, (∀ a w, (late i = true ∨ S w) → wpAnyT P md ops Q S late fuel (listed.setIfInBounds i true) a w → K' a w) → if Region.wanted oi (yielded ops a.tmps) = true then Oper.wp P oi a w K' Q else K' (a.put oi.dst undef) w)
    (h2 : ∀ K' : Act → World → Prop, (∀ a w, (late j = true ∨ S w) → wpAnyT P md ops Q S late fuel (listed.setIfInBounds j true) a w → K' a w) → if Region.wanted oj (yielded ops a.tmps) = true then Oper.wp P oj a w K' Q else K' (a.put oj.dst undef) w) :
    wpAnyT P md ops Q S late (fuel + 1) listed a w := by
  refine ⟨fun h0 => (by rw [hr] at h0; cases h0), fun k hk => ?_⟩
  rw [hr] at hk
  rcases List.mem_cons.1 hk with rfl | hk
  · exact wpOp_step hi (fun K' hK => h1 K' (fun a w hs hW => hK a w ⟨hs, hW⟩))
  · obtain rfl : k = j := by simpa using hk
    exact wpOp_step hj (fun K' hK => h2 K' (fun a w hs hW => hK a w ⟨hs, hW⟩))
theorem wpAnyT_done {listed : Array Bool} {a : Act} {w : World} (hr : Region.ready md ops listed = []) (h : Q .normal a w) : ∀ fuel, wpAnyT P md ops Q S late fuel listed a w
  | 0 => ⟨hr, h⟩
  | _ + 1 => ⟨fun _ => h, by rw [hr]; simp⟩
theorem wp_region_T (S : World → Prop) (late : Nat → Bool) {id : Nat} {a : Act} {w : World} (hm : P.follows .mixedOrders = true)
    (h : wpAnyT P .any ops Q S late ops.size (Array.replicate ops.size false) a w.drew) : (Code.region id ops true).wp P Q a w :=
  wp_region_any hm (wpAny_of_T _ _ _ _ h)
theorem wp_region_T2 (S : World → Prop) (late : Nat → Bool) {n : Nat} {id : Nat} {a : Act} {w : World} (hm : P.follows .mixedOrders = true) (hn : ops.size = n)
    (h : ∀ ops', Hid (ops' = ops) → wpAnyT P .any ops' Q S late n (Array.replicate n false) a w.drew) : (Code.region id ops true).wp P Q a w := by
  subst hn
  exact wp_region_T S late hm (h ops (Lib.hid rfl))
end
end Go.Proofs.Ytmgkoldipchljaa

/- General lemmas: slices of slices of integers. No Go function in sight. -/
namespace Go.Proofs.Ytmgkoldipchljaa
open Go.RowKit
set_option linter.unusedVariables false

/-- A slice of slices that reads as a list of lists. -/
structure RdRows (w : World) (A : Option Addr) (n : Nat) (rows : List (List Int)) : Prop where
  len : rows.length = n
  le : n ≤ 9223372036854775807
  at_ : ∀ k, k < n → ∃ b o A' c' xs, A = some ⟨b, o, none⟩ ∧ rows[k]? = some xs ∧ w.cell? ⟨b, o + k, none⟩ = some (.slice A' xs.length c') ∧ Rd w 1 A' xs.length (ints xs)
theorem RdRows.keep {w w' : World} {A : Option Addr} {n : Nat} {rows : List (List Int)} (h : RdRows w A n rows) (k : Keeps w w') : RdRows w' A n rows :=
  ⟨h.len, h.le, fun i hi => by
    obtain ⟨b, o, A', c', xs, e, hx, hc, hr⟩ := h.at_ i hi
    exact ⟨b, o, A', c', xs, e, hx, k _ _ hc, hr.keep k⟩⟩
theorem RdRows.below {w w' : World} {A : Option Addr} {n : Nat} {rows : List (List Int)} (h : RdRows w A n rows) (k : Below w.heap.size w w') : RdRows w' A n rows := h.keep (Keeps.below k)
theorem RdRows.drawn {w w' : World} {A : Option Addr} {n : Nat} {rows : List (List Int)} (h : RdRows w A n rows) (k : Drawn w w') : RdRows w' A n rows := h.below k.below
theorem RdRows.row {w : World} {A : Option Addr} {n k : Nat} {rows : List (List Int)} (h : RdRows w A n rows) (hk : k < n) :
    ∃ b o A' c' xs, A = some ⟨b, o, none⟩ ∧ rows[k]? = some xs ∧ rows.drop k = xs :: rows.drop (k + 1) ∧ w.cell? ⟨b, o + k, none⟩ = some (.slice A' xs.length c') ∧ Rd w 1 A' xs.length (ints xs) := by
  obtain ⟨b, o, A', c', xs, e, hx, hc, hr⟩ := h.at_ k hk
  obtain ⟨y, h1, h2⟩ := drop_cons (xs := rows) (k := k) (by rw [h.len]; exact hk)
  obtain rfl : xs = y := by rw [hx] at h1; injection h1
  exact ⟨b, o, A', c', xs, e, hx, h2, hc, hr⟩

/-- A slice of slices of the call's own. -/
structure OwnRows (w : World) (base eo ei : Nat) (A : Option Addr) (n c : Nat) (vs : List Value) (rows : List (List Int)) : Prop where
  outer : w.ownsRow base eo 1 (.slice A n c) n vs
  len : rows.length = n
  row : ∀ (k : Nat) (v : Value) (xs : List Int), vs[k]? = some v → rows[k]? = some xs → ∃ A' c', v = .slice A' xs.length c' ∧ w.ownsRow base ei 1 v xs.length (ints xs)
  apart : ∀ (i j : Nat) (u v : Value), i ≠ j → vs[i]? = some u → vs[j]? = some v → ∀ g, u.ownBlock = some g → v.ownBlock ≠ some g

section
variable {w w' : World} {base eo ei n c : Nat} {A : Option Addr} {vs : List Value} {rows : List (List Int)}
theorem OwnRows.vlen (h : OwnRows w base eo ei A n c vs rows) : vs.length = n := by have := h.outer.1; omega
theorem OwnRows.nle (h : OwnRows w base eo ei A n c vs rows) : n ≤ 9223372036854775807 := (own_rd h.outer).le
/-- What row k is. -/
theorem OwnRows.get (h : OwnRows w base eo ei A n c vs rows) {k : Nat} (hk : k < n) :
    ∃ v A' c' xs, vs[k]? = some v ∧ rows[k]? = some xs ∧ rows.drop k = xs :: rows.drop (k + 1) ∧ v = .slice A' xs.length c' ∧ w.ownsRow base ei 1 (.slice A' xs.length c') xs.length (ints xs) := by
  have h1 : vs[k]? = some (vs[k]'(by rw [h.vlen]; exact hk)) := List.getElem?_eq_getElem _
  obtain ⟨xs, h2, h3⟩ := drop_cons (xs := rows) (k := k) (by rw [h.len]; exact hk)
  obtain ⟨A', c', e, ho⟩ := h.row k _ _ h1 h2
  exact ⟨_, A', c', xs, h1, h2, h3, e, by rw [e] at ho; exact ho⟩
theorem OwnRows.rd (h : OwnRows w base eo ei A n c vs rows) : RdRows w A n rows :=
  ⟨h.len, h.nle, fun k hk => by
    obtain ⟨v, A', c', xs, h1, h2, _, e, ho⟩ := h.get hk
    obtain ⟨g, u, hA, _, _, hu, hc, _⟩ := own_at h.outer hk
    obtain rfl : v = u := by rw [h1] at hu; injection hu
    exact ⟨g, 0, A', c', xs, hA, h2, by rw [Nat.zero_add, hc, e], own_rd ho⟩⟩
/-- The blocks lie from lo to below hi. -/
def RowsIn (lo hi : Nat) (A : Option Addr) (n c : Nat) (vs : List Value) : Prop :=
  (∀ b, (Value.slice A n c).ownBlock = some b → lo ≤ b ∧ b < hi) ∧ ∀ v ∈ vs, ∀ b, v.ownBlock = some b → lo ≤ b ∧ b < hi
theorem OwnRows.in_ (h : OwnRows w base eo ei A n c vs rows) : RowsIn base w.heap.size A n c vs := by
  refine ⟨h.outer.lt, fun v hv b hb => ?_⟩
  obtain ⟨k, hk⟩ := List.mem_iff_getElem?.1 hv
  have hkn : k < n := by have := (List.getElem?_eq_some_iff.1 hk).1; rw [h.vlen] at this; exact this
  obtain ⟨u, A', c', xs, h1, h2, _, e, ho⟩ := h.get hkn
  obtain rfl : v = u := by rw [hk] at h1; injection h1
  rw [e] at hb
  exact ho.lt b hb
theorem OwnRows.below (h : OwnRows w base eo ei A n c vs rows) (k : Below w.heap.size w w') : OwnRows w' base eo ei A n c vs rows :=
  ⟨own_below h.outer k, h.len, fun i v xs h1 h2 => by obtain ⟨A', c', e, ho⟩ := h.row i v xs h1 h2; exact ⟨A', c', e, own_below ho k⟩, h.apart⟩
theorem OwnRows.drawn (h : OwnRows w base eo ei A n c vs rows) (k : Drawn w w') : OwnRows w' base eo ei A n c vs rows := h.below k.below
theorem OwnRows.alloc (h : OwnRows w base eo ei A n c vs rows) (o : Obj) : OwnRows (w.alloc o) base eo ei A n c vs rows := h.below ((Below.refl _ _).alloc (Nat.le_refl _) _)
theorem OwnRows.chg {lo hi : Nat} (h : OwnRows w base eo ei A n c vs rows) (k : Chg lo hi w w') {lo2 hi2 : Nat} (hv : RowsIn lo2 hi2 A n c vs) (hd : hi2 ≤ lo ∨ hi ≤ lo2) : OwnRows w' base eo ei A n c vs rows :=
  ⟨own_chg h.outer k (fun b hb => by have := hv.1 b hb; omega), h.len,
    fun i v xs h1 h2 => by
      obtain ⟨A', c', e, ho⟩ := h.row i v xs h1 h2
      exact ⟨A', c', e, own_chg ho k (fun b hb => by have := hv.2 v (List.mem_of_getElem? h1) b hb; omega)⟩, h.apart⟩
theorem OwnRows.base' {base' : Nat} (h : OwnRows w base eo ei A n c vs rows) (hb : base' ≤ base) : OwnRows w base' eo ei A n c vs rows :=
  ⟨own_base h.outer hb, h.len, fun i v xs h1 h2 => by obtain ⟨A', c', e, ho⟩ := h.row i v xs h1 h2; exact ⟨A', c', e, own_base ho hb⟩, h.apart⟩

theorem own_type_ne {base base' e e' n n' : Nat} {s s' : Nat} {v v' : Value} {xs xs' : List Value} (h : w.ownsRow base e s v n xs) (h' : w.ownsRow base' e' s' v' n' xs') (hne : e ≠ e') :
    ∀ g, v.ownBlock = some g → v'.ownBlock ≠ some g := by
  intro g hg hg'
  rcases h.2 with ⟨rfl, _⟩ | ⟨g1, cap, cur, rfl, _, hh, _⟩
  · simp [Value.ownBlock] at hg
  · rcases h'.2 with ⟨rfl, _⟩ | ⟨g2, cap', cur', rfl, _, hh', _⟩
    · simp [Value.ownBlock] at hg'
    · simp [Value.ownBlock] at hg hg'
      subst hg; subst hg'
      rw [hh] at hh'
      injection hh' with hh'
      injection hh' with _ ht
      exact hne ht

/-- Row k alone is written. -/
theorem OwnRows.upd (h : OwnRows w base eo ei A n c vs rows) (hne : eo ≠ ei) {k : Nat} {v : Value} {xs ys : List Int} (hk : vs[k]? = some v) (hx : rows[k]? = some xs) (hl : ys.length = xs.length)
    (hg : w.grownBy w' v.ownBlock) (hy : w'.ownsRow base ei 1 v ys.length (ints ys)) : OwnRows w' base eo ei A n c vs (rows.set k ys) := by
  obtain ⟨A0, c0, e0, ho0⟩ := h.row k v xs hk hx
  refine ⟨h.outer.kept hg ?_, by simpa using h.len, ?_, h.apart⟩
  · rcases hb : (Value.slice A n c).ownBlock with _ | g
    · exact .inl rfl
    · exact .inr (fun he => own_type_ne h.outer ho0 hne g hb he.symm)
  · intro i u zs h1 h2
    by_cases hik : i = k
    · subst hik
      obtain rfl : v = u := by rw [hk] at h1; injection h1
      have hlt := (List.getElem?_eq_some_iff.1 hx).1
      rw [List.getElem?_set_self hlt] at h2
      injection h2 with h2; subst h2
      exact ⟨A0, c0, by rw [e0, hl], hy⟩
    · rw [List.getElem?_set_ne (fun e => hik e.symm)] at h2
      obtain ⟨A', c', e, ho⟩ := h.row i u zs h1 h2
      refine ⟨A', c', e, ho.kept hg ?_⟩
      rcases hb : u.ownBlock with _ | g
      · exact .inl rfl
      · exact .inr (fun he => h.apart i k u v hik h1 hk g hb he.symm)

/-- Row k is put: a slice whose block is none of the others'. -/
theorem OwnRows.put {g : Nat} (h : OwnRows w base eo ei (some ⟨g, 0, none⟩) n c vs rows) (hne : eo ≠ ei) {k : Nat} {A' : Option Addr} {c' : Nat} {ys : List Int}
    (hy : w.ownsRow base ei 1 (.slice A' ys.length c') ys.length (ints ys)) (hap : ∀ u ∈ vs, ∀ b, (Value.slice A' ys.length c').ownBlock = some b → u.ownBlock ≠ some b) :
    OwnRows (w.setCell ⟨g, k, none⟩ (.slice A' ys.length c')) base eo ei (some ⟨g, 0, none⟩) n c (vs.set k (.slice A' ys.length c')) (rows.set k ys) := by
  have hst := h.outer.stored k (.slice A' ys.length c')
  have keep : ∀ (u : Value) (m : Nat) (zs : List Value), w.ownsRow base ei 1 u m zs → (w.setCell ⟨g, k, none⟩ (.slice A' ys.length c')).ownsRow base ei 1 u m zs := by
    intro u m zs ho
    refine ho.kept hst.2 ?_
    rcases hb : u.ownBlock with _ | b
    · exact .inl rfl
    · refine .inr (fun he => ?_)
      injection he with he
      subst he
      exact own_type_ne h.outer ho hne b rfl hb
  refine ⟨hst.1, by simpa using h.len, ?_, ?_⟩
  · intro i u zs h1 h2
    by_cases hik : i = k
    · subst hik
      have hlt : i < rows.length := by have := (List.getElem?_eq_some_iff.1 h2).1; simpa using this
      have hlt' : i < vs.length := by rw [h.vlen, ← h.len]; exact hlt
      rw [List.getElem?_set_self hlt] at h2
      rw [List.getElem?_set_self hlt'] at h1
      injection h2 with h2; injection h1 with h1
      subst h2; subst h1
      exact ⟨A', c', rfl, keep _ _ _ hy⟩
    · rw [List.getElem?_set_ne (fun e => hik e.symm)] at h1 h2
      obtain ⟨A'', c'', e, ho⟩ := h.row i u zs h1 h2
      exact ⟨A'', c'', e, keep _ _ _ ho⟩
  · intro i j u v hij h1 h2 b hb
    by_cases hik : i = k
    · subst hik
      rw [List.getElem?_set_ne (fun e => hij e)] at h2
      have hlt' : i < vs.length := by have := (List.getElem?_eq_some_iff.1 h1).1; simpa using this
      rw [List.getElem?_set_self hlt'] at h1
      injection h1 with h1; subst h1
      exact hap v (List.mem_of_getElem? h2) b hb
    · rw [List.getElem?_set_ne (fun e => hik e.symm)] at h1
      by_cases hjk : j = k
      · subst hjk
        have hlt' : j < vs.length := by have := (List.getElem?_eq_some_iff.1 h2).1; simpa using this
        rw [List.getElem?_set_self hlt'] at h2
        injection h2 with h2; subst h2
        exact fun hb' => hap u (List.mem_of_getElem? h1) b hb' hb
      · rw [List.getElem?_set_ne (fun e => hjk e.symm)] at h2
        exact h.apart i j u v hij h1 h2 b hb

/-- Behind a make: all rows are nil. -/
theorem OwnRows.made (w : World) (base eo ei n : Nat) (hb : base ≤ w.heap.size) (hm : n ≤ 9223372036854775807) :
    OwnRows (w.alloc (.cells (madeCells #[.slice none 0 0] n) eo)) base eo ei (some ⟨w.heap.size, 0, none⟩) n n (List.replicate n (.slice none 0 0)) (List.replicate n []) := by
  refine ⟨own_made w base eo n _ hb hm, by simp, ?_, ?_⟩
  · intro k v xs h1 h2
    rw [List.getElem?_replicate] at h1 h2
    split at h1
    · injection h1 with h1; subst h1
      rw [if_pos ‹_›] at h2
      injection h2 with h2; subst h2
      exact ⟨none, 0, rfl, World.ownsRow_nil _ _ _ _⟩
    · cases h1
  · intro i j u v _ h1 h2 g hg
    rw [List.getElem?_replicate] at h1
    split at h1
    · injection h1 with h1; subst h1
      simp [Value.ownBlock] at hg
    · cases h1
theorem OwnRows.nil (w : World) (base eo ei : Nat) : OwnRows w base eo ei none 0 0 [] [] :=
  ⟨World.ownsRow_nil _ _ _ _, rfl, fun k v xs h => by simp at h, fun i j u v _ h => by simp at h⟩
theorem OwnRows.empty (w : World) (base eo ei : Nat) (hb : base ≤ w.heap.size) : OwnRows (w.alloc (.cells #[] eo)) base eo ei (some ⟨w.heap.size, 0, none⟩) 0 0 [] [] :=
  ⟨own_empty w base eo hb, rfl, fun k v xs h => by simp at h, fun i j u v _ h => by simp at h⟩
/-- A row is appended. -/
theorem OwnRows.append {w1 : World} {A1 : Option Addr} {c1 : Nat} (h : OwnRows w base eo ei A n c vs rows) (hne : eo ≠ ei) {A' : Option Addr} {c' : Nat} {ys : List Int}
    (hy : w.ownsRow base ei 1 (.slice A' ys.length c') ys.length (ints ys)) (hap : ∀ u ∈ vs, ∀ b, (Value.slice A' ys.length c').ownBlock = some b → u.ownBlock ≠ some b)
    (o : Obj) (hg : (w.alloc o).grownBy w1 (Value.slice A n c).ownBlock) (ho : w1.ownsRow base eo 1 (.slice A1 (n + 1) c1) (n + 1) (vs ++ [.slice A' ys.length c'])) :
    OwnRows w1 base eo ei A1 (n + 1) c1 (vs ++ [.slice A' ys.length c']) (rows ++ [ys]) := by
  have keep : ∀ (u : Value) (m : Nat) (zs : List Value), w.ownsRow base ei 1 u m zs → w1.ownsRow base ei 1 u m zs := by
    intro u m zs hu
    refine (hu.alloc o).kept hg ?_
    rcases hb : u.ownBlock with _ | b
    · exact .inl rfl
    · exact .inr (fun he => own_type_ne h.outer hu hne b he.symm hb)
  refine ⟨ho, by simp [h.len], ?_, ?_⟩
  · intro i u zs h1 h2
    by_cases hi : i < n
    · rw [List.getElem?_append_left (by rw [h.vlen]; exact hi)] at h1
      rw [List.getElem?_append_left (by rw [h.len]; exact hi)] at h2
      obtain ⟨A'', c'', e, hr⟩ := h.row i u zs h1 h2
      exact ⟨A'', c'', e, keep _ _ _ hr⟩
    · rw [List.getElem?_append_right (by rw [h.vlen]; omega), h.vlen] at h1
      rw [List.getElem?_append_right (by rw [h.len]; omega), h.len] at h2
      have h0 : i - n = 0 := by
        rcases Nat.eq_zero_or_pos (i - n) with h | h
        · exact h
        · rw [List.getElem?_eq_none (by simp; omega)] at h1; cases h1
      rw [h0] at h1 h2
      simp at h1 h2
      subst h1; subst h2
      exact ⟨A', c', rfl, keep _ _ _ hy⟩
  · intro i j u v hij h1 h2 b hb
    have split : ∀ (q : Nat) (x : Value), (vs ++ [Value.slice A' ys.length c'])[q]? = some x → (q < n ∧ vs[q]? = some x) ∨ (q = n ∧ x = .slice A' ys.length c') := by
      intro q x hx
      by_cases hq : q < n
      · rw [List.getElem?_append_left (by rw [h.vlen]; exact hq)] at hx; exact .inl ⟨hq, hx⟩
      · rw [List.getElem?_append_right (by rw [h.vlen]; omega), h.vlen] at hx
        have h0 : q - n = 0 := by
          rcases Nat.eq_zero_or_pos (q - n) with h | h
          · exact h
          · rw [List.getElem?_eq_none (by simp; omega)] at hx; cases hx
        rw [h0] at hx
        simp at hx
        exact .inr ⟨by omega, hx.symm⟩
    rcases split i u h1 with ⟨hi, hu⟩ | ⟨hi, rfl⟩ <;> rcases split j v h2 with ⟨hj, hv⟩ | ⟨hj, rfl⟩
    · exact h.apart i j u v hij hu hv b hb
    · exact fun hb' => hap u (List.mem_of_getElem? hu) b hb' hb
    · exact hap v (List.mem_of_getElem? hv) b hb
    · omega
end
end Go.Proofs.Ytmgkoldipchljaa

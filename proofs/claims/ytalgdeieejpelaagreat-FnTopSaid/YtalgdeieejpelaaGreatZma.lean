/- General and plain lemmas, and light walks (merged): Lib Szr Wx St Bx Ss Wy Tb Ta Ms Mf Tp Za Wn Wr Wp Ap. -/
import Derived.Test.YtalgdeieejpelaaGreatRows
import Derived.WalkKit
import Derived.WalkSpells
import Derived.WalkLawsBesides
import Derived.Lib.Hide
import Derived.Deep.QuietTactic
import Derived.BigQuiet
import Derived.Deep.LoopGhost
import Derived.Deep.DeepCutAuto
import Derived.Below
import Derived.Deep.AppendLies
import Derived.Lib.BufferMore
/- General lemmas of this work: reading slices, own rows, results. No Go function in sight. -/
namespace Go.Proofs.YtalgdeieejpelaaGreat
open Go.RowKit
set_option linter.unusedVariables false

/-! ### Reading memory -/
/-- Cells of w stay in w'. -/
def Keeps (w w' : World) : Prop := ∀ a v, w.cell? a = some v → w'.cell? a = some v
theorem Keeps.refl (w : World) : Keeps w w := fun _ _ h => h
theorem Keeps.trans {a b c : World} (h : Keeps a b) (k : Keeps b c) : Keeps a c := fun _ _ e => k _ _ (h _ _ e)
theorem cell_lt {w : World} {a : Addr} {v : Value} (h : w.cell? a = some v) : a.block < w.heap.size := World.block_lt_of_cell? w a h
theorem Keeps.below {w w' : World} (h : Below w.heap.size w w') : Keeps w w' := fun a _ e => (h.cell (p := a) (cell_lt e)).trans e

/-- A slice that reads as the cells xs, s cells an element. -/
structure Rd (w : World) (s : Nat) (A : Option Addr) (n : Nat) (xs : List Value) : Prop where
  len : xs.length = n * s
  le : n ≤ 9223372036854775807
  pos : 0 < n → ∃ b o, A = some ⟨b, o, none⟩ ∧ ∀ i u, xs[i]? = some u → w.cell? ⟨b, o + i, none⟩ = some u

theorem Rd.keep {w w' : World} {s n : Nat} {A : Option Addr} {xs : List Value} (h : Rd w s A n xs) (k : Keeps w w') : Rd w' s A n xs :=
  ⟨h.len, h.le, fun hn => by
    obtain ⟨b, o, e, hc⟩ := h.pos hn
    exact ⟨b, o, e, fun i u hu => k _ _ (hc i u hu)⟩⟩
theorem Rd.below {w w' : World} {s n : Nat} {A : Option Addr} {xs : List Value} (h : Rd w s A n xs) (k : Below w.heap.size w w') : Rd w' s A n xs := h.keep (Keeps.below k)

theorem Rd.drewN {w : World} {s n : Nat} {A : Option Addr} {xs : List Value} (h : Rd w s A n xs) (q : Nat) : Rd (w.drewN q) s A n xs := ⟨h.len, h.le, h.pos⟩
theorem below_drewN {B : Nat} {a w : World} (h : Below B a w) (n : Nat) : Below B a (w.drewN n) := ⟨h.os, h.tape, h.output, h.size, h.block⟩
theorem below_drewN' (B : Nat) (w : World) (n : Nat) : Below B w (w.drewN n) := below_drewN (Below.refl _ _) n
theorem own_drewN {w : World} {base e s n : Nat} {v : Value} {xs : List Value} (h : w.ownsRow base e s v n xs) (q : Nat) : (w.drewN q).ownsRow base e s v n xs := h

/-- w' is w behind some draws. -/
def Drawn (w w' : World) : Prop := ∃ q, w' = w.drewN q
theorem Drawn.refl (w : World) : Drawn w w := ⟨0, rfl⟩
theorem Drawn.step {w w' : World} (h : Drawn w w') (n : Nat) : Drawn w (w'.drewN n) := by obtain ⟨q, rfl⟩ := h; exact ⟨_, World.drewN_drewN _ _ _⟩
theorem Drawn.out {w w' : World} (h : Drawn w w') : ∃ q, w' = w.drewN q := h
theorem Drawn.below {w w' : World} (h : Drawn w w') : Below w.heap.size w w' := by obtain ⟨q, rfl⟩ := h; exact below_drewN' _ _ _
theorem Drawn.size {w w' : World} (h : Drawn w w') : w'.heap.size = w.heap.size := by obtain ⟨q, rfl⟩ := h; rfl
theorem Drawn.own {w w' : World} {base e s n : Nat} {v : Value} {xs : List Value} (h : Drawn w w') (ho : w.ownsRow base e s v n xs) : w'.ownsRow base e s v n xs := by obtain ⟨q, rfl⟩ := h; exact ho
theorem Rd.drawn {w w' : World} {s n : Nat} {A : Option Addr} {xs : List Value} (h : Rd w s A n xs) (k : Drawn w w') : Rd w' s A n xs := h.below k.below

def ints (xs : List Int) : List Value := xs.map (Value.int .i64)
theorem ints_length (xs : List Int) : (ints xs).length = xs.length := by simp [ints]
theorem ints_get {xs : List Int} {k : Nat} {x : Int} (h : xs[k]? = some x) : (ints xs)[k]? = some (.int .i64 x) := by simp [ints, h]
theorem ints_append (xs ys : List Int) : ints (xs ++ ys) = ints xs ++ ints ys := by simp [ints]
theorem ints_set (xs : List Int) (k : Nat) (x : Int) : ints (xs.set k x) = (ints xs).set k (.int .i64 x) := by simp [ints, List.map_set]
theorem ints_inj {xs ys : List Int} (h : ints xs = ints ys) : xs = ys := by
  induction xs generalizing ys with
  | nil => cases ys with
    | nil => rfl
    | cons y r => simp [ints] at h
  | cons x r ih => cases ys with
    | nil => simp [ints] at h
    | cons y q =>
      simp only [ints, List.map_cons, List.cons.injEq, Value.int.injEq, true_and] at h
      rw [h.1, ih h.2]

theorem drop_cons {α : Type} {xs : List α} {k : Nat} (hk : k < xs.length) : ∃ x, xs[k]? = some x ∧ xs.drop k = x :: xs.drop (k + 1) :=
  ⟨xs[k], List.getElem?_eq_getElem hk, List.drop_eq_getElem_cons hk⟩

theorem take_snoc_get {α : Type} {xs : List α} {k : Nat} {x : α} (h : xs[k]? = some x) : xs.take (k + 1) = xs.take k ++ [x] := by
  obtain ⟨hk, he⟩ := List.getElem?_eq_some_iff.1 h
  rw [List.take_succ_eq_append_getElem hk, he]

theorem Rd.int {w : World} {A : Option Addr} {n k : Nat} {xs : List Int} (h : Rd w 1 A n (ints xs)) (hk : k < n) :
    ∃ b o x, A = some ⟨b, o, none⟩ ∧ xs[k]? = some x ∧ xs.drop k = x :: xs.drop (k + 1) ∧ w.cell? ⟨b, o + k, none⟩ = some (.int .i64 x) := by
  obtain ⟨b, o, e, hc⟩ := h.pos (by omega)
  have hl := h.len
  rw [ints_length, Nat.mul_one] at hl
  obtain ⟨x, h1, h2⟩ := drop_cons (xs := xs) (k := k) (by omega)
  exact ⟨b, o, x, e, h1, h2, hc k _ (ints_get h1)⟩
theorem Rd.len_int {w : World} {A : Option Addr} {n : Nat} {xs : List Int} (h : Rd w 1 A n (ints xs)) : xs.length = n := by
  have hl := h.len
  rwa [ints_length, Nat.mul_one] at hl

/-! ### Own rows -/
theorem own_rd {w : World} {base e s n c : Nat} {A : Option Addr} {xs : List Value} (h : w.ownsRow base e s (.slice A n c) n xs) : Rd w s A n xs := by
  rcases h.2 with ⟨hv, hn⟩ | ⟨g, cap, cur, hv, hb, hg, hnc, hcm, hcs, htake⟩
  · exact ⟨h.1, by omega, fun h0 => by omega⟩
  · injection hv with hA _ hc
    subst hA hc
    refine ⟨h.1, by simp only [maxLen] at hcm; omega, fun _ => ⟨g, 0, rfl, fun i u hu => ?_⟩⟩
    have := h.cells (g := g) rfl i u hu
    have hadd : (⟨g, 0, none⟩ : Addr).add i = ⟨g, 0 + i, none⟩ := by unfold Addr.add; split <;> simp_all
    rwa [hadd] at this

/-- What an own row gives at an index. -/
theorem own_at {w : World} {base e n c k : Nat} {A : Option Addr} {xs : List Value} (h : w.ownsRow base e 1 (.slice A n c) n xs) (hk : k < n) :
    ∃ g u, A = some ⟨g, 0, none⟩ ∧ base ≤ g ∧ g < w.heap.size ∧ xs[k]? = some u ∧ w.cell? ⟨g, k, none⟩ = some u ∧ w.frozen? ⟨g, k, none⟩ = false := by
  rcases h.2 with ⟨hv, hn⟩ | ⟨g, cap, cur, hv, hb, hg, hnc, hcm, hcs, htake⟩
  · omega
  · have hv' := hv
    injection hv with hA _ hc
    subst hA hc
    have hl := h.1
    have hx : xs[k]? = some (xs[k]'(by omega)) := List.getElem?_eq_getElem _
    exact ⟨g, _, rfl, hb, (Array.getElem?_eq_some_iff.1 hg).1, hx, (h.cellAt k (by omega)).trans hx, h.frozenAt k⟩
theorem own_int_at {w : World} {base e n c k : Nat} {A : Option Addr} {xs : List Int} (h : w.ownsRow base e 1 (.slice A n c) n (ints xs)) (hk : k < n) :
    ∃ g x, A = some ⟨g, 0, none⟩ ∧ base ≤ g ∧ g < w.heap.size ∧ xs[k]? = some x ∧ w.cell? ⟨g, k, none⟩ = some (.int .i64 x) ∧ w.frozen? ⟨g, k, none⟩ = false := by
  obtain ⟨g, u, h1, h2, h3, h4, h5, h6⟩ := own_at h hk
  have hl := h.1
  rw [ints_length, Nat.mul_one] at hl
  have hx : xs[k]? = some (xs[k]'(by omega)) := List.getElem?_eq_getElem _
  rw [ints_get hx] at h4
  injection h4 with h4
  subst h4
  exact ⟨g, _, h1, h2, h3, hx, h5, h6⟩
theorem own_len {w : World} {base e n : Nat} {v : Value} {xs : List Int} (h : w.ownsRow base e 1 v n (ints xs)) : xs.length = n := by
  have hl := h.1
  rwa [ints_length, Nat.mul_one] at hl
theorem own_set {w : World} {base e g n c k : Nat} {xs : List Int} (h : w.ownsRow base e 1 (.slice (some ⟨g, 0, none⟩) n c) n (ints xs)) (x : Int) :
    (w.setCell ⟨g, k, none⟩ (.int .i64 x)).ownsRow base e 1 (.slice (some ⟨g, 0, none⟩) n c) n (ints (xs.set k x)) := by
  rw [ints_set]; exact (h.stored k _).1
theorem own_below {w w' : World} {base e s n : Nat} {v : Value} {xs : List Value} (h : w.ownsRow base e s v n xs) (k : Below w.heap.size w w') : w'.ownsRow base e s v n xs :=
  h.kept ⟨k.os, k.tape, k.output, k.size, fun i hi _ => k.block i hi⟩ (row := none) (by cases v.ownBlock <;> simp)
theorem own_base {w : World} {base base' e s n : Nat} {v : Value} {xs : List Value} (h : w.ownsRow base e s v n xs) (hb : base' ≤ base) : w.ownsRow base' e s v n xs := by
  refine ⟨h.1, ?_⟩
  rcases h.2 with h1 | ⟨g, cap, cur, a, b, r⟩
  · exact .inl h1
  · exact .inr ⟨g, cap, cur, a, by omega, r⟩
theorem own_made (w : World) (base e n : Nat) (z : Value) (hb : base ≤ w.heap.size) (hm : n ≤ 9223372036854775807) :
    (w.alloc (.cells (madeCells #[z] n) e)).ownsRow base e 1 (.slice (some ⟨w.heap.size, 0, none⟩) n n) n (List.replicate n z) := by
  have := World.ownsRow_lit (base := base) (e := e) (size := 1) w (madeCells #[z] n) n hb (by unfold maxLen; omega) (by simp [size_madeCells])
  rwa [toList_madeCells_one] at this
theorem own_empty (w : World) (base e : Nat) (hb : base ≤ w.heap.size) : (w.alloc (.cells #[] e)).ownsRow base e 1 (.slice (some ⟨w.heap.size, 0, none⟩) 0 0) 0 [] := by
  have := World.ownsRow_lit (base := base) (e := e) (size := 1) w #[] 0 hb (by unfold maxLen; omega) (by simp)
  simpa using this
theorem cell_new1 (w : World) (v : Value) (e : TypeId) : (w.alloc (.cells #[v] e)).cell? ⟨w.heap.size, 0, none⟩ = some v := by simp
theorem ints_replicate (n : Nat) (x : Int) : ints (List.replicate n x) = List.replicate n (.int .i64 x) := by simp [ints]

/-- One step of a copy. -/
theorem copy_stepG {α : Type} (d : α) (xs : List α) (n k : Nat) (x : α) (hl : xs.length = n) (hx : xs[k]? = some x) (hk : k < n) :
    (xs.take k ++ List.replicate (n - k) d).set k x = xs.take (k + 1) ++ List.replicate (n - (k + 1)) d := by
  subst hl
  have hx' : xs[k] = x := by rw [List.getElem?_eq_getElem hk] at hx; exact Option.some.inj hx
  rw [List.set_append, if_neg (by simp; omega), List.take_succ_eq_append_getElem hk, hx']
  have e : xs.length - k = (xs.length - (k + 1)) + 1 := by omega
  rw [e, List.replicate_succ]
  have e2 : k - (List.take k xs).length = 0 := by simp; omega
  rw [e2]
  simp
theorem copy_step (xs : List Int) (n k : Nat) (x : Int) (hl : xs.length = n) (hx : xs[k]? = some x) (hk : k < n) :
    (xs.take k ++ List.replicate (n - k) 0).set k x = xs.take (k + 1) ++ List.replicate (n - (k + 1)) 0 := copy_stepG 0 xs n k x hl hx hk

def bools (xs : List Bool) : List Value := xs.map Value.bool
theorem bools_length (xs : List Bool) : (bools xs).length = xs.length := by simp [bools]
theorem bools_replicate (n : Nat) (x : Bool) : bools (List.replicate n x) = List.replicate n (.bool x) := by simp [bools]
theorem own_bool_at {w : World} {base e n c k : Nat} {A : Option Addr} {xs : List Bool} (h : w.ownsRow base e 1 (.slice A n c) n (bools xs)) (hk : k < n) :
    ∃ g x, A = some ⟨g, 0, none⟩ ∧ base ≤ g ∧ g < w.heap.size ∧ xs[k]? = some x ∧ w.cell? ⟨g, k, none⟩ = some (.bool x) ∧ w.frozen? ⟨g, k, none⟩ = false := by
  obtain ⟨g, u, h1, h2, h3, h4, h5, h6⟩ := own_at h hk
  have hl := h.1
  rw [bools_length, Nat.mul_one] at hl
  have hx : xs[k]? = some (xs[k]'(by omega)) := List.getElem?_eq_getElem _
  have h4' : (bools xs)[k]? = some (.bool (xs[k]'(by omega))) := by simp [bools, hx]
  rw [h4'] at h4
  injection h4 with h4
  subst h4
  exact ⟨g, _, h1, h2, h3, hx, h5, h6⟩
theorem own_set_bool {w : World} {base e g n c k : Nat} {xs : List Bool} (h : w.ownsRow base e 1 (.slice (some ⟨g, 0, none⟩) n c) n (bools xs)) (x : Bool) :
    (w.setCell ⟨g, k, none⟩ (.bool x)).ownsRow base e 1 (.slice (some ⟨g, 0, none⟩) n c) n (bools (xs.set k x)) := by
  have e : bools (xs.set k x) = (bools xs).set k (.bool x) := by simp [bools, List.map_set]
  rw [e]; exact (h.stored k _).1

/-! ### A slice of integers that came in (the shells' IsRow) -/
def IsRow (k : IntKind) (w : World) (a : Option Addr) (len cap : Nat) (zs : List Int) : Prop :=
  (a = none ∧ len = 0 ∧ cap = 0 ∧ zs = []) ∨
  ∃ x, a = some x ∧ len ≤ cap ∧ cap ≤ maxLen ∧ zs.length = cap ∧ (∀ i, i < zs.length → w.cell? (x.add i) = some (.int k (zs.getD i 0))) ∧ ∀ n ∈ zs, (Lit.int k n).wf = true

theorem spot_none {w : World} {x : Addr} {v : Value} (h : w.cell? x = some v) : x.spot = none := by
  unfold World.cell? at h
  split at h
  · split at h
    · cases h
    · rename_i hs; simpa using hs
  · cases h
theorem IsRow.rd {w : World} {a : Option Addr} {len cap : Nat} {zs : List Int} (h : IsRow .i64 w a len cap zs) : Rd w 1 a len (ints (zs.take len)) := by
  rcases h with ⟨rfl, rfl, rfl, rfl⟩ | ⟨x, rfl, h1, h2, h3, h4, h5⟩
  · exact ⟨rfl, by omega, fun h => by omega⟩
  · unfold maxLen at h2
    refine ⟨by simp [ints]; omega, by omega, fun hn => ?_⟩
    have h0 := h4 0 (by omega)
    have hadd0 : x.add 0 = x := by simp [Addr.add]
    rw [hadd0] at h0
    obtain ⟨b, o, sp⟩ := x
    obtain rfl : sp = none := spot_none h0
    refine ⟨b, o, rfl, fun i u hu => ?_⟩
    have hlen : i < (ints (zs.take len)).length := by
      rcases Nat.lt_or_ge i (ints (zs.take len)).length with h | h
      · exact h
      · rw [List.getElem?_eq_none h] at hu; cases hu
    have hi : i < len := by simp [ints] at hlen; omega
    have hc := h4 i (by omega)
    have hadd : (⟨b, o, none⟩ : Addr).add i = ⟨b, o + i, none⟩ := by unfold Addr.add; split <;> simp_all
    rw [hadd] at hc
    rw [hc, ← hu]
    simp [ints, hi, List.getElem?_eq_getElem (show i < zs.length by omega)]

/-! ### Only one row is written -/
theorem grown_set {a w : World} {g : Nat} (h : a.grownBy w (some g)) (k : Nat) (u : Value) : a.grownBy (w.setCell ⟨g, k, none⟩ u) (some g) :=
  ⟨h.os, h.tape, h.output, by simpa [World.setCell] using h.size, fun i hi hne => (Below.heap_setCell w _ u i (by rintro rfl; exact hne rfl)).trans (h.block i hi hne)⟩
theorem size_set (w : World) (p : Addr) (u : Value) : (w.setCell p u).heap.size = w.heap.size := by simp [World.setCell]

/-- Blocks from lo to below hi may have been written; all others of w are as they were. -/
structure Chg (lo hi : Nat) (w w' : World) : Prop where
  os : w'.os = w.os
  tape : w'.tape = w.tape
  output : w'.output = w.output
  size : w.heap.size ≤ w'.heap.size
  block : ∀ k, k < w.heap.size → (k < lo ∨ hi ≤ k) → w'.heap[k]? = w.heap[k]?
theorem Chg.of_below {lo hi : Nat} {w w' : World} (h : Below w.heap.size w w') : Chg lo hi w w' := ⟨h.os, h.tape, h.output, h.size, fun k hk _ => h.block k hk⟩
theorem Chg.refl (lo hi : Nat) (w : World) : Chg lo hi w w := Chg.of_below (Below.refl _ _)
theorem Chg.trans {lo hi : Nat} {a b c : World} (h : Chg lo hi a b) (k : Chg lo hi b c) : Chg lo hi a c :=
  ⟨k.os.trans h.os, k.tape.trans h.tape, k.output.trans h.output, Nat.le_trans h.size k.size, fun i hi hn => (k.block i (Nat.lt_of_lt_of_le hi h.size) hn).trans (h.block i hi hn)⟩
theorem Chg.mono {lo hi lo' hi' : Nat} {a b : World} (h : Chg lo hi a b) (h1 : lo' ≤ lo) (h2 : hi ≤ hi') : Chg lo' hi' a b :=
  ⟨h.os, h.tape, h.output, h.size, fun i hi hn => h.block i hi (by omega)⟩
theorem Chg.of_grown {lo hi : Nat} {w w' : World} {row : Option Nat} (h : w.grownBy w' row) (hr : ∀ k, row = some k → lo ≤ k ∧ k < hi) : Chg lo hi w w' :=
  ⟨h.os, h.tape, h.output, h.size, fun k hk hn => h.block k hk (fun e => by have := hr k e.symm; omega)⟩
theorem below_chg {B lo hi : Nat} {a w w' : World} (h : Below B a w) (k : Chg lo hi w w') (h1 : B ≤ lo) (h2 : B ≤ w.heap.size) : Below B a w' :=
  ⟨k.os.trans h.os, k.tape.trans h.tape, k.output.trans h.output, Nat.le_trans h.size k.size, fun i hi => (k.block i (by omega) (by omega)).trans (h.block i hi)⟩
theorem own_chg {lo hi : Nat} {w w' : World} {base e s n : Nat} {v : Value} {xs : List Value} (h : w.ownsRow base e s v n xs) (k : Chg lo hi w w')
    (hv : ∀ b, v.ownBlock = some b → b < lo ∨ hi ≤ b) : w'.ownsRow base e s v n xs := by
  refine ⟨h.1, ?_⟩
  rcases h.2 with hn | ⟨g, cap, cur, rfl, hb, hgg, rest⟩
  · exact .inl hn
  · exact .inr ⟨g, cap, cur, rfl, hb, (k.block g (Array.getElem?_eq_some_iff.1 hgg).1 (hv g rfl)).trans hgg, rest⟩

/-! ### Four results -/
theorem results_tmp4 {fn : Func} {t u v x : Tmp} (h : fn.results = #[.tmp t, .tmp u, .tmp v, .tmp x]) (tmps : Array Value) (P : Program) (w : World) :
    (results fn tmps).run P w = .ok (.tuple #[tmps.getD t undef, tmps.getD u undef, tmps.getD v undef, tmps.getD x undef]) w := by simp [results, h]

/-! ### Spelling -/
theorem ret_int {k : IntKind} {a b : Int} (h : a = b) : Ending.returned (.int k a) = .returned (.int k b) := by rw [h]
theorem ret_bool {a b : Bool} (h : a = b) : Ending.returned (.bool a) = .returned (.bool b) := by rw [h]
theorem int_up (x : Int) (h : 0 ≤ x) : ∃ n : Nat, x = n := ⟨x.toNat, by omega⟩

def withinB (n a b : Int) : Bool := decide (a ≤ n) && decide (n ≤ b)
theorem withinB_iff {n a b : Int} : withinB n a b = true ↔ a ≤ n ∧ n ≤ b := by simp [withinB]
theorem withinB_not {n a b : Int} : withinB n a b = false ↔ ¬ (a ≤ n ∧ n ≤ b) := by rw [← withinB_iff]; simp
end Go.Proofs.YtalgdeieejpelaaGreat

/- Sizes that the laws ask first, of slices of structs. -/
namespace Go.Proofs.YtalgdeieejpelaaGreat
set_option linter.unusedVariables false

def szIf (left : Int) (n : Nat) : Int := if left < n then -1 else left - n
theorem szIf_le {left : Int} {n : Nat} (h : 0 ≤ szIf left n) (h1 : left ≤ 1048576) : n ≤ 1048576 := by
  unfold szIf at h
  split at h <;> omega
theorem szIf_top {left : Int} {n : Nat} (h : 0 ≤ szIf left n) (h0 : 0 ≤ left) (h1 : left ≤ 1048576) : szIf left n ≤ 1048576 := by
  unfold szIf at h ⊢
  split at h
  · omega
  · rw [if_neg (by assumption)]; omega
end Go.Proofs.YtalgdeieejpelaaGreat

/- Walks: the laws' helpers on []int64: copy, compare, mark, hold. -/
namespace Go.Proofs.YtalgdeieejpelaaGreat
open Go.RowKit
set_option linter.unusedVariables false

theorem Tryz.info_i64 : (Tryz.prog.info? 2).map (fun i => (i.zero, i.size, i.bytes)) = some (some (.int .i64 0), 1, 8) := by kernel_rfl

theorem run_make_i64 (n : Nat) (h : n ≤ 1048576) (w : World) :
    (Instr.makeSlice 25 (.int .i64 (n : Int)) (.int .i64 (n : Int))).run Tryz.prog w = .ok (.slice (some ⟨w.heap.size, 0, none⟩) n n) (w.alloc (.cells (madeCells #[.int .i64 0] n) 2)) := by
  obtain ⟨i, hi, hz, hs, hb⟩ := info_parts Tryz.info_i64
  have hr := run_make (P := Tryz.prog) w 25 2 i (.int .i64 0) Tryz.underlying25 hi hz .i64 .i64 n n (by omega) (by omega) (by rw [hb]; omega) (by omega)
  rw [hs, Nat.mul_one, Int.toNat_natCast] at hr
  exact hr

/-- The copy of a slice: what it returns. -/
def RetCopy (w : World) (xs : List Int) (e : Ending) (w' : World) : Prop :=
  ∃ A n c, e = .returned (.slice A n c) ∧ w'.ownsRow w.heap.size 2 1 (.slice A n c) n (ints xs) ∧ n ≤ 1048576 ∧ Below w.heap.size w w'

theorem toInt64S_any (A : Option Addr) (n c : Nat) (xs : List Int) (w : World) (h : Rd w 1 A n (ints xs)) (hn : n ≤ 1048576) :
    Calls Tryz.prog 9 #[.slice A n c] w (RetCopy w xs) := by
  have HN := Lib.hid h.len_int
  have hmk := run_make_i64 n hn
  have hown := own_made w w.heap.size 2 n (.int .i64 0) (Nat.le_refl _) (by omega)
  rw [← ints_replicate] at hown
  have hb0 : Below w.heap.size w (w.alloc (.cells (madeCells #[.int .i64 0] n) 2)) := (Below.refl _ _).alloc (Nat.le_refl _) _
  go_enter Tryz.func9, Tryz.ntmps9
  go_wp2
  go_loopw [4] (fun i wr => ∃ k : Nat, k ≤ n ∧ i = .int .i64 k ∧ wr.ownsRow w.heap.size 2 1 (.slice (some ⟨w.heap.size, 0, none⟩) n n) n (ints (xs.take k ++ List.replicate (n - k) 0)) ∧ Below w.heap.size w wr) (fun i _ => n - (intOf i).toNat)
  case atStart => exact ⟨0, Nat.zero_le _, rfl, by simpa using hown, hb0⟩
  case round =>
    obtain ⟨k, hk, rfl, ho, hb⟩ := hrel
    clear hown hb0 hmk
    by_cases hlt : k < n
    · obtain ⟨b, o, x, rfl, hx, hd, hc⟩ := (h.below hb).int hlt
      have HX := Lib.hid hx; clear hx hd
      obtain ⟨g, y, hg, hg1, hg2, hy, hcy, hfy⟩ := own_int_at ho hlt
      obtain rfl : w.heap.size = g := by injection hg with hg; injection hg
      have ho' := own_set (k := k) ho x
      have hb' := hb.setCell (p := ⟨w.heap.size, k, none⟩) (Nat.le_refl _) (.int .i64 x)
      clear hy hg
      go_wp2
      go_roundw
      case rel =>
        refine ⟨k + 1, by omega, by go_num, ?_, hb'⟩
        rw [← copy_step xs n k x HN.out HX.out hlt]
        exact ho'
      case measure => simp [intOf]; omega
    · obtain rfl : k = n := by omega
      go_wp2
      go_ret
      refine ⟨_, _, _, rfl, ?_, hn, hb⟩
      have hl := HN.out
      simpa [← hl] using ho

theorem eqInt64S_any (A A' : Option Addr) (n c n' c' : Nat) (xs ys : List Int) (w : World) (h : Rd w 1 A n (ints xs)) (h' : Rd w 1 A' n' (ints ys)) :
    Calls Tryz.prog 11 #[.slice A n c, .slice A' n' c'] w fun e w' => e = .returned (.bool (decide (xs = ys))) ∧ ∃ q, w' = w.drewN q := by
  have HN := Lib.hid h.len_int
  have HN' := Lib.hid h'.len_int
  have hm := h.le
  by_cases hl : n = n'
  · subst hl
    go_enter Tryz.func11, Tryz.ntmps11
    go_wp2
    go_loopw [5] (fun i wr => ∃ k : Nat, k ≤ n ∧ i = .int .i64 k ∧ (xs = ys ↔ xs.drop k = ys.drop k) ∧ ∃ q, wr = w.drewN q) (fun i _ => n - (intOf i).toNat)
    case atStart => exact ⟨0, Nat.zero_le _, rfl, by simp, 0, rfl⟩
    case round =>
      obtain ⟨k, hk, rfl, hall, q, rfl⟩ := hrel
      have HA := Lib.hid hall; clear hall
      by_cases hlt : k < n
      · obtain ⟨b, o, x, rfl, hx, hd, hc⟩ := h.int hlt
        obtain ⟨b', o', x', rfl, hx', hd', hc'⟩ := h'.int hlt
        clear hx hx'
        have HD := Lib.hid hd; clear hd
        have HD' := Lib.hid hd'; clear hd'
        by_cases hxx : x = x'
        · subst hxx
          go_wp2
          go_quiet (fail)
          go_wp2
          go_roundw
          case rel => exact ⟨k + 1, by omega, by go_num, by rw [HA.out, HD.out, HD'.out]; simp, _, rfl⟩
          case measure => simp [intOf]; omega
        · have hne : (x != x') = true := by simp [hxx]
          go_wp2
          go_quiet (fail)
          go_wp2
          go_ret
          exact ⟨ret_bool (by rw [eq_comm, decide_eq_false_iff_not, HA.out, HD.out, HD'.out]; simp [hxx]), _, World.drewN_drewN _ _ _⟩
      · obtain rfl : k = n := by omega
        go_wp2
        go_ret
        exact ⟨ret_bool (by rw [eq_comm, decide_eq_true_iff, HA.out, List.drop_eq_nil_of_le (by rw [HN.out]; omega), List.drop_eq_nil_of_le (by rw [HN'.out]; omega)]), _, rfl⟩
  · have hne : ((n : Int) != n') = true := by simp; omega
    go_enter Tryz.func11, Tryz.ntmps11
    go_wp2
    go_ret
    exact ⟨ret_bool (by rw [eq_comm, decide_eq_false_iff_not]; rintro rfl; exact hl (HN.out.symm.trans HN'.out)), 0, rfl⟩

/-- marking: the slice holds k, k+1, .. -/
def seqFrom (k : Int) : Nat → List Int
  | 0 => []
  | n + 1 => k :: seqFrom (k + 1) n
theorem seqFrom_length (k : Int) (n : Nat) : (seqFrom k n).length = n := by
  induction n generalizing k with
  | zero => rfl
  | succ n ih => simp [seqFrom, ih]
theorem seqFrom_get (k : Int) (n i : Nat) (h : i < n) : (seqFrom k n)[i]? = some (k + i) := by
  induction n generalizing k i with
  | zero => omega
  | succ n ih =>
    cases i with
    | zero => simp [seqFrom]
    | succ i => simp only [seqFrom, List.getElem?_cons_succ]; rw [ih _ _ (by omega)]; simp; omega

theorem seqFrom_snoc (k : Int) (j : Nat) : seqFrom k (j + 1) = seqFrom k j ++ [k + j] := by
  induction j generalizing k with
  | zero => simp [seqFrom]
  | succ j ih => rw [seqFrom, ih, seqFrom]; simp; omega
theorem seq_step (k : Int) (j : Nat) (xs : List Int) (h : j < xs.length) : (seqFrom k j ++ xs.drop j).set j (k + j) = seqFrom k (j + 1) ++ xs.drop (j + 1) := by
  rw [List.set_append, if_neg (by simp [seqFrom_length]), seqFrom_snoc, List.drop_eq_getElem_cons h, seqFrom_length, Nat.sub_self, List.set_cons_zero, List.append_assoc]
  rfl
/-- Marks into an own row. -/
theorem markInt64S_any (base e : Nat) (A : Option Addr) (n c : Nat) (xs : List Int) (k : Int) (w : World) (h : w.ownsRow base e 1 (.slice A n c) n (ints xs)) (hk0 : 0 ≤ k) (hk1 : k ≤ 1152921504606846976) (hn : n ≤ 1152921504606846976) :
    Calls Tryz.prog 14 #[.slice A n c, .int .i64 k] w fun e' w' => e' = .returned (.int .i64 (k + n)) ∧ w'.ownsRow base e 1 (.slice A n c) n (ints (seqFrom k n)) ∧ w.grownBy w' (Value.slice A n c).ownBlock ∧ w'.heap.size = w.heap.size := by
  have HN := Lib.hid (own_len h)
  go_enter Tryz.func14, Tryz.ntmps14
  go_wp2
  go_loopw [1, 5] (fun t i wr => ∃ j : Nat, j ≤ n ∧ i = .int .i64 j ∧ t = .int .i64 (k + j) ∧ wr.ownsRow base e 1 (.slice A n c) n (ints (seqFrom k j ++ xs.drop j)) ∧ w.grownBy wr (Value.slice A n c).ownBlock ∧ Hid (wr.heap.size = w.heap.size)) (fun _ i _ => n - (intOf i).toNat)
  case atStart => exact ⟨0, Nat.zero_le _, rfl, by simp, by simpa [seqFrom] using h, World.grownBy.refl _ _, rfl⟩
  case round =>
    obtain ⟨j, hj, rfl, rfl, ho, hg, hs⟩ := hrel
    clear h
    by_cases hlt : j < n
    · obtain ⟨g, x, rfl, hg1, hg2, hx, hc, hf⟩ := own_int_at ho hlt
      have ho' := own_set (k := j) ho (k + j)
      have hg' : w.grownBy (wr.setCell ⟨g, j, none⟩ (.int .i64 (k + j))) (some g) := grown_set hg j _
      have hs' : Hid ((wr.setCell ⟨g, j, none⟩ (.int .i64 (k + j))).heap.size = w.heap.size) := (size_set _ _ _).trans hs.out
      clear hx
      go_wp2
      go_roundw
      case rel => exact ⟨j + 1, by omega, by go_num, by rw [show k + (j : Int) + 1 = k + ((j + 1 : Nat) : Int) from by omega], by rw [← seq_step k j xs (by rw [HN.out]; exact hlt)]; exact ho', hg', hs'⟩
      case measure => simp [intOf]; omega
    · obtain rfl : j = n := by omega
      go_wp2
      go_ret
      exact ⟨rfl, by simpa [List.drop_eq_nil_of_le (show xs.length ≤ j by rw [HN.out]; omega)] using ho, hg, hs.out⟩

/-- Held: are the marks still there? -/
def heldF (k : Int) : List Int → Int
  | [] => k
  | x :: r => if x = k then heldF (k + 1) r else -1
theorem heldF_seq (k : Int) (n : Nat) : heldF k (seqFrom k n) = k + n := by
  induction n generalizing k with
  | zero => simp [seqFrom, heldF]
  | succ n ih => simp only [seqFrom, heldF, if_true]; rw [ih]; omega

theorem heldInt64S_any (A : Option Addr) (n c : Nat) (xs : List Int) (k : Int) (w : World) (h : Rd w 1 A n (ints xs)) (hk0 : 0 ≤ k) (hk1 : k ≤ 1152921504606846976) (hn : n ≤ 1152921504606846976) :
    Calls Tryz.prog 15 #[.slice A n c, .int .i64 k] w fun e w' => e = .returned (.int .i64 (heldF k xs)) ∧ w = w' := by
  have HN := Lib.hid h.len_int
  go_enter Tryz.func15, Tryz.ntmps15
  go_wp2
  go_loop [1, 5] (fun t i => ∃ j : Nat, j ≤ n ∧ i = .int .i64 j ∧ t = .int .i64 (k + j) ∧ heldF (k + j) (xs.drop j) = heldF k xs) (fun _ i => n - (intOf i).toNat)
  case atStart => exact ⟨0, Nat.zero_le _, rfl, by simp, by simp⟩
  case round =>
    obtain ⟨j, hj, rfl, rfl, hr⟩ := hrel
    have HR := Lib.hid hr; clear hr
    by_cases hlt : j < n
    · obtain ⟨b, o, x, rfl, hx, hd, hc⟩ := h.int hlt
      clear hx
      have HD := Lib.hid hd; clear hd
      by_cases hxx : x = k + j
      · subst hxx
        go_wp2
        go_round
        case rel => exact ⟨j + 1, by omega, by go_num, by rw [show k + (j : Int) + 1 = k + ((j + 1 : Nat) : Int) from by omega], by rw [← HR.out, HD.out, heldF, if_pos rfl, show k + ((j + 1 : Nat) : Int) = k + (j : Int) + 1 from by omega]⟩
        case measure => simp [intOf]; omega
      · have hne : (x != k + j) = true := by simp [hxx]
        go_wp2
        go_ret
        exact ⟨ret_int (by rw [← HR.out, HD.out, heldF, if_neg hxx]), rfl⟩
    · obtain rfl : j = n := by omega
      go_wp2
      go_ret
      exact ⟨ret_int (by rw [← HR.out, List.drop_eq_nil_of_le (show xs.length ≤ j by rw [HN.out]; omega), heldF]), rfl⟩

theorem heldSeq_any (A : Option Addr) (n c : Nat) (k : Int) (w : World) (h : Rd w 1 A n (ints (seqFrom k n))) (hk0 : 0 ≤ k) (hk1 : k ≤ 1152921504606846976) (hn : n ≤ 1152921504606846976) :
    Calls Tryz.prog 15 #[.slice A n c, .int .i64 k] w fun e w' => e = .returned (.int .i64 (k + n)) ∧ w = w' := by
  have := heldInt64S_any A n c _ k w h hk0 hk1 hn
  rwa [heldF_seq] at this

/-- Marks, in intervals of blocks. -/
theorem mark_any (base lo hi e : Nat) (A : Option Addr) (n c : Nat) (xs : List Int) (k : Int) (w : World) (h : w.ownsRow base e 1 (.slice A n c) n (ints xs)) (hv : ∀ b, (Value.slice A n c).ownBlock = some b → lo ≤ b ∧ b < hi)
    (hk0 : 0 ≤ k) (hk1 : k ≤ 1152921504606846976) (hn : n ≤ 1152921504606846976) :
    Calls Tryz.prog 14 #[.slice A n c, .int .i64 k] w fun e' w' => e' = .returned (.int .i64 (k + n)) ∧ w'.ownsRow base e 1 (.slice A n c) n (ints (seqFrom k n)) ∧ Chg lo hi w w' :=
  (markInt64S_any base e A n c xs k w h hk0 hk1 hn).mono fun _ _ ⟨h1, h2, h3, _⟩ => ⟨h1, h2, Chg.of_grown h3 hv⟩

/-- One number is appended to an own row. -/
theorem app_i64 {ops : Array Oper} {rest : List Oper} {o : Oper} {a : Act} {Q : Exit → Act → World → Prop} (w : World) (hgd : o.guard = none) (s x : Operand)
    (ho : o.op = .call { callee := .builtin .append, args := #[s, x], argTypes := #[25, 25] }) {base n c : Nat} {A : Option Addr} {xs : List Int}
    (hs : a.eval s = .slice A n c) (hown : w.ownsRow base 2 1 (.slice A n c) n (ints xs)) {ad : Addr} {x0 : Int} (hx : a.eval x = .slice (some ad) 1 1)
    (hc : w.cell? ad = some (.int .i64 x0)) (hn : n ≤ 1099511627776) (hbase : base ≤ w.heap.size)
    (h : ∀ A' c' w', w'.ownsRow base 2 1 (.slice A' (n + 1) c') (n + 1) (ints (xs ++ [x0])) → w.grownBy w' (Value.slice A n c).ownBlock → wpList Tryz.prog ops Q rest (a.put o.dst (.slice A' (n + 1) c')) w') :
    wpList Tryz.prog ops Q (o :: rest) a w := by
  obtain ⟨i, hi, hz, hs1, hb1⟩ := info_parts Tryz.info_i64
  refine wpList_append_own w hgd s x 25 ho base 2 i (.int .i64 0) 1 8 Tryz.underlying25 hi hz hs1 hb1 rfl (by decide) (.slice A n c) n (ints xs) hs hown ad 1 1 [.int .i64 x0] hx rfl ?_ ?_ (by unfold maxLen; omega) (by omega) hbase ?_
  · intro j u hu
    have hj : j = 0 := by
      rcases j with _ | j
      · rfl
      · simp at hu
    subst hj
    have hadd : ad.add 0 = ad := by simp [Addr.add]
    rw [hadd, hc]
    simpa using hu
  · intro u hu
    simp at hu
    subst hu
    rfl
  · intro v' w' h1 h2 _
    rcases h1.2 with ⟨rfl, h0⟩ | ⟨g, cap, cur, rfl, _⟩
    · omega
    · refine h _ _ w' ?_ h2
      rw [ints_append]
      exact h1
theorem below_app {B base n c e : Nat} {w wr w1 : World} {A : Option Addr} {xs : List Value} {o : Obj} (hb : Below B w wr) (hB : B ≤ wr.heap.size) (hbase : B ≤ base) (hown : wr.ownsRow base e 1 (.slice A n c) n xs)
    (hg : (wr.alloc o).grownBy w1 (Value.slice A n c).ownBlock) : Below B w w1 :=
  (hb.alloc hB o).grown hg (by simp; omega) (fun k hk => Nat.le_trans hbase (hown.lt k hk).1)
theorem eqInt64S_below (A A' : Option Addr) (n c n' c' : Nat) (xs ys : List Int) (w : World) (h : Rd w 1 A n (ints xs)) (h' : Rd w 1 A' n' (ints ys)) :
    Calls Tryz.prog 11 #[.slice A n c, .slice A' n' c'] w fun e w' => e = .returned (.bool (decide (xs = ys))) ∧ Below w.heap.size w w' :=
  (eqInt64S_any A A' n c n' c' xs ys w h h').mono fun _ _ ⟨h1, q, h2⟩ => ⟨h1, by rw [h2]; exact below_drewN' _ _ _⟩
/-- Result: new integers and a code. -/
def RetI (w : World) (r : List Int × Int) (e : Ending) (w' : World) : Prop :=
  ∃ A n c, e = .returned (.tuple #[.slice A n c, .int .i64 r.2]) ∧ w'.ownsRow w.heap.size 2 1 (.slice A n c) n (ints r.1) ∧ n ≤ 1048576 ∧ Below w.heap.size w w'
theorem RetI.nil (w w' : World) (code : Int) (h : Below w.heap.size w w') : RetI w ([], code) (.returned (.tuple #[.slice none 0 0, .int .i64 code])) w' :=
  ⟨none, 0, 0, rfl, World.ownsRow_nil _ _ _ _, by omega, h⟩

end Go.Proofs.YtalgdeieejpelaaGreat

/- Plain memory: slices of structs (s cells an element): no Go function in sight. -/
namespace Go.Proofs.YtalgdeieejpelaaGreat
open Go.RowKit
set_option linter.unusedVariables false

section
variable {α : Type} {f : α → List Value} {s : Nat} (hf : ∀ x, (f x).length = s)
include hf
theorem flat_len (xs : List α) : (xs.flatMap f).length = xs.length * s := by
  induction xs with
  | nil => simp
  | cons x r ih => rw [List.flatMap_cons, List.length_append, ih, hf, List.length_cons, Nat.add_mul]; omega
theorem flat_get {xs : List α} {k : Nat} {x : α} (h : xs[k]? = some x) {j : Nat} (hj : j < s) : (xs.flatMap f)[k * s + j]? = (f x)[j]? := by
  induction xs generalizing k with
  | nil => simp at h
  | cons y r ih =>
    rw [List.flatMap_cons]
    cases k with
    | zero =>
      simp only [List.getElem?_cons_zero, Option.some.injEq] at h
      subst h
      rw [List.getElem?_append_left (by rw [hf]; omega), Nat.zero_mul, Nat.zero_add]
    | succ k =>
      simp only [List.getElem?_cons_succ] at h
      rw [List.getElem?_append_right (by rw [hf, Nat.add_mul]; omega), hf, ← ih h]
      congr 1
      rw [Nat.add_mul]; omega
theorem flat_take (xs : List α) (k : Nat) : (xs.flatMap f).take (k * s) = (xs.take k).flatMap f := by
  induction xs generalizing k with
  | nil => simp
  | cons y r ih =>
    cases k with
    | zero => simp
    | succ k =>
      rw [List.flatMap_cons, List.take_append, hf, List.take_of_length_le (by rw [hf, Nat.add_mul]; omega), List.take_succ_cons, List.flatMap_cons, ← ih k]
      congr 2
      rw [Nat.add_mul]; omega
theorem flat_drop (xs : List α) (k : Nat) : (xs.flatMap f).drop (k * s) = (xs.drop k).flatMap f := by
  induction xs generalizing k with
  | nil => simp
  | cons y r ih =>
    cases k with
    | zero => simp
    | succ k =>
      rw [List.flatMap_cons, List.drop_append, hf, List.drop_of_length_le (by rw [hf, Nat.add_mul]; omega), List.drop_succ_cons, ← ih k, List.nil_append]
      congr 1
      rw [Nat.add_mul]; omega
/-- Cells are stored from a place on. -/
def putL (cs : List Value) (i : Nat) : List Value → List Value
  | [] => cs
  | v :: r => putL (cs.set i v) (i + 1) r
omit hf in
theorem putL_eq (vs : List Value) : ∀ (cs : List Value) (i : Nat), i + vs.length ≤ cs.length → putL cs i vs = cs.take i ++ vs ++ cs.drop (i + vs.length) := by
  induction vs with
  | nil => intro cs i h; simp [putL]
  | cons v r ih =>
    intro cs i h
    rw [List.length_cons] at h
    rw [putL, ih _ _ (by rw [List.length_set]; omega), List.length_cons]
    have h1 : (cs.set i v).take (i + 1) = cs.take i ++ [v] := by
      rw [List.take_succ_eq_append_getElem (by rw [List.length_set]; omega), List.getElem_set_self]
      congr 1
      rw [List.take_set, List.set_eq_of_length_le (by rw [List.length_take]; omega)]
    have h2 : (cs.set i v).drop (i + 1 + r.length) = cs.drop (i + (r.length + 1)) := by
      rw [List.drop_set, if_pos (by omega), show i + 1 + r.length = i + (r.length + 1) from by omega]
    rw [h1, h2]
    simp
theorem flat_put (xs : List α) (k : Nat) (x : α) (hk : k < xs.length) : putL (xs.flatMap f) (k * s) (f x) = (xs.set k x).flatMap f := by
  have hle : k * s + s ≤ xs.length * s := by
    have := Nat.mul_le_mul_right s (show k + 1 ≤ xs.length by omega)
    rw [Nat.add_mul] at this; omega
  rw [putL_eq _ _ _ (by rw [hf, flat_len hf]; exact hle), hf, flat_take hf, show k * s + s = (k + 1) * s from by rw [Nat.add_mul]; omega, flat_drop hf, List.set_eq_take_append_cons_drop, if_pos hk]
  simp
omit hf in
theorem flat_replicate (n : Nat) (x : α) (v : Value) (h : f x = List.replicate s v) : (List.replicate n x).flatMap f = List.replicate (n * s) v := by
  induction n with
  | zero => simp
  | succ n ih => rw [List.replicate_succ, List.flatMap_cons, ih, h, List.replicate_append_replicate]; congr 1; rw [Nat.add_mul]; omega
end
/-- The world behind such a store. -/
def putW (w : World) (g i : Nat) : List Value → World
  | [] => w
  | v :: r => putW (w.setCell ⟨g, i, none⟩ v) g (i + 1) r
theorem own_put {base e s g n c : Nat} (vs : List Value) : ∀ {w : World} {xs : List Value} (i : Nat), w.ownsRow base e s (.slice (some ⟨g, 0, none⟩) n c) n xs → (putW w g i vs).ownsRow base e s (.slice (some ⟨g, 0, none⟩) n c) n (putL xs i vs) := by
  induction vs with
  | nil => intro w xs i h; exact h
  | cons v r ih => intro w xs i h; exact ih (i + 1) (h.stored i v).1
theorem put_grown {g : Nat} (vs : List Value) : ∀ {a w : World} (i : Nat), a.grownBy w (some g) → a.grownBy (putW w g i vs) (some g) := by
  induction vs with
  | nil => intro a w i h; exact h
  | cons v r ih => intro a w i h; exact ih (i + 1) (grown_set h i v)
theorem put_below {B g : Nat} (vs : List Value) : ∀ {a w : World} (i : Nat), Below B a w → B ≤ g → Below B a (putW w g i vs) := by
  induction vs with
  | nil => intro a w i h _; exact h
  | cons v r ih => intro a w i h hg; exact ih (i + 1) (h.setCell hg v) hg
theorem put_size {g : Nat} (vs : List Value) : ∀ {w : World} (i : Nat), (putW w g i vs).heap.size = w.heap.size := by
  induction vs with
  | nil => intro w i; rfl
  | cons v r ih => intro w i; exact (ih (i + 1)).trans (size_set _ _ _)
theorem put_chg {lo hi g : Nat} (vs : List Value) : ∀ {a w : World} (i : Nat), Chg lo hi a w → lo ≤ g → g < hi → Chg lo hi a (putW w g i vs) := by
  induction vs with
  | nil => intro a w i h _ _; exact h
  | cons v r ih =>
    intro a w i h h1 h2
    refine ih (i + 1) ?_ h1 h2
    exact h.trans (Chg.of_grown (grown_set (World.grownBy.refl w (some g)) i v) (fun k e => by injection e with e; omega))

/-- What is read of an element. -/
theorem Rd.flat {α : Type} {f : α → List Value} {s : Nat} (hf : ∀ x, (f x).length = s) (hs : 0 < s) {w : World} {A : Option Addr} {n k : Nat} {xs : List α} (h : Rd w s A n (xs.flatMap f)) (hk : k < n) :
    ∃ b o x, A = some ⟨b, o, none⟩ ∧ xs[k]? = some x ∧ xs.drop k = x :: xs.drop (k + 1) ∧ ∀ j u, (f x)[j]? = some u → w.cell? ⟨b, o + (k * s + j), none⟩ = some u := by
  obtain ⟨b, o, e, hc⟩ := h.pos (by omega)
  have hl := h.len
  rw [flat_len hf] at hl
  have hl := Nat.eq_of_mul_eq_mul_right hs hl
  obtain ⟨x, h1, h2⟩ := drop_cons (xs := xs) (k := k) (by omega)
  refine ⟨b, o, x, e, h1, h2, fun j u hu => hc _ _ ?_⟩
  rw [flat_get hf h1 (by have := (List.getElem?_eq_some_iff.1 hu).1; rw [hf] at this; exact this)]
  exact hu
theorem Rd.len_flat {α : Type} {f : α → List Value} {s : Nat} (hf : ∀ x, (f x).length = s) (hs : 0 < s) {w : World} {A : Option Addr} {n : Nat} {xs : List α} (h : Rd w s A n (xs.flatMap f)) : xs.length = n := by
  have hl := h.len
  rw [flat_len hf] at hl
  exact Nat.eq_of_mul_eq_mul_right hs hl
theorem own_len_flat {α : Type} {f : α → List Value} {s : Nat} (hf : ∀ x, (f x).length = s) (hs : 0 < s) {w : World} {base e n : Nat} {v : Value} {xs : List α} (h : w.ownsRow base e s v n (xs.flatMap f)) : xs.length = n := by
  have hl := h.1
  rw [flat_len hf] at hl
  exact Nat.eq_of_mul_eq_mul_right hs hl
/-- What an own row of structs gives at an index. -/
theorem own_flat {α : Type} {f : α → List Value} {s : Nat} (hf : ∀ x, (f x).length = s) (hs : 0 < s) {w : World} {base e n c k : Nat} {A : Option Addr} {xs : List α} (h : w.ownsRow base e s (.slice A n c) n (xs.flatMap f)) (hk : k < n) :
    ∃ g x, A = some ⟨g, 0, none⟩ ∧ base ≤ g ∧ g < w.heap.size ∧ xs[k]? = some x ∧ xs.drop k = x :: xs.drop (k + 1) ∧ (∀ j u, (f x)[j]? = some u → w.cell? ⟨g, k * s + j, none⟩ = some u) ∧ (∀ j, w.frozen? ⟨g, j, none⟩ = false) := by
  have hl := own_len_flat hf hs h
  rcases h.2 with ⟨hv, hn⟩ | ⟨g, cap, cur, hv, hb, hg, hnc, hcm, hcs, htake⟩
  · omega
  · injection hv with hA _ hc
    subst hA hc
    obtain ⟨x, h1, h2⟩ := drop_cons (xs := xs) (k := k) (by omega)
    refine ⟨g, x, rfl, hb, (Array.getElem?_eq_some_iff.1 hg).1, h1, h2, fun j u hu => ?_, fun j => h.frozenAt j⟩
    have hj : j < s := by have := (List.getElem?_eq_some_iff.1 hu).1; rw [hf] at this; exact this
    have hlt : k * s + j < n * s := by
      have := Nat.mul_le_mul_right s (show k + 1 ≤ n by omega)
      rw [Nat.add_mul] at this; omega
    rw [h.cellAt _ hlt, flat_get hf h1 hj, hu]
/-- A new row of zeros. -/
theorem made_zero (z : Array Value) (v : Value) (m : Nat) (hz : 0 < z.size) (h : ∀ i, i < z.size → z[i]! = v) : (madeCells z m).toList = List.replicate m v := by
  unfold madeCells
  refine List.ext_getElem? (fun i => ?_)
  by_cases hi : i < m
  · simp [hi, h _ (Nat.mod_lt i hz)]
  · simp [hi]
theorem own_madeS (w : World) (base e n s : Nat) (z : Array Value) (v : Value) (hz : 0 < z.size) (h : ∀ i, i < z.size → z[i]! = v) (hb : base ≤ w.heap.size) (hm : n ≤ 9223372036854775807) :
    (w.alloc (.cells (madeCells z (n * s)) e)).ownsRow base e s (.slice (some ⟨w.heap.size, 0, none⟩) n n) n (List.replicate (n * s) v) := by
  have := World.ownsRow_lit (base := base) (e := e) (size := s) w (madeCells z (n * s)) n hb (by unfold maxLen; omega) (by simp [size_madeCells])
  rwa [made_zero z v (n * s) hz h] at this

theorem cell_top (w : World) (cs : Array Value) (t : TypeId) {b j : Nat} {v : Value} (hb : b = w.heap.size) (hv : cs[j]? = some v) : (w.alloc (.cells cs t)).cell? ⟨b, j, none⟩ = some v := by
  subst hb
  have h : (w.alloc (.cells cs t)).heap[w.heap.size]? = some (.cells cs t) := by show (w.heap.push _)[w.heap.size]? = _; simp
  simp only [World.cell?, h]
  simpa using hv
theorem cell_under (w : World) (o : Obj) {b j : Nat} {v : Value} (hb : b < w.heap.size) (h : w.cell? ⟨b, j, none⟩ = some v) : (w.alloc o).cell? ⟨b, j, none⟩ = some v :=
  (((Below.refl _ w).alloc (Nat.le_refl _) o).cell (p := ⟨b, j, none⟩) hb).trans h
theorem fz_top (w : World) (cs : Array Value) (t : TypeId) {b j : Nat} (hb : b = w.heap.size) : (w.alloc (.cells cs t)).frozen? ⟨b, j, none⟩ = false := by
  subst hb
  have h : (w.alloc (.cells cs t)).heap[w.heap.size]? = some (.cells cs t) := by show (w.heap.push _)[w.heap.size]? = _; simp
  unfold World.frozen?
  simp only [h]
  simp
theorem fz_under (w : World) (o : Obj) {b j : Nat} (hb : b < w.heap.size) (h : w.frozen? ⟨b, j, none⟩ = false) : (w.alloc o).frozen? ⟨b, j, none⟩ = false :=
  (((Below.refl _ w).alloc (Nat.le_refl _) o).frozen (p := ⟨b, j, none⟩) hb).trans h
theorem chg_cell {lo hi : Nat} {W W' : World} (h : Chg lo hi W W') {b i : Nat} {v : Value} (hb : b < lo ∨ hi ≤ b) (hc : W.cell? ⟨b, i, none⟩ = some v) : W'.cell? ⟨b, i, none⟩ = some v := by
  have hlt : b < W.heap.size := by
    rcases Nat.lt_or_ge b W.heap.size with h | h
    · exact h
    · exfalso
      unfold World.cell? at hc
      rw [Array.getElem?_eq_none h] at hc
      cases hc
  rw [← hc]
  exact World.cell?_of_block (h.block b hlt (by omega))
theorem zero2 (v : Value) (i : Nat) (h : i < (#[v, v] : Array Value).size) : (#[v, v] : Array Value)[i]! = v := by
  have : i = 0 ∨ i = 1 := by simp at h; omega
  rcases this with rfl | rfl <;> rfl
/-! ### Winds -/
def windC (p : Int × Int) : List Value := [.int .i64 p.1, .int .i64 p.2]
theorem windC_len (p : Int × Int) : (windC p).length = 2 := rfl
def winds (xs : List (Int × Int)) : List Value := xs.flatMap windC
theorem Rd.wind {w : World} {A : Option Addr} {n k : Nat} {xs : List (Int × Int)} (h : Rd w 2 A n (winds xs)) (hk : k < n) :
    ∃ b o x y, A = some ⟨b, o, none⟩ ∧ xs[k]? = some (x, y) ∧ xs.drop k = (x, y) :: xs.drop (k + 1) ∧ w.cell? ⟨b, o + k * 2, none⟩ = some (.int .i64 x) ∧ w.cell? ⟨b, o + k * 2 + 1, none⟩ = some (.int .i64 y) := by
  obtain ⟨b, o, ⟨x, y⟩, e, h1, h2, h3⟩ := Rd.flat windC_len (by decide) h hk
  exact ⟨b, o, x, y, e, h1, h2, h3 0 _ rfl, h3 1 _ rfl⟩
theorem Rd.len_wind {w : World} {A : Option Addr} {n : Nat} {xs : List (Int × Int)} (h : Rd w 2 A n (winds xs)) : xs.length = n := Rd.len_flat windC_len (by decide) h
theorem own_wind_at {w : World} {base e n c k : Nat} {A : Option Addr} {xs : List (Int × Int)} (h : w.ownsRow base e 2 (.slice A n c) n (winds xs)) (hk : k < n) :
    ∃ g x y, A = some ⟨g, 0, none⟩ ∧ base ≤ g ∧ g < w.heap.size ∧ xs[k]? = some (x, y) ∧ xs.drop k = (x, y) :: xs.drop (k + 1) ∧ w.cell? ⟨g, k * 2, none⟩ = some (.int .i64 x) ∧ w.cell? ⟨g, k * 2 + 1, none⟩ = some (.int .i64 y) ∧
      w.frozen? ⟨g, k * 2, none⟩ = false ∧ w.frozen? ⟨g, k * 2 + 1, none⟩ = false := by
  obtain ⟨g, ⟨x, y⟩, e, h1, h2, h3, h4, h5, h6⟩ := own_flat windC_len (by decide) h hk
  exact ⟨g, x, y, e, h1, h2, h3, h4, h5 0 _ rfl, h5 1 _ rfl, h6 _, h6 _⟩
theorem own_wind_set {w : World} {base e g n c k : Nat} {xs : List (Int × Int)} (h : w.ownsRow base e 2 (.slice (some ⟨g, 0, none⟩) n c) n (winds xs)) (hk : k < n) (x y : Int) :
    ((w.setCell ⟨g, k * 2, none⟩ (.int .i64 x)).setCell ⟨g, k * 2 + 1, none⟩ (.int .i64 y)).ownsRow base e 2 (.slice (some ⟨g, 0, none⟩) n c) n (winds (xs.set k (x, y))) := by
  have h1 := own_put (windC (x, y)) (k * 2) h
  unfold winds at h1
  rw [flat_put windC_len xs k (x, y) (by rw [own_len_flat windC_len (by decide) h]; exact hk)] at h1
  exact h1
end Go.Proofs.YtalgdeieejpelaaGreat

/- General lemmas: a struct variable's box. No Go function in sight. -/
namespace Go.Proofs.YtalgdeieejpelaaGreat
open Go.RowKit
set_option linter.unusedVariables false

def Box (w : World) (b : Nat) (vs : Array Value) (t : TypeId) : Prop := w.heap[b]? = some (.cells vs t (0, 0))
section
variable {w w' : World} {b c i : Nat} {vs : Array Value} {t : TypeId} {v x y z x0 x1 x2 x3 x4 x5 x6 : Value}
theorem Box.new (w : World) (vs : Array Value) (t : TypeId) : Box (w.alloc (.cells vs t)) w.heap.size vs t := by
  show (w.heap.push (.cells vs t))[w.heap.size]? = _
  simp
theorem Box.lt (h : Box w b vs t) : b < w.heap.size := (Array.getElem?_eq_some_iff.1 h).1
theorem Box.below (h : Box w b vs t) (k : Below w.heap.size w w') : Box w' b vs t := (k.block b h.lt).trans h
theorem Box.kept {B : Nat} (h : Box w b vs t) (k : Below B w w') (hb : b < B) : Box w' b vs t := (k.block b hb).trans h
theorem Box.chg {lo hi : Nat} (h : Box w b vs t) (k : Chg lo hi w w') (hb : b < lo ∨ hi ≤ b) : Box w' b vs t := (k.block b h.lt hb).trans h
theorem Box.other (h : Box w b vs t) (hb : b ≠ c) (v : Value) : Box (w.setCell ⟨c, i, none⟩ v) b vs t := by
  unfold Box at h ⊢
  rw [← h]; exact Below.heap_setCell _ _ _ _ (by simpa using hb)
theorem Box.grown {row : Option Nat} (h : Box w b vs t) (hg : w.grownBy w' row) (hr : row ≠ some b) : Box w' b vs t :=
  (hg.block b h.lt (fun e => hr e.symm)).trans h
theorem Box.cell (h : Box w b vs t) (hv : vs[i]? = some v) : w.cell? ⟨b, i, none⟩ = some v := by
  unfold Box at h
  simp [World.cell?, h, hv]
theorem Box.fz (h : Box w b vs t) : w.frozen? ⟨b, i, none⟩ = false := by
  unfold Box at h
  simp [World.frozen?, h]
theorem Box.set (h : Box w b vs t) (i : Nat) (v : Value) : Box (w.setCell ⟨b, i, none⟩ v) b (vs.setIfInBounds i v) t := by
  unfold Box at h ⊢
  simp [World.setCell, Array.getElem?_modify, h]
theorem Box.c1 (h : Box w b #[x] t) : w.cell? ⟨b, 0, none⟩ = some x := h.cell rfl
theorem Box.f3 (h : Box w b #[x, y, z] t) : w.cell? ⟨b, 0, none⟩ = some x ∧ w.cell? ⟨b, 1, none⟩ = some y ∧ w.cell? ⟨b, 2, none⟩ = some z ∧ w.frozen? ⟨b, 0, none⟩ = false ∧ w.frozen? ⟨b, 1, none⟩ = false ∧ w.frozen? ⟨b, 2, none⟩ = false ∧ b < w.heap.size :=
  ⟨h.cell rfl, h.cell rfl, h.cell rfl, h.fz, h.fz, h.fz, h.lt⟩
theorem Box.f4 (h : Box w b #[x0, x1, x2, x3] t) : w.cell? ⟨b, 0, none⟩ = some x0 ∧ w.cell? ⟨b, 1, none⟩ = some x1 ∧ w.cell? ⟨b, 2, none⟩ = some x2 ∧ w.cell? ⟨b, 3, none⟩ = some x3 ∧ w.frozen? ⟨b, 0, none⟩ = false ∧ w.frozen? ⟨b, 1, none⟩ = false ∧ w.frozen? ⟨b, 2, none⟩ = false ∧ w.frozen? ⟨b, 3, none⟩ = false ∧ b < w.heap.size :=
  ⟨h.cell rfl, h.cell rfl, h.cell rfl, h.cell rfl, h.fz, h.fz, h.fz, h.fz, h.lt⟩
theorem Box.f7 (h : Box w b #[x0, x1, x2, x3, x4, x5, x6] t) : w.cell? ⟨b, 0, none⟩ = some x0 ∧ w.cell? ⟨b, 1, none⟩ = some x1 ∧ w.cell? ⟨b, 2, none⟩ = some x2 ∧ w.cell? ⟨b, 3, none⟩ = some x3 ∧ w.cell? ⟨b, 4, none⟩ = some x4 ∧ w.cell? ⟨b, 5, none⟩ = some x5 ∧ w.cell? ⟨b, 6, none⟩ = some x6 ∧ b < w.heap.size :=
  ⟨h.cell rfl, h.cell rfl, h.cell rfl, h.cell rfl, h.cell rfl, h.cell rfl, h.cell rfl, h.lt⟩
end
theorem one_box (w : World) (vs : Array Value) (t : TypeId) : ∃ w1, w1 = w.alloc (.cells vs t) ∧ Box w1 w.heap.size vs t ∧ Below w.heap.size w w1 ∧ w1.heap.size = w.heap.size + 1 :=
  ⟨_, rfl, Box.new _ _ _, (Below.refl _ _).alloc (Nat.le_refl _) _, by simp⟩
theorem two_boxes (w : World) (vs us : Array Value) (t u : TypeId) : ∃ w1, w1 = (w.alloc (.cells vs t)).alloc (.cells us u) ∧ Box w1 w.heap.size vs t ∧ Box w1 (w.heap.size + 1) us u ∧ Below w.heap.size w w1 ∧ w1.heap.size = w.heap.size + 1 + 1 := by
  obtain ⟨w1, h1, h2, h3, h4⟩ := one_box w vs t
  obtain ⟨w2, k1, k2, k3, k4⟩ := one_box w1 us u
  rw [h4] at k2
  exact ⟨w2, by rw [k1, h1], h2.below k3, k2, h3.trans (k3.mono h3.size), by rw [k4, h4]⟩
theorem three_boxes (w : World) (vs us xs : Array Value) (t u x : TypeId) : ∃ w1, w1 = ((w.alloc (.cells vs t)).alloc (.cells us u)).alloc (.cells xs x) ∧ Box w1 w.heap.size vs t ∧ Box w1 (w.heap.size + 1) us u ∧ Box w1 (w.heap.size + 1 + 1) xs x ∧ Below w.heap.size w w1 ∧ w1.heap.size = w.heap.size + 1 + 1 + 1 := by
  obtain ⟨w1, h1, h2, h2', h3, h4⟩ := two_boxes w vs us t u
  obtain ⟨w2, k1, k2, k3, k4⟩ := one_box w1 xs x
  rw [h4] at k2
  exact ⟨w2, by rw [k1, h1], h2.below k3, h2'.below k3, k2, h3.trans (k3.mono h3.size), by rw [k4, h4]⟩
end Go.Proofs.YtalgdeieejpelaaGreat

/- General lemmas: slices of slices of integers. No Go function in sight. -/
namespace Go.Proofs.YtalgdeieejpelaaGreat
open Go.RowKit
set_option linter.unusedVariables false

/-- A slice of slices that reads as a list of lists. -/
structure RdRows (w : World) (A : Option Addr) (n : Nat) (rows : List (List Int)) : Prop where
  len : rows.length = n
  le : n ≤ 9223372036854775807
  at_ : ∀ k, k < n → ∃ b o A' c' xs, A = some ⟨b, o, none⟩ ∧ rows[k]? = some xs ∧ w.cell? ⟨b, o + k, none⟩ = some (.slice A' xs.length c') ∧ Rd w 1 A' xs.length (ints xs)
theorem RdRows.keep {w w' : World} {A : Option Addr} {n : Nat} {rows : List (List Int)} (h : RdRows w A n rows) (k : Keeps w w') : RdRows w' A n rows :=
  ⟨h.len, h.le, fun i hi => by
    obtain ⟨b, o, A', c', xs, e, hx, hc, hr⟩ := h.at_ i hi
    exact ⟨b, o, A', c', xs, e, hx, k _ _ hc, hr.keep k⟩⟩
theorem RdRows.below {w w' : World} {A : Option Addr} {n : Nat} {rows : List (List Int)} (h : RdRows w A n rows) (k : Below w.heap.size w w') : RdRows w' A n rows := h.keep (Keeps.below k)
theorem RdRows.drawn {w w' : World} {A : Option Addr} {n : Nat} {rows : List (List Int)} (h : RdRows w A n rows) (k : Drawn w w') : RdRows w' A n rows := h.below k.below
theorem RdRows.row {w : World} {A : Option Addr} {n k : Nat} {rows : List (List Int)} (h : RdRows w A n rows) (hk : k < n) :
    ∃ b o A' c' xs, A = some ⟨b, o, none⟩ ∧ rows[k]? = some xs ∧ rows.drop k = xs :: rows.drop (k + 1) ∧ w.cell? ⟨b, o + k, none⟩ = some (.slice A' xs.length c') ∧ Rd w 1 A' xs.length (ints xs) := by
  obtain ⟨b, o, A', c', xs, e, hx, hc, hr⟩ := h.at_ k hk
  obtain ⟨y, h1, h2⟩ := drop_cons (xs := rows) (k := k) (by rw [h.len]; exact hk)
  obtain rfl : xs = y := by rw [hx] at h1; injection h1
  exact ⟨b, o, A', c', xs, e, hx, h2, hc, hr⟩

/-- A slice of slices of the call's own. -/
structure OwnRows (w : World) (base eo ei : Nat) (A : Option Addr) (n c : Nat) (vs : List Value) (rows : List (List Int)) : Prop where
  outer : w.ownsRow base eo 1 (.slice A n c) n vs
  len : rows.length = n
  row : ∀ (k : Nat) (v : Value) (xs : List Int), vs[k]? = some v → rows[k]? = some xs → ∃ A' c', v = .slice A' xs.length c' ∧ w.ownsRow base ei 1 v xs.length (ints xs)
  apart : ∀ (i j : Nat) (u v : Value), i ≠ j → vs[i]? = some u → vs[j]? = some v → ∀ g, u.ownBlock = some g → v.ownBlock ≠ some g

section
variable {w w' : World} {base eo ei n c : Nat} {A : Option Addr} {vs : List Value} {rows : List (List Int)}
theorem OwnRows.vlen (h : OwnRows w base eo ei A n c vs rows) : vs.length = n := by have := h.outer.1; omega
theorem OwnRows.nle (h : OwnRows w base eo ei A n c vs rows) : n ≤ 9223372036854775807 := (own_rd h.outer).le
/-- What row k is. -/
theorem OwnRows.get (h : OwnRows w base eo ei A n c vs rows) {k : Nat} (hk : k < n) :
    ∃ v A' c' xs, vs[k]? = some v ∧ rows[k]? = some xs ∧ rows.drop k = xs :: rows.drop (k + 1) ∧ v = .slice A' xs.length c' ∧ w.ownsRow base ei 1 (.slice A' xs.length c') xs.length (ints xs) := by
  have h1 : vs[k]? = some (vs[k]'(by rw [h.vlen]; exact hk)) := List.getElem?_eq_getElem _
  obtain ⟨xs, h2, h3⟩ := drop_cons (xs := rows) (k := k) (by rw [h.len]; exact hk)
  obtain ⟨A', c', e, ho⟩ := h.row k _ _ h1 h2
  exact ⟨_, A', c', xs, h1, h2, h3, e, by rw [e] at ho; exact ho⟩
theorem OwnRows.rd (h : OwnRows w base eo ei A n c vs rows) : RdRows w A n rows :=
  ⟨h.len, h.nle, fun k hk => by
    obtain ⟨v, A', c', xs, h1, h2, _, e, ho⟩ := h.get hk
    obtain ⟨g, u, hA, _, _, hu, hc, _⟩ := own_at h.outer hk
    obtain rfl : v = u := by rw [h1] at hu; injection hu
    exact ⟨g, 0, A', c', xs, hA, h2, by rw [Nat.zero_add, hc, e], own_rd ho⟩⟩
/-- The blocks lie from lo to below hi. -/
def RowsIn (lo hi : Nat) (A : Option Addr) (n c : Nat) (vs : List Value) : Prop :=
  (∀ b, (Value.slice A n c).ownBlock = some b → lo ≤ b ∧ b < hi) ∧ ∀ v ∈ vs, ∀ b, v.ownBlock = some b → lo ≤ b ∧ b < hi
theorem OwnRows.in_ (h : OwnRows w base eo ei A n c vs rows) : RowsIn base w.heap.size A n c vs := by
  refine ⟨h.outer.lt, fun v hv b hb => ?_⟩
  obtain ⟨k, hk⟩ := List.mem_iff_getElem?.1 hv
  have hkn : k < n := by have := (List.getElem?_eq_some_iff.1 hk).1; rw [h.vlen] at this; exact this
  obtain ⟨u, A', c', xs, h1, h2, _, e, ho⟩ := h.get hkn
  obtain rfl : v = u := by rw [hk] at h1; injection h1
  rw [e] at hb
  exact ho.lt b hb
theorem OwnRows.below (h : OwnRows w base eo ei A n c vs rows) (k : Below w.heap.size w w') : OwnRows w' base eo ei A n c vs rows :=
  ⟨own_below h.outer k, h.len, fun i v xs h1 h2 => by obtain ⟨A', c', e, ho⟩ := h.row i v xs h1 h2; exact ⟨A', c', e, own_below ho k⟩, h.apart⟩
theorem OwnRows.drawn (h : OwnRows w base eo ei A n c vs rows) (k : Drawn w w') : OwnRows w' base eo ei A n c vs rows := h.below k.below
theorem OwnRows.alloc (h : OwnRows w base eo ei A n c vs rows) (o : Obj) : OwnRows (w.alloc o) base eo ei A n c vs rows := h.below ((Below.refl _ _).alloc (Nat.le_refl _) _)
theorem OwnRows.chg {lo hi : Nat} (h : OwnRows w base eo ei A n c vs rows) (k : Chg lo hi w w') {lo2 hi2 : Nat} (hv : RowsIn lo2 hi2 A n c vs) (hd : hi2 ≤ lo ∨ hi ≤ lo2) : OwnRows w' base eo ei A n c vs rows :=
  ⟨own_chg h.outer k (fun b hb => by have := hv.1 b hb; omega), h.len,
    fun i v xs h1 h2 => by
      obtain ⟨A', c', e, ho⟩ := h.row i v xs h1 h2
      exact ⟨A', c', e, own_chg ho k (fun b hb => by have := hv.2 v (List.mem_of_getElem? h1) b hb; omega)⟩, h.apart⟩
theorem OwnRows.base' {base' : Nat} (h : OwnRows w base eo ei A n c vs rows) (hb : base' ≤ base) : OwnRows w base' eo ei A n c vs rows :=
  ⟨own_base h.outer hb, h.len, fun i v xs h1 h2 => by obtain ⟨A', c', e, ho⟩ := h.row i v xs h1 h2; exact ⟨A', c', e, own_base ho hb⟩, h.apart⟩

theorem own_type_ne {base base' e e' n n' : Nat} {s s' : Nat} {v v' : Value} {xs xs' : List Value} (h : w.ownsRow base e s v n xs) (h' : w.ownsRow base' e' s' v' n' xs') (hne : e ≠ e') :
    ∀ g, v.ownBlock = some g → v'.ownBlock ≠ some g := by
  intro g hg hg'
  rcases h.2 with ⟨rfl, _⟩ | ⟨g1, cap, cur, rfl, _, hh, _⟩
  · simp [Value.ownBlock] at hg
  · rcases h'.2 with ⟨rfl, _⟩ | ⟨g2, cap', cur', rfl, _, hh', _⟩
    · simp [Value.ownBlock] at hg'
    · simp [Value.ownBlock] at hg hg'
      subst hg; subst hg'
      rw [hh] at hh'
      injection hh' with hh'
      injection hh' with _ ht
      exact hne ht

/-- Row k alone is written. -/
theorem OwnRows.upd (h : OwnRows w base eo ei A n c vs rows) (hne : eo ≠ ei) {k : Nat} {v : Value} {xs ys : List Int} (hk : vs[k]? = some v) (hx : rows[k]? = some xs) (hl : ys.length = xs.length)
    (hg : w.grownBy w' v.ownBlock) (hy : w'.ownsRow base ei 1 v ys.length (ints ys)) : OwnRows w' base eo ei A n c vs (rows.set k ys) := by
  obtain ⟨A0, c0, e0, ho0⟩ := h.row k v xs hk hx
  refine ⟨h.outer.kept hg ?_, by simpa using h.len, ?_, h.apart⟩
  · rcases hb : (Value.slice A n c).ownBlock with _ | g
    · exact .inl rfl
    · exact .inr (fun he => own_type_ne h.outer ho0 hne g hb he.symm)
  · intro i u zs h1 h2
    by_cases hik : i = k
    · subst hik
      obtain rfl : v = u := by rw [hk] at h1; injection h1
      have hlt := (List.getElem?_eq_some_iff.1 hx).1
      rw [List.getElem?_set_self hlt] at h2
      injection h2 with h2; subst h2
      exact ⟨A0, c0, by rw [e0, hl], hy⟩
    · rw [List.getElem?_set_ne (fun e => hik e.symm)] at h2
      obtain ⟨A', c', e, ho⟩ := h.row i u zs h1 h2
      refine ⟨A', c', e, ho.kept hg ?_⟩
      rcases hb : u.ownBlock with _ | g
      · exact .inl rfl
      · exact .inr (fun he => h.apart i k u v hik h1 hk g hb he.symm)

/-- Row k is put: a slice whose block is none of the others'. -/
theorem OwnRows.put {g : Nat} (h : OwnRows w base eo ei (some ⟨g, 0, none⟩) n c vs rows) (hne : eo ≠ ei) {k : Nat} {A' : Option Addr} {c' : Nat} {ys : List Int}
    (hy : w.ownsRow base ei 1 (.slice A' ys.length c') ys.length (ints ys)) (hap : ∀ u ∈ vs, ∀ b, (Value.slice A' ys.length c').ownBlock = some b → u.ownBlock ≠ some b) :
    OwnRows (w.setCell ⟨g, k, none⟩ (.slice A' ys.length c')) base eo ei (some ⟨g, 0, none⟩) n c (vs.set k (.slice A' ys.length c')) (rows.set k ys) := by
  have hst := h.outer.stored k (.slice A' ys.length c')
  have keep : ∀ (u : Value) (m : Nat) (zs : List Value), w.ownsRow base ei 1 u m zs → (w.setCell ⟨g, k, none⟩ (.slice A' ys.length c')).ownsRow base ei 1 u m zs := by
    intro u m zs ho
    refine ho.kept hst.2 ?_
    rcases hb : u.ownBlock with _ | b
    · exact .inl rfl
    · refine .inr (fun he => ?_)
      injection he with he
      subst he
      exact own_type_ne h.outer ho hne b rfl hb
  refine ⟨hst.1, by simpa using h.len, ?_, ?_⟩
  · intro i u zs h1 h2
    by_cases hik : i = k
    · subst hik
      have hlt : i < rows.length := by have := (List.getElem?_eq_some_iff.1 h2).1; simpa using this
      have hlt' : i < vs.length := by rw [h.vlen, ← h.len]; exact hlt
      rw [List.getElem?_set_self hlt] at h2
      rw [List.getElem?_set_self hlt'] at h1
      injection h2 with h2; injection h1 with h1
      subst h2; subst h1
      exact ⟨A', c', rfl, keep _ _ _ hy⟩
    · rw [List.getElem?_set_ne (fun e => hik e.symm)] at h1 h2
      obtain ⟨A'', c'', e, ho⟩ := h.row i u zs h1 h2
      exact ⟨A'', c'', e, keep _ _ _ ho⟩
  · intro i j u v hij h1 h2 b hb
    by_cases hik : i = k
    · subst hik
      rw [List.getElem?_set_ne (fun e => hij e)] at h2
      have hlt' : i < vs.length := by have := (List.getElem?_eq_some_iff.1 h1).1; simpa using this
      rw [List.getElem?_set_self hlt'] at h1
      injection h1 with h1; subst h1
      exact hap v (List.mem_of_getElem? h2) b hb
    · rw [List.getElem?_set_ne (fun e => hik e.symm)] at h1
      by_cases hjk : j = k
      · subst hjk
        have hlt' : j < vs.length := by have := (List.getElem?_eq_some_iff.1 h2).1; simpa using this
        rw [List.getElem?_set_self hlt'] at h2
        injection h2 with h2; subst h2
        exact fun hb' => hap u (List.mem_of_getElem? h1) b hb' hb
      · rw [List.getElem?_set_ne (fun e => hjk e.symm)] at h2
        exact h.apart i j u v hij h1 h2 b hb

/-- Behind a make: all rows are nil. -/
theorem OwnRows.made (w : World) (base eo ei n : Nat) (hb : base ≤ w.heap.size) (hm : n ≤ 9223372036854775807) :
    OwnRows (w.alloc (.cells (madeCells #[.slice none 0 0] n) eo)) base eo ei (some ⟨w.heap.size, 0, none⟩) n n (List.replicate n (.slice none 0 0)) (List.replicate n []) := by
  refine ⟨own_made w base eo n _ hb hm, by simp, ?_, ?_⟩
  · intro k v xs h1 h2
    rw [List.getElem?_replicate] at h1 h2
    split at h1
    · injection h1 with h1; subst h1
      rw [if_pos ‹_›] at h2
      injection h2 with h2; subst h2
      exact ⟨none, 0, rfl, World.ownsRow_nil _ _ _ _⟩
    · cases h1
  · intro i j u v _ h1 h2 g hg
    rw [List.getElem?_replicate] at h1
    split at h1
    · injection h1 with h1; subst h1
      simp [Value.ownBlock] at hg
    · cases h1
theorem OwnRows.nil (w : World) (base eo ei : Nat) : OwnRows w base eo ei none 0 0 [] [] :=
  ⟨World.ownsRow_nil _ _ _ _, rfl, fun k v xs h => by simp at h, fun i j u v _ h => by simp at h⟩
theorem OwnRows.empty (w : World) (base eo ei : Nat) (hb : base ≤ w.heap.size) : OwnRows (w.alloc (.cells #[] eo)) base eo ei (some ⟨w.heap.size, 0, none⟩) 0 0 [] [] :=
  ⟨own_empty w base eo hb, rfl, fun k v xs h => by simp at h, fun i j u v _ h => by simp at h⟩
/-- A row is appended. -/
theorem OwnRows.append {w1 : World} {A1 : Option Addr} {c1 : Nat} (h : OwnRows w base eo ei A n c vs rows) (hne : eo ≠ ei) {A' : Option Addr} {c' : Nat} {ys : List Int}
    (hy : w.ownsRow base ei 1 (.slice A' ys.length c') ys.length (ints ys)) (hap : ∀ u ∈ vs, ∀ b, (Value.slice A' ys.length c').ownBlock = some b → u.ownBlock ≠ some b)
    (o : Obj) (hg : (w.alloc o).grownBy w1 (Value.slice A n c).ownBlock) (ho : w1.ownsRow base eo 1 (.slice A1 (n + 1) c1) (n + 1) (vs ++ [.slice A' ys.length c'])) :
    OwnRows w1 base eo ei A1 (n + 1) c1 (vs ++ [.slice A' ys.length c']) (rows ++ [ys]) := by
  have keep : ∀ (u : Value) (m : Nat) (zs : List Value), w.ownsRow base ei 1 u m zs → w1.ownsRow base ei 1 u m zs := by
    intro u m zs hu
    refine (hu.alloc o).kept hg ?_
    rcases hb : u.ownBlock with _ | b
    · exact .inl rfl
    · exact .inr (fun he => own_type_ne h.outer hu hne b he.symm hb)
  refine ⟨ho, by simp [h.len], ?_, ?_⟩
  · intro i u zs h1 h2
    by_cases hi : i < n
    · rw [List.getElem?_append_left (by rw [h.vlen]; exact hi)] at h1
      rw [List.getElem?_append_left (by rw [h.len]; exact hi)] at h2
      obtain ⟨A'', c'', e, hr⟩ := h.row i u zs h1 h2
      exact ⟨A'', c'', e, keep _ _ _ hr⟩
    · rw [List.getElem?_append_right (by rw [h.vlen]; omega), h.vlen] at h1
      rw [List.getElem?_append_right (by rw [h.len]; omega), h.len] at h2
      have h0 : i - n = 0 := by
        rcases Nat.eq_zero_or_pos (i - n) with h | h
        · exact h
        · rw [List.getElem?_eq_none (by simp; omega)] at h1; cases h1
      rw [h0] at h1 h2
      simp at h1 h2
      subst h1; subst h2
      exact ⟨A', c', rfl, keep _ _ _ hy⟩
  · intro i j u v hij h1 h2 b hb
    have split : ∀ (q : Nat) (x : Value), (vs ++ [Value.slice A' ys.length c'])[q]? = some x → (q < n ∧ vs[q]? = some x) ∨ (q = n ∧ x = .slice A' ys.length c') := by
      intro q x hx
      by_cases hq : q < n
      · rw [List.getElem?_append_left (by rw [h.vlen]; exact hq)] at hx; exact .inl ⟨hq, hx⟩
      · rw [List.getElem?_append_right (by rw [h.vlen]; omega), h.vlen] at hx
        have h0 : q - n = 0 := by
          rcases Nat.eq_zero_or_pos (q - n) with h | h
          · exact h
          · rw [List.getElem?_eq_none (by simp; omega)] at hx; cases hx
        rw [h0] at hx
        simp at hx
        exact .inr ⟨by omega, hx.symm⟩
    rcases split i u h1 with ⟨hi, hu⟩ | ⟨hi, rfl⟩ <;> rcases split j v h2 with ⟨hj, hv⟩ | ⟨hj, rfl⟩
    · exact h.apart i j u v hij hu hv b hb
    · exact fun hb' => hap u (List.mem_of_getElem? hu) b hb' hb
    · exact hap v (List.mem_of_getElem? hv) b hb
    · omega
end
end Go.Proofs.YtalgdeieejpelaaGreat

/- Walks: the laws' helpers on [][]int64: size, copy, compare, mark, hold. -/
namespace Go.Proofs.YtalgdeieejpelaaGreat
open Go.RowKit
set_option linter.unusedVariables false
set_option maxRecDepth 100000

theorem Tryz.info_ints : (Tryz.prog.info? 25).map (fun i => (i.zero, i.size, i.bytes)) = some (some (.slice none 0 0), 1, 24) := by kernel_rfl
theorem run_make_rows (n : Nat) (h : n ≤ 1048576) (w : World) :
    (Instr.makeSlice 51 (.int .i64 (n : Int)) (.int .i64 (n : Int))).run Tryz.prog w = .ok (.slice (some ⟨w.heap.size, 0, none⟩) n n) (w.alloc (.cells (madeCells #[.slice none 0 0] n) 25)) := by
  obtain ⟨i, hi, hz, hs, hb⟩ := info_parts Tryz.info_ints
  have hr := run_make (P := Tryz.prog) w 51 25 i (.slice none 0 0) Tryz.underlying51 hi hz .i64 .i64 n n (by omega) (by omega) (by rw [hb]; omega) (by omega)
  rw [hs, Nat.mul_one, Int.toNat_natCast] at hr
  exact hr

/-! ### Sizes -/
def szF (left : Int) (n : Nat) : Int := if left - n < 0 then -1 else left - n
def szGo (left : Int) : List (List Int) → Int
  | [] => left
  | x :: r => if left - x.length < 0 then -1 else szGo (left - x.length) r
def szRowsF (left : Int) (rows : List (List Int)) : Int := if left - rows.length < 0 then -1 else szGo (left - rows.length) rows
theorem szGo_le {left : Int} {rows : List (List Int)} (h : 0 ≤ szGo left rows) (h0 : 0 ≤ left) : szGo left rows ≤ left ∧ ∀ x ∈ rows, (x.length : Int) ≤ left := by
  induction rows generalizing left with
  | nil => exact ⟨Int.le_refl _, fun x hx => by cases hx⟩
  | cons y r ih =>
    unfold szGo at h ⊢
    split at h
    · omega
    · rename_i hn
      rw [if_neg hn]
      have := ih h (by omega)
      refine ⟨by omega, fun x hx => ?_⟩
      rcases List.mem_cons.1 hx with rfl | hx
      · omega
      · have := this.2 x hx; omega
theorem szRowsF_le {left : Int} {rows : List (List Int)} (h : 0 ≤ szRowsF left rows) (h0 : 0 ≤ left) : (rows.length : Int) ≤ left ∧ ∀ x ∈ rows, (x.length : Int) ≤ left := by
  unfold szRowsF at h
  split at h
  · omega
  · rename_i hn
    have := szGo_le h (by omega)
    exact ⟨by omega, fun x hx => by have := this.2 x hx; omega⟩

/-! ### Lengths together -/
def sumLen : List (List Int) → Nat
  | [] => 0
  | x :: r => x.length + sumLen r
theorem sumLen_take_le (rows : List (List Int)) (j : Nat) : sumLen (rows.take j) ≤ sumLen rows := by
  induction rows generalizing j with
  | nil => simp
  | cons x r ih =>
    cases j with
    | zero => simp [sumLen]
    | succ j => simp only [List.take_succ_cons, sumLen]; have := ih j; omega
theorem sumLen_snoc (rows : List (List Int)) (x : List Int) : sumLen (rows ++ [x]) = sumLen rows + x.length := by
  induction rows with
  | nil => simp [sumLen]
  | cons y r ih => simp only [List.cons_append, sumLen, ih]; omega
theorem sumLen_le {rows : List (List Int)} {m : Nat} (h : ∀ x ∈ rows, x.length ≤ m) : sumLen rows ≤ rows.length * m := by
  induction rows with
  | nil => simp [sumLen]
  | cons x r ih =>
    have h1 := h x (by simp)
    have h2 := ih (fun y hy => h y (by simp [hy]))
    simp only [sumLen, List.length_cons, Nat.add_mul, Nat.one_mul]
    omega

/-! ### Copy -/
def RetRowsCopy (w : World) (rows : List (List Int)) (e : Ending) (w' : World) : Prop :=
  ∃ A n c vs, e = .returned (.slice A n c) ∧ OwnRows w' w.heap.size 25 2 A n c vs rows ∧ sumLen rows ≤ 576460752303423488 ∧ Below w.heap.size w w'

/-! ### Compare -/
/-! ### Mark and hold -/
def seqRows (k : Int) : List (List Int) → List (List Int)
  | [] => []
  | x :: r => seqFrom k x.length :: seqRows (k + x.length) r
theorem seqRows_length (k : Int) (rows : List (List Int)) : (seqRows k rows).length = rows.length := by
  induction rows generalizing k with
  | nil => rfl
  | cons x r ih => simp [seqRows, ih]
theorem seqRows_sum (k : Int) (rows : List (List Int)) : sumLen (seqRows k rows) = sumLen rows := by
  induction rows generalizing k with
  | nil => rfl
  | cons x r ih => simp [seqRows, sumLen, ih, seqFrom_length]
theorem seqRows_get (k : Int) (rows : List (List Int)) (j : Nat) (x : List Int) (h : rows[j]? = some x) : (seqRows k rows)[j]? = some (seqFrom (k + sumLen (rows.take j)) x.length) := by
  induction rows generalizing k j with
  | nil => simp at h
  | cons y r ih =>
    cases j with
    | zero => simp at h; subst h; simp [seqRows, sumLen]
    | succ j =>
      simp only [seqRows, List.getElem?_cons_succ, List.take_succ_cons, sumLen]
      rw [ih _ _ (by simpa using h)]
      congr 2
      omega
theorem mix_set {α : Type} (ys xs : List α) (j : Nat) (y : α) (hl : ys.length = xs.length) (hy : ys[j]? = some y) : (ys.take j ++ xs.drop j).set j y = ys.take (j + 1) ++ xs.drop (j + 1) := by
  have hj : j < ys.length := (List.getElem?_eq_some_iff.1 hy).1
  have hj' : j < xs.length := by omega
  rw [List.set_append, if_neg (by simp; omega), take_snoc_get hy, List.drop_eq_getElem_cons hj']
  have e : j - (ys.take j).length = 0 := by simp; omega
  rw [e, List.set_cons_zero, List.append_assoc]
  rfl
theorem mix_get {α : Type} (ys xs : List α) (j : Nat) (hl : ys.length = xs.length) (hj : j < xs.length) : (ys.take j ++ xs.drop j)[j]? = xs[j]? := by
  rw [List.getElem?_append_right (by simp; omega)]
  have e : j - (ys.take j).length = 0 := by simp; omega
  rw [e, List.getElem?_drop]; simp

/-- Result: new rows and a code. -/
def RetR (w : World) (r : List (List Int) × Int) (e : Ending) (w' : World) : Prop :=
  ∃ A n c vs, e = .returned (.tuple #[.slice A n c, .int .i64 r.2]) ∧ OwnRows w' w.heap.size 25 2 A n c vs r.1 ∧ sumLen r.1 ≤ 576460752303423488 ∧ Below w.heap.size w w'
theorem RetR.nil (w w' : World) (code : Int) (h : Below w.heap.size w w') : RetR w ([], code) (.returned (.tuple #[.slice none 0 0, .int .i64 code])) w' :=
  ⟨none, 0, 0, [], rfl, OwnRows.nil _ _ _ _, by simp [sumLen], h⟩

/-- One row is appended to own rows. -/
theorem app_row {ops : Array Oper} {rest : List Oper} {o : Oper} {a : Act} {Q : Exit → Act → World → Prop} (w : World) (hgd : o.guard = none) (s x : Operand)
    (ho : o.op = .call { callee := .builtin .append, args := #[s, x], argTypes := #[51, 51] }) {base n c : Nat} {A : Option Addr} {vs : List Value}
    (hs : a.eval s = .slice A n c) (hown : w.ownsRow base 25 1 (.slice A n c) n vs) {ad : Addr} {B : Option Addr} {m d : Nat} (hx : a.eval x = .slice (some ad) 1 1)
    (hc : w.cell? ad = some (.slice B m d)) (hn : n ≤ 1099511627776) (hbase : base ≤ w.heap.size)
    (h : ∀ A' c' w', w'.ownsRow base 25 1 (.slice A' (n + 1) c') (n + 1) (vs ++ [.slice B m d]) → w.grownBy w' (Value.slice A n c).ownBlock → wpList Tryz.prog ops Q rest (a.put o.dst (.slice A' (n + 1) c')) w') :
    wpList Tryz.prog ops Q (o :: rest) a w := by
  obtain ⟨i, hi, hz, hs1, hb1⟩ := info_parts Tryz.info_ints
  refine wpList_append_own w hgd s x 51 ho base 25 i (.slice none 0 0) 1 24 Tryz.underlying51 hi hz hs1 hb1 rfl (by decide) (.slice A n c) n vs hs hown ad 1 1 [.slice B m d] hx rfl ?_ ?_ (by unfold maxLen; omega) (by omega) hbase ?_
  · intro j u hu
    have hj : j = 0 := by
      rcases j with _ | j
      · rfl
      · simp at hu
    subst hj
    have hadd : ad.add 0 = ad := by simp [Addr.add]
    rw [hadd, hc]
    simpa using hu
  · intro u hu
    simp at hu
    subst hu
    rfl
  · intro v' w' h1 h2 _
    rcases h1.2 with ⟨rfl, h0⟩ | ⟨g, cap, cur, rfl, _⟩
    · omega
    · exact h _ _ w' h1 h2
end Go.Proofs.YtalgdeieejpelaaGreat

/- Tables in memory: two slices of slices of integers behind a number. No Go function in sight. -/
namespace Go.Proofs.YtalgdeieejpelaaGreat
open Go.RowKit
set_option linter.unusedVariables false

/-- A table: boats, points, codes. -/
structure Tb where
  boats : Int
  pts : List (List Int)
  cds : List (List Int)
/-- A table's slices read as the table. -/
structure RdT (w : World) (P : Option Addr) (n : Nat) (C : Option Addr) (m : Nat) (t : Tb) : Prop where
  pts : RdRows w P n t.pts
  cds : RdRows w C m t.cds
theorem RdT.below {w w' : World} {P C : Option Addr} {n m : Nat} {t : Tb} (h : RdT w P n C m t) (k : Below w.heap.size w w') : RdT w' P n C m t := ⟨h.pts.below k, h.cds.below k⟩
theorem RdT.keep {w w' : World} {P C : Option Addr} {n m : Nat} {t : Tb} (h : RdT w P n C m t) (k : Keeps w w') : RdT w' P n C m t := ⟨h.pts.keep k, h.cds.keep k⟩
/-- A table of the call's own. -/
structure OwnT (w : World) (base : Nat) (P : Option Addr) (n c : Nat) (vs : List Value) (C : Option Addr) (m d : Nat) (us : List Value) (t : Tb) : Prop where
  pts : OwnRows w base 25 2 P n c vs t.pts
  cds : OwnRows w base 25 2 C m d us t.cds
  apO : ∀ g, (Value.slice P n c).ownBlock = some g → (Value.slice C m d).ownBlock ≠ some g
  apR : ∀ v ∈ vs, ∀ u ∈ us, ∀ g, v.ownBlock = some g → u.ownBlock ≠ some g
/-- The blocks of a table lie from lo to below hi. -/
def TIn (lo hi : Nat) (P : Option Addr) (n c : Nat) (vs : List Value) (C : Option Addr) (m d : Nat) (us : List Value) : Prop :=
  RowsIn lo hi P n c vs ∧ RowsIn lo hi C m d us
section
variable {w w' : World} {base n c m d : Nat} {P C : Option Addr} {vs us : List Value} {t : Tb}
theorem OwnT.rd (h : OwnT w base P n c vs C m d us t) : RdT w P n C m t := ⟨h.pts.rd, h.cds.rd⟩
theorem OwnT.in_ (h : OwnT w base P n c vs C m d us t) : TIn base w.heap.size P n c vs C m d us := ⟨h.pts.in_, h.cds.in_⟩
theorem OwnT.below (h : OwnT w base P n c vs C m d us t) (k : Below w.heap.size w w') : OwnT w' base P n c vs C m d us t := ⟨h.pts.below k, h.cds.below k, h.apO, h.apR⟩
theorem OwnT.base' {base' : Nat} (h : OwnT w base P n c vs C m d us t) (hb : base' ≤ base) : OwnT w base' P n c vs C m d us t := ⟨h.pts.base' hb, h.cds.base' hb, h.apO, h.apR⟩
theorem OwnT.chg {lo hi : Nat} (h : OwnT w base P n c vs C m d us t) (k : Chg lo hi w w') {lo2 hi2 : Nat} (hv : TIn lo2 hi2 P n c vs C m d us) (hd : hi2 ≤ lo ∨ hi ≤ lo2) : OwnT w' base P n c vs C m d us t :=
  ⟨h.pts.chg k hv.1 hd, h.cds.chg k hv.2 hd, h.apO, h.apR⟩
/-- Two slices of slices that lie one behind the other. -/
theorem OwnT.join {mid : Nat} (h1 : OwnRows w base 25 2 P n c vs t.pts) (h2 : OwnRows w mid 25 2 C m d us t.cds) (hb : base ≤ mid) (hv : RowsIn base mid P n c vs) : OwnT w base P n c vs C m d us t := by
  have hu := h2.in_
  refine ⟨h1, h2.base' hb, fun g hg hg' => ?_, fun v hv' u hu' g hg hg' => ?_⟩
  · have := hv.1 g hg; have := hu.1 g hg'; omega
  · have := hv.2 v hv' g hg; have := hu.2 u hu' g hg'; omega
end
/-- Result: a new table. -/
def RetT (w : World) (t : Tb) (e : Ending) (w' : World) : Prop :=
  ∃ P n c vs C m d us, e = .returned (.agg #[.int .i64 t.boats, .slice P n c, .slice C m d]) ∧ OwnT w' w.heap.size P n c vs C m d us t ∧ (sumLen t.pts ≤ 1099511627776 ∧ sumLen t.cds ≤ 1099511627776) ∧ Below w.heap.size w w'
/-- Result: a new table and a code. -/
def RetTC (w : World) (r : Tb × Int) (e : Ending) (w' : World) : Prop :=
  ∃ P n c vs C m d us, e = .returned (.tuple #[.agg #[.int .i64 r.1.boats, .slice P n c, .slice C m d], .int .i64 r.2]) ∧ OwnT w' w.heap.size P n c vs C m d us r.1 ∧ (sumLen r.1.pts ≤ 1099511627776 ∧ sumLen r.1.cds ≤ 1099511627776) ∧ Below w.heap.size w w'
def noT : Tb := ⟨0, [], []⟩
theorem OwnT.nil (w : World) (base : Nat) : OwnT w base none 0 0 [] none 0 0 [] noT := ⟨OwnRows.nil _ _ _ _, OwnRows.nil _ _ _ _, fun g h => by simp [Value.ownBlock] at h, fun v hv => by simp at hv⟩
theorem RetTC.nil (w w' : World) (code : Int) (h : Below w.heap.size w w') : RetTC w (noT, code) (.returned (.tuple #[.agg #[.int .i64 0, .slice none 0 0, .slice none 0 0], .int .i64 code])) w' :=
  ⟨none, 0, 0, [], none, 0, 0, [], rfl, OwnT.nil _ _, by simp [noT, sumLen], h⟩
end Go.Proofs.YtalgdeieejpelaaGreat

/- Walks: the laws' helpers on tables: size, copy, compare, mark, hold. -/
namespace Go.Proofs.YtalgdeieejpelaaGreat
open Go.RowKit
set_option linter.unusedVariables false
set_option maxRecDepth 100000

def szTabF (left : Int) (t : Tb) : Int := if szRowsF left t.pts < 0 then -1 else if szRowsF (szRowsF left t.pts) t.cds < 0 then -1 else szRowsF (szRowsF left t.pts) t.cds
theorem szRowsF_mono {left : Int} {rows : List (List Int)} (h : 0 ≤ szRowsF left rows) : szRowsF left rows ≤ left := by
  unfold szRowsF at h ⊢
  split at h
  · omega
  · rename_i hn
    rw [if_neg hn]
    have := (szGo_le h (by omega)).1
    omega
theorem szTabF_le {left : Int} {t : Tb} (h : 0 ≤ szTabF left t) (h0 : 0 ≤ left) (h1 : left ≤ 1048576) :
    (t.pts.length ≤ 1048576 ∧ ∀ x ∈ t.pts, x.length ≤ 1048576) ∧ (t.cds.length ≤ 1048576 ∧ ∀ x ∈ t.cds, x.length ≤ 1048576) ∧ szTabF left t ≤ 1048576 := by
  unfold szTabF at h ⊢
  split at h
  · omega
  · rename_i hn
    rw [if_neg hn]
    split at h
    · omega
    · rename_i hn2
      rw [if_neg hn2]
      have a := szRowsF_le (by omega : 0 ≤ szRowsF left t.pts) h0
      have m := szRowsF_mono (by omega : 0 ≤ szRowsF left t.pts)
      have b := szRowsF_le h (by omega)
      have m2 := szRowsF_mono h
      exact ⟨⟨by omega, fun x hx => by have := a.2 x hx; omega⟩, ⟨by omega, fun x hx => by have := b.2 x hx; omega⟩, by omega⟩
theorem set_chg {b i lo hi : Nat} {v : Value} (w : World) (h1 : lo ≤ b) (h2 : b < hi) : Chg lo hi w (w.setCell ⟨b, i, none⟩ v) := put_chg (g := b) [v] i (Chg.refl _ _ _) h1 h2
theorem OwnRows.setU {w : World} {base eo ei n c b i : Nat} {A : Option Addr} {vs : List Value} {rows : List (List Int)} {v : Value} (h : OwnRows w base eo ei A n c vs rows) (hb : b < base) : OwnRows (w.setCell ⟨b, i, none⟩ v) base eo ei A n c vs rows :=
  h.chg (set_chg w (Nat.le_refl b) (Nat.lt_succ_self b)) h.in_ (.inr hb)
theorem OwnT.setU {w : World} {base n c m d b i : Nat} {P C : Option Addr} {vs us : List Value} {t : Tb} {v : Value} (h : OwnT w base P n c vs C m d us t) (hb : b < base) : OwnT (w.setCell ⟨b, i, none⟩ v) base P n c vs C m d us t :=
  ⟨h.pts.setU hb, h.cds.setU hb, h.apO, h.apR⟩
/-- The blocks of a set may have been written; all others of w are as they were. -/
structure ChgS (S : Nat → Prop) (w w' : World) : Prop where
  os : w'.os = w.os
  tape : w'.tape = w.tape
  output : w'.output = w.output
  size : w.heap.size ≤ w'.heap.size
  block : ∀ k, k < w.heap.size → ¬ S k → w'.heap[k]? = w.heap[k]?
theorem ChgS.refl (S : Nat → Prop) (w : World) : ChgS S w w := ⟨rfl, rfl, rfl, Nat.le_refl _, fun _ _ _ => rfl⟩
theorem ChgS.trans {S : Nat → Prop} {a b c : World} (h : ChgS S a b) (k : ChgS S b c) : ChgS S a c :=
  ⟨k.os.trans h.os, k.tape.trans h.tape, k.output.trans h.output, Nat.le_trans h.size k.size, fun i hi hn => (k.block i (Nat.lt_of_lt_of_le hi h.size) hn).trans (h.block i hi hn)⟩
theorem ChgS.mono {S T : Nat → Prop} {a b : World} (h : ChgS S a b) (k : ∀ i, S i → T i) : ChgS T a b :=
  ⟨h.os, h.tape, h.output, h.size, fun i hi hn => h.block i hi (fun hs => hn (k i hs))⟩
theorem ChgS.of_grown {S : Nat → Prop} {w w' : World} {row : Option Nat} (h : w.grownBy w' row) (hr : ∀ k, row = some k → S k) : ChgS S w w' :=
  ⟨h.os, h.tape, h.output, h.size, fun k hk hn => h.block k hk (fun e => hn (hr k e.symm))⟩
theorem ChgS.of_below {S : Nat → Prop} {w w' : World} (h : Below w.heap.size w w') : ChgS S w w' := ⟨h.os, h.tape, h.output, h.size, fun k hk _ => h.block k hk⟩
theorem ChgS.chg {S : Nat → Prop} {lo hi : Nat} {w w' : World} (h : ChgS S w w') (k : ∀ i, S i → lo ≤ i ∧ i < hi) : Chg lo hi w w' :=
  ⟨h.os, h.tape, h.output, h.size, fun i hi' hn => h.block i hi' (fun hs => by have := k i hs; omega)⟩
theorem own_chgS {S : Nat → Prop} {w w' : World} {base e s n : Nat} {v : Value} {xs : List Value} (h : w.ownsRow base e s v n xs) (k : ChgS S w w') (hv : ∀ b, v.ownBlock = some b → ¬ S b) : w'.ownsRow base e s v n xs := by
  refine ⟨h.1, ?_⟩
  rcases h.2 with hn | ⟨g, cap, cur, rfl, hb, hgg, rest⟩
  · exact .inl hn
  · exact .inr ⟨g, cap, cur, rfl, hb, (k.block g (Array.getElem?_eq_some_iff.1 hgg).1 (hv g rfl)).trans hgg, rest⟩
theorem OwnRows.chgS {S : Nat → Prop} {w w' : World} {base eo ei n c : Nat} {A : Option Addr} {vs : List Value} {rows : List (List Int)} (h : OwnRows w base eo ei A n c vs rows) (k : ChgS S w w')
    (h1 : ∀ b, (Value.slice A n c).ownBlock = some b → ¬ S b) (h2 : ∀ v ∈ vs, ∀ b, v.ownBlock = some b → ¬ S b) : OwnRows w' base eo ei A n c vs rows :=
  ⟨own_chgS h.outer k h1, h.len, fun i v xs e1 e2 => by obtain ⟨A', c', e, ho⟩ := h.row i v xs e1 e2; exact ⟨A', c', e, own_chgS ho k (h2 v (List.mem_of_getElem? e1))⟩, h.apart⟩
theorem Box.chgS {S : Nat → Prop} {w w' : World} {b : Nat} {vs : Array Value} {t : TypeId} (h : Box w b vs t) (k : ChgS S w w') (hb : ¬ S b) : Box w' b vs t := (k.block b h.lt hb).trans h
/-- The outer block of slices of slices is none of any rows. -/
theorem OwnRows.outer_ne {w : World} {base eo ei base' eo' n c n' c' : Nat} {A A' : Option Addr} {vs vs' : List Value} {rows rows' : List (List Int)} (h : OwnRows w base eo ei A n c vs rows) (h' : OwnRows w base' eo' ei A' n' c' vs' rows') (hne : eo ≠ ei) :
    ∀ b, (Value.slice A n c).ownBlock = some b → ¬ ∃ v ∈ vs', v.ownBlock = some b := by
  rintro b hb ⟨v, hv, hvb⟩
  obtain ⟨k, hk⟩ := List.mem_iff_getElem?.1 hv
  have hkn : k < n' := by have := (List.getElem?_eq_some_iff.1 hk).1; rw [h'.vlen] at this; exact this
  obtain ⟨u, A2, c2, xs, h1, h2, _, e, ho⟩ := h'.get hkn
  obtain rfl : v = u := by rw [hk] at h1; injection h1
  rw [e] at hvb
  exact own_type_ne h.outer ho hne b hb hvb
end Go.Proofs.YtalgdeieejpelaaGreat

/- Plain: insertion sort, as the library's text goes; its result is the order by rank: no Go in sight. -/
namespace Go.Proofs.YtalgdeieejpelaaGreat
open Go.RowKit
set_option linter.unusedVariables false

def swapAt (j : Nat) (xs : List Int) : List Int := (xs.set (j + 1) (xs.getD j 0)).set j (xs.getD (j + 1) 0)
def insIn (lt : Int → Int → Bool) : Nat → List Int → List Int
  | 0, xs => xs
  | j + 1, xs => if lt (xs.getD (j + 1) 0) (xs.getD j 0) then insIn lt j (swapAt j xs) else xs
def insOut (lt : Int → Int → Bool) : Nat → Nat → List Int → List Int
  | 0, _, xs => xs
  | m + 1, i, xs => insOut lt m (i + 1) (insIn lt i xs)
def insSort (lt : Int → Int → Bool) (xs : List Int) : List Int := insOut lt (xs.length - 1) 1 xs
theorem swapAt_length (j : Nat) (xs : List Int) : (swapAt j xs).length = xs.length := by simp [swapAt]
theorem insIn_length (lt : Int → Int → Bool) (j : Nat) (xs : List Int) : (insIn lt j xs).length = xs.length := by
  induction j generalizing xs with
  | zero => rfl
  | succ j ih =>
    unfold insIn
    split
    · rw [ih, swapAt_length]
    · rfl
theorem insOut_length (lt : Int → Int → Bool) (m i : Nat) (xs : List Int) : (insOut lt m i xs).length = xs.length := by
  induction m generalizing i xs with
  | zero => rfl
  | succ m ih => unfold insOut; rw [ih, insIn_length]
theorem insSort_length (lt : Int → Int → Bool) (xs : List Int) : (insSort lt xs).length = xs.length := insOut_length _ _ _ _

/-- x is put in from the right into a list that stands reversed. -/
def insRev (lt : Int → Int → Bool) (x : Int) : List Int → List Int → List Int
  | [], acc => x :: acc
  | y :: r, acc => if lt x y then insRev lt x r (y :: acc) else r.reverse ++ y :: x :: acc
theorem swapAt_app (p : List Int) (y x : Int) (acc : List Int) : swapAt p.length (p ++ y :: x :: acc) = p ++ x :: y :: acc := by
  have h1 : (p ++ y :: x :: acc).getD p.length 0 = y := by
    rw [List.getD_eq_getElem?_getD, List.getElem?_append_right (Nat.le_refl _)]; simp
  have h2 : (p ++ y :: x :: acc).getD (p.length + 1) 0 = x := by
    rw [List.getD_eq_getElem?_getD, List.getElem?_append_right (by omega)]; simp
  unfold swapAt
  rw [h1, h2, List.set_append, if_neg (by omega), List.set_append, if_neg (by omega)]
  have e1 : p.length + 1 - p.length = 1 := by omega
  rw [e1, Nat.sub_self]
  rfl
theorem insIn_rev (lt : Int → Int → Bool) (x : Int) (r acc : List Int) : insIn lt r.length (r.reverse ++ x :: acc) = insRev lt x r acc := by
  induction r generalizing acc with
  | nil => rfl
  | cons y r ih =>
    have h1 : (r.reverse ++ y :: x :: acc).getD r.length 0 = y := by
      rw [List.getD_eq_getElem?_getD, List.getElem?_append_right (by simp)]; simp
    have h2 : (r.reverse ++ y :: x :: acc).getD (r.length + 1) 0 = x := by
      rw [List.getD_eq_getElem?_getD, List.getElem?_append_right (by simp)]; simp
    have e : (y :: r).reverse ++ x :: acc = r.reverse ++ y :: x :: acc := by simp
    rw [e, List.length_cons, insIn, h1, h2, insRev]
    split
    · have h3 := swapAt_app r.reverse y x acc
      rw [List.length_reverse] at h3
      rw [h3, ih]
    · rfl
theorem insRev_perm (lt : Int → Int → Bool) (x : Int) (r acc : List Int) : List.Perm (insRev lt x r acc) (x :: (r.reverse ++ acc)) := by
  induction r generalizing acc with
  | nil => simp [insRev]
  | cons y r ih =>
    unfold insRev
    split
    · refine (ih (y :: acc)).trans ?_
      simp
    · have : (y :: r).reverse ++ acc = r.reverse ++ y :: acc := by simp
      rw [this]
      have h := @List.perm_middle _ x (r.reverse ++ [y]) acc
      simpa using h

/-- lt is a strict total order on what the list holds. -/
structure Strict (lt : Int → Int → Bool) (xs : List Int) : Prop where
  irr : ∀ x ∈ xs, lt x x = false
  tot : ∀ x ∈ xs, ∀ y ∈ xs, x ≠ y → lt x y = false → lt y x = true
  asy : ∀ x ∈ xs, ∀ y ∈ xs, lt x y = true → lt y x = false
  tr : ∀ x ∈ xs, ∀ y ∈ xs, ∀ z ∈ xs, lt x y = true → lt y z = true → lt x z = true
theorem insRev_sorted {lt : Int → Int → Bool} {all : List Int} (h : Strict lt all) (x : Int) (hx : x ∈ all) (r acc : List Int) (hr : ∀ y ∈ r, y ∈ all) (ha : ∀ y ∈ acc, y ∈ all)
    (hs : (r.reverse ++ acc).Pairwise (fun a b => lt a b = true)) (hxa : ∀ y ∈ acc, lt x y = true) (hne : ∀ y ∈ r, y ≠ x) : (insRev lt x r acc).Pairwise (fun a b => lt a b = true) := by
  induction r generalizing acc with
  | nil =>
    unfold insRev
    rw [List.pairwise_cons]
    exact ⟨hxa, by simpa using hs⟩
  | cons y r ih =>
    have e : (y :: r).reverse ++ acc = r.reverse ++ y :: acc := by simp
    rw [e] at hs
    have hy : y ∈ all := hr y (by simp)
    unfold insRev
    split
    · rename_i hlt
      refine ih (y :: acc) (fun z hz => hr z (by simp [hz])) (fun z hz => ?_) hs (fun z hz => ?_) (fun z hz => hne z (by simp [hz]))
      · rcases List.mem_cons.1 hz with rfl | hz
        · exact hy
        · exact ha z hz
      · rcases List.mem_cons.1 hz with rfl | hz
        · exact hlt
        · exact hxa z hz
    · rename_i hlt
      have hyx : lt y x = true := h.tot x hx y hy (fun e => hne y (by simp) e.symm) (by simpa using hlt)
      rw [List.pairwise_append] at hs ⊢
      obtain ⟨h1, h2, h3⟩ := hs
      rw [List.pairwise_cons] at h2
      refine ⟨h1, ?_, ?_⟩
      · rw [List.pairwise_cons, List.pairwise_cons]
        refine ⟨fun z hz => ?_, hxa, h2.2⟩
        rcases List.mem_cons.1 hz with rfl | hz
        · exact hyx
        · exact h2.1 z hz
      · intro a har b hb
        have haa : a ∈ all := hr a (by simp at har; simp [har])
        rcases List.mem_cons.1 hb with rfl | hb
        · exact h3 a har b (by simp)
        · rcases List.mem_cons.1 hb with rfl | hb
          · exact h.tr a haa y hy b hx (h3 a har y (by simp)) hyx
          · exact h3 a har b (by simp [hb])

theorem insOut_sorts {lt : Int → Int → Bool} {all : List Int} (h : Strict lt all) (m : Nat) (p q : List Int) (hm : q.length = m) (hall : ∀ y ∈ p ++ q, y ∈ all) (hn : (p ++ q).Nodup)
    (hs : p.Pairwise (fun a b => lt a b = true)) : List.Perm (insOut lt m p.length (p ++ q)) (p ++ q) ∧ (insOut lt m p.length (p ++ q)).Pairwise (fun a b => lt a b = true) := by
  induction m generalizing p q with
  | zero =>
    obtain rfl := List.eq_nil_of_length_eq_zero hm
    simpa [insOut] using hs
  | succ m ih =>
    cases q with
    | nil => simp at hm
    | cons x q =>
      unfold insOut
      have e1 : insIn lt p.length (p ++ x :: q) = insRev lt x p.reverse [] ++ q := by
        have h1 : ∀ (r acc : List Int), insRev lt x r (acc ++ q) = insRev lt x r acc ++ q := by
          intro r
          induction r with
          | nil => intro acc; rfl
          | cons y r ih' =>
            intro acc
            unfold insRev
            split
            · exact ih' (y :: acc)
            · simp
        have h2 := insIn_rev lt x p.reverse q
        rw [List.length_reverse, List.reverse_reverse] at h2
        rw [h2]
        exact h1 p.reverse []
      rw [e1]
      have hperm := insRev_perm lt x p.reverse []
      rw [List.reverse_reverse, List.append_nil] at hperm
      have hlen : (insRev lt x p.reverse []).length = p.length + 1 := by rw [hperm.length_eq]; simp
      have hxm : x ∈ all := hall x (by simp)
      have hnd := List.nodup_append.1 hn
      have hsort := insRev_sorted h x hxm p.reverse [] (fun y hy => hall y (by simp at hy; simp [hy])) (fun y hy => by cases hy) (by simpa using hs) (fun y hy => by cases hy)
        (fun y hy e => hnd.2.2 y (by simpa using hy) x (by simp) e)
      have hp2 : List.Perm (insRev lt x p.reverse [] ++ q) (p ++ x :: q) := by
        refine (hperm.append_right q).trans ?_
        exact (List.perm_middle (a := x) (l₁ := p) (l₂ := q)).symm
      have h3 := ih (insRev lt x p.reverse []) q (by simpa using hm) (fun y hy => hall y (hp2.mem_iff.1 hy)) (hp2.nodup_iff.2 hn) hsort
      rw [hlen] at h3
      exact ⟨h3.1.trans hp2, h3.2⟩
theorem insSort_sorts {lt : Int → Int → Bool} {xs : List Int} (h : Strict lt xs) (hn : xs.Nodup) : List.Perm (insSort lt xs) xs ∧ (insSort lt xs).Pairwise (fun a b => lt a b = true) := by
  unfold insSort
  cases xs with
  | nil => simp [insOut]
  | cons x r => exact insOut_sorts h r.length [x] r rfl (fun y hy => hy) hn (by simp)
/-- The place of an element is the number of those below it. -/
theorem insSort_rank {lt : Int → Int → Bool} {xs : List Int} (h : Strict lt xs) (hn : xs.Nodup) (j : Nat) (x : Int) (hx : (insSort lt xs)[j]? = some x) : xs.countP (fun k => lt k x) = j := by
  obtain ⟨h1, h2⟩ := insSort_sorts h hn
  rw [← h1.countP_eq]
  have hm : ∀ y ∈ insSort lt xs, y ∈ xs := fun y hy => h1.mem_iff.1 hy
  generalize insSort lt xs = out at *
  have hj := (List.getElem?_eq_some_iff.1 hx).1
  have hxm : x ∈ xs := hm x (List.mem_of_getElem? hx)
  have e : out = out.take j ++ x :: out.drop (j + 1) := by
    obtain ⟨y, hy1, hy2⟩ := drop_cons (xs := out) (k := j) hj
    rw [hx] at hy1
    injection hy1 with hy1
    subst hy1
    rw [← hy2, List.take_append_drop]
  rw [e] at h2
  rw [List.pairwise_append, List.pairwise_cons] at h2
  obtain ⟨_, ⟨h3, _⟩, h4⟩ := h2
  rw [e, List.countP_append, List.countP_cons, h.irr x hxm]
  have e1 : (out.take j).countP (fun k => lt k x) = j := by
    rw [List.countP_eq_length.2 (fun a ha => h4 a ha x (by simp)), List.length_take]
    omega
  have e2 : (out.drop (j + 1)).countP (fun k => lt k x) = 0 := by
    rw [List.countP_eq_zero]
    intro a ha
    have := h.asy x hxm a (hm a (List.mem_of_mem_drop ha)) (h3 a ha)
    simp [this]
  rw [e1, e2]
  simp

/-- Each i is stored at r i. -/
def setsF (r : Nat → Nat) : Nat → Nat → List Int → List Int
  | 0, _, out => out
  | m + 1, i, out => setsF r m (i + 1) (out.set (r i) (i : Int))
theorem setsF_length (r : Nat → Nat) (m i : Nat) (out : List Int) : (setsF r m i out).length = out.length := by
  induction m generalizing i out with
  | zero => rfl
  | succ m ih => unfold setsF; rw [ih]; simp
theorem setsF_keep (r : Nat → Nat) (m i : Nat) (out : List Int) (p : Nat) (h : ∀ k, i ≤ k → k < i + m → r k ≠ p) : (setsF r m i out)[p]? = out[p]? := by
  induction m generalizing i out with
  | zero => rfl
  | succ m ih =>
    unfold setsF
    rw [ih _ _ (fun k h1 h2 => h k (by omega) (by omega)), List.getElem?_set_ne (h i (by omega) (by omega))]
theorem setsF_get (r : Nat → Nat) (m i : Nat) (out : List Int) (k : Nat) (h1 : i ≤ k) (h2 : k < i + m) (hr : r k < out.length) (hinj : ∀ k', i ≤ k' → k' < i + m → r k' = r k → k' = k) : (setsF r m i out)[r k]? = some (k : Int) := by
  induction m generalizing i out with
  | zero => omega
  | succ m ih =>
    unfold setsF
    by_cases hk : i = k
    · subst hk
      rw [setsF_keep r m (i + 1) _ (r i) (fun k' g1 g2 e => by have := hinj k' (by omega) (by omega) e; omega), List.getElem?_set_self hr]
    · exact ih (i + 1) _ (by omega) (by omega) (by simpa using hr) (fun k' g1 g2 e => hinj k' (by omega) (by omega) e)
def idx (n : Nat) : List Int := (List.range n).map fun (i : Nat) => (i : Int)
theorem idx_length (n : Nat) : (idx n).length = n := by simp [idx]
theorem idx_get {n i : Nat} (h : i < n) : (idx n)[i]? = some (i : Int) := by simp [idx, h]
theorem idx_mem {n : Nat} {x : Int} : x ∈ idx n ↔ 0 ≤ x ∧ x < n := by
  unfold idx
  rw [List.mem_map]
  constructor
  · rintro ⟨a, ha, rfl⟩
    rw [List.mem_range] at ha
    omega
  · intro h
    exact ⟨x.toNat, by rw [List.mem_range]; omega, by omega⟩
theorem idx_nodup (n : Nat) : (idx n).Nodup := by
  unfold idx
  rw [List.nodup_iff_pairwise_ne, List.pairwise_map]
  refine List.Pairwise.imp (fun {a b} h => ?_) (List.nodup_iff_pairwise_ne.1 List.nodup_range)
  omega
/-- The sorted indices are what storing each at its rank yields. -/
theorem order_rank {lt : Int → Int → Bool} {n : Nat} (h : Strict lt (idx n)) (r : Nat → Nat) (hr : ∀ i, i < n → r i = (idx n).countP (fun k => lt k (i : Int))) : insSort lt (idx n) = setsF r n 0 (List.replicate n 0) := by
  have hrank := fun j x hx => insSort_rank h (idx_nodup n) j x hx
  have hperm := (insSort_sorts h (idx_nodup n)).1
  have hlen := insSort_length lt (idx n)
  rw [idx_length] at hlen
  generalize insSort lt (idx n) = out at *
  have hat : ∀ i, i < n → out[r i]? = some (i : Int) ∧ r i < n := by
    intro i hi
    have hm : (i : Int) ∈ out := hperm.mem_iff.2 (idx_mem.2 (by omega))
    obtain ⟨j, hj⟩ := List.getElem?_of_mem hm
    have h1 := hrank j _ hj
    rw [← hr i hi] at h1
    rw [h1]
    have := (List.getElem?_eq_some_iff.1 hj).1
    exact ⟨hj, by omega⟩
  refine List.ext_getElem? (fun j => ?_)
  by_cases hj : j < n
  · have hx : out[j]? = some (out[j]'(by omega)) := List.getElem?_eq_getElem _
    generalize out[j]'(by omega) = x at hx
    have hxm := idx_mem.1 (hperm.mem_iff.1 (List.mem_of_getElem? hx))
    obtain ⟨k, rfl⟩ : ∃ k : Nat, x = k := ⟨x.toNat, by omega⟩
    have hrk : r k = j := by rw [hr k (by omega)]; exact hrank j _ hx
    rw [hx, ← hrk]
    refine (setsF_get r n 0 _ k (by omega) (by omega) (by simp; omega) (fun k' _ h2 e => ?_)).symm
    have e1 := (hat k' (by omega)).1
    rw [e, (hat k (by omega)).1] at e1
    injection e1 with e1
    omega
  · rw [List.getElem?_eq_none (by omega), List.getElem?_eq_none (by rw [setsF_length]; simp; omega)]
end Go.Proofs.YtalgdeieejpelaaGreat

/- Plain functions and facts of the fleets chapter: no Go in sight. -/
namespace Go.Proofs.YtalgdeieejpelaaGreat
open Go.RowKit
set_option linter.unusedVariables false

def rowB (xs : List Int) (many most : Int) : Bool := xs.all (fun x => withinB x 0 most) && ((xs.length : Int) == many)

/-- Is the list a permutation of low .. low + n - 1 (seen: which ones have been met)? -/
def permF (low : Int) (n : Nat) : List Int → List Bool → Bool
  | [], _ => true
  | x :: r, seen => if withinB x low (low + n - 1) then (if seen.getD (x - low).toNat false then false else permF low n r (seen.set (x - low).toNat true)) else false
def isPermB (low : Int) (xs : List Int) : Bool := permF low xs.length xs (List.replicate xs.length false)
theorem permF_mem {low : Int} {n : Nat} {xs : List Int} {seen : List Bool} (h : permF low n xs seen = true) : ∀ x ∈ xs, low ≤ x ∧ x ≤ low + n - 1 := by
  induction xs generalizing seen with
  | nil => intro x hx; cases hx
  | cons y r ih =>
    unfold permF at h
    split at h
    · rename_i h1
      split at h
      · cases h
      · intro x hx
        rcases List.mem_cons.1 hx with rfl | hx
        · exact withinB_iff.1 h1
        · exact ih h x hx
    · cases h

def orderB (xs : List Int) : Bool := withinB (xs.length : Int) 1 16 && isPermB 0 xs
theorem orderB_len {xs : List Int} (h : orderB xs = true) : 1 ≤ xs.length ∧ xs.length ≤ 16 := by
  unfold orderB at h
  simp only [Bool.and_eq_true, withinB_iff] at h
  omega
theorem orderB_mem {xs : List Int} (h : orderB xs = true) {i : Nat} {x : Int} (hx : xs[i]? = some x) : ∃ j : Nat, x = j ∧ j < xs.length := by
  unfold orderB at h
  simp only [Bool.and_eq_true] at h
  have := permF_mem h.2 x (List.mem_of_getElem? hx)
  exact ⟨x.toNat, by omega, by omega⟩

def orderCodeF (xs : List Int) (k : Int) : Int := if withinB k 1 4 then (if orderB xs then 0 else 1) else 2

/-- Element x gets f i, i its place. -/
def scatterF (f : Nat → Int) : Nat → List Int → List Int → List Int
  | _, [], out => out
  | i, x :: r, out => scatterF f (i + 1) r (out.set x.toNat (f i))
theorem scatterF_congr (f g : Nat → Int) (h : ∀ i, f i = g i) (i : Nat) (xs out : List Int) : scatterF f i xs out = scatterF g i xs out := by
  rw [show f = g from funext h]
theorem scatterF_length (f : Nat → Int) (i : Nat) (xs out : List Int) : (scatterF f i xs out).length = out.length := by
  induction xs generalizing i out with
  | nil => rfl
  | cons x r ih => simp [scatterF, ih]

def snakeImpl (k : Int) (i : Nat) : Int := if ((i : Int) / k % 2 == 1) = true then k - 1 - (i : Int) % k else (i : Int) % k
def snakeSpec (k : Int) (i : Nat) : Int := if k ≤ (i : Int) % (2 * k) then 2 * k - 1 - (i : Int) % (2 * k) else (i : Int) % (2 * k)
theorem snake_same (k : Int) (h1 : 1 ≤ k) (h2 : k ≤ 4) (i : Nat) : snakeImpl k i = snakeSpec k i := by
  unfold snakeImpl snakeSpec
  have hk : k = 1 ∨ k = 2 ∨ k = 3 ∨ k = 4 := by omega
  rcases hk with rfl | rfl | rfl | rfl <;> simp only [beq_iff_eq] <;> split <;> split <;> omega

def snakeF (xs : List Int) (k : Int) : List Int × Int :=
  if orderCodeF xs k = 0 then (scatterF (snakeSpec k) 0 xs (List.replicate xs.length 0), 0) else ([], orderCodeF xs k)

/-- How many boats each fleet has. -/
def countF : List Int → List Int → List Int
  | [], out => out
  | x :: r, out => countF r (out.set x.toNat (wrap64 (out.getD x.toNat 0 + 1)))
def fleetsB (xs : List Int) (k : Int) : Bool := withinB (xs.length : Int) 1 16 && xs.all (fun x => withinB x 0 (k - 1))
def isFleetsB (xs : List Int) (k : Int) : Bool := withinB k 1 4 && fleetsB xs k
def fleetsCodeF (xs : List Int) (k : Int) : Int := if withinB k 1 4 then (if fleetsB xs k then 0 else 1) else 2
def sizesF (xs : List Int) (k : Int) : List Int × Int :=
  if fleetsCodeF xs k = 0 then (countF xs (List.replicate k.toNat 0), 0) else ([], fleetsCodeF xs k)

/-- The places of x in the list. -/
def boatsF (fleet : Int) : Nat → List Int → List Int
  | _, [] => []
  | i, x :: r => if x = fleet then (i : Int) :: boatsF fleet (i + 1) r else boatsF fleet (i + 1) r
def fleetBoatsF (xs : List Int) (k fleet : Int) : List Int × Int :=
  if withinB k 1 4 && withinB fleet 0 (k - 1) then (if fleetsCodeF xs k = 0 then (boatsF fleet 0 xs, 0) else ([], 1)) else ([], 2)

/-! ### Blocks -/
def fillF (xs : List Int) (f : Int) : Nat → Nat → List Int → List Int
  | _, 0, out => out
  | at_, m + 1, out => fillF xs f (at_ + 1) m (out.set (xs.getD at_ 0).toNat f)
def goBlock (xs : List Int) : Nat → List Int → Nat → List Int → Option (Nat × List Int)
  | _, [], at_, out => some (at_, out)
  | f, s :: r, at_, out => if withinB s 0 ((xs.length : Int) - at_) then goBlock xs (f + 1) r (at_ + s.toNat) (fillF xs f at_ s.toNat out) else none
def leftF : Int → List Int → Option Int
  | left, [] => some left
  | left, s :: r => if withinB s 0 left then leftF (left - s) r else none
def fillsF (xs : List Int) : Nat → List Int → Nat → List Int → List Int
  | _, [], _, out => out
  | f, s :: r, at_, out => fillsF xs (f + 1) r (at_ + s.toNat) (fillF xs f at_ s.toNat out)
def endBlock (n : Nat) : Option (Nat × List Int) → List Int × Int
  | none => ([], 5)
  | some (at_, out) => if at_ < n then ([], 5) else (out, 0)
def blockF (xs sizes : List Int) : List Int × Int :=
  if orderCodeF xs sizes.length = 0 then endBlock xs.length (goBlock xs 0 sizes 0 (List.replicate xs.length 0)) else ([], orderCodeF xs sizes.length)
theorem leftF_nonneg {left l : Int} {sizes : List Int} (h0 : 0 ≤ left) (h : leftF left sizes = some l) : 0 ≤ l ∧ l ≤ left := by
  induction sizes generalizing left with
  | nil => simp [leftF] at h; omega
  | cons s r ih =>
    unfold leftF at h
    split at h
    · rename_i hw
      have := withinB_iff.1 hw
      have := ih (by omega) h
      omega
    · cases h
theorem goBlock_none (xs sizes : List Int) (f at_ : Nat) (out : List Int) (hat : at_ ≤ xs.length) (h : leftF ((xs.length : Int) - at_) sizes = none) : goBlock xs f sizes at_ out = none := by
  induction sizes generalizing f at_ out with
  | nil => simp [leftF] at h
  | cons s r ih =>
    unfold leftF at h
    unfold goBlock
    split
    · rename_i hw
      rw [if_pos hw] at h
      have := withinB_iff.1 hw
      exact ih _ _ _ (by omega) (by rw [← h]; congr 1; omega)
    · rfl
theorem goBlock_some (xs sizes : List Int) (f at_ : Nat) (out : List Int) (l : Int) (hat : at_ ≤ xs.length) (h : leftF ((xs.length : Int) - at_) sizes = some l) :
    goBlock xs f sizes at_ out = some (((xs.length : Int) - l).toNat, fillsF xs f sizes at_ out) := by
  induction sizes generalizing f at_ out with
  | nil =>
    simp only [leftF, Option.some.injEq] at h
    simp only [goBlock, fillsF, Option.some.injEq, Prod.mk.injEq, and_true]
    omega
  | cons s r ih =>
    unfold leftF at h
    unfold goBlock
    split
    · rename_i hw
      rw [if_pos hw] at h
      have := withinB_iff.1 hw
      exact ih _ _ _ (by omega) (by rw [← h]; congr 1; omega)
    · rename_i hw
      rw [if_neg hw] at h
      cases h
theorem fillF_len (xs : List Int) (f : Int) (at_ m : Nat) (out : List Int) : (fillF xs f at_ m out).length = out.length := by
  induction m generalizing at_ out with
  | zero => rfl
  | succ m ih => simp [fillF, ih]
end Go.Proofs.YtalgdeieejpelaaGreat

/- Plain: valid tables, averages, redress. -/
namespace Go.Proofs.YtalgdeieejpelaaGreat
open Go.RowKit
set_option linter.unusedVariables false

/-- Two columns of rows are valid for a number of boats. -/
def zipB (b : Int) : List (List Int) → List (List Int) → Bool
  | p :: ps, c :: cs => rowB p b 10000 && rowB c b 9 && zipB b ps cs
  | _, _ => true
theorem zipB_nil (b : Int) (cs : List (List Int)) : zipB b [] cs = true := by cases cs <;> rfl
def tableB (t : Tb) : Bool := withinB t.boats 1 16 && decide (t.pts.length ≤ 12) && decide (t.pts.length = t.cds.length) && zipB t.boats t.pts t.cds
/-- Two rows of equal length, side by side. -/
def pairB : List Int → List Int → Bool
  | p :: ps, c :: cs => withinB p 0 10000 && withinB c 0 9 && pairB ps cs
  | _, _ => true
theorem pairB_nil (q : List Int) : pairB [] q = true := by cases q <;> rfl
theorem pairB_eq (b : Int) : ∀ (p c : List Int), (p.length : Int) = b → (c.length : Int) = b → (rowB p b 10000 && rowB c b 9) = pairB p c := by
  intro p c h1 h2
  have hl : p.length = c.length := by omega
  have key : ∀ (p c : List Int), p.length = c.length → (p.all (fun x => withinB x 0 10000) && c.all (fun x => withinB x 0 9)) = pairB p c := by
    intro p
    induction p with
    | nil => intro c h; cases c <;> simp_all [pairB]
    | cons x p ih =>
      intro c h
      cases c with
      | nil => simp at h
      | cons y c =>
        have := ih c (by simpa using h)
        simp only [List.all_cons, pairB, ← this]
        cases withinB x 0 10000 <;> cases withinB y 0 9 <;> simp [Bool.and_comm]
  rw [← key p c hl]
  unfold rowB
  have e1 : ((p.length : Int) == b) = true := by simp [h1]
  have e2 : ((c.length : Int) == b) = true := by simp [h2]
  rw [e1, e2]
  simp
theorem rowB_false {xs : List Int} {b most : Int} (h : (xs.length : Int) ≠ b) : rowB xs b most = false := by
  unfold rowB
  have : ((xs.length : Int) == b) = false := by simpa using h
  rw [this, Bool.and_false]
theorem rowB_ok {xs : List Int} {b most : Int} (h : rowB xs b most = true) : (xs.length : Int) = b ∧ ∀ x ∈ xs, 0 ≤ x ∧ x ≤ most := by
  unfold rowB at h
  simp only [Bool.and_eq_true, List.all_eq_true, beq_iff_eq] at h
  exact ⟨h.2, fun x hx => withinB_iff.1 (h.1 x hx)⟩
theorem zipB_at {b : Int} : ∀ {ps cs : List (List Int)}, zipB b ps cs = true → ∀ (k : Nat) (p c : List Int), ps[k]? = some p → cs[k]? = some c → rowB p b 10000 = true ∧ rowB c b 9 = true := by
  intro ps
  induction ps with
  | nil => intro cs h k p c hp; simp at hp
  | cons p0 ps ih =>
    intro cs h k p c hp hc
    cases cs with
    | nil => simp at hc
    | cons c0 cs =>
      simp only [zipB, Bool.and_eq_true] at h
      cases k with
      | zero => simp at hp hc; subst hp; subst hc; exact h.1
      | succ k => exact ih h.2 k p c (by simpa using hp) (by simpa using hc)
/-- What a valid table is. -/
structure TabOk (t : Tb) : Prop where
  b1 : 1 ≤ t.boats
  b2 : t.boats ≤ 16
  many : t.pts.length ≤ 12
  same : t.pts.length = t.cds.length
  row : ∀ (k : Nat) (p c : List Int), t.pts[k]? = some p → t.cds[k]? = some c → ((p.length : Int) = t.boats ∧ ∀ x ∈ p, 0 ≤ x ∧ x ≤ 10000) ∧ ((c.length : Int) = t.boats ∧ ∀ x ∈ c, 0 ≤ x ∧ x ≤ 9)
theorem tableB_ok {t : Tb} (h : tableB t = true) : TabOk t := by
  unfold tableB at h
  simp only [Bool.and_eq_true, decide_eq_true_eq] at h
  obtain ⟨⟨⟨h1, h2⟩, h3⟩, h4⟩ := h
  have hb := withinB_iff.1 h1
  exact ⟨hb.1, hb.2, h2, h3, fun k p c hp hc => ⟨rowB_ok (zipB_at h4 k p c hp hc).1, rowB_ok (zipB_at h4 k p c hp hc).2⟩⟩
theorem TabOk.tableB {t : Tb} (h : TabOk t) : tableB t = true := by
  have hz : ∀ (ps cs : List (List Int)), (∀ (k : Nat) (p c : List Int), ps[k]? = some p → cs[k]? = some c → ((p.length : Int) = t.boats ∧ ∀ x ∈ p, 0 ≤ x ∧ x ≤ 10000) ∧ ((c.length : Int) = t.boats ∧ ∀ x ∈ c, 0 ≤ x ∧ x ≤ 9)) → zipB t.boats ps cs = true := by
    intro ps
    induction ps with
    | nil => intro cs _; simp [zipB]
    | cons p ps ih =>
      intro cs h
      cases cs with
      | nil => simp [zipB]
      | cons c cs =>
        obtain ⟨⟨h1, h2⟩, h3, h4⟩ := h 0 p c rfl rfl
        have := ih cs (fun k p c hp hc => h (k + 1) p c (by simpa using hp) (by simpa using hc))
        simp only [zipB, this, Bool.and_true, Bool.and_eq_true, rowB, List.all_eq_true, beq_iff_eq]
        exact ⟨⟨fun x hx => withinB_iff.2 (h2 x hx), h1⟩, fun x hx => withinB_iff.2 (h4 x hx), h3⟩
  unfold Go.Proofs.YtalgdeieejpelaaGreat.tableB
  rw [hz _ _ h.row, withinB_iff.2 ⟨h.b1, h.b2⟩]
  rw [decide_eq_true h.many, decide_eq_true h.same]
  rfl

/-- Whether race k counts for an average. -/
def otherB (race kind : Int) (k : Nat) : Bool := !((k : Int) == race) && !(kind == 2 && decide (race < (k : Int)))
theorem otherB_all {race kind : Int} (k : Nat) (h : kind = 1 ∨ kind = 2) : otherB race kind k = (decide ((k : Int) < race) || (decide ((k : Int) > race) && (kind == 1))) := by
  unfold otherB
  rcases h with rfl | rfl
  · by_cases h1 : (k : Int) < race
    · simp [h1]; omega
    · by_cases h2 : (k : Int) > race <;> simp [h1, h2] <;> omega
  · by_cases h1 : (k : Int) < race
    · simp [h1]; omega
    · by_cases h2 : (k : Int) > race <;> simp [h1, h2] <;> omega
def avgGo (race kind : Int) (b : Nat) : Nat → List (List Int) → List (List Int) → Int → Int → Int × Int
  | k, p :: ps, c :: cs, s, m => if (otherB race kind k && !(c.getD b 0 == 9)) = true then avgGo race kind b (k + 1) ps cs (s + p.getD b 0) (m + 1) else avgGo race kind b (k + 1) ps cs s m
  | _, _, _, s, m => (s, m)
theorem avgGo_nil (race kind : Int) (b k : Nat) (cs : List (List Int)) (s m : Int) : avgGo race kind b k [] cs s m = (s, m) := by cases cs <;> rfl
def avgOf (r : Int × Int) : Int × Bool := if r.2 = 0 then (0, false) else ((2 * r.1 + r.2) / (2 * r.2), true)
def avgF (t : Tb) (race boat kind : Int) : Int × Bool := avgOf (avgGo race kind boat.toNat 0 t.pts t.cds 0 0)
def avgPointsF (t : Tb) (race boat kind : Int) : Int × Int :=
  if tableB t = true then (if withinB race 0 ((t.pts.length : Int) - 1) = true ∧ withinB boat 0 (t.boats - 1) = true ∧ withinB kind 1 2 = true then (if (avgF t race boat kind).2 = true then ((avgF t race boat kind).1, 0) else (0, 4)) else (0, 2)) else (0, 1)

/-! ### Redress -/
abbrev RedT := Int × Int × Int × Int
def isRedBT (kind points : Int) : Bool := if kind = 3 then withinB points 0 10000 else withinB kind 1 2 && (points == 0)
def codeAt (t : Tb) (race boat : Int) : Int := (t.cds.getD race.toNat []).getD boat.toNat 0
def redB (t : Tb) (x : RedT) : Bool :=
  withinB x.1 0 ((t.pts.length : Int) - 1) && withinB x.2.1 0 (t.boats - 1) && isRedBT x.2.2.1 x.2.2.2 && (codeAt t x.1 x.2.1 == 9) && (x.2.2.1 == 3 || (avgF t x.1 x.2.1 x.2.2.1).2)
def ltRB (y x : RedT) : Bool := decide (y.1 < x.1) || ((y.1 == x.1) && decide (y.2.1 < x.2.1))
def redsGo (t : Tb) : Option RedT → List RedT → Bool
  | _, [] => true
  | none, x :: r => redB t x && redsGo t (some x) r
  | some y, x :: r => redB t x && ltRB y x && redsGo t (some x) r
def redsB (t : Tb) (xs : List RedT) : Bool := redsGo t none xs
def redCodeF (t : Tb) (xs : List RedT) : Int := if tableB t = true then (if redsB t xs = true then 0 else 2) else 1
def redVal (t : Tb) (x : RedT) : Int := if x.2.2.1 = 3 then x.2.2.2 else (avgF t x.1 x.2.1 x.2.2.1).1
def setRC (rows : List (List Int)) (r b : Nat) (v : Int) : List (List Int) := rows.set r ((rows.getD r []).set b v)
def applyGo (t : Tb) : List RedT → List (List Int) → List (List Int)
  | [], rows => rows
  | x :: r, rows => applyGo t r (setRC rows x.1.toNat x.2.1.toNat (redVal t x))
def applyF (t : Tb) (xs : List RedT) : Tb := ⟨t.boats, applyGo t xs t.pts, t.cds⟩
def namedB (xs : List RedT) (k b : Int) : Bool := xs.any fun x => x.1 == k && x.2.1 == b
def openRow (xs : List RedT) (k : Nat) : Nat → List Int → List (List Int)
  | _, [] => []
  | b, c :: cs => (if (c == 9 && !namedB xs k b) = true then [[(k : Int), (b : Int)]] else []) ++ openRow xs k (b + 1) cs
def openGo (xs : List RedT) : Nat → List (List Int) → List (List Int)
  | _, [] => []
  | k, r :: rs => openRow xs k 0 r ++ openGo xs (k + 1) rs
def openF (t : Tb) (xs : List RedT) : List (List Int) × Int := if redCodeF t xs = 0 then (openGo xs 0 t.cds, 0) else ([], redCodeF t xs)
def applyCF (t : Tb) (xs : List RedT) : Tb × Int := if redCodeF t xs = 0 then (applyF t xs, 0) else (noT, redCodeF t xs)
end Go.Proofs.YtalgdeieejpelaaGreat

/- Plain: discard rules, discards, counted points (chapter 27). -/
namespace Go.Proofs.YtalgdeieejpelaaGreat
open Go.RowKit
set_option linter.unusedVariables false
set_option maxRecDepth 100000

/-! ### Rules -/
def incGo : Int → List Int → Bool
  | _, [] => true
  | p, n :: r => withinB n 1 12 && decide (p < n) && incGo n r
def ruleB (rule : List Int) : Bool := decide (rule.length ≤ 3) && incGo 0 rule
theorem ruleB_len {rule : List Int} (h : ruleB rule = true) : rule.length ≤ 3 := by
  unfold ruleB at h
  rw [Bool.and_eq_true, decide_eq_true_eq] at h
  exact h.1
def leN (races : Int) : List Int → Nat
  | [] => 0
  | n :: r => (if n ≤ races then 1 else 0) + leN races r
theorem leN_le (races : Int) (l : List Int) : leN races l ≤ l.length := by
  induction l with
  | nil => exact Nat.le_refl _
  | cons n r ih => rw [leN, List.length_cons]; split <;> omega
theorem leN_snoc (races : Int) (l : List Int) (n : Int) : leN races (l ++ [n]) = leN races l + (if n ≤ races then 1 else 0) := by
  induction l with
  | nil => simp [leN]
  | cons a r ih => rw [List.cons_append, leN, leN, ih]; omega
/-! ### A stable sort by a comparison is a sort by the comparison and the index -/
def tieL (lt : Int → Int → Bool) (a b : Int) : Bool := lt a b || (!lt b a && decide (a < b))
theorem insRev_congr {lt lt' : Int → Int → Bool} {x : Int} : ∀ {r acc : List Int}, (∀ y ∈ r, lt x y = lt' x y) → insRev lt x r acc = insRev lt' x r acc := by
  intro r
  induction r with
  | nil => intro acc _; rfl
  | cons y r ih =>
    intro acc h
    unfold insRev
    rw [h y List.mem_cons_self, ih (fun z hz => h z (List.mem_cons_of_mem _ hz))]
theorem insIn_app (lt : Int → Int → Bool) (x : Int) (p q : List Int) : insIn lt p.length (p ++ x :: q) = insRev lt x p.reverse [] ++ q := by
  have h1 : ∀ (r acc : List Int), insRev lt x r (acc ++ q) = insRev lt x r acc ++ q := by
    intro r
    induction r with
    | nil => intro acc; rfl
    | cons y r ih' =>
      intro acc
      unfold insRev
      split
      · exact ih' (y :: acc)
      · simp
  have h2 := insIn_rev lt x p.reverse q
  rw [List.length_reverse, List.reverse_reverse] at h2
  rw [h2]
  exact h1 p.reverse []
theorem insOut_congr {lt lt' : Int → Int → Bool} : ∀ (m : Nat) (p q : List Int), q.length = m → (∀ x ∈ q, ∀ y ∈ p, lt x y = lt' x y) → q.Pairwise (fun y x => lt x y = lt' x y) → insOut lt m p.length (p ++ q) = insOut lt' m p.length (p ++ q) := by
  intro m
  induction m with
  | zero => intro p q _ _ _; rfl
  | succ m ih =>
    intro p q hm h hp
    cases q with
    | nil => simp at hm
    | cons x q =>
      unfold insOut
      rw [insIn_app, insIn_app, insRev_congr (fun y hy => h x List.mem_cons_self y (by simpa using hy))]
      have hperm := insRev_perm lt' x p.reverse []
      rw [List.reverse_reverse, List.append_nil] at hperm
      have hlen : (insRev lt' x p.reverse []).length = p.length + 1 := by rw [hperm.length_eq]; simp
      have h3 := ih (insRev lt' x p.reverse []) q (by simpa using hm) (fun z hz y hy => by
        rcases List.mem_cons.1 (hperm.mem_iff.1 hy) with rfl | hy
        · exact (List.pairwise_cons.1 hp).1 z hz
        · exact h z (List.mem_cons_of_mem _ hz) y hy) (List.pairwise_cons.1 hp).2
      rw [hlen] at h3
      exact h3
theorem idx_inc (n : Nat) : (idx n).Pairwise (fun a b => a < b) := by
  unfold idx
  rw [List.pairwise_map]
  exact List.Pairwise.imp (fun {a b} h => by omega) List.pairwise_lt_range
theorem sort_tie (lt : Int → Int → Bool) (n : Nat) : insSort lt (idx n) = insSort (tieL lt) (idx n) := by
  have hi := idx_inc n
  unfold insSort
  generalize idx n = l at *
  cases l with
  | nil => rfl
  | cons x r =>
    have key : ∀ a b : Int, a < b → lt b a = tieL lt b a := by
      intro a b h
      unfold tieL
      rw [decide_eq_false (by omega : ¬ b < a), Bool.and_false, Bool.or_false]
    have h1 := List.pairwise_cons.1 hi
    exact insOut_congr (lt := lt) (lt' := tieL lt) r.length [x] r rfl (fun z hz y hy => by
      rw [List.mem_singleton.1 hy]
      exact key x z (h1.1 z hz)) (h1.2.imp (fun {a b} h => key a b h))
/-- A comparison by a key of integers. -/
structure Weak (lt : Int → Int → Bool) : Prop where
  irr : ∀ x, lt x x = false
  asy : ∀ x y, lt x y = true → lt y x = false
  tr : ∀ x y z, lt x y = true → lt y z = true → lt x z = true
  eqv : ∀ x y z, lt x y = false → lt y x = false → lt y z = false → lt z y = false → lt x z = false ∧ lt z x = false
theorem Weak.left {lt : Int → Int → Bool} (h : Weak lt) {x y z : Int} (h1 : lt x y = true) (h2 : lt y z = false) (h3 : lt z y = false) : lt x z = true := by
  cases h4 : lt x z with
  | true => rfl
  | false =>
    cases h5 : lt z x with
    | true => rw [h.tr _ _ _ h5 h1] at h3; cases h3
    | false =>
      have := (h.eqv x z y h4 h5 h3 h2).1
      rw [this] at h1
      cases h1
theorem Weak.right {lt : Int → Int → Bool} (h : Weak lt) {x y z : Int} (h1 : lt x y = false) (h2 : lt y x = false) (h3 : lt y z = true) : lt x z = true := by
  cases h4 : lt x z with
  | true => rfl
  | false =>
    cases h5 : lt z x with
    | true => have := h.tr _ _ _ h3 h5; rw [this] at h2; cases h2
    | false =>
      have := (h.eqv y x z h2 h1 h4 h5).1
      rw [this] at h3
      cases h3
theorem tie_strict {lt : Int → Int → Bool} (h : Weak lt) (l : List Int) : Strict (tieL lt) l := by
  constructor
  · intro x _
    unfold tieL
    rw [h.irr x, decide_eq_false (by omega : ¬ x < x)]
    rfl
  · intro x _ y _ hne hf
    unfold tieL at hf ⊢
    cases h1 : lt x y with
    | true => rw [h1] at hf; cases hf
    | false =>
      cases h2 : lt y x with
      | true => rfl
      | false =>
        rw [h1, h2] at hf
        have : ¬ x < y := by simpa using hf
        simp
        omega
  · intro x _ y _ ht
    unfold tieL at ht ⊢
    cases h1 : lt x y with
    | true => rw [h.asy _ _ h1]; rfl
    | false =>
      cases h2 : lt y x with
      | true => rw [h1, h2] at ht; cases ht
      | false =>
        rw [h1, h2] at ht
        have : x < y := by simpa using ht
        simp
        omega
  · intro x _ y _ z _ ha hb
    unfold tieL at ha hb ⊢
    cases h1 : lt x y with
    | true =>
      cases h2 : lt y z with
      | true => rw [h.tr _ _ _ h1 h2]; rfl
      | false =>
        cases h3 : lt z y with
        | true => rw [h2, h3] at hb; cases hb
        | false => rw [h.left h1 h2 h3]; rfl
    | false =>
      cases h4 : lt y x with
      | true => rw [h1, h4] at ha; cases ha
      | false =>
        cases h2 : lt y z with
        | true => rw [h.right h1 h4 h2]; rfl
        | false =>
          cases h3 : lt z y with
          | true => rw [h2, h3] at hb; cases hb
          | false =>
            obtain ⟨h5, h6⟩ := h.eqv _ _ _ h1 h4 h2 h3
            rw [h1, h4] at ha
            rw [h2, h3] at hb
            have ha' : x < y := by simpa using ha
            have hb' : y < z := by simpa using hb
            rw [h5, h6]
            simp
            omega
/-! ### The discards of a column of points and codes -/
def atI (l : List Int) (k : Int) : Int := l.getD k.toNat 0
/-- Race a has more points than race b. -/
def moreL (P : List Int) (a b : Int) : Bool := decide (atI P b - atI P a < 0)
theorem more_weak (P : List Int) : Weak (moreL P) := by
  constructor
  · intro x; unfold moreL; simp
  · intro x y; unfold moreL; simp; omega
  · intro x y z; unfold moreL; simp; omega
  · intro x y z; unfold moreL; simp; omega
def okC (K : List Int) (k : Int) : Bool := !(atI K k == 7)
/-- The races that may be discarded, worst first. -/
def worst (P K : List Int) : List Int := (insSort (moreL P) (idx P.length)).filter (okC K)
def goneL (P K : List Int) (left : Nat) : List Int := (worst P K).take left
def cntP (P : List Int) (gone : List Int) : List Int := ((idx P.length).filter fun k => !decide (k ∈ gone)).map (atI P)
theorem worst_facts (P K : List Int) : (worst P K).Pairwise (fun a b => tieL (moreL P) a b = true) ∧ ∀ k : Int, k ∈ worst P K ↔ 0 ≤ k ∧ k < P.length ∧ okC K k = true := by
  unfold worst
  rw [sort_tie]
  obtain ⟨h1, h2⟩ := insSort_sorts (tie_strict (more_weak P) (idx P.length)) (idx_nodup P.length)
  refine ⟨h2.filter _, fun k => ?_⟩
  rw [List.mem_filter, h1.mem_iff, idx_mem]
  constructor
  · rintro ⟨⟨a, b⟩, c⟩; exact ⟨a, b, c⟩
  · rintro ⟨a, b, c⟩; exact ⟨⟨a, b⟩, c⟩
theorem worst_nodup (P K : List Int) : (worst P K).Nodup := by
  refine (worst_facts P K).1.imp (fun {a b} h e => ?_)
  subst e
  rw [(tie_strict (more_weak P) [a]).irr a (List.mem_singleton.2 rfl)] at h
  cases h
theorem worst_len (P K : List Int) : (worst P K).length ≤ P.length := by
  unfold worst
  have h := List.length_filter_le (okC K) (insSort (moreL P) (idx P.length))
  rw [insSort_length, idx_length] at h
  exact h
/-! ### The program: a walk over the sorted races -/
/-- What the program's loop makes of the rest of the order. -/
def takeOk (K : List Int) : Nat → List Int → List Int
  | _, [] => []
  | left, k :: r => if (decide (0 < left) && okC K k) = true then k :: takeOk K (left - 1) r else takeOk K left r
theorem takeOk_eq (K : List Int) : ∀ (l : List Int) (left : Nat), takeOk K left l = (l.filter (okC K)).take left := by
  intro l
  induction l with
  | nil => intro left; simp [takeOk]
  | cons k r ih =>
    intro left
    rw [takeOk, List.filter_cons]
    cases hk : okC K k with
    | false => simp [ih]
    | true =>
      cases left with
      | zero => simp [ih]
      | succ m => simp [ih]
/-! ### The reference: marks, the worst race that is left first -/
/-- What one scan finds: the best index so far (-1: none). -/
def bestGo (P K : List Int) (out : List Bool) : Nat → Nat → Int → Int
  | 0, _, best => best
  | m + 1, i, best => bestGo P K out m (i + 1) (if (!out.getD i false && okC K i && (decide (best < 0) || decide (atI P best < atI P i))) = true then (i : Int) else best)
def bestF (P K : List Int) (out : List Bool) : Int := bestGo P K out out.length 0 (-1)
def markF (out : List Bool) (best : Int) : List Bool := if 0 ≤ best then out.set best.toNat true else out
def outGo (P K : List Int) : Nat → List Bool → List Bool
  | 0, out => out
  | m + 1, out => outGo P K m (markF out (bestF P K out))
def outF (P K : List Int) (left : Nat) : List Bool := outGo P K left (List.replicate P.length false)
theorem bestGo_spec (P K : List Int) (out : List Bool) (hl : out.length = P.length) : ∀ (m i : Nat) (best : Int), i + m = out.length →
    ((best = -1 ∧ ∀ j : Nat, j < i → (out.getD j false = true ∨ okC K j = false)) ∨ (∃ b : Nat, best = (b : Int) ∧ b < i ∧ out.getD b false = false ∧ okC K b = true ∧ ∀ j : Nat, j < i → out.getD j false = false → okC K j = true → j ≠ b → tieL (moreL P) b j = true)) →
    ((bestGo P K out m i best = -1 ∧ ∀ j : Nat, j < out.length → (out.getD j false = true ∨ okC K j = false)) ∨ (∃ b : Nat, bestGo P K out m i best = (b : Int) ∧ b < out.length ∧ out.getD b false = false ∧ okC K b = true ∧ ∀ j : Nat, j < out.length → out.getD j false = false → okC K j = true → j ≠ b → tieL (moreL P) b j = true)) := by
  intro m
  induction m with
  | zero =>
    intro i best hi h
    have : i = out.length := by omega
    subst this
    exact h
  | succ m ih =>
    intro i best hi h
    rw [bestGo]
    refine ih (i + 1) _ (by omega) ?_
    cases hb : (!out.getD i false && okC K i && (decide (best < 0) || decide (atI P best < atI P i))) with
    | true =>
      rw [if_pos rfl]
      simp only [Bool.and_eq_true, Bool.not_eq_true', Bool.or_eq_true, decide_eq_true_eq] at hb
      obtain ⟨⟨h1, h2⟩, h3⟩ := hb
      refine .inr ⟨i, rfl, by omega, h1, h2, fun j hj hoj hkj hne => ?_⟩
      rcases h with ⟨rfl, hall⟩ | ⟨b, rfl, hb1, hb2, hb3, hb4⟩
      · rcases hall j (by omega) with h | h
        · rw [h] at hoj; cases hoj
        · rw [h] at hkj; cases hkj
      · have h4 : atI P b < atI P i := by
          rcases h3 with h3 | h3
          · omega
          · exact h3
        have hib : tieL (moreL P) i b = true := by
          unfold tieL moreL
          rw [decide_eq_true (by omega : atI P b - atI P i < 0)]
          rfl
        by_cases hjb : j = b
        · subst hjb; exact hib
        · exact (tie_strict (more_weak P) [(i : Int), b, j]).tr i (by simp) b (by simp) j (by simp) hib (hb4 j (by omega) hoj hkj hjb)
    | false =>
      rw [if_neg (by simp)]
      rcases h with ⟨rfl, hall⟩ | ⟨b, rfl, hb1, hb2, hb3, hb4⟩
      · refine .inl ⟨rfl, fun j hj => ?_⟩
        by_cases hji : j = i
        · subst hji
          cases h1 : out.getD j false with
          | true => exact .inl rfl
          | false =>
            cases h2 : okC K j with
            | false => exact .inr rfl
            | true => rw [h1, h2] at hb; simp at hb
        · exact hall j (by omega)
      · refine .inr ⟨b, rfl, by omega, hb2, hb3, fun j hj hoj hkj hne => ?_⟩
        by_cases hji : j = i
        · subst hji
          rw [hoj, hkj] at hb
          have h5 : ¬ atI P b < atI P j := by
            intro h6
            rw [decide_eq_true h6] at hb
            simp at hb
          unfold tieL moreL
          by_cases h6 : atI P j - atI P b < 0
          · rw [decide_eq_true h6]; rfl
          · rw [decide_eq_false h6, decide_eq_false (by omega : ¬ atI P b - atI P j < 0), decide_eq_true (by omega : (b : Int) < (j : Int))]
            rfl
        · exact hb4 j (by omega) hoj hkj hne
/-- The marks are those of a part of the order. -/
def MarksOf (P K : List Int) (out : List Bool) (r : Nat) : Prop := out.length = P.length ∧ ∀ j : Nat, j < P.length → out.getD j false = decide ((j : Int) ∈ (worst P K).take r)
theorem marks_step {P K : List Int} {out : List Bool} {r : Nat} (h : MarksOf P K out r) : MarksOf P K (markF out (bestF P K out)) (r + 1) := by
  obtain ⟨hl, hm⟩ := h
  obtain ⟨hw1, hw2⟩ := worst_facts P K
  have hs := bestGo_spec P K out hl out.length 0 (-1) (by omega) (.inl ⟨rfl, fun j hj => by omega⟩)
  unfold bestF
  rcases hs with ⟨e, hall⟩ | ⟨b, e, hb1, hb2, hb3, hb4⟩
  · rw [e]
    unfold markF
    rw [if_neg (by omega)]
    refine ⟨hl, fun j hj => ?_⟩
    rw [hm j hj]
    have hsame : ∀ x, x ∈ (worst P K).take (r + 1) ↔ x ∈ (worst P K).take r := by
      intro x
      constructor
      · intro hx
        have hx2 := (hw2 x).1 (List.mem_of_mem_take hx)
        obtain ⟨k, rfl⟩ : ∃ k : Nat, x = k := ⟨x.toNat, by omega⟩
        rcases hall k (by omega) with h | h
        · rw [hm k (by omega)] at h
          simpa using h
        · rw [hx2.2.2] at h; cases h
      · intro hx
        rw [List.take_add_one]
        exact List.mem_append_left _ hx
    simp only [hsame]
  · rw [e]
    unfold markF
    rw [if_pos (by omega)]
    -- the best one stands next in the order
    have hbn : (b : Int) ∉ (worst P K).take r := by
      have := hm b (by omega)
      rw [hb2] at this
      simpa using this.symm
    have hbw : (b : Int) ∈ worst P K := (hw2 b).2 ⟨by omega, by omega, hb3⟩
    have hnext : (worst P K)[r]? = some (b : Int) := by
      have hd : (b : Int) ∈ (worst P K).drop r := by
        rw [← List.take_append_drop r (worst P K)] at hbw
        rcases List.mem_append.1 hbw with h | h
        · exact absurd h hbn
        · exact h
      cases hdr : (worst P K).drop r with
      | nil => rw [hdr] at hd; simp at hd
      | cons x rest =>
        have hx0 : (worst P K)[r]? = some x := by
          have : ((worst P K).drop r)[0]? = some x := by rw [hdr]; rfl
          rwa [List.getElem?_drop, Nat.add_zero] at this
        rw [hx0]
        by_cases hxb : x = b
        · rw [hxb]
        · exfalso
          have hp := hw1
          rw [← List.take_append_drop r (worst P K), List.pairwise_append] at hp
          have hp2 := hp.2.1
          rw [hdr, List.pairwise_cons] at hp2
          have hbr : (b : Int) ∈ rest := by
            rw [hdr] at hd
            rcases List.mem_cons.1 hd with h | h
            · exact absurd h.symm hxb
            · exact h
          have hxlt := hp2.1 b hbr
          have hxw := (hw2 x).1 (List.mem_of_getElem? hx0)
          obtain ⟨k, rfl⟩ : ∃ k : Nat, x = k := ⟨x.toNat, by omega⟩
          have hxn : (k : Int) ∉ (worst P K).take r := by
            intro hin
            have hn := worst_nodup P K
            rw [← List.take_append_drop r (worst P K), List.nodup_append] at hn
            exact hn.2.2 k hin k (by rw [hdr]; exact List.mem_cons_self) rfl
          have hok : out.getD k false = false := by rw [hm k (by omega)]; simpa using hxn
          have := hb4 k (by omega) hok hxw.2.2 (fun e => hxb (by rw [e]))
          rw [(tie_strict (more_weak P) [(k : Int), b]).asy k (by simp) b (by simp) hxlt] at this
          cases this
    refine ⟨by rw [List.length_set]; exact hl, fun j hj => ?_⟩
    rw [List.take_add_one, hnext]
    show (out.set b true).getD j false = _
    rw [List.getD_eq_getElem?_getD]
    by_cases hjb : b = j
    · subst hjb
      rw [List.getElem?_set_self (by omega)]
      simp
    · rw [List.getElem?_set_ne hjb, ← List.getD_eq_getElem?_getD, hm j hj]
      have : ∀ x : Int, x ∈ (worst P K).take r ++ (some (b : Int)).toList ↔ x ∈ (worst P K).take r ∨ x = b := by
        intro x; simp
      simp only [this]
      have hne : ¬ ((j : Int) = (b : Int)) := by omega
      simp [hne]
theorem marks_go {P K : List Int} : ∀ (m r : Nat) (out : List Bool), MarksOf P K out r → MarksOf P K (outGo P K m out) (r + m) := by
  intro m
  induction m with
  | zero => intro r out h; exact h
  | succ m ih =>
    intro r out h
    have := ih (r + 1) _ (marks_step h)
    rw [show r + 1 + m = r + (m + 1) by omega] at this
    exact this
theorem marks_all (P K : List Int) (left : Nat) : MarksOf P K (outF P K left) left := by
  have := marks_go (P := P) (K := K) left 0 (List.replicate P.length false) ⟨by simp, fun j hj => by simp [List.getD_eq_getElem?_getD, hj]⟩
  rw [Nat.zero_add] at this
  exact this
/-- The points that are counted, by marks. -/
def cntM : Nat → List Int → List Bool → List Int
  | k, p :: P, b :: out => (if b = true then [] else [p]) ++ cntM (k + 1) P out
  | _, _, _ => []
theorem cntM_nil (k : Nat) (out : List Bool) : cntM k [] out = [] := by cases out <;> rfl
theorem cntM_eq (P : List Int) (out : List Bool) (gone : List Int) (hl : out.length = P.length) (h : ∀ j : Nat, j < P.length → out.getD j false = decide ((j : Int) ∈ gone)) : cntM 0 P out = cntP P gone := by
  have key : ∀ (m k : Nat), k + m = P.length → cntM k (P.drop k) (out.drop k) = (((List.range' k m).map fun (i : Nat) => (i : Int)).filter fun k => !decide (k ∈ gone)).map (atI P) := by
    intro m
    induction m with
    | zero =>
      intro k hk
      rw [List.drop_eq_nil_of_le (by omega : P.length ≤ k), cntM_nil]
      rfl
    | succ m ih =>
      intro k hk
      have hkP : k < P.length := by omega
      have hkO : k < out.length := by omega
      rw [List.drop_eq_getElem_cons hkP, List.drop_eq_getElem_cons hkO, cntM, ih (k + 1) (by omega), List.range'_succ, List.map_cons, List.filter_cons]
      have hj := h k hkP
      rw [List.getD_eq_getElem?_getD, List.getElem?_eq_getElem hkO] at hj
      have hj2 : out[k] = decide ((k : Int) ∈ gone) := hj
      rw [hj2]
      have ha : atI P (k : Int) = P[k] := by
        unfold atI
        rw [Int.toNat_natCast, List.getD_eq_getElem?_getD, List.getElem?_eq_getElem hkP]
        rfl
      by_cases hg : (k : Int) ∈ gone
      · simp [hg]
      · simp [hg, ha]
  have := key P.length 0 (by omega)
  rw [List.drop_zero, List.drop_zero] at this
  rw [this]
  unfold cntP idx
  rw [List.range_eq_range']
end Go.Proofs.YtalgdeieejpelaaGreat

/- Walks: a number within bounds. -/
namespace Go.Proofs.YtalgdeieejpelaaGreat
open Go.RowKit
set_option linter.unusedVariables false

theorem within_any (n a b : Int) (w : World) :
    Calls Tryz.prog 53 #[.int .i64 n, .int .i64 a, .int .i64 b] w fun e w' => e = .returned (.bool (withinB n a b)) ∧ w = w' := by
  have e1 : withinB n a b = (decide (a ≤ n) && decide (n ≤ b)) := rfl
  have E := Lib.hid e1; clear e1
  by_cases h : a ≤ n
  · go_enter Tryz.func53, Tryz.ntmps53
    go_wp2
    go_ret
    exact ⟨by rw [E.out]; simp [h], rfl⟩
  · go_enter Tryz.func53, Tryz.ntmps53
    go_wp2
    go_ret
    exact ⟨by rw [E.out]; simp; omega, rfl⟩

theorem l01In_any (n a b : Int) (w : World) :
    Calls Tryz.prog 64 #[.int .i64 n, .int .i64 a, .int .i64 b] w fun e w' => e = .returned (.bool (withinB n a b)) ∧ w = w' := by
  have e1 : withinB n a b = (decide (a ≤ n) && decide (n ≤ b)) := rfl
  have E := Lib.hid e1; clear e1
  by_cases h : a ≤ n
  · go_enter Tryz.func64, Tryz.ntmps64
    go_wp2
    go_ret
    exact ⟨by rw [E.out]; simp [h], rfl⟩
  · go_enter Tryz.func64, Tryz.ntmps64
    go_wp2
    go_ret
    exact ⟨by rw [E.out]; simp; omega, rfl⟩

end Go.Proofs.YtalgdeieejpelaaGreat

/- Walks: a row of numbers. -/
namespace Go.Proofs.YtalgdeieejpelaaGreat
open Go.RowKit
set_option linter.unusedVariables false

theorem areRow_any (A : Option Addr) (n c : Nat) (xs : List Int) (many most : Int) (w : World) (h : Rd w 1 A n (ints xs)) :
    Calls Tryz.prog 129 #[.slice A n c, .int .i64 many, .int .i64 most] w fun e w' => e = .returned (.bool (rowB xs many most)) ∧ w = w' := by
  have HN := Lib.hid h.len_int
  have hm := h.le
  go_enter Tryz.func129, Tryz.ntmps129
  go_wp2
  go_loop [8, 11] (fun _ i => ∃ k : Nat, k ≤ n ∧ i = .int .i64 k ∧ (xs.drop k).all (fun x => withinB x 0 most) = xs.all (fun x => withinB x 0 most)) (fun _ i => n - (intOf i).toNat)
  case atStart => exact ⟨0, Nat.zero_le _, rfl, rfl⟩
  case round =>
    obtain ⟨k, hk, rfl, hall⟩ := hrel
    have HA := Lib.hid hall; clear hall
    by_cases hlt : k < n
    · obtain ⟨b, o, x, rfl, hx, hd, hc⟩ := h.int hlt
      have HX := Lib.hid hx; clear hx
      have HD := Lib.hid hd; clear hd
      go_wp2_with (go_at_call 53; refine (within_any _ _ _ _).mono ?_; rintro e w' ⟨rfl, rfl⟩)
      · have hw : (!withinB x 0 most) = true := by assumption
        go_ret
        exact ⟨ret_bool (by unfold rowB; rw [← HA.out, HD.out]; simp at hw; simp [hw]), rfl⟩
      · have hw : (!withinB x 0 most) = false := by assumption
        go_round
        case rel => exact ⟨k + 1, by omega, by go_num, by rw [← HA.out, HD.out]; simp at hw; simp [hw]⟩
        case measure => simp [intOf]; omega
    · obtain rfl : k = n := by omega
      go_wp2
      go_ret
      exact ⟨ret_bool (by unfold rowB; rw [← HA.out, List.drop_eq_nil_of_le (by rw [HN.out]; omega), HN.out]; simp), rfl⟩


end Go.Proofs.YtalgdeieejpelaaGreat

/- Walks: a permutation. -/
namespace Go.Proofs.YtalgdeieejpelaaGreat
open Go.RowKit
set_option linter.unusedVariables false

theorem Tryz.info_bool : (Tryz.prog.info? 4).map (fun i => (i.zero, i.size, i.bytes)) = some (some (.bool false), 1, 1) := by kernel_rfl
theorem run_make_bool (n : Nat) (h : n ≤ 1048576) (w : World) :
    (Instr.makeSlice 164 (.int .i64 (n : Int)) (.int .i64 (n : Int))).run Tryz.prog w = .ok (.slice (some ⟨w.heap.size, 0, none⟩) n n) (w.alloc (.cells (madeCells #[.bool false] n) 4)) := by
  obtain ⟨i, hi, hz, hs, hb⟩ := info_parts Tryz.info_bool
  have hr := run_make (P := Tryz.prog) w 164 4 i (.bool false) Tryz.underlying164 hi hz .i64 .i64 n n (by omega) (by omega) (by rw [hb]; omega) (by omega)
  rw [hs, Nat.mul_one, Int.toNat_natCast] at hr
  exact hr

end Go.Proofs.YtalgdeieejpelaaGreat

/- Appends: rows to rows, numbers to numbers, at a step of a drawn region and in a plain one; slices.Clone. -/
namespace Go.Proofs.YtalgdeieejpelaaGreat
open Go.RowKit
set_option linter.unusedVariables false
set_option maxRecDepth 100000

theorem one_news {w : World} {ad : Addr} {v : Value} (hc : w.cell? ad = some v) : ∀ (j : Nat) (u : Value), [v][j]? = some u → w.cell? (ad.add j) = some u := by
  intro j u hu
  have hj : j = 0 := by
    rcases j with _ | j
    · rfl
    · simp at hu
  subst hj
  have hadd : ad.add 0 = ad := by simp [Addr.add]
  rw [hadd, hc]
  simpa using hu
theorem ints_one (k : IntKind) (ys : List Int) : ∀ u ∈ ints ys, u.oneCell' = true := by
  intro u hu
  unfold ints at hu
  obtain ⟨y, _, rfl⟩ := List.mem_map.1 hu
  rfl
theorem ints_news {w : World} {b o m : Nat} {ys : List Int} (h : Rd w 1 (some ⟨b, o, none⟩) m (ints ys)) : ∀ (j : Nat) (u : Value), (ints ys)[j]? = some u → w.cell? ((⟨b, o, none⟩ : Addr).add j) = some u := by
  intro j u hu
  have hl := h.len
  have hj := (List.getElem?_eq_some_iff.1 hu).1
  obtain ⟨b', o', e, hc⟩ := h.pos (by omega)
  injection e with e
  injection e with e1 e2
  subst e1 e2
  have hadd : (⟨b, o, none⟩ : Addr).add j = ⟨b, o + j, none⟩ := by unfold Addr.add; split <;> simp_all
  rw [hadd]
  exact hc j u hu
/-- Numbers are appended to a slice without room: the result lies in a new block, nothing else changes. -/
theorem run_fresh (w : World) (ty : TypeId) (e0 : Addr) {b f m d : Nat} {ys : List Int} (hr : Rd w 1 (some ⟨b, f, none⟩) m (ints ys)) (hm : 0 < m) (hn : m ≤ 1099511627776) :
    ∃ cap w', (Builtin.append_ #[25, 25] ty #[.slice (some e0) 0 0, .slice (some ⟨b, f, none⟩) m d]).run Tryz.prog w = .ok (.slice (some ⟨w.heap.size, 0, none⟩) m cap) w' ∧
      w'.ownsRow w.heap.size 2 1 (.slice (some ⟨w.heap.size, 0, none⟩) m cap) m (ints ys) ∧ Below w.heap.size w w' ∧ w.heap.size < w'.heap.size := by
  obtain ⟨i, hi, hz, hs1, hb1⟩ := info_parts Tryz.info_i64
  have hl := hr.len
  have hl1 : (ints ys).length = m * i.size := by rw [hs1, hl]
  have hx := run_append_grow (P := Tryz.prog) w 25 ty 2 i (.int .i64 0) Tryz.underlying25 hi hz e0 0 0 [] (by simp) (fun j v h => by simp at h) ⟨b, f, none⟩ m d (ints ys) hl1 (ints_news hr) (by omega) (by omega) (growslice_fits (by omega) (by rw [hb1]; omega))
  rw [Nat.zero_add] at hx
  refine ⟨_, _, hx, ⟨hl, .inr ⟨w.heap.size, _, _, rfl, Nat.le_refl _, heap_alloc_new _ _, grownCap_ge _ _ _ _, grownCap_le_maxLen _ _ _ _ (by unfold maxLen; omega), ?_, ?_⟩⟩, (below_drewN' _ w 1).alloc (Nat.le_refl _) _, by simp⟩
  · have hg := grownCap_ge w m 0 2
    simp [Builtin.zeroCells, Value.cells, hl]
    omega
  · have hl' : (ints ys).length = m := by rw [hl, Nat.mul_one]
    rw [Nat.mul_one, Array.toList_append, Array.toList_append, List.append_assoc]
    have e : ([] : List Value).toArray.toList = [] := rfl
    rw [e, List.nil_append, List.take_append_of_le_length (by rw [List.toList_toArray, hl']; exact Nat.le_refl _), List.toList_toArray, List.take_of_length_le (by rw [hl']; exact Nat.le_refl _)]
section
variable {ops : Array Oper} {rest : List Oper} {o : Oper} {a : Act} {K : Act → World → Prop} {Q : Exit → Act → World → Prop} {E : Prop}
/-- One row is appended, at a step of a drawn region. -/
theorem step_row (w : World) (hgd : o.guard = none) (s x : Operand)
    (ho : o.op = .call { callee := .builtin .append, args := #[s, x], argTypes := #[51, 51] }) {base n c : Nat} {A : Option Addr} {vs : List Value}
    (hs : a.eval s = .slice A n c) (hown : w.ownsRow base 25 1 (.slice A n c) n vs) {ad : Addr} {B : Option Addr} {m d : Nat} (hx : a.eval x = .slice (some ad) 1 1)
    (hc : w.cell? ad = some (.slice B m d)) (hn : n ≤ 1099511627776) (hbase : base ≤ w.heap.size)
    (h : ∀ g c' w', w'.ownsRow base 25 1 (.slice (some ⟨g, 0, none⟩) (n + 1) c') (n + 1) (vs ++ [.slice B m d]) → w.grownBy w' (Value.slice A n c).ownBlock → ((Value.slice A n c).ownBlock = some g ∨ g = w.heap.size) → g < w'.heap.size → K (a.put o.dst (.slice (some ⟨g, 0, none⟩) (n + 1) c')) w') :
    if Region.wanted o (yielded ops a.tmps) = true then Oper.wp Tryz.prog o a w K Q else E := by
  obtain ⟨i, hi, hz, hs1, hb1⟩ := info_parts Tryz.info_ints
  exact step_append_lies w hgd s x 51 ho base 25 i (.slice none 0 0) 1 24 Tryz.underlying51 hi hz hs1 hb1 rfl (by decide) (.slice A n c) n vs hs hown ad 1 1 [.slice B m d] hx rfl (one_news hc)
    (by intro u hu; simp at hu; subst hu; rfl) (by decide) (by unfold maxLen; omega) (by omega) hbase _ rfl h
/-- Numbers are appended, at a step of a drawn region; the source is not empty. -/
theorem step_ints (w : World) (hgd : o.guard = none) (s x : Operand)
    (ho : o.op = .call { callee := .builtin .append, args := #[s, x], argTypes := #[25, 25] }) {base n c : Nat} {A : Option Addr} {xs : List Int}
    (hs : a.eval s = .slice A n c) (hown : w.ownsRow base 2 1 (.slice A n c) n (ints xs)) {b f m d : Nat} {ys : List Int} (hx : a.eval x = .slice (some ⟨b, f, none⟩) m d)
    (hr : Rd w 1 (some ⟨b, f, none⟩) m (ints ys)) (hm : 0 < m) (hn : n + m ≤ 1099511627776) (hbase : base ≤ w.heap.size) (N' : Nat) (hN' : n + m = N')
    (h : ∀ g c' w', w'.ownsRow base 2 1 (.slice (some ⟨g, 0, none⟩) N' c') N' (ints (xs ++ ys)) → w.grownBy w' (Value.slice A n c).ownBlock → ((Value.slice A n c).ownBlock = some g ∨ g = w.heap.size) → g < w'.heap.size → K (a.put o.dst (.slice (some ⟨g, 0, none⟩) N' c')) w') :
    if Region.wanted o (yielded ops a.tmps) = true then Oper.wp Tryz.prog o a w K Q else E := by
  subst hN'
  obtain ⟨i, hi, hz, hs1, hb1⟩ := info_parts Tryz.info_i64
  exact step_append_lies w hgd s x 25 ho base 2 i (.int .i64 0) 1 8 Tryz.underlying25 hi hz hs1 hb1 rfl (by decide) (.slice A n c) n (ints xs) hs hown ⟨b, f, none⟩ m d (ints ys) hx (by have := hr.len; omega) (ints_news hr)
    (ints_one .i64 ys) hm (by unfold maxLen; omega) (by omega) hbase _ rfl (by rw [← ints_append]; exact h)
/-- Numbers are appended, in a plain region. -/
theorem app_ints (w : World) (hgd : o.guard = none) (s x : Operand)
    (ho : o.op = .call { callee := .builtin .append, args := #[s, x], argTypes := #[25, 25] }) {base n c : Nat} {A : Option Addr} {xs : List Int}
    (hs : a.eval s = .slice A n c) (hown : w.ownsRow base 2 1 (.slice A n c) n (ints xs)) {b f m d : Nat} {ys : List Int} (hx : a.eval x = .slice (some ⟨b, f, none⟩) m d)
    (hr : Rd w 1 (some ⟨b, f, none⟩) m (ints ys)) (hm : 0 < m) (hn : n + m ≤ 1099511627776) (hbase : base ≤ w.heap.size) (N' : Nat) (hN' : n + m = N')
    (h : ∀ g c' w', w'.ownsRow base 2 1 (.slice (some ⟨g, 0, none⟩) N' c') N' (ints (xs ++ ys)) → w.grownBy w' (Value.slice A n c).ownBlock → ((Value.slice A n c).ownBlock = some g ∨ g = w.heap.size) → g < w'.heap.size → wpList Tryz.prog ops Q rest (a.put o.dst (.slice (some ⟨g, 0, none⟩) N' c')) w') :
    wpList Tryz.prog ops Q (o :: rest) a w := by
  subst hN'
  obtain ⟨i, hi, hz, hs1, hb1⟩ := info_parts Tryz.info_i64
  exact wpList_append_lies w hgd s x 25 ho base 2 i (.int .i64 0) 1 8 Tryz.underlying25 hi hz hs1 hb1 rfl (by decide) (.slice A n c) n (ints xs) hs hown ⟨b, f, none⟩ m d (ints ys) hx (by have := hr.len; omega) (ints_news hr)
    (ints_one .i64 ys) hm (by unfold maxLen; omega) (by omega) hbase _ rfl (by rw [← ints_append]; exact h)
/-- Numbers are appended to a slice without room, at a step of a drawn region. -/
theorem step_fresh (w : World) (hgd : o.guard = none) (s x : Operand)
    (ho : o.op = .call { callee := .builtin .append, args := #[s, x], argTypes := #[25, 25] }) {e0 : Addr}
    (hs : a.eval s = .slice (some e0) 0 0) {b f m d : Nat} {ys : List Int} (hx : a.eval x = .slice (some ⟨b, f, none⟩) m d)
    (hr : Rd w 1 (some ⟨b, f, none⟩) m (ints ys)) (hm : 0 < m) (hn : m ≤ 1099511627776)
    (h : ∀ c' w', w'.ownsRow w.heap.size 2 1 (.slice (some ⟨w.heap.size, 0, none⟩) m c') m (ints ys) → Below w.heap.size w w' → w.heap.size < w'.heap.size → K (a.put o.dst (.slice (some ⟨w.heap.size, 0, none⟩) m c')) w') :
    if Region.wanted o (yielded ops a.tmps) = true then Oper.wp Tryz.prog o a w K Q else E := by
  have hw : Region.wanted o (yielded ops a.tmps) = true := by simp [Region.wanted, hgd]
  rw [if_pos hw]
  obtain ⟨cap, w', hrun, h1, h2, h3⟩ := run_fresh w o.type e0 (d := d) hr hm hn
  unfold Oper.wp execOp
  simp only [ho, resolve, invoke, builtin, Sem.run_bind, Sem.run_pure, Result.andThen_ok, List.map_toArray, List.map_cons, List.map_nil, hs, hx, hrun]
  exact h cap w' h1 h2 h3
/-- One row is appended, in a plain region. -/
theorem app_rows (w : World) (hgd : o.guard = none) (s x : Operand)
    (ho : o.op = .call { callee := .builtin .append, args := #[s, x], argTypes := #[51, 51] }) {base n c : Nat} {A : Option Addr} {vs : List Value}
    (hs : a.eval s = .slice A n c) (hown : w.ownsRow base 25 1 (.slice A n c) n vs) {ad : Addr} {B : Option Addr} {m d : Nat} (hx : a.eval x = .slice (some ad) 1 1)
    (hc : w.cell? ad = some (.slice B m d)) (hn : n ≤ 1099511627776) (hbase : base ≤ w.heap.size)
    (h : ∀ g c' w', w'.ownsRow base 25 1 (.slice (some ⟨g, 0, none⟩) (n + 1) c') (n + 1) (vs ++ [.slice B m d]) → w.grownBy w' (Value.slice A n c).ownBlock → ((Value.slice A n c).ownBlock = some g ∨ g = w.heap.size) → g < w'.heap.size → wpList Tryz.prog ops Q rest (a.put o.dst (.slice (some ⟨g, 0, none⟩) (n + 1) c')) w') :
    wpList Tryz.prog ops Q (o :: rest) a w := by
  obtain ⟨i, hi, hz, hs1, hb1⟩ := info_parts Tryz.info_ints
  exact wpList_append_lies w hgd s x 51 ho base 25 i (.slice none 0 0) 1 24 Tryz.underlying51 hi hz hs1 hb1 rfl (by decide) (.slice A n c) n vs hs hown ad 1 1 [.slice B m d] hx rfl (one_news hc)
    (by intro u hu; simp at hu; subst hu; rfl) (by decide) (by unfold maxLen; omega) (by omega) hbase _ rfl h
end
/-- A new copy of numbers that are not none. -/
def RetNew (w : World) (xs : List Int) (e : Ending) (w' : World) : Prop :=
  ∃ g c, e = .returned (.slice (some ⟨g, 0, none⟩) xs.length c) ∧ w'.ownsRow w.heap.size 2 1 (.slice (some ⟨g, 0, none⟩) xs.length c) xs.length (ints xs) ∧ w.heap.size ≤ g ∧ Below w.heap.size w w'
theorem clone_any (b f c : Nat) (xs : List Int) (w : World) (h : Rd w 1 (some ⟨b, f, none⟩) xs.length (ints xs)) (h0 : 0 < xs.length) (h1 : xs.length ≤ 1048576) :
    Calls Tryz.prog 128 #[.slice (some ⟨b, f, none⟩) xs.length c] w (RetNew w xs) := by
  have HO := Lib.hid (own_empty w w.heap.size 2 (Nat.le_refl _))
  have HR := Lib.hid (h.below ((Below.refl _ _).alloc (Nat.le_refl _) (.cells #[] 2)))
  have hnil : ∀ W, (binOp .eql 25 (.slice (some ⟨b, f, none⟩) xs.length c) (.slice none 0 0)).run Tryz.prog W = .ok (.bool false) W := fun W => Lib.run_eql_slice_some_nil W _ _ _ Tryz.underlying25
  clear h
  go_enter Tryz.func128, Tryz.ntmps128
  go_wp2_with (at_builtin; refine app_ints _ rfl _ _ rfl (xs := []) rfl HO.out rfl HR.out h0 (by omega) (by simp) xs.length (by omega) ?_; intro g1 c1 w1 ho1 hg1 hw1 hl1)
  have HO1 := Lib.hid ho1; have HG1 := Lib.hid hg1; have HW1 := Lib.hid hw1
  clear ho1 hg1 hw1
  go_wp2_with fail
  go_ret
  refine ⟨g1, c1, rfl, by simpa using HO1.out, (HO1.out.lt g1 rfl).1, ?_⟩
  exact ((Below.refl _ _).alloc (Nat.le_refl _) _).grown HG1.out (by simp) (fun k hk => by simp [Value.ownBlock] at hk; omega)
end Go.Proofs.YtalgdeieejpelaaGreat

/- General lemmas of this work: reading slices, own rows, results. No Go function in sight. -/
import Derived.Test.YtalgdeieejpelaaRows
import Derived.WalkKit
import Derived.WalkSpells
import Derived.WalkLawsBesides
import Derived.Lib.Hide
import Derived.Deep.QuietTactic
import Derived.BigQuiet
import Derived.Deep.LoopGhost
import Derived.Deep.DeepCutAuto
namespace Go.Proofs.Ytalgdeieejpelaa
open Go.RowKit
set_option linter.unusedVariables false

/-! ### Reading memory -/
/-- Cells of w stay in w'. -/
def Keeps (w w' : World) : Prop := ∀ a v, w.cell? a = some v → w'.cell? a = some v
theorem Keeps.refl (w : World) : Keeps w w := fun _ _ h => h
theorem Keeps.trans {a b c : World} (h : Keeps a b) (k : Keeps b c) : Keeps a c := fun _ _ e => k _ _ (h _ _ e)
theorem cell_lt {w : World} {a : Addr} {v : Value} (h : w.cell? a = some v) : a.block < w.heap.size := World.block_lt_of_cell? w a h
theorem Keeps.below {w w' : World} (h : Below w.heap.size w w') : Keeps w w' := fun a _ e => (h.cell (p := a) (cell_lt e)).trans e

/-- A slice that reads as the cells xs, s cells an element. -/
structure Rd (w : World) (s : Nat) (A : Option Addr) (n : Nat) (xs : List Value) : Prop where
  len : xs.length = n * s
  le : n ≤ 9223372036854775807
  pos : 0 < n → ∃ b o, A = some ⟨b, o, none⟩ ∧ ∀ i u, xs[i]? = some u → w.cell? ⟨b, o + i, none⟩ = some u

theorem Rd.keep {w w' : World} {s n : Nat} {A : Option Addr} {xs : List Value} (h : Rd w s A n xs) (k : Keeps w w') : Rd w' s A n xs :=
  ⟨h.len, h.le, fun hn => by
    obtain ⟨b, o, e, hc⟩ := h.pos hn
    exact ⟨b, o, e, fun i u hu => k _ _ (hc i u hu)⟩⟩
theorem Rd.below {w w' : World} {s n : Nat} {A : Option Addr} {xs : List Value} (h : Rd w s A n xs) (k : Below w.heap.size w w') : Rd w' s A n xs := h.keep (Keeps.below k)

theorem Rd.drewN {w : World} {s n : Nat} {A : Option Addr} {xs : List Value} (h : Rd w s A n xs) (q : Nat) : Rd (w.drewN q) s A n xs := ⟨h.len, h.le, h.pos⟩
theorem below_drewN {B : Nat} {a w : World} (h : Below B a w) (n : Nat) : Below B a (w.drewN n) := ⟨h.os, h.tape, h.output, h.size, h.block⟩
theorem below_drewN' (B : Nat) (w : World) (n : Nat) : Below B w (w.drewN n) := below_drewN (Below.refl _ _) n
theorem own_drewN {w : World} {base e s n : Nat} {v : Value} {xs : List Value} (h : w.ownsRow base e s v n xs) (q : Nat) : (w.drewN q).ownsRow base e s v n xs := h

/-- w' is w behind some draws. -/
def Drawn (w w' : World) : Prop := ∃ q, w' = w.drewN q
theorem Drawn.refl (w : World) : Drawn w w := ⟨0, rfl⟩
theorem Drawn.step {w w' : World} (h : Drawn w w') (n : Nat) : Drawn w (w'.drewN n) := by obtain ⟨q, rfl⟩ := h; exact ⟨_, World.drewN_drewN _ _ _⟩
theorem Drawn.out {w w' : World} (h : Drawn w w') : ∃ q, w' = w.drewN q := h
theorem Drawn.below {w w' : World} (h : Drawn w w') : Below w.heap.size w w' := by obtain ⟨q, rfl⟩ := h; exact below_drewN' _ _ _
theorem Drawn.size {w w' : World} (h : Drawn w w') : w'.heap.size = w.heap.size := by obtain ⟨q, rfl⟩ := h; rfl
theorem Drawn.own {w w' : World} {base e s n : Nat} {v : Value} {xs : List Value} (h : Drawn w w') (ho : w.ownsRow base e s v n xs) : w'.ownsRow base e s v n xs := by obtain ⟨q, rfl⟩ := h; exact ho
theorem Rd.drawn {w w' : World} {s n : Nat} {A : Option Addr} {xs : List Value} (h : Rd w s A n xs) (k : Drawn w w') : Rd w' s A n xs := h.below k.below

def ints (xs : List Int) : List Value := xs.map (Value.int .i64)
theorem ints_length (xs : List Int) : (ints xs).length = xs.length := by simp [ints]
theorem ints_get {xs : List Int} {k : Nat} {x : Int} (h : xs[k]? = some x) : (ints xs)[k]? = some (.int .i64 x) := by simp [ints, h]
theorem ints_append (xs ys : List Int) : ints (xs ++ ys) = ints xs ++ ints ys := by simp [ints]
theorem ints_set (xs : List Int) (k : Nat) (x : Int) : ints (xs.set k x) = (ints xs).set k (.int .i64 x) := by simp [ints, List.map_set]
theorem ints_inj {xs ys : List Int} (h : ints xs = ints ys) : xs = ys := by
  induction xs generalizing ys with
  | nil => cases ys with
    | nil => rfl
    | cons y r => simp [ints] at h
  | cons x r ih => cases ys with
    | nil => simp [ints] at h
    | cons y q =>
      simp only [ints, List.map_cons, List.cons.injEq, Value.int.injEq, true_and] at h
      rw [h.1, ih h.2]

theorem drop_cons {α : Type} {xs : List α} {k : Nat} (hk : k < xs.length) : ∃ x, xs[k]? = some x ∧ xs.drop k = x :: xs.drop (k + 1) :=
  ⟨xs[k], List.getElem?_eq_getElem hk, List.drop_eq_getElem_cons hk⟩

theorem take_snoc_get {α : Type} {xs : List α} {k : Nat} {x : α} (h : xs[k]? = some x) : xs.take (k + 1) = xs.take k ++ [x] := by
  obtain ⟨hk, he⟩ := List.getElem?_eq_some_iff.1 h
  rw [List.take_succ_eq_append_getElem hk, he]

theorem Rd.int {w : World} {A : Option Addr} {n k : Nat} {xs : List Int} (h : Rd w 1 A n (ints xs)) (hk : k < n) :
    ∃ b o x, A = some ⟨b, o, none⟩ ∧ xs[k]? = some x ∧ xs.drop k = x :: xs.drop (k + 1) ∧ w.cell? ⟨b, o + k, none⟩ = some (.int .i64 x) := by
  obtain ⟨b, o, e, hc⟩ := h.pos (by omega)
  have hl := h.len
  rw [ints_length, Nat.mul_one] at hl
  obtain ⟨x, h1, h2⟩ := drop_cons (xs := xs) (k := k) (by omega)
  exact ⟨b, o, x, e, h1, h2, hc k _ (ints_get h1)⟩
theorem Rd.len_int {w : World} {A : Option Addr} {n : Nat} {xs : List Int} (h : Rd w 1 A n (ints xs)) : xs.length = n := by
  have hl := h.len
  rwa [ints_length, Nat.mul_one] at hl

/-! ### Own rows -/
theorem own_rd {w : World} {base e s n c : Nat} {A : Option Addr} {xs : List Value} (h : w.ownsRow base e s (.slice A n c) n xs) : Rd w s A n xs := by
  rcases h.2 with ⟨hv, hn⟩ | ⟨g, cap, cur, hv, hb, hg, hnc, hcm, hcs, htake⟩
  · exact ⟨h.1, by omega, fun h0 => by omega⟩
  · injection hv with hA _ hc
    subst hA hc
    refine ⟨h.1, by simp only [maxLen] at hcm; omega, fun _ => ⟨g, 0, rfl, fun i u hu => ?_⟩⟩
    have := h.cells (g := g) rfl i u hu
    have hadd : (⟨g, 0, none⟩ : Addr).add i = ⟨g, 0 + i, none⟩ := by unfold Addr.add; split <;> simp_all
    rwa [hadd] at this

/-- What an own row gives at an index. -/
theorem own_at {w : World} {base e n c k : Nat} {A : Option Addr} {xs : List Value} (h : w.ownsRow base e 1 (.slice A n c) n xs) (hk : k < n) :
    ∃ g u, A = some ⟨g, 0, none⟩ ∧ base ≤ g ∧ g < w.heap.size ∧ xs[k]? = some u ∧ w.cell? ⟨g, k, none⟩ = some u ∧ w.frozen? ⟨g, k, none⟩ = false := by
  rcases h.2 with ⟨hv, hn⟩ | ⟨g, cap, cur, hv, hb, hg, hnc, hcm, hcs, htake⟩
  · omega
  · have hv' := hv
    injection hv with hA _ hc
    subst hA hc
    have hl := h.1
    have hx : xs[k]? = some (xs[k]'(by omega)) := List.getElem?_eq_getElem _
    exact ⟨g, _, rfl, hb, (Array.getElem?_eq_some_iff.1 hg).1, hx, (h.cellAt k (by omega)).trans hx, h.frozenAt k⟩
theorem own_int_at {w : World} {base e n c k : Nat} {A : Option Addr} {xs : List Int} (h : w.ownsRow base e 1 (.slice A n c) n (ints xs)) (hk : k < n) :
    ∃ g x, A = some ⟨g, 0, none⟩ ∧ base ≤ g ∧ g < w.heap.size ∧ xs[k]? = some x ∧ w.cell? ⟨g, k, none⟩ = some (.int .i64 x) ∧ w.frozen? ⟨g, k, none⟩ = false := by
  obtain ⟨g, u, h1, h2, h3, h4, h5, h6⟩ := own_at h hk
  have hl := h.1
  rw [ints_length, Nat.mul_one] at hl
  have hx : xs[k]? = some (xs[k]'(by omega)) := List.getElem?_eq_getElem _
  rw [ints_get hx] at h4
  injection h4 with h4
  subst h4
  exact ⟨g, _, h1, h2, h3, hx, h5, h6⟩
theorem own_len {w : World} {base e n : Nat} {v : Value} {xs : List Int} (h : w.ownsRow base e 1 v n (ints xs)) : xs.length = n := by
  have hl := h.1
  rwa [ints_length, Nat.mul_one] at hl
theorem own_set {w : World} {base e g n c k : Nat} {xs : List Int} (h : w.ownsRow base e 1 (.slice (some ⟨g, 0, none⟩) n c) n (ints xs)) (x : Int) :
    (w.setCell ⟨g, k, none⟩ (.int .i64 x)).ownsRow base e 1 (.slice (some ⟨g, 0, none⟩) n c) n (ints (xs.set k x)) := by
  rw [ints_set]; exact (h.stored k _).1
theorem own_below {w w' : World} {base e s n : Nat} {v : Value} {xs : List Value} (h : w.ownsRow base e s v n xs) (k : Below w.heap.size w w') : w'.ownsRow base e s v n xs :=
  h.kept ⟨k.os, k.tape, k.output, k.size, fun i hi _ => k.block i hi⟩ (row := none) (by cases v.ownBlock <;> simp)
theorem own_base {w : World} {base base' e s n : Nat} {v : Value} {xs : List Value} (h : w.ownsRow base e s v n xs) (hb : base' ≤ base) : w.ownsRow base' e s v n xs := by
  refine ⟨h.1, ?_⟩
  rcases h.2 with h1 | ⟨g, cap, cur, a, b, r⟩
  · exact .inl h1
  · exact .inr ⟨g, cap, cur, a, by omega, r⟩
theorem own_made (w : World) (base e n : Nat) (z : Value) (hb : base ≤ w.heap.size) (hm : n ≤ 9223372036854775807) :
    (w.alloc (.cells (madeCells #[z] n) e)).ownsRow base e 1 (.slice (some ⟨w.heap.size, 0, none⟩) n n) n (List.replicate n z) := by
  have := World.ownsRow_lit (base := base) (e := e) (size := 1) w (madeCells #[z] n) n hb (by unfold maxLen; omega) (by simp [size_madeCells])
  rwa [toList_madeCells_one] at this
theorem own_empty (w : World) (base e : Nat) (hb : base ≤ w.heap.size) : (w.alloc (.cells #[] e)).ownsRow base e 1 (.slice (some ⟨w.heap.size, 0, none⟩) 0 0) 0 [] := by
  have := World.ownsRow_lit (base := base) (e := e) (size := 1) w #[] 0 hb (by unfold maxLen; omega) (by simp)
  simpa using this
theorem cell_new1 (w : World) (v : Value) (e : TypeId) : (w.alloc (.cells #[v] e)).cell? ⟨w.heap.size, 0, none⟩ = some v := by simp
theorem ints_replicate (n : Nat) (x : Int) : ints (List.replicate n x) = List.replicate n (.int .i64 x) := by simp [ints]

/-- One step of a copy. -/
theorem copy_stepG {α : Type} (d : α) (xs : List α) (n k : Nat) (x : α) (hl : xs.length = n) (hx : xs[k]? = some x) (hk : k < n) :
    (xs.take k ++ List.replicate (n - k) d).set k x = xs.take (k + 1) ++ List.replicate (n - (k + 1)) d := by
  subst hl
  have hx' : xs[k] = x := by rw [List.getElem?_eq_getElem hk] at hx; exact Option.some.inj hx
  rw [List.set_append, if_neg (by simp; omega), List.take_succ_eq_append_getElem hk, hx']
  have e : xs.length - k = (xs.length - (k + 1)) + 1 := by omega
  rw [e, List.replicate_succ]
  have e2 : k - (List.take k xs).length = 0 := by simp; omega
  rw [e2]
  simp
theorem copy_step (xs : List Int) (n k : Nat) (x : Int) (hl : xs.length = n) (hx : xs[k]? = some x) (hk : k < n) :
    (xs.take k ++ List.replicate (n - k) 0).set k x = xs.take (k + 1) ++ List.replicate (n - (k + 1)) 0 := copy_stepG 0 xs n k x hl hx hk

def bools (xs : List Bool) : List Value := xs.map Value.bool
theorem bools_length (xs : List Bool) : (bools xs).length = xs.length := by simp [bools]
theorem bools_replicate (n : Nat) (x : Bool) : bools (List.replicate n x) = List.replicate n (.bool x) := by simp [bools]
theorem own_bool_at {w : World} {base e n c k : Nat} {A : Option Addr} {xs : List Bool} (h : w.ownsRow base e 1 (.slice A n c) n (bools xs)) (hk : k < n) :
    ∃ g x, A = some ⟨g, 0, none⟩ ∧ base ≤ g ∧ g < w.heap.size ∧ xs[k]? = some x ∧ w.cell? ⟨g, k, none⟩ = some (.bool x) ∧ w.frozen? ⟨g, k, none⟩ = false := by
  obtain ⟨g, u, h1, h2, h3, h4, h5, h6⟩ := own_at h hk
  have hl := h.1
  rw [bools_length, Nat.mul_one] at hl
  have hx : xs[k]? = some (xs[k]'(by omega)) := List.getElem?_eq_getElem _
  have h4' : (bools xs)[k]? = some (.bool (xs[k]'(by omega))) := by simp [bools, hx]
  rw [h4'] at h4
  injection h4 with h4
  subst h4
  exact ⟨g, _, h1, h2, h3, hx, h5, h6⟩
theorem own_set_bool {w : World} {base e g n c k : Nat} {xs : List Bool} (h : w.ownsRow base e 1 (.slice (some ⟨g, 0, none⟩) n c) n (bools xs)) (x : Bool) :
    (w.setCell ⟨g, k, none⟩ (.bool x)).ownsRow base e 1 (.slice (some ⟨g, 0, none⟩) n c) n (bools (xs.set k x)) := by
  have e : bools (xs.set k x) = (bools xs).set k (.bool x) := by simp [bools, List.map_set]
  rw [e]; exact (h.stored k _).1

/-! ### A slice of integers that came in (the shells' IsRow) -/
def IsRow (k : IntKind) (w : World) (a : Option Addr) (len cap : Nat) (zs : List Int) : Prop :=
  (a = none ∧ len = 0 ∧ cap = 0 ∧ zs = []) ∨
  ∃ x, a = some x ∧ len ≤ cap ∧ cap ≤ maxLen ∧ zs.length = cap ∧ (∀ i, i < zs.length → w.cell? (x.add i) = some (.int k (zs.getD i 0))) ∧ ∀ n ∈ zs, (Lit.int k n).wf = true

theorem spot_none {w : World} {x : Addr} {v : Value} (h : w.cell? x = some v) : x.spot = none := by
  unfold World.cell? at h
  split at h
  · split at h
    · cases h
    · rename_i hs; simpa using hs
  · cases h
theorem IsRow.rd {w : World} {a : Option Addr} {len cap : Nat} {zs : List Int} (h : IsRow .i64 w a len cap zs) : Rd w 1 a len (ints (zs.take len)) := by
  rcases h with ⟨rfl, rfl, rfl, rfl⟩ | ⟨x, rfl, h1, h2, h3, h4, h5⟩
  · exact ⟨rfl, by omega, fun h => by omega⟩
  · unfold maxLen at h2
    refine ⟨by simp [ints]; omega, by omega, fun hn => ?_⟩
    have h0 := h4 0 (by omega)
    have hadd0 : x.add 0 = x := by simp [Addr.add]
    rw [hadd0] at h0
    obtain ⟨b, o, sp⟩ := x
    obtain rfl : sp = none := spot_none h0
    refine ⟨b, o, rfl, fun i u hu => ?_⟩
    have hlen : i < (ints (zs.take len)).length := by
      rcases Nat.lt_or_ge i (ints (zs.take len)).length with h | h
      · exact h
      · rw [List.getElem?_eq_none h] at hu; cases hu
    have hi : i < len := by simp [ints] at hlen; omega
    have hc := h4 i (by omega)
    have hadd : (⟨b, o, none⟩ : Addr).add i = ⟨b, o + i, none⟩ := by unfold Addr.add; split <;> simp_all
    rw [hadd] at hc
    rw [hc, ← hu]
    simp [ints, hi, List.getElem?_eq_getElem (show i < zs.length by omega)]

/-! ### Only one row is written -/
theorem grown_set {a w : World} {g : Nat} (h : a.grownBy w (some g)) (k : Nat) (u : Value) : a.grownBy (w.setCell ⟨g, k, none⟩ u) (some g) :=
  ⟨h.os, h.tape, h.output, by simpa [World.setCell] using h.size, fun i hi hne => (Below.heap_setCell w _ u i (by rintro rfl; exact hne rfl)).trans (h.block i hi hne)⟩
theorem size_set (w : World) (p : Addr) (u : Value) : (w.setCell p u).heap.size = w.heap.size := by simp [World.setCell]

/-- Blocks from lo to below hi may have been written; all others of w are as they were. -/
structure Chg (lo hi : Nat) (w w' : World) : Prop where
  os : w'.os = w.os
  tape : w'.tape = w.tape
  output : w'.output = w.output
  size : w.heap.size ≤ w'.heap.size
  block : ∀ k, k < w.heap.size → (k < lo ∨ hi ≤ k) → w'.heap[k]? = w.heap[k]?
theorem Chg.of_below {lo hi : Nat} {w w' : World} (h : Below w.heap.size w w') : Chg lo hi w w' := ⟨h.os, h.tape, h.output, h.size, fun k hk _ => h.block k hk⟩
theorem Chg.refl (lo hi : Nat) (w : World) : Chg lo hi w w := Chg.of_below (Below.refl _ _)
theorem Chg.trans {lo hi : Nat} {a b c : World} (h : Chg lo hi a b) (k : Chg lo hi b c) : Chg lo hi a c :=
  ⟨k.os.trans h.os, k.tape.trans h.tape, k.output.trans h.output, Nat.le_trans h.size k.size, fun i hi hn => (k.block i (Nat.lt_of_lt_of_le hi h.size) hn).trans (h.block i hi hn)⟩
theorem Chg.mono {lo hi lo' hi' : Nat} {a b : World} (h : Chg lo hi a b) (h1 : lo' ≤ lo) (h2 : hi ≤ hi') : Chg lo' hi' a b :=
  ⟨h.os, h.tape, h.output, h.size, fun i hi hn => h.block i hi (by omega)⟩
theorem Chg.of_grown {lo hi : Nat} {w w' : World} {row : Option Nat} (h : w.grownBy w' row) (hr : ∀ k, row = some k → lo ≤ k ∧ k < hi) : Chg lo hi w w' :=
  ⟨h.os, h.tape, h.output, h.size, fun k hk hn => h.block k hk (fun e => by have := hr k e.symm; omega)⟩
theorem below_chg {B lo hi : Nat} {a w w' : World} (h : Below B a w) (k : Chg lo hi w w') (h1 : B ≤ lo) (h2 : B ≤ w.heap.size) : Below B a w' :=
  ⟨k.os.trans h.os, k.tape.trans h.tape, k.output.trans h.output, Nat.le_trans h.size k.size, fun i hi => (k.block i (by omega) (by omega)).trans (h.block i hi)⟩
theorem own_chg {lo hi : Nat} {w w' : World} {base e s n : Nat} {v : Value} {xs : List Value} (h : w.ownsRow base e s v n xs) (k : Chg lo hi w w')
    (hv : ∀ b, v.ownBlock = some b → b < lo ∨ hi ≤ b) : w'.ownsRow base e s v n xs := by
  refine ⟨h.1, ?_⟩
  rcases h.2 with hn | ⟨g, cap, cur, rfl, hb, hgg, rest⟩
  · exact .inl hn
  · exact .inr ⟨g, cap, cur, rfl, hb, (k.block g (Array.getElem?_eq_some_iff.1 hgg).1 (hv g rfl)).trans hgg, rest⟩

/-! ### Four results -/
theorem results_tmp4 {fn : Func} {t u v x : Tmp} (h : fn.results = #[.tmp t, .tmp u, .tmp v, .tmp x]) (tmps : Array Value) (P : Program) (w : World) :
    (results fn tmps).run P w = .ok (.tuple #[tmps.getD t undef, tmps.getD u undef, tmps.getD v undef, tmps.getD x undef]) w := by simp [results, h]

/-! ### Spelling -/
theorem ret_int {k : IntKind} {a b : Int} (h : a = b) : Ending.returned (.int k a) = .returned (.int k b) := by rw [h]
theorem ret_bool {a b : Bool} (h : a = b) : Ending.returned (.bool a) = .returned (.bool b) := by rw [h]
theorem int_up (x : Int) (h : 0 ≤ x) : ∃ n : Nat, x = n := ⟨x.toNat, by omega⟩

def withinB (n a b : Int) : Bool := decide (a ≤ n) && decide (n ≤ b)
theorem withinB_iff {n a b : Int} : withinB n a b = true ↔ a ≤ n ∧ n ≤ b := by simp [withinB]
theorem withinB_not {n a b : Int} : withinB n a b = false ↔ ¬ (a ≤ n ∧ n ≤ b) := by rw [← withinB_iff]; simp
end Go.Proofs.Ytalgdeieejpelaa

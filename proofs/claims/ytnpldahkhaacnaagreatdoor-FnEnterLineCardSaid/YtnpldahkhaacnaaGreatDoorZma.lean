/- General and plain lemmas, and light walks (merged): Lib Mf Qa Qh Qi St Bx Qg Qj Wn Qb Qk Rt U8 Qr Wr. -/
import Derived.Test.YtnpldahkhaacnaaGreatDoorRows
import Derived.WalkKit
import Derived.WalkSpells
import Derived.WalkLawsBesides
import Derived.Lib.Hide
import Derived.Deep.QuietTactic
import Derived.BigQuiet
import Derived.Deep.LoopGhost
import Derived.Deep.DeepCutAuto
import Derived.Lib.ItoaMem
import Derived.Lib.Split
import Derived.Lib.SplitLaws
import Derived.Lib.IndexLaws
import Derived.Lib.ParseIntBTie
import Derived.Lib.ParseIntBCases
import Derived.Below
import Derived.ProofKit
import Derived.OpenShut
import Derived.ShutString
import Derived.ChangeOld
import Derived.Lib.SmallJoins
import Derived.Deep.Slices
import Derived.Deep.Fields
import Derived.Test.YtnpldahkhaacnaaGreatDoorShelf
import Derived.Deep.AppendLies
import Derived.IntWalk
import Derived.Lib.AppendIntMem
import Derived.Lib.LaidTab
import Derived.Lib.QuietBelow
import Derived.OrdersHeld
import Derived.StillTail
import Derived.RegionTactic
import Derived.Tactics
import Derived.Tactics2
import Derived.KernelRfl
/- General lemmas of this work: reading slices, own rows, results. No Go function in sight. -/
namespace Go.Proofs.YtnpldahkhaacnaaGreatDoor
open Go.RowKit
set_option linter.unusedVariables false

/-! ### Reading memory -/
/-- Cells of w stay in w'. -/
def Keeps (w w' : World) : Prop := ∀ a v, w.cell? a = some v → w'.cell? a = some v
theorem Keeps.refl (w : World) : Keeps w w := fun _ _ h => h
theorem Keeps.trans {a b c : World} (h : Keeps a b) (k : Keeps b c) : Keeps a c := fun _ _ e => k _ _ (h _ _ e)
theorem cell_lt {w : World} {a : Addr} {v : Value} (h : w.cell? a = some v) : a.block < w.heap.size := World.block_lt_of_cell? w a h
theorem Keeps.below {w w' : World} (h : Below w.heap.size w w') : Keeps w w' := fun a _ e => (h.cell (p := a) (cell_lt e)).trans e

/-- A slice that reads as the cells xs, s cells an element. -/
structure Rd (w : World) (s : Nat) (A : Option Addr) (n : Nat) (xs : List Value) : Prop where
  len : xs.length = n * s
  le : n ≤ 9223372036854775807
  pos : 0 < n → ∃ b o, A = some ⟨b, o, none⟩ ∧ ∀ i u, xs[i]? = some u → w.cell? ⟨b, o + i, none⟩ = some u

theorem Rd.keep {w w' : World} {s n : Nat} {A : Option Addr} {xs : List Value} (h : Rd w s A n xs) (k : Keeps w w') : Rd w' s A n xs :=
  ⟨h.len, h.le, fun hn => by
    obtain ⟨b, o, e, hc⟩ := h.pos hn
    exact ⟨b, o, e, fun i u hu => k _ _ (hc i u hu)⟩⟩
theorem Rd.below {w w' : World} {s n : Nat} {A : Option Addr} {xs : List Value} (h : Rd w s A n xs) (k : Below w.heap.size w w') : Rd w' s A n xs := h.keep (Keeps.below k)

theorem Rd.drewN {w : World} {s n : Nat} {A : Option Addr} {xs : List Value} (h : Rd w s A n xs) (q : Nat) : Rd (w.drewN q) s A n xs := ⟨h.len, h.le, h.pos⟩
theorem below_drewN {B : Nat} {a w : World} (h : Below B a w) (n : Nat) : Below B a (w.drewN n) := ⟨h.os, h.tape, h.output, h.size, h.block⟩
theorem below_drewN' (B : Nat) (w : World) (n : Nat) : Below B w (w.drewN n) := below_drewN (Below.refl _ _) n
theorem own_drewN {w : World} {base e s n : Nat} {v : Value} {xs : List Value} (h : w.ownsRow base e s v n xs) (q : Nat) : (w.drewN q).ownsRow base e s v n xs := h

/-- w' is w behind some draws. -/
def Drawn (w w' : World) : Prop := ∃ q, w' = w.drewN q
theorem Drawn.refl (w : World) : Drawn w w := ⟨0, rfl⟩
theorem Drawn.step {w w' : World} (h : Drawn w w') (n : Nat) : Drawn w (w'.drewN n) := by obtain ⟨q, rfl⟩ := h; exact ⟨_, World.drewN_drewN _ _ _⟩
theorem Drawn.out {w w' : World} (h : Drawn w w') : ∃ q, w' = w.drewN q := h
theorem Drawn.below {w w' : World} (h : Drawn w w') : Below w.heap.size w w' := by obtain ⟨q, rfl⟩ := h; exact below_drewN' _ _ _
theorem Drawn.size {w w' : World} (h : Drawn w w') : w'.heap.size = w.heap.size := by obtain ⟨q, rfl⟩ := h; rfl
theorem Drawn.own {w w' : World} {base e s n : Nat} {v : Value} {xs : List Value} (h : Drawn w w') (ho : w.ownsRow base e s v n xs) : w'.ownsRow base e s v n xs := by obtain ⟨q, rfl⟩ := h; exact ho
theorem Rd.drawn {w w' : World} {s n : Nat} {A : Option Addr} {xs : List Value} (h : Rd w s A n xs) (k : Drawn w w') : Rd w' s A n xs := h.below k.below

def ints (xs : List Int) : List Value := xs.map (Value.int .i64)
theorem ints_length (xs : List Int) : (ints xs).length = xs.length := by simp [ints]
theorem ints_get {xs : List Int} {k : Nat} {x : Int} (h : xs[k]? = some x) : (ints xs)[k]? = some (.int .i64 x) := by simp [ints, h]
theorem ints_append (xs ys : List Int) : ints (xs ++ ys) = ints xs ++ ints ys := by simp [ints]
theorem ints_set (xs : List Int) (k : Nat) (x : Int) : ints (xs.set k x) = (ints xs).set k (.int .i64 x) := by simp [ints, List.map_set]
theorem ints_inj {xs ys : List Int} (h : ints xs = ints ys) : xs = ys := by
  induction xs generalizing ys with
  | nil => cases ys with
    | nil => rfl
    | cons y r => simp [ints] at h
  | cons x r ih => cases ys with
    | nil => simp [ints] at h
    | cons y q =>
      simp only [ints, List.map_cons, List.cons.injEq, Value.int.injEq, true_and] at h
      rw [h.1, ih h.2]

theorem drop_cons {α : Type} {xs : List α} {k : Nat} (hk : k < xs.length) : ∃ x, xs[k]? = some x ∧ xs.drop k = x :: xs.drop (k + 1) :=
  ⟨xs[k], List.getElem?_eq_getElem hk, List.drop_eq_getElem_cons hk⟩

theorem take_snoc_get {α : Type} {xs : List α} {k : Nat} {x : α} (h : xs[k]? = some x) : xs.take (k + 1) = xs.take k ++ [x] := by
  obtain ⟨hk, he⟩ := List.getElem?_eq_some_iff.1 h
  rw [List.take_succ_eq_append_getElem hk, he]

theorem Rd.int {w : World} {A : Option Addr} {n k : Nat} {xs : List Int} (h : Rd w 1 A n (ints xs)) (hk : k < n) :
    ∃ b o x, A = some ⟨b, o, none⟩ ∧ xs[k]? = some x ∧ xs.drop k = x :: xs.drop (k + 1) ∧ w.cell? ⟨b, o + k, none⟩ = some (.int .i64 x) := by
  obtain ⟨b, o, e, hc⟩ := h.pos (by omega)
  have hl := h.len
  rw [ints_length, Nat.mul_one] at hl
  obtain ⟨x, h1, h2⟩ := drop_cons (xs := xs) (k := k) (by omega)
  exact ⟨b, o, x, e, h1, h2, hc k _ (ints_get h1)⟩
theorem Rd.len_int {w : World} {A : Option Addr} {n : Nat} {xs : List Int} (h : Rd w 1 A n (ints xs)) : xs.length = n := by
  have hl := h.len
  rwa [ints_length, Nat.mul_one] at hl

/-! ### Own rows -/
theorem own_rd {w : World} {base e s n c : Nat} {A : Option Addr} {xs : List Value} (h : w.ownsRow base e s (.slice A n c) n xs) : Rd w s A n xs := by
  rcases h.2 with ⟨hv, hn⟩ | ⟨g, cap, cur, hv, hb, hg, hnc, hcm, hcs, htake⟩
  · exact ⟨h.1, by omega, fun h0 => by omega⟩
  · injection hv with hA _ hc
    subst hA hc
    refine ⟨h.1, by simp only [maxLen] at hcm; omega, fun _ => ⟨g, 0, rfl, fun i u hu => ?_⟩⟩
    have := h.cells (g := g) rfl i u hu
    have hadd : (⟨g, 0, none⟩ : Addr).add i = ⟨g, 0 + i, none⟩ := by unfold Addr.add; split <;> simp_all
    rwa [hadd] at this

/-- What an own row gives at an index. -/
theorem own_at {w : World} {base e n c k : Nat} {A : Option Addr} {xs : List Value} (h : w.ownsRow base e 1 (.slice A n c) n xs) (hk : k < n) :
    ∃ g u, A = some ⟨g, 0, none⟩ ∧ base ≤ g ∧ g < w.heap.size ∧ xs[k]? = some u ∧ w.cell? ⟨g, k, none⟩ = some u ∧ w.frozen? ⟨g, k, none⟩ = false := by
  rcases h.2 with ⟨hv, hn⟩ | ⟨g, cap, cur, hv, hb, hg, hnc, hcm, hcs, htake⟩
  · omega
  · have hv' := hv
    injection hv with hA _ hc
    subst hA hc
    have hl := h.1
    have hx : xs[k]? = some (xs[k]'(by omega)) := List.getElem?_eq_getElem _
    exact ⟨g, _, rfl, hb, (Array.getElem?_eq_some_iff.1 hg).1, hx, (h.cellAt k (by omega)).trans hx, h.frozenAt k⟩
theorem own_int_at {w : World} {base e n c k : Nat} {A : Option Addr} {xs : List Int} (h : w.ownsRow base e 1 (.slice A n c) n (ints xs)) (hk : k < n) :
    ∃ g x, A = some ⟨g, 0, none⟩ ∧ base ≤ g ∧ g < w.heap.size ∧ xs[k]? = some x ∧ w.cell? ⟨g, k, none⟩ = some (.int .i64 x) ∧ w.frozen? ⟨g, k, none⟩ = false := by
  obtain ⟨g, u, h1, h2, h3, h4, h5, h6⟩ := own_at h hk
  have hl := h.1
  rw [ints_length, Nat.mul_one] at hl
  have hx : xs[k]? = some (xs[k]'(by omega)) := List.getElem?_eq_getElem _
  rw [ints_get hx] at h4
  injection h4 with h4
  subst h4
  exact ⟨g, _, h1, h2, h3, hx, h5, h6⟩
theorem own_len {w : World} {base e n : Nat} {v : Value} {xs : List Int} (h : w.ownsRow base e 1 v n (ints xs)) : xs.length = n := by
  have hl := h.1
  rwa [ints_length, Nat.mul_one] at hl
theorem own_set {w : World} {base e g n c k : Nat} {xs : List Int} (h : w.ownsRow base e 1 (.slice (some ⟨g, 0, none⟩) n c) n (ints xs)) (x : Int) :
    (w.setCell ⟨g, k, none⟩ (.int .i64 x)).ownsRow base e 1 (.slice (some ⟨g, 0, none⟩) n c) n (ints (xs.set k x)) := by
  rw [ints_set]; exact (h.stored k _).1
theorem own_below {w w' : World} {base e s n : Nat} {v : Value} {xs : List Value} (h : w.ownsRow base e s v n xs) (k : Below w.heap.size w w') : w'.ownsRow base e s v n xs :=
  h.kept ⟨k.os, k.tape, k.output, k.size, fun i hi _ => k.block i hi⟩ (row := none) (by cases v.ownBlock <;> simp)
theorem own_base {w : World} {base base' e s n : Nat} {v : Value} {xs : List Value} (h : w.ownsRow base e s v n xs) (hb : base' ≤ base) : w.ownsRow base' e s v n xs := by
  refine ⟨h.1, ?_⟩
  rcases h.2 with h1 | ⟨g, cap, cur, a, b, r⟩
  · exact .inl h1
  · exact .inr ⟨g, cap, cur, a, by omega, r⟩
theorem own_made (w : World) (base e n : Nat) (z : Value) (hb : base ≤ w.heap.size) (hm : n ≤ 9223372036854775807) :
    (w.alloc (.cells (madeCells #[z] n) e)).ownsRow base e 1 (.slice (some ⟨w.heap.size, 0, none⟩) n n) n (List.replicate n z) := by
  have := World.ownsRow_lit (base := base) (e := e) (size := 1) w (madeCells #[z] n) n hb (by unfold maxLen; omega) (by simp [size_madeCells])
  rwa [toList_madeCells_one] at this
theorem own_empty (w : World) (base e : Nat) (hb : base ≤ w.heap.size) : (w.alloc (.cells #[] e)).ownsRow base e 1 (.slice (some ⟨w.heap.size, 0, none⟩) 0 0) 0 [] := by
  have := World.ownsRow_lit (base := base) (e := e) (size := 1) w #[] 0 hb (by unfold maxLen; omega) (by simp)
  simpa using this
theorem cell_new1 (w : World) (v : Value) (e : TypeId) : (w.alloc (.cells #[v] e)).cell? ⟨w.heap.size, 0, none⟩ = some v := by simp
theorem ints_replicate (n : Nat) (x : Int) : ints (List.replicate n x) = List.replicate n (.int .i64 x) := by simp [ints]

/-- One step of a copy. -/
theorem copy_stepG {α : Type} (d : α) (xs : List α) (n k : Nat) (x : α) (hl : xs.length = n) (hx : xs[k]? = some x) (hk : k < n) :
    (xs.take k ++ List.replicate (n - k) d).set k x = xs.take (k + 1) ++ List.replicate (n - (k + 1)) d := by
  subst hl
  have hx' : xs[k] = x := by rw [List.getElem?_eq_getElem hk] at hx; exact Option.some.inj hx
  rw [List.set_append, if_neg (by simp; omega), List.take_succ_eq_append_getElem hk, hx']
  have e : xs.length - k = (xs.length - (k + 1)) + 1 := by omega
  rw [e, List.replicate_succ]
  have e2 : k - (List.take k xs).length = 0 := by simp; omega
  rw [e2]
  simp
theorem copy_step (xs : List Int) (n k : Nat) (x : Int) (hl : xs.length = n) (hx : xs[k]? = some x) (hk : k < n) :
    (xs.take k ++ List.replicate (n - k) 0).set k x = xs.take (k + 1) ++ List.replicate (n - (k + 1)) 0 := copy_stepG 0 xs n k x hl hx hk

def bools (xs : List Bool) : List Value := xs.map Value.bool
theorem bools_length (xs : List Bool) : (bools xs).length = xs.length := by simp [bools]
theorem bools_replicate (n : Nat) (x : Bool) : bools (List.replicate n x) = List.replicate n (.bool x) := by simp [bools]
theorem own_bool_at {w : World} {base e n c k : Nat} {A : Option Addr} {xs : List Bool} (h : w.ownsRow base e 1 (.slice A n c) n (bools xs)) (hk : k < n) :
    ∃ g x, A = some ⟨g, 0, none⟩ ∧ base ≤ g ∧ g < w.heap.size ∧ xs[k]? = some x ∧ w.cell? ⟨g, k, none⟩ = some (.bool x) ∧ w.frozen? ⟨g, k, none⟩ = false := by
  obtain ⟨g, u, h1, h2, h3, h4, h5, h6⟩ := own_at h hk
  have hl := h.1
  rw [bools_length, Nat.mul_one] at hl
  have hx : xs[k]? = some (xs[k]'(by omega)) := List.getElem?_eq_getElem _
  have h4' : (bools xs)[k]? = some (.bool (xs[k]'(by omega))) := by simp [bools, hx]
  rw [h4'] at h4
  injection h4 with h4
  subst h4
  exact ⟨g, _, h1, h2, h3, hx, h5, h6⟩
theorem own_set_bool {w : World} {base e g n c k : Nat} {xs : List Bool} (h : w.ownsRow base e 1 (.slice (some ⟨g, 0, none⟩) n c) n (bools xs)) (x : Bool) :
    (w.setCell ⟨g, k, none⟩ (.bool x)).ownsRow base e 1 (.slice (some ⟨g, 0, none⟩) n c) n (bools (xs.set k x)) := by
  have e : bools (xs.set k x) = (bools xs).set k (.bool x) := by simp [bools, List.map_set]
  rw [e]; exact (h.stored k _).1

/-! ### A slice of integers that came in (the shells' IsRow) -/
def IsRow (k : IntKind) (w : World) (a : Option Addr) (len cap : Nat) (zs : List Int) : Prop :=
  (a = none ∧ len = 0 ∧ cap = 0 ∧ zs = []) ∨
  ∃ x, a = some x ∧ len ≤ cap ∧ cap ≤ maxLen ∧ zs.length = cap ∧ (∀ i, i < zs.length → w.cell? (x.add i) = some (.int k (zs.getD i 0))) ∧ ∀ n ∈ zs, (Lit.int k n).wf = true

theorem spot_none {w : World} {x : Addr} {v : Value} (h : w.cell? x = some v) : x.spot = none := by
  unfold World.cell? at h
  split at h
  · split at h
    · cases h
    · rename_i hs; simpa using hs
  · cases h
theorem IsRow.rd {w : World} {a : Option Addr} {len cap : Nat} {zs : List Int} (h : IsRow .i64 w a len cap zs) : Rd w 1 a len (ints (zs.take len)) := by
  rcases h with ⟨rfl, rfl, rfl, rfl⟩ | ⟨x, rfl, h1, h2, h3, h4, h5⟩
  · exact ⟨rfl, by omega, fun h => by omega⟩
  · unfold maxLen at h2
    refine ⟨by simp [ints]; omega, by omega, fun hn => ?_⟩
    have h0 := h4 0 (by omega)
    have hadd0 : x.add 0 = x := by simp [Addr.add]
    rw [hadd0] at h0
    obtain ⟨b, o, sp⟩ := x
    obtain rfl : sp = none := spot_none h0
    refine ⟨b, o, rfl, fun i u hu => ?_⟩
    have hlen : i < (ints (zs.take len)).length := by
      rcases Nat.lt_or_ge i (ints (zs.take len)).length with h | h
      · exact h
      · rw [List.getElem?_eq_none h] at hu; cases hu
    have hi : i < len := by simp [ints] at hlen; omega
    have hc := h4 i (by omega)
    have hadd : (⟨b, o, none⟩ : Addr).add i = ⟨b, o + i, none⟩ := by unfold Addr.add; split <;> simp_all
    rw [hadd] at hc
    rw [hc, ← hu]
    simp [ints, hi, List.getElem?_eq_getElem (show i < zs.length by omega)]

/-! ### Only one row is written -/
theorem grown_set {a w : World} {g : Nat} (h : a.grownBy w (some g)) (k : Nat) (u : Value) : a.grownBy (w.setCell ⟨g, k, none⟩ u) (some g) :=
  ⟨h.os, h.tape, h.output, by simpa [World.setCell] using h.size, fun i hi hne => (Below.heap_setCell w _ u i (by rintro rfl; exact hne rfl)).trans (h.block i hi hne)⟩
theorem size_set (w : World) (p : Addr) (u : Value) : (w.setCell p u).heap.size = w.heap.size := by simp [World.setCell]

/-- Blocks from lo to below hi may have been written; all others of w are as they were. -/
structure Chg (lo hi : Nat) (w w' : World) : Prop where
  os : w'.os = w.os
  tape : w'.tape = w.tape
  output : w'.output = w.output
  size : w.heap.size ≤ w'.heap.size
  block : ∀ k, k < w.heap.size → (k < lo ∨ hi ≤ k) → w'.heap[k]? = w.heap[k]?
theorem Chg.of_below {lo hi : Nat} {w w' : World} (h : Below w.heap.size w w') : Chg lo hi w w' := ⟨h.os, h.tape, h.output, h.size, fun k hk _ => h.block k hk⟩
theorem Chg.refl (lo hi : Nat) (w : World) : Chg lo hi w w := Chg.of_below (Below.refl _ _)
theorem Chg.trans {lo hi : Nat} {a b c : World} (h : Chg lo hi a b) (k : Chg lo hi b c) : Chg lo hi a c :=
  ⟨k.os.trans h.os, k.tape.trans h.tape, k.output.trans h.output, Nat.le_trans h.size k.size, fun i hi hn => (k.block i (Nat.lt_of_lt_of_le hi h.size) hn).trans (h.block i hi hn)⟩
theorem Chg.mono {lo hi lo' hi' : Nat} {a b : World} (h : Chg lo hi a b) (h1 : lo' ≤ lo) (h2 : hi ≤ hi') : Chg lo' hi' a b :=
  ⟨h.os, h.tape, h.output, h.size, fun i hi hn => h.block i hi (by omega)⟩
theorem Chg.of_grown {lo hi : Nat} {w w' : World} {row : Option Nat} (h : w.grownBy w' row) (hr : ∀ k, row = some k → lo ≤ k ∧ k < hi) : Chg lo hi w w' :=
  ⟨h.os, h.tape, h.output, h.size, fun k hk hn => h.block k hk (fun e => by have := hr k e.symm; omega)⟩
theorem below_chg {B lo hi : Nat} {a w w' : World} (h : Below B a w) (k : Chg lo hi w w') (h1 : B ≤ lo) (h2 : B ≤ w.heap.size) : Below B a w' :=
  ⟨k.os.trans h.os, k.tape.trans h.tape, k.output.trans h.output, Nat.le_trans h.size k.size, fun i hi => (k.block i (by omega) (by omega)).trans (h.block i hi)⟩
theorem own_chg {lo hi : Nat} {w w' : World} {base e s n : Nat} {v : Value} {xs : List Value} (h : w.ownsRow base e s v n xs) (k : Chg lo hi w w')
    (hv : ∀ b, v.ownBlock = some b → b < lo ∨ hi ≤ b) : w'.ownsRow base e s v n xs := by
  refine ⟨h.1, ?_⟩
  rcases h.2 with hn | ⟨g, cap, cur, rfl, hb, hgg, rest⟩
  · exact .inl hn
  · exact .inr ⟨g, cap, cur, rfl, hb, (k.block g (Array.getElem?_eq_some_iff.1 hgg).1 (hv g rfl)).trans hgg, rest⟩

/-! ### Four results -/
theorem results_tmp4 {fn : Func} {t u v x : Tmp} (h : fn.results = #[.tmp t, .tmp u, .tmp v, .tmp x]) (tmps : Array Value) (P : Program) (w : World) :
    (results fn tmps).run P w = .ok (.tuple #[tmps.getD t undef, tmps.getD u undef, tmps.getD v undef, tmps.getD x undef]) w := by simp [results, h]

/-! ### Spelling -/
theorem ret_int {k : IntKind} {a b : Int} (h : a = b) : Ending.returned (.int k a) = .returned (.int k b) := by rw [h]
theorem ret_bool {a b : Bool} (h : a = b) : Ending.returned (.bool a) = .returned (.bool b) := by rw [h]
theorem int_up (x : Int) (h : 0 ≤ x) : ∃ n : Nat, x = n := ⟨x.toNat, by omega⟩

def withinB (n a b : Int) : Bool := decide (a ≤ n) && decide (n ≤ b)
theorem withinB_iff {n a b : Int} : withinB n a b = true ↔ a ≤ n ∧ n ≤ b := by simp [withinB]
theorem withinB_not {n a b : Int} : withinB n a b = false ↔ ¬ (a ≤ n ∧ n ≤ b) := by rw [← withinB_iff]; simp
end Go.Proofs.YtnpldahkhaacnaaGreatDoor

/- Plain functions and facts of the fleets chapter: no Go in sight. -/
namespace Go.Proofs.YtnpldahkhaacnaaGreatDoor
open Go.RowKit
set_option linter.unusedVariables false

def rowB (xs : List Int) (many most : Int) : Bool := xs.all (fun x => withinB x 0 most) && ((xs.length : Int) == many)

/-- Is the list a permutation of low .. low + n - 1 (seen: which ones have been met)? -/
def permF (low : Int) (n : Nat) : List Int → List Bool → Bool
  | [], _ => true
  | x :: r, seen => if withinB x low (low + n - 1) then (if seen.getD (x - low).toNat false then false else permF low n r (seen.set (x - low).toNat true)) else false
def isPermB (low : Int) (xs : List Int) : Bool := permF low xs.length xs (List.replicate xs.length false)
theorem permF_mem {low : Int} {n : Nat} {xs : List Int} {seen : List Bool} (h : permF low n xs seen = true) : ∀ x ∈ xs, low ≤ x ∧ x ≤ low + n - 1 := by
  induction xs generalizing seen with
  | nil => intro x hx; cases hx
  | cons y r ih =>
    unfold permF at h
    split at h
    · rename_i h1
      split at h
      · cases h
      · intro x hx
        rcases List.mem_cons.1 hx with rfl | hx
        · exact withinB_iff.1 h1
        · exact ih h x hx
    · cases h

def orderB (xs : List Int) : Bool := withinB (xs.length : Int) 1 16 && isPermB 0 xs
theorem orderB_len {xs : List Int} (h : orderB xs = true) : 1 ≤ xs.length ∧ xs.length ≤ 16 := by
  unfold orderB at h
  simp only [Bool.and_eq_true, withinB_iff] at h
  omega
theorem orderB_mem {xs : List Int} (h : orderB xs = true) {i : Nat} {x : Int} (hx : xs[i]? = some x) : ∃ j : Nat, x = j ∧ j < xs.length := by
  unfold orderB at h
  simp only [Bool.and_eq_true] at h
  have := permF_mem h.2 x (List.mem_of_getElem? hx)
  exact ⟨x.toNat, by omega, by omega⟩

def orderCodeF (xs : List Int) (k : Int) : Int := if withinB k 1 4 then (if orderB xs then 0 else 1) else 2

/-- Element x gets f i, i its place. -/
def scatterF (f : Nat → Int) : Nat → List Int → List Int → List Int
  | _, [], out => out
  | i, x :: r, out => scatterF f (i + 1) r (out.set x.toNat (f i))
theorem scatterF_congr (f g : Nat → Int) (h : ∀ i, f i = g i) (i : Nat) (xs out : List Int) : scatterF f i xs out = scatterF g i xs out := by
  rw [show f = g from funext h]
theorem scatterF_length (f : Nat → Int) (i : Nat) (xs out : List Int) : (scatterF f i xs out).length = out.length := by
  induction xs generalizing i out with
  | nil => rfl
  | cons x r ih => simp [scatterF, ih]

def snakeImpl (k : Int) (i : Nat) : Int := if ((i : Int) / k % 2 == 1) = true then k - 1 - (i : Int) % k else (i : Int) % k
def snakeSpec (k : Int) (i : Nat) : Int := if k ≤ (i : Int) % (2 * k) then 2 * k - 1 - (i : Int) % (2 * k) else (i : Int) % (2 * k)
theorem snake_same (k : Int) (h1 : 1 ≤ k) (h2 : k ≤ 4) (i : Nat) : snakeImpl k i = snakeSpec k i := by
  unfold snakeImpl snakeSpec
  have hk : k = 1 ∨ k = 2 ∨ k = 3 ∨ k = 4 := by omega
  rcases hk with rfl | rfl | rfl | rfl <;> simp only [beq_iff_eq] <;> split <;> split <;> omega

def snakeF (xs : List Int) (k : Int) : List Int × Int :=
  if orderCodeF xs k = 0 then (scatterF (snakeSpec k) 0 xs (List.replicate xs.length 0), 0) else ([], orderCodeF xs k)

/-- How many boats each fleet has. -/
def countF : List Int → List Int → List Int
  | [], out => out
  | x :: r, out => countF r (out.set x.toNat (wrap64 (out.getD x.toNat 0 + 1)))
def fleetsB (xs : List Int) (k : Int) : Bool := withinB (xs.length : Int) 1 16 && xs.all (fun x => withinB x 0 (k - 1))
def isFleetsB (xs : List Int) (k : Int) : Bool := withinB k 1 4 && fleetsB xs k
def fleetsCodeF (xs : List Int) (k : Int) : Int := if withinB k 1 4 then (if fleetsB xs k then 0 else 1) else 2
def sizesF (xs : List Int) (k : Int) : List Int × Int :=
  if fleetsCodeF xs k = 0 then (countF xs (List.replicate k.toNat 0), 0) else ([], fleetsCodeF xs k)

/-- The places of x in the list. -/
def boatsF (fleet : Int) : Nat → List Int → List Int
  | _, [] => []
  | i, x :: r => if x = fleet then (i : Int) :: boatsF fleet (i + 1) r else boatsF fleet (i + 1) r
def fleetBoatsF (xs : List Int) (k fleet : Int) : List Int × Int :=
  if withinB k 1 4 && withinB fleet 0 (k - 1) then (if fleetsCodeF xs k = 0 then (boatsF fleet 0 xs, 0) else ([], 1)) else ([], 2)

/-! ### Blocks -/
def fillF (xs : List Int) (f : Int) : Nat → Nat → List Int → List Int
  | _, 0, out => out
  | at_, m + 1, out => fillF xs f (at_ + 1) m (out.set (xs.getD at_ 0).toNat f)
def goBlock (xs : List Int) : Nat → List Int → Nat → List Int → Option (Nat × List Int)
  | _, [], at_, out => some (at_, out)
  | f, s :: r, at_, out => if withinB s 0 ((xs.length : Int) - at_) then goBlock xs (f + 1) r (at_ + s.toNat) (fillF xs f at_ s.toNat out) else none
def leftF : Int → List Int → Option Int
  | left, [] => some left
  | left, s :: r => if withinB s 0 left then leftF (left - s) r else none
def fillsF (xs : List Int) : Nat → List Int → Nat → List Int → List Int
  | _, [], _, out => out
  | f, s :: r, at_, out => fillsF xs (f + 1) r (at_ + s.toNat) (fillF xs f at_ s.toNat out)
def endBlock (n : Nat) : Option (Nat × List Int) → List Int × Int
  | none => ([], 5)
  | some (at_, out) => if at_ < n then ([], 5) else (out, 0)
def blockF (xs sizes : List Int) : List Int × Int :=
  if orderCodeF xs sizes.length = 0 then endBlock xs.length (goBlock xs 0 sizes 0 (List.replicate xs.length 0)) else ([], orderCodeF xs sizes.length)
theorem leftF_nonneg {left l : Int} {sizes : List Int} (h0 : 0 ≤ left) (h : leftF left sizes = some l) : 0 ≤ l ∧ l ≤ left := by
  induction sizes generalizing left with
  | nil => simp [leftF] at h; omega
  | cons s r ih =>
    unfold leftF at h
    split at h
    · rename_i hw
      have := withinB_iff.1 hw
      have := ih (by omega) h
      omega
    · cases h
theorem goBlock_none (xs sizes : List Int) (f at_ : Nat) (out : List Int) (hat : at_ ≤ xs.length) (h : leftF ((xs.length : Int) - at_) sizes = none) : goBlock xs f sizes at_ out = none := by
  induction sizes generalizing f at_ out with
  | nil => simp [leftF] at h
  | cons s r ih =>
    unfold leftF at h
    unfold goBlock
    split
    · rename_i hw
      rw [if_pos hw] at h
      have := withinB_iff.1 hw
      exact ih _ _ _ (by omega) (by rw [← h]; congr 1; omega)
    · rfl
theorem goBlock_some (xs sizes : List Int) (f at_ : Nat) (out : List Int) (l : Int) (hat : at_ ≤ xs.length) (h : leftF ((xs.length : Int) - at_) sizes = some l) :
    goBlock xs f sizes at_ out = some (((xs.length : Int) - l).toNat, fillsF xs f sizes at_ out) := by
  induction sizes generalizing f at_ out with
  | nil =>
    simp only [leftF, Option.some.injEq] at h
    simp only [goBlock, fillsF, Option.some.injEq, Prod.mk.injEq, and_true]
    omega
  | cons s r ih =>
    unfold leftF at h
    unfold goBlock
    split
    · rename_i hw
      rw [if_pos hw] at h
      have := withinB_iff.1 hw
      exact ih _ _ _ (by omega) (by rw [← h]; congr 1; omega)
    · rename_i hw
      rw [if_neg hw] at h
      cases h
theorem fillF_len (xs : List Int) (f : Int) (at_ m : Nat) (out : List Int) : (fillF xs f at_ m out).length = out.length := by
  induction m generalizing at_ out with
  | zero => rfl
  | succ m ih => simp [fillF, ih]
end Go.Proofs.YtnpldahkhaacnaaGreatDoor

/- Plain: texts as lists of bytes: decimal numbers, times, finishes. No Go function in sight. -/
namespace Go.Proofs.YtnpldahkhaacnaaGreatDoor
set_option linter.unusedVariables false

/-- A string out of bytes. -/
def str (l : List UInt8) : ByteArray := ⟨l.toArray⟩
theorem str_size (l : List UInt8) : (str l).size = l.length := by simp [str, ByteArray.size]
theorem str_add (a b : List UInt8) : str a ++ str b = str (a ++ b) := by
  apply ByteArray.ext
  simp [str]
theorem str_list (l : List UInt8) : (str l).data.toList = l := by simp [str]
def dec (n : Nat) : List UInt8 := Lib.decDigits n
def dgt (n : Nat) : UInt8 := UInt8.ofNat (48 + n % 10)
theorem dec_small {n : Nat} (h : n < 10) : dec n = [dgt n] := by
  unfold dec dgt
  rw [Lib.decDigits_one h, Nat.mod_eq_of_lt h]
theorem dec_big {n : Nat} (h : ¬ n < 10) : dec n = dec (n / 10) ++ [dgt n] := by
  unfold dec dgt
  rw [Lib.decDigits, dif_neg h]
theorem dec_len : ∀ (k n : Nat), n < 10 ^ (k + 1) → (dec n).length ≤ k + 1 := by
  intro k
  induction k with
  | zero => intro n h; rw [dec_small (by simpa using h)]; simp
  | succ k ih =>
    intro n h
    by_cases h0 : n < 10
    · rw [dec_small h0]; simp
    · rw [dec_big h0]
      rw [Nat.pow_succ] at h
      have := ih (n / 10) (by omega)
      simp; omega
/-- At least k digits. -/
def pad (k n : Nat) : List UInt8 := List.replicate (k - (dec n).length) 48 ++ dec n
/-- The last digits ahead of s. -/
def lastGo : Nat → Nat → List UInt8 → List UInt8
  | 0, _, s => s
  | k + 1, n, s => lastGo k (n / 10) (dgt n :: s)
theorem lastGo_len : ∀ (k n : Nat) (s : List UInt8), (lastGo k n s).length = k + s.length := by
  intro k
  induction k with
  | zero => intro n s; simp [lastGo]
  | succ k ih => intro n s; rw [lastGo, ih]; simp; omega
theorem pad_two {n : Nat} (h : n < 100) : pad 2 n = lastGo 2 n [] := by
  unfold pad
  by_cases h0 : n < 10
  · rw [dec_small h0]
    simp only [lastGo, List.length_cons, List.length_nil]
    have e : n / 10 = 0 := by omega
    rw [e]
    rfl
  · rw [dec_big h0, dec_small (by omega : n / 10 < 10)]
    simp [lastGo]
theorem pad_three {n : Nat} (h : n < 1000) : pad 3 n = lastGo 3 n [] := by
  unfold pad
  by_cases h0 : n < 10
  · rw [dec_small h0]
    simp only [lastGo, List.length_cons, List.length_nil]
    have e : n / 10 = 0 := by omega
    rw [e]
    rfl
  · by_cases h1 : n / 10 < 10
    · rw [dec_big h0, dec_small h1]
      simp only [lastGo, List.length_append, List.length_cons, List.length_nil]
      have e : n / 10 / 10 = 0 := by omega
      rw [e]
      rfl
    · rw [dec_big h0, dec_big h1, dec_small (by omega : n / 10 / 10 < 10)]
      simp [lastGo]
theorem dgt_mod {n m : Nat} (h : n % 10 = m % 10) : dgt n = dgt m := by unfold dgt; rw [h]
theorem lastGo_mod (n : Nat) : lastGo 3 n [] = lastGo 3 (n % 1000) [] := by
  simp only [lastGo]
  rw [dgt_mod (show n % 10 = n % 1000 % 10 by omega), dgt_mod (show n / 10 % 10 = n % 1000 / 10 % 10 by omega), dgt_mod (show n / 10 / 10 % 10 = n % 1000 / 10 / 10 % 10 by omega)]
/-- The text of a time. -/
def timeL (t : Nat) : List UInt8 := dec (t / 60000) ++ [58] ++ lastGo 2 (t / 1000 % 60) [] ++ [46] ++ lastGo 3 t []
theorem timeL_pad (t : Nat) : dec (t / 60000) ++ [58] ++ pad 2 (t / 1000 % 60) ++ [46] ++ pad 3 (t % 1000) = timeL t := by
  unfold timeL
  rw [pad_two (by omega), pad_three (by omega), ← lastGo_mod]
theorem timeL_len {t : Nat} (h : t ≤ 1000000000) : (timeL t).length ≤ 20 := by
  unfold timeL
  have := dec_len 9 (t / 60000) (by omega)
  simp only [List.length_append, lastGo_len, List.length_cons, List.length_nil]
  omega
def codesL : List (List UInt8) := [[70, 73, 78], [68, 78, 67], [68, 78, 83], [79, 67, 83], [68, 78, 70], [82, 69, 84], [68, 83, 81], [68, 78, 69], [66, 70, 68], [82, 68, 71]]
def codeL (c : Int) : List UInt8 := if 0 ≤ c ∧ c ≤ 9 then codesL.getD c.toNat [] else []
def finW (b c t : Int) : Bool := withinB b 0 15 && withinB c 0 9 && (if c = 0 then withinB t 1 1000000000 else (t == 0))
theorem finW_ok {b c t : Int} (h : finW b c t = true) : (0 ≤ b ∧ b ≤ 15) ∧ (0 ≤ c ∧ c ≤ 9) ∧ 0 ≤ t ∧ t ≤ 1000000000 := by
  unfold finW at h
  simp only [Bool.and_eq_true] at h
  have h1 := withinB_iff.1 h.1.1
  have h2 := withinB_iff.1 h.1.2
  have h3 := h.2
  split at h3
  · have := withinB_iff.1 h3; omega
  · simp at h3; omega
/-- The text of a valid finish. -/
def finL (b c t : Int) : List UInt8 := dec b.toNat ++ [32] ++ codeL c ++ (if c = 0 then [32] ++ timeL t.toNat else [])
def finS (b c t : Int) : List UInt8 := if finW b c t = true then finL b c t else []
def enterS (r b c t : Int) : List UInt8 := if withinB r 0 11 = true ∧ finW b c t = true then [101, 110, 116, 101, 114, 32] ++ dec r.toNat ++ [32] ++ finL b c t else []
theorem codeL_len (c : Int) : (codeL c).length ≤ 3 := by
  unfold codeL
  split
  · rename_i h
    have : c = 0 ∨ c = 1 ∨ c = 2 ∨ c = 3 ∨ c = 4 ∨ c = 5 ∨ c = 6 ∨ c = 7 ∨ c = 8 ∨ c = 9 := by omega
    rcases this with rfl | rfl | rfl | rfl | rfl | rfl | rfl | rfl | rfl | rfl <;> decide
  · decide
theorem finL_len {b c t : Int} (h : finW b c t = true) : (finL b c t).length ≤ 40 := by
  obtain ⟨h1, h2, h3⟩ := finW_ok h
  unfold finL
  have a := dec_len 1 b.toNat (by omega)
  have b := codeL_len c
  have d := timeL_len (t := t.toNat) (by omega)
  split
  · simp only [List.length_append, List.length_cons, List.length_nil]; omega
  · simp only [List.length_append, List.length_cons, List.length_nil]; omega
end Go.Proofs.YtnpldahkhaacnaaGreatDoor

/- Plain: words of a text; decimal words read back. No Go function in sight. -/
namespace Go.Proofs.YtnpldahkhaacnaaGreatDoor
set_option linter.unusedVariables false

/-! ### Words -/
/-- The words of a text: what stands between single blanks. -/
def wordsL : List UInt8 → List (List UInt8)
  | [] => [[]]
  | c :: r => if c = 32 then [] :: wordsL r else match wordsL r with
    | [] => [[c]]
    | w :: ws => (c :: w) :: ws
theorem wordsL_ne (l : List UInt8) : wordsL l ≠ [] := by
  cases l with
  | nil => simp [wordsL]
  | cons c r =>
    unfold wordsL
    split
    · simp
    · split <;> simp
/-- A piece ahead of the first word. -/
def ahead (p : List UInt8) : List (List UInt8) → List (List UInt8)
  | [] => [p]
  | w :: ws => (p ++ w) :: ws
theorem wordsL_blank (r : List UInt8) : wordsL (32 :: r) = [] :: wordsL r := by simp [wordsL]
theorem wordsL_char {c : UInt8} (h : c ≠ 32) (r : List UInt8) : wordsL (c :: r) = ahead [c] (wordsL r) := by
  rw [wordsL, if_neg h]
  cases hw : wordsL r with
  | nil => exact absurd hw (wordsL_ne r)
  | cons w ws => rfl
theorem ahead_ahead (a b : List UInt8) {ws : List (List UInt8)} (h : ws ≠ []) : ahead a (ahead b ws) = ahead (a ++ b) ws := by
  cases ws with
  | nil => exact absurd rfl h
  | cons w ws => simp [ahead]
theorem ahead_ne (a : List UInt8) (ws : List (List UInt8)) : ahead a ws ≠ [] := by cases ws <;> simp [ahead]
theorem ahead_nil {ws : List (List UInt8)} (h : ws ≠ []) : ahead [] ws = ws := by
  cases ws with
  | nil => exact absurd rfl h
  | cons w ws => rfl
theorem wordsL_none : ∀ {a : List UInt8}, (∀ c ∈ a, c ≠ 32) → wordsL a = [a] := by
  intro a
  induction a with
  | nil => intro _; rfl
  | cons c a ih =>
    intro h
    rw [wordsL_char (h c List.mem_cons_self), ih (fun d hd => h d (List.mem_cons_of_mem _ hd))]
    rfl
theorem wordsL_app : ∀ {a : List UInt8} (b : List UInt8), (∀ c ∈ a, c ≠ 32) → wordsL (a ++ 32 :: b) = a :: wordsL b := by
  intro a
  induction a with
  | nil => intro b _; exact wordsL_blank b
  | cons c a ih =>
    intro b h
    rw [List.cons_append, wordsL_char (h c List.mem_cons_self), ih b (fun d hd => h d (List.mem_cons_of_mem _ hd))]
    rfl
theorem wordsL_len : ∀ (l : List UInt8), (wordsL l).length = l.count 32 + 1 := by
  intro l
  induction l with
  | nil => rfl
  | cons c r ih =>
    by_cases h : c = 32
    · subst h; rw [wordsL_blank, List.length_cons, ih]; simp
    · rw [wordsL_char h]
      have : (ahead [c] (wordsL r)).length = (wordsL r).length := by
        cases hw : wordsL r with
        | nil => exact absurd hw (wordsL_ne r)
        | cons w ws => rfl
      rw [this, ih, List.count_cons_of_ne h]
/-- The first blank parts a text. -/
theorem first_blank : ∀ (l : List UInt8), (∀ c ∈ l, c ≠ 32) ∨ ∃ a b, l = a ++ 32 :: b ∧ ∀ c ∈ a, c ≠ 32 := by
  intro l
  induction l with
  | nil => exact .inl (by simp)
  | cons c r ih =>
    by_cases h : c = 32
    · subst h; exact .inr ⟨[], r, rfl, by simp⟩
    · rcases ih with h1 | ⟨a, b, rfl, ha⟩
      · exact .inl (by intro d hd; rcases List.mem_cons.1 hd with rfl | hd; exact h; exact h1 d hd)
      · exact .inr ⟨c :: a, b, rfl, by intro d hd; rcases List.mem_cons.1 hd with rfl | hd; exact h; exact ha d hd⟩
theorem occ_at {s : List UInt8} {j : Nat} (h : s[j]? ≠ some 32) : Lib.occAt s [32] j = false := by
  unfold Lib.occAt
  cases hd : s.drop j with
  | nil => rfl
  | cons c r =>
    have hc : s[j]? = some c := by
      have : (s.drop j)[0]? = some c := by rw [hd]; rfl
      simpa using this
    have hn : c ≠ 32 := fun e => h (by rw [hc, e])
    simp [List.isPrefixOf, beq_eq_false_iff_ne.2 (Ne.symm hn)]
theorem index_none {s : List UInt8} (h : ∀ c ∈ s, c ≠ 32) : Lib.index s [32] = -1 := by
  refine Lib.index_past (i := s.length) (by simp) (fun j _ => occ_at ?_) (by simp)
  intro e
  exact h 32 (List.mem_of_getElem? e) rfl
theorem index_blank {a b : List UInt8} (h : ∀ c ∈ a, c ≠ 32) : Lib.index (a ++ 32 :: b) [32] = a.length := by
  refine Lib.index_first (by simp) ?_ ?_
  · unfold Lib.occAt
    rw [List.drop_left]
    simp [List.isPrefixOf]
  · intro j hj
    refine occ_at ?_
    rw [List.getElem?_append_left hj]
    intro e
    exact h 32 (List.mem_of_getElem? e) rfl
theorem splitK_words : ∀ (k : Nat) (s : List UInt8), s.count 32 = k → Lib.splitK [32] 0 k s = wordsL s := by
  intro k
  induction k with
  | zero =>
    intro s h
    rcases first_blank s with h1 | ⟨a, b, rfl, _⟩
    · rw [wordsL_none h1]; rfl
    · simp at h
  | succ k ih =>
    intro s h
    rcases first_blank s with h1 | ⟨a, b, rfl, ha⟩
    · have : s.count 32 = 0 := List.count_eq_zero.2 (fun hm => h1 32 hm rfl)
      omega
    · have hc : b.count 32 = k := by
        have h0 : a.count 32 = 0 := List.count_eq_zero.2 (fun hm => ha 32 hm rfl)
        rw [List.count_append, h0, List.count_cons_self] at h
        omega
      rw [wordsL_app b ha, Lib.splitK, index_blank ha, if_neg (by simp)]
      simp only [Int.toNat_natCast, Nat.add_zero, List.take_left, List.length_cons, List.length_nil]
      rw [show (a ++ 32 :: b).drop (a.length + (0 + 1)) = b from by rw [← List.drop_drop, List.drop_left]; rfl, ih b hc]
/-- What the library's Split makes are the words. -/
theorem split_words (s : ByteArray) : (Lib.splitB ⟨#[32]⟩ 0 (Lib.countB s ⟨#[32]⟩) s).map (·.data.toList) = wordsL s.data.toList := by
  rw [Lib.splitB_data]
  refine splitK_words _ _ ?_
  unfold Lib.countB
  exact (Lib.count_one 32 _).symm
/-! ### Decimal words -/
def dgB (c : UInt8) : Bool := decide (48 ≤ c.toNat) && decide (c.toNat ≤ 57)
theorem dgt_nat (n : Nat) : (dgt n).toNat = 48 + n % 10 := by
  unfold dgt
  rw [UInt8.toNat_ofNat']
  omega
theorem dec_digits : ∀ (n : Nat), ∀ c ∈ dec n, dgB c = true := by
  intro n
  induction n using Nat.strongRecOn with
  | _ n ih =>
    intro c hc
    by_cases h : n < 10
    · rw [dec_small h] at hc
      obtain rfl := List.mem_singleton.1 hc
      unfold dgB
      rw [dgt_nat]
      simp; omega
    · rw [dec_big h] at hc
      rcases List.mem_append.1 hc with hc | hc
      · exact ih (n / 10) (by omega) c hc
      · obtain rfl := List.mem_singleton.1 hc
        unfold dgB
        rw [dgt_nat]
        simp; omega
theorem dec_noblank (n : Nat) : ∀ c ∈ dec n, c ≠ 32 := by
  intro c hc e
  have := dec_digits n c hc
  subst e
  exact absurd this (by decide)
theorem dec_ne (n : Nat) : dec n ≠ [] := by
  by_cases h : n < 10
  · rw [dec_small h]; simp
  · rw [dec_big h]; simp
/-- What digits spell. -/
def stepV (n : Nat) (c : UInt8) : Nat := 10 * n + (c.toNat - 48)
def valL (n : Nat) (l : List UInt8) : Nat := l.foldl stepV n
theorem valL_cons (n : Nat) (c : UInt8) (r : List UInt8) : valL n (c :: r) = valL (stepV n c) r := by unfold valL; rw [List.foldl_cons]
theorem valL_nil (n : Nat) : valL n [] = n := by unfold valL; rw [List.foldl_nil]
theorem valL_app (a b : List UInt8) (n : Nat) : valL n (a ++ b) = valL (valL n a) b := by unfold valL; rw [List.foldl_append]
theorem stepV_dgt (n m : Nat) : stepV n (dgt m) = 10 * n + m % 10 := by
  unfold stepV
  rw [dgt_nat]
  omega
theorem stepV_le (n : Nat) (c : UInt8) : 10 * n ≤ stepV n c := by unfold stepV; omega
theorem valL_dec : ∀ (n : Nat), valL 0 (dec n) = n := by
  intro n
  induction n using Nat.strongRecOn with
  | _ n ih =>
    by_cases h : n < 10
    · rw [dec_small h, valL_cons, valL_nil, stepV_dgt]
      omega
    · rw [dec_big h, valL_app, ih (n / 10) (by omega), valL_cons, valL_nil, stepV_dgt]
      omega
theorem valL_le : ∀ (l : List UInt8) (n : Nat), n ≤ valL n l := by
  intro l
  induction l with
  | nil => intro n; rw [valL_nil]; exact Nat.le_refl _
  | cons d l ih => intro n; rw [valL_cons]; have := ih (stepV n d); have := stepV_le n d; omega
theorem stepV_lt {n : Nat} {c : UInt8} (h : dgB c = true) : stepV n c ≤ 10 * n + 9 := by
  unfold dgB at h
  simp only [Bool.and_eq_true, decide_eq_true_eq] at h
  unfold stepV
  omega
theorem valL_lt : ∀ (l : List UInt8) (n : Nat), (∀ c ∈ l, dgB c = true) → valL n l < (n + 1) * 10 ^ l.length := by
  intro l
  induction l with
  | nil => intro n _; rw [valL_nil]; simp
  | cons c r ih =>
    intro n h
    have hs := stepV_lt (n := n) (h c List.mem_cons_self)
    have h1 := ih (stepV n c) (fun d hd => h d (List.mem_cons_of_mem _ hd))
    rw [valL_cons, List.length_cons, Nat.pow_succ]
    have h2 : (stepV n c + 1) * 10 ^ r.length ≤ (10 * n + 10) * 10 ^ r.length := Nat.mul_le_mul_right _ (by omega)
    have h3 : (10 * n + 10) * 10 ^ r.length = (n + 1) * (10 ^ r.length * 10) := by
      rw [show 10 * n + 10 = (n + 1) * 10 from by omega, Nat.mul_assoc, Nat.mul_comm 10]
    omega
/-- A number that a word of at most twelve digits spells, in its own way; else -1 (the reference's reading). -/
def rdF (w : List UInt8) : Int := if w = [] ∨ 12 < w.length then -1 else if w.all dgB = true then (if dec (valL 0 w) = w then (valL 0 w : Int) else -1) else -1
theorem rdF_dec {n : Nat} (h : n < 10 ^ 12) : rdF (dec n) = n := by
  unfold rdF
  have h1 := dec_len 11 n (by simpa using h)
  rw [if_neg (by rintro (e | e); exact dec_ne n e; omega), if_pos (List.all_eq_true.2 (dec_digits n)), valL_dec, if_pos rfl]
/-- A number that a word spells as the library writes it (the program's reading). -/
def numF (w : List UInt8) : Int × Bool := match Lib.parseIntB 64 w with
  | .ok v => if w.length ≤ 19 ∧ Lib.itoa v = w then (v, true) else (0, false)
  | _ => (0, false)
theorem parse_digits : ∀ (l : List UInt8) (acc : Nat), (∀ c ∈ l, dgB c = true) → valL acc l < 1844674407370955162 → Lib.parseUintM 18446744073709551615 acc l = .ok (valL acc l) := by
  intro l
  induction l with
  | nil => intro acc _ _; rw [valL_nil]; rfl
  | cons c r ih =>
    intro acc h hv
    have hc := h c List.mem_cons_self
    unfold dgB at hc
    simp only [Bool.and_eq_true, decide_eq_true_eq] at hc
    have h1 := valL_le r (stepV acc c)
    have h2 := stepV_le acc c
    have e : acc * 10 + (c.toNat - 48) = stepV acc c := by unfold stepV; omega
    rw [valL_cons] at hv ⊢
    rw [Lib.parseUintM, if_pos hc, e, if_neg (by omega), if_neg (by omega)]
    exact ih _ (fun d hd => h d (List.mem_cons_of_mem _ hd)) hv
theorem numF_dec {n : Nat} (h : n < 10 ^ 15) : numF (dec n) = ((n : Int), true) := by
  have hd := dec_digits n
  have hp : Lib.parseIntB 64 (dec n) = .ok (n : Int) := by
    have hv := valL_dec n
    have hm := parse_digits (dec n) 0 hd (by rw [hv]; omega)
    rw [hv] at hm
    cases hl : dec n with
    | nil => exact absurd hl (dec_ne n)
    | cons c r =>
      rw [hl] at hm hd
      have hc := hd c List.mem_cons_self
      unfold dgB at hc
      simp only [Bool.and_eq_true, decide_eq_true_eq] at hc
      rw [Lib.parseIntB_plain 64 c r (by omega) (by omega)]
      have hB : Lib.parseUintB 64 (c :: r) = .ok n := by
        unfold Lib.parseUintB
        rw [if_neg (by simp)]
        exact hm
      rw [hB]
      unfold Lib.signlessC
      first | (simp only []; rw [if_neg (by omega)]) | (simp; omega)
  unfold numF
  rw [hp]
  have hl := dec_len 14 n (by simpa using h)
  simp only
  rw [Lib.itoa_nonneg, if_pos ⟨by omega, rfl⟩]
end Go.Proofs.YtnpldahkhaacnaaGreatDoor

/- Plain: redress as a text, read back in two ways. No Go function in sight. -/
namespace Go.Proofs.YtnpldahkhaacnaaGreatDoor
set_option linter.unusedVariables false

abbrev RdX := Int × Int × Int × Int
def kAll : List UInt8 := [97, 108, 108]
def kBefore : List UInt8 := [98, 101, 102, 111, 114, 101]
def kPoints : List UInt8 := [112, 111, 105, 110, 116, 115]
def rbB (k p : Int) : Bool := if k = 3 then withinB p 0 10000 else withinB k 1 2 && (p == 0)
def rdOk (x : RdX) : Bool := withinB x.1 0 11 && withinB x.2.1 0 15 && rbB x.2.2.1 x.2.2.2
def kw (k : Int) : List UInt8 := if k = 1 then kAll else if k = 2 then kBefore else kPoints
def redL (x : RdX) : List UInt8 := dec x.1.toNat ++ 32 :: (dec x.2.1.toNat ++ 32 :: (kw x.2.2.1 ++ (if x.2.2.1 = 3 then 32 :: dec x.2.2.2.toNat else [])))
def redS (x : RdX) : List UInt8 := if rdOk x = true then redL x else []
theorem redL_ne (x : RdX) : redL x ≠ [] := by unfold redL; simp
theorem redS_ok {x : RdX} {s : List UInt8} (h : redS x = s) (hs : s ≠ []) : rdOk x = true ∧ redL x = s := by
  unfold redS at h
  split at h
  · rename_i hx; exact ⟨hx, h⟩
  · exact absurd h.symm hs
theorem kw_noblank (k : Int) : ∀ c ∈ kw k, c ≠ 32 := by
  intro c hc
  unfold kw at hc
  have : ∀ (l : List UInt8), (l.all fun d => !(d == 32)) = true → c ∈ l → c ≠ 32 := by
    intro l hl hm e
    have := List.all_eq_true.1 hl c hm
    subst e
    simp at this
  split at hc
  · exact this kAll (by decide) hc
  · split at hc
    · exact this kBefore (by decide) hc
    · exact this kPoints (by decide) hc
theorem rd_bounds {x : RdX} (h : rdOk x = true) : (0 ≤ x.1 ∧ x.1 ≤ 11) ∧ (0 ≤ x.2.1 ∧ x.2.1 ≤ 15) ∧ ((x.2.2.1 = 3 ∧ 0 ≤ x.2.2.2 ∧ x.2.2.2 ≤ 10000) ∨ (x.2.2.1 = 1 ∧ x.2.2.2 = 0) ∨ (x.2.2.1 = 2 ∧ x.2.2.2 = 0)) := by
  unfold rdOk rbB at h
  simp only [Bool.and_eq_true] at h
  obtain ⟨⟨h1, h2⟩, h3⟩ := h
  refine ⟨withinB_iff.1 h1, withinB_iff.1 h2, ?_⟩
  split at h3
  · rename_i e; exact .inl ⟨e, withinB_iff.1 h3⟩
  · simp only [Bool.and_eq_true, beq_iff_eq] at h3
    have := withinB_iff.1 h3.1
    have hk : x.2.2.1 = 1 ∨ x.2.2.1 = 2 := by omega
    rcases hk with hk | hk
    · exact .inr (.inl ⟨hk, h3.2⟩)
    · exact .inr (.inr ⟨hk, h3.2⟩)
theorem words_red {x : RdX} : wordsL (redL x) = if x.2.2.1 = 3 then [dec x.1.toNat, dec x.2.1.toNat, kw x.2.2.1, dec x.2.2.2.toNat] else [dec x.1.toNat, dec x.2.1.toNat, kw x.2.2.1] := by
  unfold redL
  rw [wordsL_app _ (dec_noblank _), wordsL_app _ (dec_noblank _)]
  split
  · rw [wordsL_app _ (kw_noblank _), wordsL_none (dec_noblank _)]
  · rw [List.append_nil, wordsL_none (kw_noblank _)]
/-- What the reference reads. -/
def specX (ws : List (List UInt8)) : RdX := (rdF (ws.getD 0 []), rdF (ws.getD 1 []), if ws.length = 4 then 3 else if ws.getD 2 [] = kBefore then 2 else 1, if ws.length = 4 then rdF (ws.getD 3 []) else 0)
def specR (s : List UInt8) : Option RdX := if (wordsL s).length < 3 ∨ 4 < (wordsL s).length then none else if s = [] ∨ redS (specX (wordsL s)) ≠ s then none else some (specX (wordsL s))
/-- What the program reads. -/
def implGo (s : List UInt8) (r b p : Int) : Nat → Int → Option RdX
  | 0, _ => none
  | f + 1, k => if redS (r, b, k, p) ≠ [] ∧ redS (r, b, k, p) = s then some (r, b, k, p) else implGo s r b p f (k + 1)
def implP (ws : List (List UInt8)) : Int := if 3 < ws.length then (numF (ws.getD 3 [])).1 else 0
def implR (s : List UInt8) : Option RdX := if (wordsL s).length < 3 then none else implGo s (numF ((wordsL s).getD 0 [])).1 (numF ((wordsL s).getD 1 [])).1 (implP (wordsL s)) 3 1
theorem spec_red {x : RdX} (h : rdOk x = true) : specR (redL x) = some x := by
  obtain ⟨h1, h2, h3⟩ := rd_bounds h
  have e1 : rdF (dec x.1.toNat) = x.1 := by rw [rdF_dec (by omega)]; omega
  have e2 : rdF (dec x.2.1.toNat) = x.2.1 := by rw [rdF_dec (by omega)]; omega
  have key : specX (wordsL (redL x)) = x ∧ 3 ≤ (wordsL (redL x)).length ∧ (wordsL (redL x)).length ≤ 4 := by
    rw [words_red]
    obtain ⟨r, b, k, p⟩ := x
    simp only at *
    rcases h3 with ⟨rfl, h3⟩ | ⟨rfl, rfl⟩ | ⟨rfl, rfl⟩
    · have e3 : rdF (dec p.toNat) = p := by rw [rdF_dec (by omega)]; omega
      simp [specX, e1, e2, e3]
    · simp [specX, e1, e2, kw, kAll, kBefore]
    · simp [specX, e1, e2, kw, kBefore]
  unfold specR
  rw [if_neg (by omega), key.1, if_neg]
  rintro (e | e)
  · exact redL_ne x e
  · exact e (by unfold redS; rw [if_pos h])
theorem redS_kind {r b k p k' p' r' b' : Int} (hk : k = 1 ∨ k = 2 ∨ k = 3) (hk' : k' = 1 ∨ k' = 2 ∨ k' = 3) (h : redL (r, b, k, p) = redL (r', b', k', p')) : k = k' := by
  have hw := words_red (x := (r, b, k, p))
  rw [h, words_red] at hw
  simp only at hw
  rcases hk with rfl | rfl | rfl <;> rcases hk' with rfl | rfl | rfl <;> first | rfl | (simp [kw, kAll, kBefore, kPoints] at hw)
theorem impl_red {x : RdX} (h : rdOk x = true) : implR (redL x) = some x := by
  obtain ⟨h1, h2, h3⟩ := rd_bounds h
  have e1 : (numF (dec x.1.toNat)).1 = x.1 := by rw [numF_dec (by omega)]; show ((x.1.toNat : Nat) : Int) = x.1; omega
  have e2 : (numF (dec x.2.1.toNat)).1 = x.2.1 := by rw [numF_dec (by omega)]; show ((x.2.1.toNat : Nat) : Int) = x.2.1; omega
  have hsx : redS x = redL x := by unfold redS; rw [if_pos h]
  have hn := redL_ne x
  obtain ⟨r, b, k, p⟩ := x
  have hother : ∀ k', (k' = 1 ∨ k' = 2 ∨ k' = 3) → k' ≠ k → ¬ (redS (r, b, k', p) ≠ [] ∧ redS (r, b, k', p) = redL (r, b, k, p)) := by
    rintro k' hk' hne ⟨ha, hb⟩
    obtain ⟨_, hc⟩ := redS_ok rfl ha
    rw [← hc] at hb
    exact hne (redS_kind hk' (by rcases h3 with ⟨e, _⟩ | ⟨e, _⟩ | ⟨e, _⟩ <;> simp only at e <;> omega) hb)
  have hself : redS (r, b, k, p) ≠ [] ∧ redS (r, b, k, p) = redL (r, b, k, p) := ⟨by rw [hsx]; exact hn, hsx⟩
  have key : (numF ((wordsL (redL (r, b, k, p))).getD 0 [])).1 = r ∧ (numF ((wordsL (redL (r, b, k, p))).getD 1 [])).1 = b ∧ implP (wordsL (redL (r, b, k, p))) = p ∧ 3 ≤ (wordsL (redL (r, b, k, p))).length := by
    rw [words_red]
    simp only at *
    rcases h3 with ⟨rfl, h3⟩ | ⟨rfl, rfl⟩ | ⟨rfl, rfl⟩
    · have e3 : (numF (dec p.toNat)).1 = p := by rw [numF_dec (by omega)]; show ((p.toNat : Nat) : Int) = p; omega
      simp [implP, e1, e2, e3]
    · simp [implP, e1, e2]
    · simp [implP, e1, e2]
  unfold implR
  rw [if_neg (by omega), key.1, key.2.1, key.2.2.1]
  simp only at h3
  rcases h3 with ⟨rfl, _⟩ | ⟨rfl, _⟩ | ⟨rfl, _⟩
  · rw [implGo, if_neg (hother 1 (.inl rfl) (by decide)), implGo, if_neg (hother (1 + 1) (.inr (.inl rfl)) (by decide)), implGo, if_pos (show redS (r, b, 1 + 1 + 1, p) ≠ [] ∧ redS (r, b, 1 + 1 + 1, p) = redL (r, b, 3, p) from hself)]
    rfl
  · rw [implGo, if_pos hself]
  · rw [implGo, if_neg (hother 1 (.inl rfl) (by decide)), implGo, if_pos (show redS (r, b, 1 + 1, p) ≠ [] ∧ redS (r, b, 1 + 1, p) = redL (r, b, 2, p) from hself)]
    rfl
theorem implGo_some {s : List UInt8} {r b p : Int} : ∀ {f : Nat} {k : Int} {x : RdX}, implGo s r b p f k = some x → redS x ≠ [] ∧ redS x = s := by
  intro f
  induction f with
  | zero => intro k x h; cases h
  | succ f ih =>
    intro k x h
    rw [implGo] at h
    split at h
    · rename_i hh
      injection h with h
      rw [← h]
      exact hh
    · exact ih h
theorem impl_spec (s : List UInt8) : implR s = specR s := by
  cases hs : specR s with
  | some x =>
    unfold specR at hs
    split at hs
    · cases hs
    · split at hs
      · cases hs
      · rename_i h
        injection hs with hs
        rw [hs] at h
        have h1 : s ≠ [] := fun e => h (.inl e)
        have h2 : redS x = s := Classical.byContradiction fun e => h (.inr e)
        obtain ⟨ha, hb⟩ := redS_ok h2 h1
        rw [← hb]
        exact impl_red ha
  | none =>
    cases hi : implR s with
    | none => rfl
    | some x =>
      have h := hi
      unfold implR at h
      split at h
      · cases h
      · obtain ⟨h1, h2⟩ := implGo_some h
        obtain ⟨ha, hb⟩ := redS_ok h2 (by rw [← h2]; exact h1)
        rw [← hb, spec_red ha] at hs
        cases hs
end Go.Proofs.YtnpldahkhaacnaaGreatDoor

/- Plain memory: slices of structs (s cells an element): no Go function in sight. -/
namespace Go.Proofs.YtnpldahkhaacnaaGreatDoor
open Go.RowKit
set_option linter.unusedVariables false

section
variable {α : Type} {f : α → List Value} {s : Nat} (hf : ∀ x, (f x).length = s)
include hf
theorem flat_len (xs : List α) : (xs.flatMap f).length = xs.length * s := by
  induction xs with
  | nil => simp
  | cons x r ih => rw [List.flatMap_cons, List.length_append, ih, hf, List.length_cons, Nat.add_mul]; omega
theorem flat_get {xs : List α} {k : Nat} {x : α} (h : xs[k]? = some x) {j : Nat} (hj : j < s) : (xs.flatMap f)[k * s + j]? = (f x)[j]? := by
  induction xs generalizing k with
  | nil => simp at h
  | cons y r ih =>
    rw [List.flatMap_cons]
    cases k with
    | zero =>
      simp only [List.getElem?_cons_zero, Option.some.injEq] at h
      subst h
      rw [List.getElem?_append_left (by rw [hf]; omega), Nat.zero_mul, Nat.zero_add]
    | succ k =>
      simp only [List.getElem?_cons_succ] at h
      rw [List.getElem?_append_right (by rw [hf, Nat.add_mul]; omega), hf, ← ih h]
      congr 1
      rw [Nat.add_mul]; omega
theorem flat_take (xs : List α) (k : Nat) : (xs.flatMap f).take (k * s) = (xs.take k).flatMap f := by
  induction xs generalizing k with
  | nil => simp
  | cons y r ih =>
    cases k with
    | zero => simp
    | succ k =>
      rw [List.flatMap_cons, List.take_append, hf, List.take_of_length_le (by rw [hf, Nat.add_mul]; omega), List.take_succ_cons, List.flatMap_cons, ← ih k]
      congr 2
      rw [Nat.add_mul]; omega
theorem flat_drop (xs : List α) (k : Nat) : (xs.flatMap f).drop (k * s) = (xs.drop k).flatMap f := by
  induction xs generalizing k with
  | nil => simp
  | cons y r ih =>
    cases k with
    | zero => simp
    | succ k =>
      rw [List.flatMap_cons, List.drop_append, hf, List.drop_of_length_le (by rw [hf, Nat.add_mul]; omega), List.drop_succ_cons, ← ih k, List.nil_append]
      congr 1
      rw [Nat.add_mul]; omega
/-- Cells are stored from a place on. -/
def putL (cs : List Value) (i : Nat) : List Value → List Value
  | [] => cs
  | v :: r => putL (cs.set i v) (i + 1) r
omit hf in
theorem putL_eq (vs : List Value) : ∀ (cs : List Value) (i : Nat), i + vs.length ≤ cs.length → putL cs i vs = cs.take i ++ vs ++ cs.drop (i + vs.length) := by
  induction vs with
  | nil => intro cs i h; simp [putL]
  | cons v r ih =>
    intro cs i h
    rw [List.length_cons] at h
    rw [putL, ih _ _ (by rw [List.length_set]; omega), List.length_cons]
    have h1 : (cs.set i v).take (i + 1) = cs.take i ++ [v] := by
      rw [List.take_succ_eq_append_getElem (by rw [List.length_set]; omega), List.getElem_set_self]
      congr 1
      rw [List.take_set, List.set_eq_of_length_le (by rw [List.length_take]; omega)]
    have h2 : (cs.set i v).drop (i + 1 + r.length) = cs.drop (i + (r.length + 1)) := by
      rw [List.drop_set, if_pos (by omega), show i + 1 + r.length = i + (r.length + 1) from by omega]
    rw [h1, h2]
    simp
theorem flat_put (xs : List α) (k : Nat) (x : α) (hk : k < xs.length) : putL (xs.flatMap f) (k * s) (f x) = (xs.set k x).flatMap f := by
  have hle : k * s + s ≤ xs.length * s := by
    have := Nat.mul_le_mul_right s (show k + 1 ≤ xs.length by omega)
    rw [Nat.add_mul] at this; omega
  rw [putL_eq _ _ _ (by rw [hf, flat_len hf]; exact hle), hf, flat_take hf, show k * s + s = (k + 1) * s from by rw [Nat.add_mul]; omega, flat_drop hf, List.set_eq_take_append_cons_drop, if_pos hk]
  simp
omit hf in
theorem flat_replicate (n : Nat) (x : α) (v : Value) (h : f x = List.replicate s v) : (List.replicate n x).flatMap f = List.replicate (n * s) v := by
  induction n with
  | zero => simp
  | succ n ih => rw [List.replicate_succ, List.flatMap_cons, ih, h, List.replicate_append_replicate]; congr 1; rw [Nat.add_mul]; omega
end
/-- The world behind such a store. -/
def putW (w : World) (g i : Nat) : List Value → World
  | [] => w
  | v :: r => putW (w.setCell ⟨g, i, none⟩ v) g (i + 1) r
theorem own_put {base e s g n c : Nat} (vs : List Value) : ∀ {w : World} {xs : List Value} (i : Nat), w.ownsRow base e s (.slice (some ⟨g, 0, none⟩) n c) n xs → (putW w g i vs).ownsRow base e s (.slice (some ⟨g, 0, none⟩) n c) n (putL xs i vs) := by
  induction vs with
  | nil => intro w xs i h; exact h
  | cons v r ih => intro w xs i h; exact ih (i + 1) (h.stored i v).1
theorem put_grown {g : Nat} (vs : List Value) : ∀ {a w : World} (i : Nat), a.grownBy w (some g) → a.grownBy (putW w g i vs) (some g) := by
  induction vs with
  | nil => intro a w i h; exact h
  | cons v r ih => intro a w i h; exact ih (i + 1) (grown_set h i v)
theorem put_below {B g : Nat} (vs : List Value) : ∀ {a w : World} (i : Nat), Below B a w → B ≤ g → Below B a (putW w g i vs) := by
  induction vs with
  | nil => intro a w i h _; exact h
  | cons v r ih => intro a w i h hg; exact ih (i + 1) (h.setCell hg v) hg
theorem put_size {g : Nat} (vs : List Value) : ∀ {w : World} (i : Nat), (putW w g i vs).heap.size = w.heap.size := by
  induction vs with
  | nil => intro w i; rfl
  | cons v r ih => intro w i; exact (ih (i + 1)).trans (size_set _ _ _)
theorem put_chg {lo hi g : Nat} (vs : List Value) : ∀ {a w : World} (i : Nat), Chg lo hi a w → lo ≤ g → g < hi → Chg lo hi a (putW w g i vs) := by
  induction vs with
  | nil => intro a w i h _ _; exact h
  | cons v r ih =>
    intro a w i h h1 h2
    refine ih (i + 1) ?_ h1 h2
    exact h.trans (Chg.of_grown (grown_set (World.grownBy.refl w (some g)) i v) (fun k e => by injection e with e; omega))

/-- What is read of an element. -/
theorem Rd.flat {α : Type} {f : α → List Value} {s : Nat} (hf : ∀ x, (f x).length = s) (hs : 0 < s) {w : World} {A : Option Addr} {n k : Nat} {xs : List α} (h : Rd w s A n (xs.flatMap f)) (hk : k < n) :
    ∃ b o x, A = some ⟨b, o, none⟩ ∧ xs[k]? = some x ∧ xs.drop k = x :: xs.drop (k + 1) ∧ ∀ j u, (f x)[j]? = some u → w.cell? ⟨b, o + (k * s + j), none⟩ = some u := by
  obtain ⟨b, o, e, hc⟩ := h.pos (by omega)
  have hl := h.len
  rw [flat_len hf] at hl
  have hl := Nat.eq_of_mul_eq_mul_right hs hl
  obtain ⟨x, h1, h2⟩ := drop_cons (xs := xs) (k := k) (by omega)
  refine ⟨b, o, x, e, h1, h2, fun j u hu => hc _ _ ?_⟩
  rw [flat_get hf h1 (by have := (List.getElem?_eq_some_iff.1 hu).1; rw [hf] at this; exact this)]
  exact hu
theorem Rd.len_flat {α : Type} {f : α → List Value} {s : Nat} (hf : ∀ x, (f x).length = s) (hs : 0 < s) {w : World} {A : Option Addr} {n : Nat} {xs : List α} (h : Rd w s A n (xs.flatMap f)) : xs.length = n := by
  have hl := h.len
  rw [flat_len hf] at hl
  exact Nat.eq_of_mul_eq_mul_right hs hl
theorem own_len_flat {α : Type} {f : α → List Value} {s : Nat} (hf : ∀ x, (f x).length = s) (hs : 0 < s) {w : World} {base e n : Nat} {v : Value} {xs : List α} (h : w.ownsRow base e s v n (xs.flatMap f)) : xs.length = n := by
  have hl := h.1
  rw [flat_len hf] at hl
  exact Nat.eq_of_mul_eq_mul_right hs hl
/-- What an own row of structs gives at an index. -/
theorem own_flat {α : Type} {f : α → List Value} {s : Nat} (hf : ∀ x, (f x).length = s) (hs : 0 < s) {w : World} {base e n c k : Nat} {A : Option Addr} {xs : List α} (h : w.ownsRow base e s (.slice A n c) n (xs.flatMap f)) (hk : k < n) :
    ∃ g x, A = some ⟨g, 0, none⟩ ∧ base ≤ g ∧ g < w.heap.size ∧ xs[k]? = some x ∧ xs.drop k = x :: xs.drop (k + 1) ∧ (∀ j u, (f x)[j]? = some u → w.cell? ⟨g, k * s + j, none⟩ = some u) ∧ (∀ j, w.frozen? ⟨g, j, none⟩ = false) := by
  have hl := own_len_flat hf hs h
  rcases h.2 with ⟨hv, hn⟩ | ⟨g, cap, cur, hv, hb, hg, hnc, hcm, hcs, htake⟩
  · omega
  · injection hv with hA _ hc
    subst hA hc
    obtain ⟨x, h1, h2⟩ := drop_cons (xs := xs) (k := k) (by omega)
    refine ⟨g, x, rfl, hb, (Array.getElem?_eq_some_iff.1 hg).1, h1, h2, fun j u hu => ?_, fun j => h.frozenAt j⟩
    have hj : j < s := by have := (List.getElem?_eq_some_iff.1 hu).1; rw [hf] at this; exact this
    have hlt : k * s + j < n * s := by
      have := Nat.mul_le_mul_right s (show k + 1 ≤ n by omega)
      rw [Nat.add_mul] at this; omega
    rw [h.cellAt _ hlt, flat_get hf h1 hj, hu]
/-- A new row of zeros. -/
theorem made_zero (z : Array Value) (v : Value) (m : Nat) (hz : 0 < z.size) (h : ∀ i, i < z.size → z[i]! = v) : (madeCells z m).toList = List.replicate m v := by
  unfold madeCells
  refine List.ext_getElem? (fun i => ?_)
  by_cases hi : i < m
  · simp [hi, h _ (Nat.mod_lt i hz)]
  · simp [hi]
theorem own_madeS (w : World) (base e n s : Nat) (z : Array Value) (v : Value) (hz : 0 < z.size) (h : ∀ i, i < z.size → z[i]! = v) (hb : base ≤ w.heap.size) (hm : n ≤ 9223372036854775807) :
    (w.alloc (.cells (madeCells z (n * s)) e)).ownsRow base e s (.slice (some ⟨w.heap.size, 0, none⟩) n n) n (List.replicate (n * s) v) := by
  have := World.ownsRow_lit (base := base) (e := e) (size := s) w (madeCells z (n * s)) n hb (by unfold maxLen; omega) (by simp [size_madeCells])
  rwa [made_zero z v (n * s) hz h] at this

theorem cell_top (w : World) (cs : Array Value) (t : TypeId) {b j : Nat} {v : Value} (hb : b = w.heap.size) (hv : cs[j]? = some v) : (w.alloc (.cells cs t)).cell? ⟨b, j, none⟩ = some v := by
  subst hb
  have h : (w.alloc (.cells cs t)).heap[w.heap.size]? = some (.cells cs t) := by show (w.heap.push _)[w.heap.size]? = _; simp
  simp only [World.cell?, h]
  simpa using hv
theorem cell_under (w : World) (o : Obj) {b j : Nat} {v : Value} (hb : b < w.heap.size) (h : w.cell? ⟨b, j, none⟩ = some v) : (w.alloc o).cell? ⟨b, j, none⟩ = some v :=
  (((Below.refl _ w).alloc (Nat.le_refl _) o).cell (p := ⟨b, j, none⟩) hb).trans h
theorem fz_top (w : World) (cs : Array Value) (t : TypeId) {b j : Nat} (hb : b = w.heap.size) : (w.alloc (.cells cs t)).frozen? ⟨b, j, none⟩ = false := by
  subst hb
  have h : (w.alloc (.cells cs t)).heap[w.heap.size]? = some (.cells cs t) := by show (w.heap.push _)[w.heap.size]? = _; simp
  unfold World.frozen?
  simp only [h]
  simp
theorem fz_under (w : World) (o : Obj) {b j : Nat} (hb : b < w.heap.size) (h : w.frozen? ⟨b, j, none⟩ = false) : (w.alloc o).frozen? ⟨b, j, none⟩ = false :=
  (((Below.refl _ w).alloc (Nat.le_refl _) o).frozen (p := ⟨b, j, none⟩) hb).trans h
theorem chg_cell {lo hi : Nat} {W W' : World} (h : Chg lo hi W W') {b i : Nat} {v : Value} (hb : b < lo ∨ hi ≤ b) (hc : W.cell? ⟨b, i, none⟩ = some v) : W'.cell? ⟨b, i, none⟩ = some v := by
  have hlt : b < W.heap.size := by
    rcases Nat.lt_or_ge b W.heap.size with h | h
    · exact h
    · exfalso
      unfold World.cell? at hc
      rw [Array.getElem?_eq_none h] at hc
      cases hc
  rw [← hc]
  exact World.cell?_of_block (h.block b hlt (by omega))
theorem zero2 (v : Value) (i : Nat) (h : i < (#[v, v] : Array Value).size) : (#[v, v] : Array Value)[i]! = v := by
  have : i = 0 ∨ i = 1 := by simp at h; omega
  rcases this with rfl | rfl <;> rfl
/-! ### Winds -/
def windC (p : Int × Int) : List Value := [.int .i64 p.1, .int .i64 p.2]
theorem windC_len (p : Int × Int) : (windC p).length = 2 := rfl
def winds (xs : List (Int × Int)) : List Value := xs.flatMap windC
theorem Rd.wind {w : World} {A : Option Addr} {n k : Nat} {xs : List (Int × Int)} (h : Rd w 2 A n (winds xs)) (hk : k < n) :
    ∃ b o x y, A = some ⟨b, o, none⟩ ∧ xs[k]? = some (x, y) ∧ xs.drop k = (x, y) :: xs.drop (k + 1) ∧ w.cell? ⟨b, o + k * 2, none⟩ = some (.int .i64 x) ∧ w.cell? ⟨b, o + k * 2 + 1, none⟩ = some (.int .i64 y) := by
  obtain ⟨b, o, ⟨x, y⟩, e, h1, h2, h3⟩ := Rd.flat windC_len (by decide) h hk
  exact ⟨b, o, x, y, e, h1, h2, h3 0 _ rfl, h3 1 _ rfl⟩
theorem Rd.len_wind {w : World} {A : Option Addr} {n : Nat} {xs : List (Int × Int)} (h : Rd w 2 A n (winds xs)) : xs.length = n := Rd.len_flat windC_len (by decide) h
theorem own_wind_at {w : World} {base e n c k : Nat} {A : Option Addr} {xs : List (Int × Int)} (h : w.ownsRow base e 2 (.slice A n c) n (winds xs)) (hk : k < n) :
    ∃ g x y, A = some ⟨g, 0, none⟩ ∧ base ≤ g ∧ g < w.heap.size ∧ xs[k]? = some (x, y) ∧ xs.drop k = (x, y) :: xs.drop (k + 1) ∧ w.cell? ⟨g, k * 2, none⟩ = some (.int .i64 x) ∧ w.cell? ⟨g, k * 2 + 1, none⟩ = some (.int .i64 y) ∧
      w.frozen? ⟨g, k * 2, none⟩ = false ∧ w.frozen? ⟨g, k * 2 + 1, none⟩ = false := by
  obtain ⟨g, ⟨x, y⟩, e, h1, h2, h3, h4, h5, h6⟩ := own_flat windC_len (by decide) h hk
  exact ⟨g, x, y, e, h1, h2, h3, h4, h5 0 _ rfl, h5 1 _ rfl, h6 _, h6 _⟩
theorem own_wind_set {w : World} {base e g n c k : Nat} {xs : List (Int × Int)} (h : w.ownsRow base e 2 (.slice (some ⟨g, 0, none⟩) n c) n (winds xs)) (hk : k < n) (x y : Int) :
    ((w.setCell ⟨g, k * 2, none⟩ (.int .i64 x)).setCell ⟨g, k * 2 + 1, none⟩ (.int .i64 y)).ownsRow base e 2 (.slice (some ⟨g, 0, none⟩) n c) n (winds (xs.set k (x, y))) := by
  have h1 := own_put (windC (x, y)) (k * 2) h
  unfold winds at h1
  rw [flat_put windC_len xs k (x, y) (by rw [own_len_flat windC_len (by decide) h]; exact hk)] at h1
  exact h1
end Go.Proofs.YtnpldahkhaacnaaGreatDoor

/- General lemmas: a struct variable's box. No Go function in sight. -/
namespace Go.Proofs.YtnpldahkhaacnaaGreatDoor
open Go.RowKit
set_option linter.unusedVariables false

def Box (w : World) (b : Nat) (vs : Array Value) (t : TypeId) : Prop := w.heap[b]? = some (.cells vs t (0, 0))
section
variable {w w' : World} {b c i : Nat} {vs : Array Value} {t : TypeId} {v x y z x0 x1 x2 x3 x4 x5 x6 : Value}
theorem Box.new (w : World) (vs : Array Value) (t : TypeId) : Box (w.alloc (.cells vs t)) w.heap.size vs t := by
  show (w.heap.push (.cells vs t))[w.heap.size]? = _
  simp
theorem Box.lt (h : Box w b vs t) : b < w.heap.size := (Array.getElem?_eq_some_iff.1 h).1
theorem Box.below (h : Box w b vs t) (k : Below w.heap.size w w') : Box w' b vs t := (k.block b h.lt).trans h
theorem Box.kept {B : Nat} (h : Box w b vs t) (k : Below B w w') (hb : b < B) : Box w' b vs t := (k.block b hb).trans h
theorem Box.chg {lo hi : Nat} (h : Box w b vs t) (k : Chg lo hi w w') (hb : b < lo ∨ hi ≤ b) : Box w' b vs t := (k.block b h.lt hb).trans h
theorem Box.other (h : Box w b vs t) (hb : b ≠ c) (v : Value) : Box (w.setCell ⟨c, i, none⟩ v) b vs t := by
  unfold Box at h ⊢
  rw [← h]; exact Below.heap_setCell _ _ _ _ (by simpa using hb)
theorem Box.grown {row : Option Nat} (h : Box w b vs t) (hg : w.grownBy w' row) (hr : row ≠ some b) : Box w' b vs t :=
  (hg.block b h.lt (fun e => hr e.symm)).trans h
theorem Box.cell (h : Box w b vs t) (hv : vs[i]? = some v) : w.cell? ⟨b, i, none⟩ = some v := by
  unfold Box at h
  simp [World.cell?, h, hv]
theorem Box.fz (h : Box w b vs t) : w.frozen? ⟨b, i, none⟩ = false := by
  unfold Box at h
  simp [World.frozen?, h]
theorem Box.set (h : Box w b vs t) (i : Nat) (v : Value) : Box (w.setCell ⟨b, i, none⟩ v) b (vs.setIfInBounds i v) t := by
  unfold Box at h ⊢
  simp [World.setCell, Array.getElem?_modify, h]
theorem Box.c1 (h : Box w b #[x] t) : w.cell? ⟨b, 0, none⟩ = some x := h.cell rfl
theorem Box.f3 (h : Box w b #[x, y, z] t) : w.cell? ⟨b, 0, none⟩ = some x ∧ w.cell? ⟨b, 1, none⟩ = some y ∧ w.cell? ⟨b, 2, none⟩ = some z ∧ w.frozen? ⟨b, 0, none⟩ = false ∧ w.frozen? ⟨b, 1, none⟩ = false ∧ w.frozen? ⟨b, 2, none⟩ = false ∧ b < w.heap.size :=
  ⟨h.cell rfl, h.cell rfl, h.cell rfl, h.fz, h.fz, h.fz, h.lt⟩
theorem Box.f4 (h : Box w b #[x0, x1, x2, x3] t) : w.cell? ⟨b, 0, none⟩ = some x0 ∧ w.cell? ⟨b, 1, none⟩ = some x1 ∧ w.cell? ⟨b, 2, none⟩ = some x2 ∧ w.cell? ⟨b, 3, none⟩ = some x3 ∧ w.frozen? ⟨b, 0, none⟩ = false ∧ w.frozen? ⟨b, 1, none⟩ = false ∧ w.frozen? ⟨b, 2, none⟩ = false ∧ w.frozen? ⟨b, 3, none⟩ = false ∧ b < w.heap.size :=
  ⟨h.cell rfl, h.cell rfl, h.cell rfl, h.cell rfl, h.fz, h.fz, h.fz, h.fz, h.lt⟩
theorem Box.f7 (h : Box w b #[x0, x1, x2, x3, x4, x5, x6] t) : w.cell? ⟨b, 0, none⟩ = some x0 ∧ w.cell? ⟨b, 1, none⟩ = some x1 ∧ w.cell? ⟨b, 2, none⟩ = some x2 ∧ w.cell? ⟨b, 3, none⟩ = some x3 ∧ w.cell? ⟨b, 4, none⟩ = some x4 ∧ w.cell? ⟨b, 5, none⟩ = some x5 ∧ w.cell? ⟨b, 6, none⟩ = some x6 ∧ b < w.heap.size :=
  ⟨h.cell rfl, h.cell rfl, h.cell rfl, h.cell rfl, h.cell rfl, h.cell rfl, h.cell rfl, h.lt⟩
end
theorem one_box (w : World) (vs : Array Value) (t : TypeId) : ∃ w1, w1 = w.alloc (.cells vs t) ∧ Box w1 w.heap.size vs t ∧ Below w.heap.size w w1 ∧ w1.heap.size = w.heap.size + 1 :=
  ⟨_, rfl, Box.new _ _ _, (Below.refl _ _).alloc (Nat.le_refl _) _, by simp⟩
theorem two_boxes (w : World) (vs us : Array Value) (t u : TypeId) : ∃ w1, w1 = (w.alloc (.cells vs t)).alloc (.cells us u) ∧ Box w1 w.heap.size vs t ∧ Box w1 (w.heap.size + 1) us u ∧ Below w.heap.size w w1 ∧ w1.heap.size = w.heap.size + 1 + 1 := by
  obtain ⟨w1, h1, h2, h3, h4⟩ := one_box w vs t
  obtain ⟨w2, k1, k2, k3, k4⟩ := one_box w1 us u
  rw [h4] at k2
  exact ⟨w2, by rw [k1, h1], h2.below k3, k2, h3.trans (k3.mono h3.size), by rw [k4, h4]⟩
theorem three_boxes (w : World) (vs us xs : Array Value) (t u x : TypeId) : ∃ w1, w1 = ((w.alloc (.cells vs t)).alloc (.cells us u)).alloc (.cells xs x) ∧ Box w1 w.heap.size vs t ∧ Box w1 (w.heap.size + 1) us u ∧ Box w1 (w.heap.size + 1 + 1) xs x ∧ Below w.heap.size w w1 ∧ w1.heap.size = w.heap.size + 1 + 1 + 1 := by
  obtain ⟨w1, h1, h2, h2', h3, h4⟩ := two_boxes w vs us t u
  obtain ⟨w2, k1, k2, k3, k4⟩ := one_box w1 xs x
  rw [h4] at k2
  exact ⟨w2, by rw [k1, h1], h2.below k3, h2'.below k3, k2, h3.trans (k3.mono h3.size), by rw [k4, h4]⟩
end Go.Proofs.YtnpldahkhaacnaaGreatDoor

/- An entry: copied by the laws' helper; read out of the input. -/
namespace Go.Proofs.YtnpldahkhaacnaaGreatDoor
open Go.RowKit Go.ChangeShapes Go.WideShapes
set_option linter.unusedVariables false
set_option maxRecDepth 100000

theorem array7 {α : Type} {cs : Array α} (h : cs.size = 7) : ∃ c0 c1 c2 c3 c4 c5 c6, cs = #[c0, c1, c2, c3, c4, c5, c6] := by
  obtain ⟨l⟩ := cs
  match l, h with
  | [c0, c1, c2, c3, c4, c5, c6], _ => exact ⟨c0, c1, c2, c3, c4, c5, c6, rfl⟩
end Go.Proofs.YtnpldahkhaacnaaGreatDoor

/- Walks: words of a text, both sides. -/
namespace Go.Proofs.YtnpldahkhaacnaaGreatDoor
open Go.RowKit Go.Sort
set_option linter.unusedVariables false
set_option maxRecDepth 100000

theorem own_emptyS (w : World) (base e s : Nat) (hb : base ≤ w.heap.size) : (w.alloc (.cells #[] e)).ownsRow base e s (.slice (some ⟨w.heap.size, 0, none⟩) 0 0) 0 [] := by
  have := World.ownsRow_lit (base := base) (e := e) (size := s) w #[] 0 hb (by unfold maxLen; omega) (by simp)
  simpa using this
/-- Strings as cells. -/
def strs (ws : List (List UInt8)) : List Value := ws.map fun w => Value.string (str w)
theorem strs_len (ws : List (List UInt8)) : (strs ws).length = ws.length := by simp [strs]
theorem strs_get {ws : List (List UInt8)} {k : Nat} {x : List UInt8} (h : ws[k]? = some x) : (strs ws)[k]? = some (.string (str x)) := by simp [strs, h]
theorem strs_app (xs ys : List (List UInt8)) : strs (xs ++ ys) = strs xs ++ strs ys := by simp [strs]
theorem extract_str (s : ByteArray) (a b : Nat) (hb : b ≤ s.size) : s.extract a b = str ((s.data.toList.drop a).take (b - a)) := by
  apply ByteArray.ext
  apply Array.ext'
  have h := Lib.extract_data s a b
  rw [h]
  simp [str]
theorem str_data (s : ByteArray) : str s.data.toList = s := by
  apply ByteArray.ext
  simp [str]
/-- Result: new memory that holds the words of a text. -/
def RetWs (w : World) (ws : List (List UInt8)) (e : Ending) (w' : World) : Prop :=
  ∃ A n c, e = .returned (.slice A n c) ∧ Rd w' 1 A n (strs ws) ∧ Below w.heap.size w w'
/-- The same, and the row's room. -/
def RetWsC (w : World) (ws : List (List UInt8)) (e : Ending) (w' : World) : Prop :=
  ∃ A n c, e = .returned (.slice A n c) ∧ Rd w' 1 A n (strs ws) ∧ Below w.heap.size w w' ∧ n ≤ c
theorem own_capW {w : World} {base e s n c : Nat} {A : Option Addr} {xs : List Value} (h : w.ownsRow base e s (.slice A n c) n xs) : n ≤ c := by
  rcases h.2 with ⟨hv, hn⟩ | ⟨g, cap, cur, hv, hb, hg, hnc, _⟩
  · omega
  · injection hv with _ _ hc; omega
/-- The library's variable MaxLen holds some number. -/
def MaxL (w : World) : Prop := ∃ m, w.cell? ⟨1, 0, none⟩ = some (.int .i64 m)
theorem MaxL.below {w w' : World} (h : MaxL w) (hb : Below w.heap.size w w') : MaxL w' := by
  obtain ⟨m, hm⟩ := h
  exact ⟨m, (hb.cell (cell_lt hm)).trans hm⟩
theorem wordsOfC_any (s : ByteArray) (hs : s.size ≤ 2097152) (w : World) (hm : MaxL w) :
    Calls Tryz.prog 38 #[.string s] w (RetWsC w (wordsL s.data.toList)) := by
  obtain ⟨m, hm⟩ := hm
  have H := Tryz.strings_Split s ⟨#[32]⟩ m w (by omega) hm (by decide)
  have hw := split_words s
  have hc : Lib.countB s ⟨#[32]⟩ + 1 = (wordsL s.data.toList).length := by
    rw [wordsL_len]
    unfold Lib.countB
    rw [← Lib.count_one 32]
  have hv : (Lib.splitB ⟨#[32]⟩ 0 (Lib.countB s ⟨#[32]⟩) s).map Value.string = strs (wordsL s.data.toList) := by
    rw [← hw]
    unfold strs
    rw [List.map_map]
    refine List.map_congr_left fun x _ => ?_
    show Value.string x = Value.string (str x.data.toList)
    rw [str_data]
  rw [hv, hc] at H
  have hl : (wordsL s.data.toList).length ≤ 9223372036854775807 := by
    have h1 := wordsL_len s.data.toList
    have h2 : s.data.toList.count 32 ≤ s.data.toList.length := List.count_le_length
    have h3 := (Lib.size_eq s).symm
    omega
  generalize wordsL s.data.toList = ws at *
  have HH := Lib.hid H
  have HL := Lib.hid hl
  clear H hm hv hc hw hl
  go_enter Tryz.func38, Tryz.ntmps38
  go_wp2_with fail
  refine HH.out.mono ?_
  rintro e w' ⟨rfl, rfl⟩
  go_wp2_with fail
  go_ret
  refine ⟨_, _, _, rfl, ⟨by rw [strs_len]; omega, HL.out, fun h0 => ⟨_, _, rfl, fun i u hu => ?_⟩⟩, (Below.refl _ _).alloc (Nat.le_refl _) _, Nat.le_refl _⟩
  rw [Nat.zero_add]
  exact (Box.new w (strs ws).toArray 9).cell (by simpa using hu)
theorem wordsOf_any (s : ByteArray) (hs : s.size ≤ 2097152) (w : World) (hm : MaxL w) :
    Calls Tryz.prog 38 #[.string s] w (RetWs w (wordsL s.data.toList)) := by
  refine (wordsOfC_any s hs w hm).mono ?_
  rintro e w1 ⟨A, n, c, he, hr, hb, _⟩
  exact ⟨A, n, c, he, hr, hb⟩
theorem Tryz.info_str : (Tryz.prog.info? 9).map (fun i => (i.zero, i.size, i.bytes)) = some (some (.string ByteArray.empty), 1, 16) := by kernel_rfl
theorem app_str {ops : Array Oper} {rest : List Oper} {o : Oper} {a : Act} {Q : Exit → Act → World → Prop} (w : World) (hgd : o.guard = none) (s x : Operand)
    (ho : o.op = .call { callee := .builtin .append, args := #[s, x], argTypes := #[35, 35] }) {base n c : Nat} {A : Option Addr} {xs : List (List UInt8)} {y : ByteArray} {l : List UInt8} (hy : y = str l)
    (hs : a.eval s = .slice A n c) (hown : w.ownsRow base 9 1 (.slice A n c) n (strs xs)) {b : Nat} (hx : a.eval x = .slice (some ⟨b, 0, none⟩) 1 1)
    (hc : w.heap[b]? = some (.cells #[.string y] 9 (0, 0))) (hn : n ≤ 1099511627776) (hbase : base ≤ w.heap.size)
    (h : ∀ g c' w', w'.ownsRow base 9 1 (.slice (some ⟨g, 0, none⟩) (n + 1) c') (n + 1) (strs (xs ++ [l])) → w.grownBy w' (Value.slice A n c).ownBlock → ((Value.slice A n c).ownBlock = some g ∨ g = w.heap.size) → g < w'.heap.size → wpList Tryz.prog ops Q rest (a.put o.dst (.slice (some ⟨g, 0, none⟩) (n + 1) c')) w') :
    wpList Tryz.prog ops Q (o :: rest) a w := by
  subst hy
  obtain ⟨i, hi, hz, hs1, hb1⟩ := info_parts Tryz.info_str
  have e : strs xs ++ [.string (str l)] = strs (xs ++ [l]) := by rw [strs_app]; rfl
  exact wpList_append_lies w hgd s x 35 ho base 9 i (.string ByteArray.empty) 1 16 Tryz.underlying35 hi hz hs1 hb1 rfl (by decide) (.slice A n c) n (strs xs) hs hown ⟨b, 0, none⟩ 1 1 [.string (str l)] hx rfl (World.news_of_block (cs := #[.string (str l)]) hc)
    (by intro u hu; simp at hu; subst hu; rfl) (by decide) (by unfold maxLen; omega) (by omega) hbase _ rfl (by rw [e]; exact h)
theorem ahead_blank (p : List UInt8) (r : List UInt8) : ahead p (wordsL (32 :: r)) = p :: wordsL r := by rw [wordsL_blank]; simp [ahead]
theorem ahead_char (p : List UInt8) {c : UInt8} (h : c ≠ 32) (r : List UInt8) : ahead p (wordsL (c :: r)) = ahead (p ++ [c]) (wordsL r) := by
  rw [wordsL_char h, ahead_ahead _ _ (wordsL_ne r)]
end Go.Proofs.YtnpldahkhaacnaaGreatDoor

/- Walks: a number within bounds. -/
namespace Go.Proofs.YtnpldahkhaacnaaGreatDoor
open Go.RowKit
set_option linter.unusedVariables false

theorem within_any (n a b : Int) (w : World) :
    Calls Tryz.prog 30 #[.int .i64 n, .int .i64 a, .int .i64 b] w fun e w' => e = .returned (.bool (withinB n a b)) ∧ w = w' := by
  have e1 : withinB n a b = (decide (a ≤ n) && decide (n ≤ b)) := rfl
  have E := Lib.hid e1; clear e1
  by_cases h : a ≤ n
  · go_enter Tryz.func30, Tryz.ntmps30
    go_wp2
    go_ret
    exact ⟨by rw [E.out]; simp [h], rfl⟩
  · go_enter Tryz.func30, Tryz.ntmps30
    go_wp2
    go_ret
    exact ⟨by rw [E.out]; simp; omega, rfl⟩

theorem l01In_any (n a b : Int) (w : World) :
    Calls Tryz.prog 34 #[.int .i64 n, .int .i64 a, .int .i64 b] w fun e w' => e = .returned (.bool (withinB n a b)) ∧ w = w' := by
  have e1 : withinB n a b = (decide (a ≤ n) && decide (n ≤ b)) := rfl
  have E := Lib.hid e1; clear e1
  by_cases h : a ≤ n
  · go_enter Tryz.func34, Tryz.ntmps34
    go_wp2
    go_ret
    exact ⟨by rw [E.out]; simp [h], rfl⟩
  · go_enter Tryz.func34, Tryz.ntmps34
    go_wp2
    go_ret
    exact ⟨by rw [E.out]; simp; omega, rfl⟩

end Go.Proofs.YtnpldahkhaacnaaGreatDoor

/- Walks: numbers and times as texts. -/
namespace Go.Proofs.YtnpldahkhaacnaaGreatDoor
open Go.RowKit Go.Sort
set_option linter.unusedVariables false
set_option maxRecDepth 100000

/-- The library's table of powers of ten lies in w. -/
def Pow (w : World) : Prop := Lib.TabIs Tryz.prog w "internal/strconv.uint64pow10" .u64 Lib.pow10Tab
theorem text_any (n : Nat) (hn : n ≤ 1000000000000) (w : World) (ht : Pow w) :
    Calls Tryz.prog 32 #[.int .i64 n] w fun e w' => e = .returned (.string (str (dec n))) ∧ Below w.heap.size w w' := by
  have H := Tryz.strconv_FormatInt_10 (n : Int) (by omega) (by omega) w ht
  rw [Lib.itoa_nonneg] at H
  have HH := Lib.hid H
  clear H ht
  go_enter Tryz.func32, Tryz.ntmps32
  go_wp2_with fail
  refine HH.out.mono ?_
  rintro e w' ⟨rfl, k, os, rfl⟩
  go_wp2_with fail
  go_ret
  exact ⟨rfl, Lib.below_grow _ _ (Nat.le_refl _) _ _⟩
theorem repeatL_one (k : Nat) : Lib.repeatL [48] k = List.replicate k 48 := by
  induction k with
  | zero => rfl
  | succ k ih => simp only [Lib.repeatL] at ih ⊢; first | (rw [List.replicate_succ]; simp [ih]) | simp_all [List.replicate_succ]
theorem digits_any (n k : Nat) (hn : n ≤ 1000000000000) (hk : k ≤ 10) (w : World) (ht : ∀ w', Below w.heap.size w w' → Pow w') :
    Calls Tryz.prog 92 #[.int .i64 n, .int .i64 k] w fun e w' => e = .returned (.string (str (pad k n))) ∧ Below w.heap.size w w' := by
  have HT := Lib.hid (text_any n hn w (ht w (Below.refl _ _)))
  have hl := dec_len 12 n (by omega)
  obtain ⟨L, hL⟩ : ∃ L, L = dec n := ⟨_, rfl⟩
  have HP := Lib.hid (show str (List.replicate (k - L.length) 48) ++ str L = str (pad k n) from by rw [str_add, hL]; rfl)
  rw [← hL] at HT hl
  clear hL ht
  have hsz : (str L).size = L.length := str_size L
  have HS := Lib.hid hsz
  have hr1 : (str (List.replicate (k - L.length) 48)).size ≤ 10 := by rw [str_size]; simp; omega
  have HR := Lib.hid (fun w' => Tryz.strings_Repeat ⟨#[48]⟩ (k - L.length) w' (by omega) (by simp [ByteArray.size]; omega))
  have HRL := Lib.hid (show (⟨(Lib.repeatL (ByteArray.mk #[48]).data.toList (k - L.length)).toArray⟩ : ByteArray) = str (List.replicate (k - L.length) 48) from by unfold str; rw [show (ByteArray.mk #[48]).data.toList = [48] from rfl, repeatL_one])
  have hmx : max 0 ((k : Int) - (L.length : Int)) = ((k - L.length : Nat) : Int) := by omega
  have HM := Lib.hid hmx
  clear hsz hmx
  go_enter Tryz.func92, Tryz.ntmps92
  go_wp2_with fail
  refine HT.out.mono ?_
  rintro e w1 ⟨rfl, hb⟩
  have HB1 := Lib.hid hb
  clear hb HT
  go_wp2_with fail
  rw [show max 0 (wrap64 ((k : Int) - ((str L).size : Int))) = ((k - L.length : Nat) : Int) from by rw [HS.out]; unfold wrap64; omega]
  refine (HR.out _).mono ?_
  rintro e w2 ⟨rfl, hb⟩
  rw [HRL.out]
  have HB2 := Lib.hid (HB1.out.trans (hb.mono HB1.out.size))
  have hs2 : (str L).size ≤ 20 := by rw [HS.out]; omega
  clear hb HR
  go_wp2_with fail
  rw [HP.out]
  go_ret
  exact ⟨rfl, HB2.out⟩
end Go.Proofs.YtnpldahkhaacnaaGreatDoor

/- Walks: numbers out of words (the program's side). -/
namespace Go.Proofs.YtnpldahkhaacnaaGreatDoor
open Go.RowKit Go.Sort
set_option linter.unusedVariables false
set_option maxRecDepth 100000

/-- The library's error variables hold errors. -/
def ErrV (w : World) : Prop := (∃ te pe, w.cell? ⟨2, 0, none⟩ = some (.iface te pe)) ∧ ∃ te pe, w.cell? ⟨3, 0, none⟩ = some (.iface te pe)
theorem ErrV.below {w w' : World} (h : ErrV w) (hb : Below w.heap.size w w') : ErrV w' := by
  obtain ⟨⟨a, b, h1⟩, c, d, h2⟩ := h
  exact ⟨⟨a, b, (hb.cell (cell_lt h1)).trans h1⟩, c, d, (hb.cell (cell_lt h2)).trans h2⟩
/-- What the library's variables hold. -/
structure Libs (w : World) : Prop where
  pow : Pow w
  err : ErrV w
  max : MaxL w
theorem textI_any (v : Int) (h0 : -9223372036854775808 ≤ v) (h1 : v ≤ 9223372036854775807) (w : World) (ht : Pow w) :
    Calls Tryz.prog 32 #[.int .i64 v] w fun e w' => e = .returned (.string (str (Lib.itoa v))) ∧ Below w.heap.size w w' := by
  have HH := Lib.hid (Tryz.strconv_FormatInt_10 v h0 h1 w ht)
  clear ht
  go_enter Tryz.func32, Tryz.ntmps32
  go_wp2_with fail
  refine HH.out.mono ?_
  rintro e w' ⟨rfl, k, os, rfl⟩
  go_wp2_with fail
  go_ret
  exact ⟨rfl, Lib.below_grow _ _ (Nat.le_refl _) _ _⟩
theorem bytes_below (w w' : World) (t : TypeId) (h : w' = w ∨ ∃ s, w' = Lib.bytesWorld w t s) : Below w.heap.size w w' := by
  rcases h with rfl | ⟨s, rfl⟩
  · exact Below.refl _ _
  · exact Lib.bytesWorld_below _ _ _
/-- Two texts that differ, as the walk asks. -/
theorem ne_list {a b : ByteArray} (h : a ≠ b) : (a.toList == b.toList) = false := by
  rw [beq_eq_false_iff_ne, ByteArray.toList_eq, ByteArray.toList_eq]
  intro e
  exact h (WideShapes.bytes_inj e)
set_option maxHeartbeats 2000000 in
theorem number_any' (s : ByteArray) (hs : s.size ≤ 2097152) (w : World) (hp : Pow w) (he : ErrV w) (hpb : ∀ w', Below w.heap.size w w' → Pow w') :
    Calls Tryz.prog 97 #[.string s] w fun e w' => e = .returned (.tuple #[.int .i64 (numF s.data.toList).1, .bool (numF s.data.toList).2]) ∧ Below w.heap.size w w' := by
  obtain ⟨⟨te, pe, hE1⟩, te2, pe2, hE2⟩ := he
  have hlen := (Lib.size_eq s).symm
  rcases hq : Lib.parseIntB 64 s.data.toList with v | _ | _
  · have hbd := Lib.parseIntB_bounds hq
    have hb1 : -9223372036854775808 ≤ v := by have := hbd.1; simpa using this
    have hb2 : v ≤ 9223372036854775807 := by have := hbd.2; simp at this; omega
    have HC := Lib.hid (Any.strconv_ParseInt_10_at64_ok Tryz.laysC174 s (by omega) v hq w)
    have HT := Lib.hid (fun w' hb => textI_any v hb1 hb2 w' (hpb w' hb))
    by_cases hl : s.size ≤ 19
    · have hlb : decide ((19 : Int) < (s.size : Int)) = false := by simp; omega
      by_cases hi : Lib.itoa v = s.data.toList
      · have hst : str (Lib.itoa v) = s := by rw [hi, str_data]
        rw [hst] at HT
        have hn : numF s.data.toList = (v, true) := by
          unfold numF
          rw [hq]
          simp only
          rw [if_pos ⟨by omega, hi⟩]
        rw [hn]
        clear hbd hb1 hb2 hq hE1 hE2 hpb hp hlen hst hi hn
        go_enter Tryz.func97, Tryz.ntmps97
        go_wp2_with fail
        refine HC.out.mono ?_
        rintro e w1 ⟨rfl, hw⟩
        have HB1 := Lib.hid (bytes_below _ _ _ hw)
        clear hw
        go_wp2_with fail
        refine (HT.out _ HB1.out).mono ?_
        rintro e w2 ⟨rfl, hb⟩
        have HB2 := Lib.hid (HB1.out.trans (hb.mono HB1.out.size))
        clear hb
        go_wp2_with fail
        go_ret2
        exact ⟨rfl, HB2.out⟩
      · have hst : str (Lib.itoa v) ≠ s := fun e => hi (by rw [← e, str_list])
        have hn : numF s.data.toList = (0, false) := by
          unfold numF
          rw [hq]
          simp only
          rw [if_neg (fun h => hi h.2)]
        rw [hn]
        have HST := Lib.hid hst
        clear hbd hb1 hb2 hq hE1 hE2 hpb hp hlen hst hi hn
        go_enter Tryz.func97, Tryz.ntmps97
        go_wp2_with fail
        refine HC.out.mono ?_
        rintro e w1 ⟨rfl, hw⟩
        have HB1 := Lib.hid (bytes_below _ _ _ hw)
        clear hw
        go_wp2_with fail
        refine (HT.out _ HB1.out).mono ?_
        rintro e w2 ⟨rfl, hb⟩
        have HB2 := Lib.hid (HB1.out.trans (hb.mono HB1.out.size))
        have hne := ne_list HST.out
        generalize str (Lib.itoa v) = Z at *
        clear hb
        go_wp2_with fail
        go_ret2
        exact ⟨rfl, HB2.out⟩
    · have hlb : decide ((19 : Int) < (s.size : Int)) = true := by simp; omega
      have hn : numF s.data.toList = (0, false) := by
        unfold numF
        rw [hq]
        simp only
        rw [if_neg (fun h => hl (by omega))]
      rw [hn]
      clear hbd hb1 hb2 hq hE1 hE2 hpb hp hlen hn HT
      go_enter Tryz.func97, Tryz.ntmps97
      go_wp2_with fail
      refine HC.out.mono ?_
      rintro e w1 ⟨rfl, hw⟩
      have HB1 := Lib.hid (bytes_below _ _ _ hw)
      clear hw
      go_wp2_with fail
      go_ret2
      exact ⟨rfl, HB1.out⟩
  · have hn : numF s.data.toList = (0, false) := by unfold numF; rw [hq]
    rw [hn]
    have HC := Lib.hid (Any.strconv_ParseInt_10_at64_syntax Tryz.laysC174 s (by omega) hq _ w hE1 (.inr ⟨te, pe, rfl⟩))
    clear hq hE1 hE2 hpb hp hlen hn
    go_enter Tryz.func97, Tryz.ntmps97
    go_wp2_with fail
    refine HC.out.mono ?_
    rintro e w1 ⟨N, rfl, _, _, hb⟩
    have HB1 := Lib.hid hb
    clear hb
    go_wp2_with fail
    go_ret2
    exact ⟨rfl, HB1.out⟩
  · have hn : numF s.data.toList = (0, false) := by unfold numF; rw [hq]
    rw [hn]
    have HC := Lib.hid (Any.strconv_ParseInt_10_at64_range Tryz.laysC174 s (by omega) hq _ w hE2 (.inr ⟨te2, pe2, rfl⟩))
    clear hq hE1 hE2 hpb hp hlen hn
    generalize Lib.intSat 64 s.data.toList = sat at *
    go_enter Tryz.func97, Tryz.ntmps97
    go_wp2_with fail
    refine HC.out.mono ?_
    rintro e w1 ⟨N, rfl, _, _, hb⟩
    have HB1 := Lib.hid hb
    clear hb
    go_wp2_with fail
    go_ret2
    exact ⟨rfl, HB1.out⟩
end Go.Proofs.YtnpldahkhaacnaaGreatDoor

/- A region that draws its order, reads cells, and writes them at its end: the reads are taken first, a condition S holds till the writes begin. No Go function in sight. -/
namespace Go.Proofs.YtnpldahkhaacnaaGreatDoor
open Go.RowKit
set_option linter.unusedVariables false

section
variable {P : Program} {ops : Array Oper} {Q : Exit → Act → World → Prop} {md : Region.Mode} {S : World → Prop} {late : Nat → Bool}

/-- Number j waits for number i, directly or through others. -/
def reachB (md : Region.Mode) (ops : Array Oper) : Nat → Nat → Nat → Bool
  | 0, _, _ => false
  | f + 1, j, i => Region.waitsFor md ops j i || (List.range j).any fun p => Region.waitsFor md ops j p && reachB md ops f p i
/-- What has come up came up behind what it waits for. -/
def Closed (md : Region.Mode) (ops : Array Oper) (listed : Array Bool) : Prop :=
  ∀ j oj, ops[j]? = some oj → listed.getD j false = true → ∀ e ∈ oj.after, Region.binds md e = true → listed.getD e.on false = true
def closedB (md : Region.Mode) (ops : Array Oper) (listed : Array Bool) : Bool :=
  (List.range ops.size).all fun j => !listed.getD j false || ((ops[j]?).map (·.after.all fun e => !Region.binds md e || listed.getD e.on false)).getD true
theorem closed_of {listed : Array Bool} (h : closedB md ops listed = true) : Closed md ops listed := by
  intro j oj hj hl e he hb
  unfold closedB at h
  rw [List.all_eq_true] at h
  have hjl : j < ops.size := (Array.getElem?_eq_some_iff.1 hj).1
  have h1 := h j (List.mem_range.2 hjl)
  rw [hl, hj] at h1
  simp only [Bool.not_true, Bool.false_or, Option.map_some, Option.getD_some] at h1
  have h2 := (Array.all_eq_true'.1 h1) e he
  rw [hb] at h2
  simpa using h2
theorem Closed.set {listed : Array Bool} {i : Nat} (h : Closed md ops listed) (hi : i ∈ Region.ready md ops listed) : Closed md ops (listed.setIfInBounds i true) := by
  intro j oj hj hl e he hb
  obtain ⟨hun, oi, hoi, hall⟩ := mem_ready.1 hi
  have up : ∀ k, listed.getD k false = true → (listed.setIfInBounds i true).getD k false = true := by
    intro k hk
    by_cases hik : i = k
    · subst hik
      have := getD_both hun
      rw [this] at hk; cases hk
    · rw [getD_set_ne false hik]; exact hk
  by_cases hij : i = j
  · subst hij
    obtain rfl : oi = oj := Option.some.inj (hoi.symm.trans hj)
    exact up _ (hall e he hb)
  · rw [getD_set_ne false hij] at hl
    exact up _ (h j oj hj hl e he hb)
theorem reach_unlisted {listed : Array Bool} (hc : Closed md ops listed) : ∀ (f j i : Nat), reachB md ops f j i = true → listed.getD i true = false → listed.getD j false = false ∧ j ∉ Region.ready md ops listed := by
  intro f
  induction f with
  | zero => intro j i h; cases h
  | succ f ih =>
    intro j i h hi
    unfold reachB at h
    have key : ∀ p, Region.waitsFor md ops j p = true → listed.getD p false = false → listed.getD j false = false ∧ j ∉ Region.ready md ops listed := by
      intro p hw hp
      obtain ⟨oj, hoj, e, he, hb, hon⟩ := Region.waitsFor_spec hw
      refine ⟨?_, fun hr => ?_⟩
      · cases hl : listed.getD j false with
        | false => rfl
        | true =>
          have := hc j oj hoj hl e he hb
          rw [hon, hp] at this; cases this
      · obtain ⟨_, oj', hoj', hall⟩ := mem_ready.1 hr
        obtain rfl : oj = oj' := Option.some.inj (hoj.symm.trans hoj')
        have := hall e he hb
        rw [hon, hp] at this; cases this
    rw [Bool.or_eq_true] at h
    rcases h with h | h
    · exact key i h (getD_both hi)
    · obtain ⟨p, _, hp⟩ := List.any_eq_true.1 h
      rw [Bool.and_eq_true] at hp
      exact key p hp.1 (ih p i hp.2 hi).1

/-- Whatever order is picked from here on; behind each operation that is not late, S holds. -/
def wpAnyT (P : Program) (md : Region.Mode) (ops : Array Oper) (Q : Exit → Act → World → Prop) (S : World → Prop) (late : Nat → Bool) : Nat → Array Bool → Act → World → Prop
  | 0, listed, a, w => Region.ready md ops listed = [] ∧ Q .normal a w
  | fuel + 1, listed, a, w =>
    (Region.ready md ops listed = [] → Q .normal a w) ∧
    ∀ i ∈ Region.ready md ops listed, wpOp P ops Q i (fun a' w' => (late i = true ∨ S w') ∧ wpAnyT P md ops Q S late fuel (listed.setIfInBounds i true) a' w') a w
theorem wpAny_of_T : ∀ (fuel : Nat) (listed : Array Bool) (a : Act) (w : World), wpAnyT P md ops Q S late fuel listed a w → wpAny P md ops Q fuel listed a w
  | 0, _, _, _, h => h
  | fuel + 1, _, _, _, h => ⟨h.1, fun i hi => wpOp_mono (fun a' w' h' => wpAny_of_T fuel _ a' w' h'.2) (h.2 i hi)⟩
theorem wpAnyT_first {i : Nat} {oi : Oper} {v : Value} (hi : ops[i]? = some oi) (hsel : ∀ (j : Nat) (o : Oper) cs b, ops[j]? = some o → o.op ≠ .select cs b)
    (hQ : ∀ c a w, Q (.panic c) (a.put oi.dst v) w → Q (.panic c) a w) (hlate : ∀ j oj, ops[j]? = some oj → late j = true → reachB md ops ops.size j i = true) :
    ∀ (fuel : Nat) (listed : Array Bool) (a : Act) (w : World), Closed md ops listed →
      (∀ j oj, ops[j]? = some oj → j ≠ i → listed.getD j true = false → (∀ e ∈ oj.after, Region.binds md e = true → e.on ≠ i) → oi.apart ops oj = true) →
      i ∈ Region.ready md ops listed → YieldsIf P ops S oi v a → S w →
      wpAnyT P md ops Q S late fuel (listed.setIfInBounds i true) (a.put oi.dst v) w → wpAnyT P md ops Q S late (fuel + 1) listed a w := by
  intro fuel
  induction fuel with
  | zero =>
    intro listed a w hc _ hr hy hS H
    refine ⟨fun h => (by rw [h] at hr; cases hr), fun j hj => ?_⟩
    by_cases hji : j = i
    · subst hji; exact hy.wpOp hi hS ⟨.inr hS, H⟩
    · have := ready_mono hj hji
      rw [H.1] at this
      cases this
  | succ fuel ih =>
    intro listed a w hc hfree hr hy hS H
    refine ⟨fun h => (by rw [h] at hr; cases hr), fun j hj => ?_⟩
    by_cases hji : j = i
    · subst hji; exact hy.wpOp hi hS ⟨.inr hS, H⟩
    · have h1 := H.2 j (ready_mono hj hji)
      have hun := (mem_ready.1 hr).1
      obtain ⟨hjun, oj, hoj, hall⟩ := mem_ready.1 hj
      have hnl : late j = false := by
        cases hl : late j with
        | false => rfl
        | true => exact absurd hj (reach_unlisted hc _ j i (hlate j oj hoj hl) hun).2
      have hnot : ∀ e ∈ oj.after, Region.binds md e = true → e.on ≠ i := fun e he hb heq => by
        have h1 := hall e he hb
        rw [heq, getD_both hun] at h1
        cases h1
      have h2 := wpOp_putIf hoj (hfree j oj hoj hji hjun hnot) (fun cs b => hsel i oi cs b hi) (fun cs b => hsel j oj cs b hoj) hQ hy h1
      have hfree' : ∀ k ok, ops[k]? = some ok → k ≠ i → (listed.setIfInBounds j true).getD k true = false →
          (∀ e ∈ ok.after, Region.binds md e = true → e.on ≠ i) → oi.apart ops ok = true := fun k ok hk hki hun hno => by
        refine hfree k ok hk hki ?_ hno
        by_cases hjk : j = k
        · subst hjk; exact hjun
        · rw [getD_set_ne true hjk] at hun; exact hun
      refine wpOp_mono (fun a' w' h3 => ?_) h2
      have hSw : S w' := by
        rcases h3.2.1 with h | h
        · rw [hnl] at h; cases h
        · exact h
      refine ⟨.inr hSw, ih (listed.setIfInBounds j true) a' w' (hc.set hj) hfree' (ready_mono hr (Ne.symm hji)) h3.1 hSw ?_⟩
      rw [Array.setIfInBounds_comm _ _ hji]
      exact h3.2.2
def lateB (md : Region.Mode) (ops : Array Oper) (late : Nat → Bool) (i : Nat) : Bool := (List.range ops.size).all fun j => !late j || reachB md ops ops.size j i
theorem lateB_spec {i : Nat} (h : lateB md ops late i = true) : ∀ j oj, ops[j]? = some oj → late j = true → reachB md ops ops.size j i = true := by
  intro j oj hj hl
  unfold lateB at h
  rw [List.all_eq_true] at h
  have := h j (List.mem_range.2 (Array.getElem?_eq_some_iff.1 hj).1)
  rw [hl] at this
  simpa using this
/-- Number i reads or reckons: it is taken first. -/
theorem wpAnyT_take (i : Nat) {oi : Oper} (v : Value) {fuel : Nat} {listed : Array Bool} {a : Act} {w : World} (hi : ops[i]? = some oi)
    (hB : (Region.noSelect ops && Region.free md ops listed i && (Region.ready md ops listed).contains i && lateB md ops late i && closedB md ops listed) = true)
    (hQ : ∀ c a w, Q (.panic c) (a.put oi.dst v) w → Q (.panic c) a w) (hg : oi.guard = none) (hy : ∀ w, S w → (execOp a.eval oi).run P w = .ok (.value v) w) (hS : S w)
    (h : wpAnyT P md ops Q S late fuel (listed.setIfInBounds i true) (a.put oi.dst v) w) : wpAnyT P md ops Q S late (fuel + 1) listed a w := by
  simp only [Bool.and_eq_true] at hB
  obtain ⟨⟨⟨⟨hs, hf⟩, hr⟩, hl⟩, hc⟩ := hB
  exact wpAnyT_first hi (Region.noSelect_spec hs) hQ (lateB_spec hl) fuel listed a w (closed_of hc) (Region.free_spec hi hf) (by simpa using hr) (.inl ⟨by simp [Region.wanted, hg], hy⟩) hS h
/-- Number i alone may come up. -/
theorem wpAnyT_one (i : Nat) {oi : Oper} {fuel : Nat} {listed : Array Bool} {a : Act} {w : World} (hi : ops[i]? = some oi) (hr : Region.ready md ops listed = [i])
    (h : ∀ K' : Act → World → Prop, (∀ a w, (late i = true ∨ S w) → wpAnyT P md ops Q S late fuel (listed.setIfInBounds i true) a w → K' a w) → if Region.wanted oi (yielded ops a.tmps) = true then Oper.wp P oi a w K' Q else K' (a.put oi.dst undef) w) :
    wpAnyT P md ops Q S late (fuel + 1) listed a w := by
  refine ⟨fun h0 => (by rw [hr] at h0; cases h0), fun j hj => ?_⟩
  rw [hr] at hj
  obtain rfl : j = i := by simpa using hj
  exact wpOp_step hi (fun K' hK => h K' (fun a w hs hW => hK a w ⟨hs, hW⟩))
/-- Two numbers may come up. -/
theorem wpAnyT_two (i j : Nat) {oi oj : Oper} {fuel : Nat} {listed : Array Bool} {a : Act} {w : World} (hi : ops[i]? = some oi) (hj : ops[j]? = some oj) (hr : Region.ready md ops listed = [i, j])
    (h1 : ∀ K' : Act → World → Prop, (∀ a w, (late i = true ∨ S w) → wpAnyT P md ops Q S late fuel (listed.setIfInBounds i true) a w → K' a w) → if Region.wanted oi (yielded ops a.tmps) = true then Oper.wp P oi a w K' Q else K' (a.put oi.dst undef) w)
    (h2 : ∀ K' : Act → World → Prop, (∀ a w, (late j = true ∨ S w) → wpAnyT P md ops Q S late fuel (listed.setIfInBounds j true) a w → K' a w) → if Region.wanted oj (yielded ops a.tmps) = true then Oper.wp P oj a w K' Q else K' (a.put oj.dst undef) w) :
    wpAnyT P md ops Q S late (fuel + 1) listed a w := by
  refine ⟨fun h0 => (by rw [hr] at h0; cases h0), fun k hk => ?_⟩
  rw [hr] at hk
  rcases List.mem_cons.1 hk with rfl | hk
  · exact wpOp_step hi (fun K' hK => h1 K' (fun a w hs hW => hK a w ⟨hs, hW⟩))
  · obtain rfl : k = j := by simpa using hk
    exact wpOp_step hj (fun K' hK => h2 K' (fun a w hs hW => hK a w ⟨hs, hW⟩))
theorem wpAnyT_done {listed : Array Bool} {a : Act} {w : World} (hr : Region.ready md ops listed = []) (h : Q .normal a w) : ∀ fuel, wpAnyT P md ops Q S late fuel listed a w
  | 0 => ⟨hr, h⟩
  | _ + 1 => ⟨fun _ => h, by rw [hr]; simp⟩
theorem wp_region_T (S : World → Prop) (late : Nat → Bool) {id : Nat} {a : Act} {w : World} (hm : P.follows .mixedOrders = true)
    (h : wpAnyT P .any ops Q S late ops.size (Array.replicate ops.size false) a w.drew) : (Code.region id ops true).wp P Q a w :=
  wp_region_any hm (wpAny_of_T _ _ _ _ h)
theorem wp_region_T2 (S : World → Prop) (late : Nat → Bool) {n : Nat} {id : Nat} {a : Act} {w : World} (hm : P.follows .mixedOrders = true) (hn : ops.size = n)
    (h : ∀ ops', Hid (ops' = ops) → wpAnyT P .any ops' Q S late n (Array.replicate n false) a w.drew) : (Code.region id ops true).wp P Q a w := by
  subst hn
  exact wp_region_T S late hm (h ops (Lib.hid rfl))
end
end Go.Proofs.YtnpldahkhaacnaaGreatDoor

/- Bytes as cells. -/
namespace Go.Proofs.YtnpldahkhaacnaaGreatDoor
open Go.RowKit
set_option linter.unusedVariables false

def u8s (xs : List Int) : List Value := xs.map (Value.int .u8)
theorem u8s_length (xs : List Int) : (u8s xs).length = xs.length := by simp [u8s]
theorem u8s_get {xs : List Int} {k : Nat} {x : Int} (h : xs[k]? = some x) : (u8s xs)[k]? = some (.int .u8 x) := by simp [u8s, h]
end Go.Proofs.YtnpldahkhaacnaaGreatDoor

/- Walks: words of a text, the reference's first splitter. -/
namespace Go.Proofs.YtnpldahkhaacnaaGreatDoor
open Go.RowKit Go.Sort
set_option linter.unusedVariables false
set_option maxRecDepth 100000

set_option maxHeartbeats 4000000 in
theorem split01_any (s : ByteArray) (hs : s.size ≤ 2097152) (w : World) :
    Calls Tryz.prog 73 #[.string s, .int .u8 32] w (RetWsC w (wordsL s.data.toList)) := by
  have hsz := (Lib.size_eq s).symm
  obtain ⟨L, hL⟩ : ∃ L, L = s.data.toList := ⟨_, rfl⟩
  rw [← hL] at hsz ⊢
  obtain ⟨W, hW⟩ : ∃ W, W = wordsL L := ⟨_, rfl⟩
  rw [← hW]
  have HL := Lib.hid hL
  have HSZ := Lib.hid hsz
  have HW0 := Lib.hid (show [] ++ ahead ((L.drop 0).take (0 - 0)) (wordsL (L.drop 0)) = W from by simp [hW, ahead_nil (wordsL_ne L)])
  have HEX := Lib.hid (fun a b hb => extract_str s a b hb)
  rw [← hL] at HEX
  clear hL hsz hW
  go_enter Tryz.func73, Tryz.ntmps73
  go_wp2_with fail
  have HO0 := Lib.hid (show (w.alloc (.cells #[] 9)).ownsRow w.heap.size 9 1 (.slice (some ⟨w.heap.size, 0, none⟩) 0 0) 0 (strs []) from own_emptyS w w.heap.size 9 1 (Nat.le_refl _))
  have HB0 := Lib.hid ((Below.refl w.heap.size w).alloc (Nat.le_refl _) (.cells #[] 9))
  go_loopw [5, 6, 7] (fun o f i wr => ∃ (k fr m c : Nat) (A : Option Addr) (out : List (List UInt8)), k ≤ s.size + 1 ∧ m ≤ k ∧ o = .slice A m c ∧ f = .int .i64 fr ∧ i = .int .i64 k ∧ Hid ((k ≤ s.size ∧ fr ≤ k ∧ out ++ ahead ((L.drop fr).take (k - fr)) (wordsL (L.drop k)) = W) ∨ (k = s.size + 1 ∧ out = W)) ∧ Hid (wr.ownsRow w.heap.size 9 1 (.slice A m c) m (strs out)) ∧ Hid (Below w.heap.size w wr)) (fun _ _ i _ => s.size + 1 - (intOf i).toNat)
  case atStart => exact ⟨0, 0, 0, 0, _, [], Nat.zero_le _, Nat.zero_le _, rfl, rfl, rfl, Lib.hid (.inl ⟨Nat.zero_le _, Nat.le_refl _, HW0.out⟩), HO0, HB0⟩
  case round =>
    clear HO0 HB0 HW0
    obtain ⟨k, fr, m, c, A, out, hk, hmk, rfl, rfl, rfl, HI, HO, HB⟩ := hrel
    obtain ⟨wo, hwo⟩ : ∃ wo : World, wo = wr := ⟨_, rfl⟩
    subst hwo
    by_cases hlt : k ≤ s.size
    · have hkd : decide ((k : Int) ≤ (s.size : Int)) = true := by simp; omega
      have hi := HI.out
      have hi2 : fr ≤ k ∧ out ++ ahead ((L.drop fr).take (k - fr)) (wordsL (L.drop k)) = W := by rcases hi with h | h; exact h.2; exact absurd h.1 (by omega)
      obtain ⟨hfr, hinv⟩ := hi2
      have HEK := Lib.hid (HEX.out fr k hlt)
      have hbs := HB.out.size
      by_cases hend : k = s.size
      · have heq : ((k : Int) == (s.size : Int)) = true := by simp [hend]
        have HR := Lib.hid (show out ++ [(L.drop fr).take (k - fr)] = W from by
          have hdn : L.drop k = [] := List.drop_eq_nil_of_le (by have := HSZ.out; omega)
          rw [← hinv, hdn]
          simp [wordsL, ahead])
        have HEND := Lib.hid hend
        clear hi hinv HI hend
        go_wp2_with (at_builtin; refine app_str (l := (L.drop fr).take (k - fr)) _ rfl _ _ rfl HEK.out rfl (own_below HO.out ((Below.refl _ _).alloc (Nat.le_refl _) _)) rfl (heap_alloc_new _ _) (by omega) ?cBa ?_; rotate_left; intro g9 c9 w9 hown9 hgr9 _ _)
        · have HB9 := Lib.hid ((HB.out.alloc hbs _).grown hgr9 (by simp; omega) (fun j hj => (HO.out.lt j hj).1))
          have HO9 := Lib.hid hown9
          clear hown9 hgr9
          go_roundw
          case rel => exact ⟨k + 1, k + 1, m + 1, c9, _, _, by omega, by omega, rfl, by go_num, by go_num, Lib.hid (.inr ⟨by have := HEND.out; omega, HR.out⟩), HO9, HB9⟩
          case measure => simp [intOf] <;> omega
        · first | omega | (simp; omega)
      · have heq : ((k : Int) == (s.size : Int)) = false := by simp; omega
        have hks : k < s.size := by omega
        have hkL : k < L.length := by have := HSZ.out; omega
        have hd := List.drop_eq_getElem_cons hkL
        have hgs : s[k] = L[k] := by
          have h1 := HL.out
          subst h1
          rfl
        have HGS := Lib.hid hgs
        by_cases h32 : L[k] = 32
        · have hc : (((s[k]).toNat : Int) == 32) = true := by rw [hgs, h32]; rfl
          have HR := Lib.hid (show out ++ [(L.drop fr).take (k - fr)] ++ ahead ((L.drop (k + 1)).take (k + 1 - (k + 1))) (wordsL (L.drop (k + 1))) = W from by
            rw [← hinv, hd, h32, ahead_blank, Nat.sub_self, List.take_zero, ahead_nil (wordsL_ne _)]
            simp)
          clear hi hinv HI hd hgs h32 hend
          go_wp2_with (at_builtin; refine app_str (l := (L.drop fr).take (k - fr)) _ rfl _ _ rfl HEK.out rfl (own_below HO.out ((Below.refl _ _).alloc (Nat.le_refl _) _)) rfl (heap_alloc_new _ _) (by omega) ?cBb ?_; rotate_left; intro g9 c9 w9 hown9 hgr9 _ _)
          · have HB9 := Lib.hid ((HB.out.alloc hbs _).grown hgr9 (by simp; omega) (fun j hj => (HO.out.lt j hj).1))
            have HO9 := Lib.hid hown9
            clear hown9 hgr9
            go_roundw
            case rel => exact ⟨k + 1, k + 1, m + 1, c9, _, _, by omega, by omega, rfl, by go_num, by go_num, Lib.hid (.inl ⟨by omega, Nat.le_refl _, HR.out⟩), HO9, HB9⟩
            case measure => simp [intOf] <;> omega
          · first | omega | (simp; omega)
        · have hc : (((s[k]).toNat : Int) == 32) = false := by
            rw [hgs]
            simp only [beq_eq_false_iff_ne]
            intro e
            apply h32
            apply UInt8.toNat_inj.1
            show (L[k]).toNat = 32
            omega
          have HR := Lib.hid (show out ++ ahead ((L.drop fr).take (k + 1 - fr)) (wordsL (L.drop (k + 1))) = W from by
            rw [← hinv, hd, ahead_char _ h32]
            congr 3
            rw [show k + 1 - fr = (k - fr) + 1 from by omega, List.take_add_one]
            congr 1
            rw [List.getElem?_drop, show fr + (k - fr) = k from by omega, List.getElem?_eq_getElem hkL]
            rfl)
          clear hi hinv HI hd hgs h32 hend
          go_wp2_with fail
          go_roundw
          case rel => exact ⟨k + 1, fr, m, c, A, out, by omega, by omega, rfl, rfl, by go_num, Lib.hid (.inl ⟨by omega, by omega, HR.out⟩), HO, HB⟩
          case measure => simp [intOf] <;> omega
    · have hkd : decide ((k : Int) ≤ (s.size : Int)) = false := by simp; omega
      have hw : out = W := by rcases HI.out with h | h; omega; exact h.2
      have HWW := Lib.hid hw
      clear HI hw
      go_wp2_with fail
      go_ret
      exact ⟨_, _, _, rfl, by rw [← HWW.out]; exact own_rd HO.out, HB.out, own_capW HO.out⟩
end Go.Proofs.YtnpldahkhaacnaaGreatDoor

/- Walks: a row of numbers. -/
namespace Go.Proofs.YtnpldahkhaacnaaGreatDoor
open Go.RowKit
set_option linter.unusedVariables false

theorem areRow_any (A : Option Addr) (n c : Nat) (xs : List Int) (many most : Int) (w : World) (h : Rd w 1 A n (ints xs)) :
    Calls Tryz.prog 312 #[.slice A n c, .int .i64 many, .int .i64 most] w fun e w' => e = .returned (.bool (rowB xs many most)) ∧ w = w' := by
  have HN := Lib.hid h.len_int
  have hm := h.le
  go_enter Tryz.func312, Tryz.ntmps312
  go_wp2
  go_loop [8, 11] (fun _ i => ∃ k : Nat, k ≤ n ∧ i = .int .i64 k ∧ (xs.drop k).all (fun x => withinB x 0 most) = xs.all (fun x => withinB x 0 most)) (fun _ i => n - (intOf i).toNat)
  case atStart => exact ⟨0, Nat.zero_le _, rfl, rfl⟩
  case round =>
    obtain ⟨k, hk, rfl, hall⟩ := hrel
    have HA := Lib.hid hall; clear hall
    by_cases hlt : k < n
    · obtain ⟨b, o, x, rfl, hx, hd, hc⟩ := h.int hlt
      have HX := Lib.hid hx; clear hx
      have HD := Lib.hid hd; clear hd
      go_wp2_with (go_at_call 30; refine (within_any _ _ _ _).mono ?_; rintro e w' ⟨rfl, rfl⟩)
      · have hw : (!withinB x 0 most) = true := by assumption
        go_ret
        exact ⟨ret_bool (by unfold rowB; rw [← HA.out, HD.out]; simp at hw; simp [hw]), rfl⟩
      · have hw : (!withinB x 0 most) = false := by assumption
        go_round
        case rel => exact ⟨k + 1, by omega, by go_num, by rw [← HA.out, HD.out]; simp at hw; simp [hw]⟩
        case measure => simp [intOf]; omega
    · obtain rfl : k = n := by omega
      go_wp2
      go_ret
      exact ⟨ret_bool (by unfold rowB; rw [← HA.out, List.drop_eq_nil_of_le (by rw [HN.out]; omega), HN.out]; simp), rfl⟩


end Go.Proofs.YtnpldahkhaacnaaGreatDoor
